/- The calls of the reference's Minimal: its rows are those that came in. -/
import Derived.Test.YtjkfjnempofihaaQPhQD
import Derived.Test.YtjkfjnempofihaaQPhWRepsOne
import Derived.Test.YtjkfjnempofihaaQPhE10
import Derived.BigQuiet
import Derived.Deep.QuietTactic
namespace Go.Proofs.Ytjkfjnempofihaa.Fi
open Go.RowKit Go.Shelf Go.Lib Go.Proofs.YtjkfjnempofihaaW.PrintWords Go.Proofs.YtjkfjnempofihaaW.PrintLast Go.Proofs.YtjkfjnempofihaaW.PrintMore
set_option linter.unusedVariables false
set_option linter.unusedSimpArgs false
/-- A row's header: where, how long, with what room. -/
abbrev Hdr := Option Addr × Nat × Nat
def hv (h : Hdr) : Value := .slice h.1 h.2.1 h.2.2
/-- Elements that are headers: nothing is said of their rows. -/
def kH : Kd Hdr where
  sz := 1
  E := []
  K := fun _ x cs => cs = [hv x]
  M := fun _ _ _ x cs => cs = [hv x]
  K_len := fun h => by rw [h]; rfl
  K_one := fun {_ x cs} h u hu => by
    rw [h] at hu
    rw [List.mem_singleton.1 hu]
    rfl
  K_below := fun _ h => h
  K_of_M := fun h => h
  M_mono := fun _ h => h
  M_bound := fun h => h
  M_move := fun _ h => h
  M_lower := fun _ h => h
/-- A header's row reads as numbers. -/
def HR (w : World) (h : Hdr) (l : List Int) : Prop := h.2.1 = l.length ∧ l.length ≤ h.2.2 ∧ Kd.C (Kd.int .i64) w h.1 l.length l
theorem HR.below {w w1 : World} {h : Hdr} {l : List Int} (hh : HR w h l) (hb : Below w.heap.size w w1) : HR w1 h l := ⟨hh.1, hh.2.1, Kd.C_below hh.2.2 hb⟩
theorem HR.drewN {w : World} {h : Hdr} {l : List Int} (hh : HR w h l) (m : Nat) : HR (w.drewN m) h l := ⟨hh.1, hh.2.1, Kd.C_drewN hh.2.2 m⟩
/-- The headers of rows that came in. -/
theorem rows_in {w : World} {A : Option Addr} {gens : List (List Int)} (h : Kd.C kL w A gens.length gens) : ∃ H : Nat → Hdr, ∀ i, i < gens.length → ∃ ad, A = some ad ∧ w.cell? (ad.add i) = some (hv (H i)) ∧ HR w (H i) gens[i]! := by
  have key : ∀ i : Nat, ∃ hd : Hdr, i < gens.length → ∃ ad, A = some ad ∧ w.cell? (ad.add i) = some (hv hd) ∧ HR w hd gens[i]! := fun i => by
    by_cases hi : i < gens.length
    · obtain ⟨ad, A0, c0, rfl, hc, hl, hr⟩ := at_L1 h (i : Int) (by omega) (by omega)
      rw [Int.toNat_natCast] at hc
      rw [rd_L1_get _ _ hi] at hc hl hr
      exact ⟨(A0, gens[i].length, c0), fun _ => ⟨ad, rfl, hc, by rw [getElem!_pos gens i hi]; exact ⟨rfl, hl, hr⟩⟩⟩
    · exact ⟨(none, 0, 0), fun h => absurd h hi⟩
  exact Classical.skolem.1 key
/-- A row of headers whose rows read as numbers is a list of lists. -/
theorem rows_out {w : World} {A : Option Addr} {hs : List Hdr} {xs : List (List Int)} (h : Kd.C kH w A hs.length hs) (hl : hs.length = xs.length) (hr : ∀ i, i < xs.length → HR w (hs.getD i (none, 0, 0)) xs[i]!) : Kd.C kL w A xs.length xs := by
  refine ⟨rfl, by rw [← hl]; exact h.2.1, fun hn => ?_⟩
  obtain ⟨ad, e, hc⟩ := h.2.2 (by omega)
  refine ⟨ad, e, fun j p hj => ?_⟩
  obtain ⟨hjl, hjp⟩ := List.getElem?_eq_some_iff.1 hj
  obtain ⟨c, c1, c2, c3⟩ := hc j (hs.getD j (none, 0, 0)) (by rw [List.getD_eq_getElem?_getD, List.getElem?_eq_getElem (by omega)]; rfl)
  have h2 := hr j hjl
  rw [getElem!_pos xs j hjl, hjp] at h2
  refine ⟨c, c1, ⟨(hs.getD j (none, 0, 0)).1, (hs.getD j (none, 0, 0)).2.2, ?_, h2.2.1, h2.2.2⟩, c3⟩
  have c2' : c = [hv (hs.getD j (none, 0, 0))] := c2
  rw [c2']
  unfold hv
  rw [h2.1]
theorem quiet_of_drawn {f : FuncId} {args : Array Value} {w : World} {n : Nat} {v : Value} (h : Calls Try.prog f args (w.drewN n) fun e w' => e = .returned v ∧ Drawn0 (w.drewN n) w') : Calls Try.prog f args (w.drewN n) fun e w'' => e = .returned v ∧ ∃ m, w'' = w.drewN m := by
  refine h.mono ?_
  rintro e w' ⟨he, ⟨nd, rfl⟩⟩
  exact ⟨he, n + nd, by simp⟩
theorem quiet_of_drawn2 {f : FuncId} {args : Array Value} {w : World} {m n : Nat} {v : Value} (h : Calls Try.prog f args (w.drewN (m + n)) fun e w' => e = .returned v ∧ Drawn0 (w.drewN (m + n)) w') : Calls Try.prog f args (w.drewN (m + n)) fun e w'' => e = .returned v ∧ ∃ k, w'' = w.drewN (m + k) := by
  refine h.mono ?_
  rintro e w' ⟨he, ⟨nd, rfl⟩⟩
  exact ⟨he, n + nd, by simp [Nat.add_assoc]⟩
/-- Whether a generator is minimal, by the first k others. -/
def condI (gens : List (List Int)) (i k : Nat) : Bool := decide (k ≠ i) && divL gens[k]! gens[i]! && (!decide (gens[k]! = gens[i]!) || decide (k < i))
def okI (gens : List (List Int)) (i : Nat) : Nat → Bool
  | 0 => true
  | k + 1 => okI gens i k && !condI gens i k
def posI (gens : List (List Int)) (o : List Nat) (i : Nat) : Nat := (o.takeWhile fun q => lexLt gens[q]! gens[i]!).length
/-- The minimal ones of the first i, in their order. -/
def oT (gens : List (List Int)) : Nat → List Nat
  | 0 => []
  | i + 1 => if okI gens i gens.length = true then (oT gens i).take (posI gens (oT gens i) i) ++ [i] ++ (oT gens i).drop (posI gens (oT gens i) i) else oT gens i
/-- The reference's Minimal. -/
def minL (gens : List (List Int)) : List (List Int) := (oT gens gens.length).map fun q => gens[q]!
theorem oT_lt (gens : List (List Int)) : ∀ i, (∀ q ∈ oT gens i, q < i) ∧ (oT gens i).length ≤ i
  | 0 => ⟨fun q hq => by simp [oT] at hq, Nat.le_refl _⟩
  | i + 1 => by
    have ih := oT_lt gens i
    rw [oT]
    split
    · refine ⟨fun q hq => ?_, ?_⟩
      · rw [List.mem_append, List.mem_append, List.mem_singleton] at hq
        rcases hq with (hq | hq) | hq
        · exact Nat.lt_succ_of_lt (ih.1 q (List.mem_of_mem_take hq))
        · omega
        · exact Nat.lt_succ_of_lt (ih.1 q (List.mem_of_mem_drop hq))
      · rw [List.length_append, List.length_append, List.length_take, List.length_drop, List.length_singleton]
        have := ih.2
        omega
    · exact ⟨fun q hq => Nat.lt_succ_of_lt (ih.1 q hq), Nat.le_succ_of_le ih.2⟩
theorem takeWhile_is {α : Type} {f : α → Bool} : ∀ (l : List α) (p : Nat), p ≤ l.length → (∀ q (h : q < l.length), q < p → f l[q] = true) → (∀ h : p < l.length, f l[p] = false) → (l.takeWhile f).length = p
  | [], p, hp, _, _ => by simp at hp; simp [hp]
  | a :: l, 0, _, _, h2 => by
    have := h2 (by simp)
    rw [List.getElem_cons_zero] at this
    rw [List.takeWhile_cons_of_neg (by rw [this]; decide)]
    rfl
  | a :: l, p + 1, hp, h1, h2 => by
    have h0 := h1 0 (by simp) (by omega)
    rw [List.getElem_cons_zero] at h0
    rw [List.takeWhile_cons_of_pos h0, List.length_cons, takeWhile_is l p (by simpa using hp) (fun q hq hqp => by have := h1 (q + 1) (by simpa using hq) (by omega); simpa using this) (fun h => by have := h2 (by simpa using h); simpa using this)]
set_option maxHeartbeats 8000000 in
set_option maxRecDepth 100000 in
theorem rmin_calls (A : Option Addr) (c n : Nat) (gens : List (List Int)) (w : World) (hr : Kd.C kL w A gens.length gens) (hgl : gens.length ≤ 67108864) (hn : n ≤ 100000) (hgn : ∀ l ∈ gens, l.length = n) :
    Calls Try.prog 23 #[.slice A gens.length c] w fun e w' => ∃ v A' c', e = .returned v ∧ v = .slice A' (minL gens).length c' ∧ (minL gens).length ≤ c' ∧ Kd.C kL w' A' (minL gens).length (minL gens) ∧ Below w.heap.size w w' := by
  obtain ⟨H, hH⟩ := rows_in hr
  have HH := Aside0.mk hH
  have HGL := Aside0.mk hgl
  have HN := Aside0.mk hn
  have HB := Aside0.mk (Below.refl w.heap.size w)
  have HGN : Aside0 (∀ i, i < gens.length → gens[i]!.length = n) := ⟨fun i hi => by rw [getElem!_pos gens i hi]; exact hgn _ (List.getElem_mem _)⟩
  have HDIV : Aside0 (∀ i k, i < gens.length → k < gens.length → ∃ K, woggleref04_Divides.f K gens[k]! gens[i]! = some (divL gens[k]! gens[i]!)) := ⟨fun i k hi hk => (div_ev _ _ (by rw [HGN.out k hk]; omega) (by rw [HGN.out k hk, HGN.out i hi]; exact Nat.le_refl _)).rounds⟩
  have HSAM : Aside0 (∀ i k, i < gens.length → k < gens.length → ∃ K, woggleref01_Same.f K gens[k]! gens[i]! = some (decide (gens[k]! = gens[i]!))) := ⟨fun i k hi hk => (same_ev2 _ _ (by rw [HGN.out k hk]; omega) (by rw [HGN.out i hi]; omega)).rounds⟩
  have HBEF : Aside0 (∀ i k, i < gens.length → k < gens.length → ∃ K, woggleref01_Before.f K gens[k]! gens[i]! = some (lexLt gens[k]! gens[i]!)) := ⟨fun i k hi hk => (before_ev _ _ (by rw [HGN.out k hk]; omega)).rounds⟩
  obtain ⟨G, hG⟩ : ∃ G, G = gens.length := ⟨_, rfl⟩
  have HGE := Aside0.mk hG
  rw [← hG] at HH HGL HDIV HSAM HBEF ⊢
  clear hr hgl hn hgn hH hG
  go_enter Try.func23, Try.ntmps23
  go_wp2_with (first | ((with_reducible refine gate_dst (N := 8) rfl ?_); refine Kd.R_lit kH (w0 := w) w.heap.size 25 ?hg (N := 8) ?hd (xs := ([] : List Hdr)) (inner := []) (ok := fun _ => True) (okp := fun _ => True) ?hr ?hp (fun _ hk => hk) trivial (Below.refl _ _) (Nat.le_refl _) (by simp) ?_; (case hd => rfl); (case hg => rfl); (case hr => first | (go_simp; done) | (go_simp; rfl)); (case hp => exact (Reps.none _ _)); intro v1 w1 h1 h2 h3 h4; clear h3 h4; have H1 := Aside0.mk h1; have H2 := Aside0.mk h2; clear h1 h2))
  go_loopg [3, 4, 5, 6, 7] G (fun kq v3 v4 v5 v6 v7 wr => ∃ i : Nat, v4 = .int .i64 (i : Int) ∧ Aside0 (i + kq = G) ∧ Aside0 (Kd.R kH 25 wr w.heap.size (fun _ => True) v3 ((oT gens i).map H)) ∧ Aside0 (Below w.heap.size w wr))
  case atStart => exact ⟨0, rfl, ⟨by omega⟩, H1, H2⟩
  case round =>
    clear H1 H2
    obtain ⟨i, rfl, HI, HO, HB⟩ := hrel
    cases gk with
    | zero =>
      obtain rfl : i = G := by have := HI.out; omega
      have hd : decide ((i : Int) < (i : Int)) = false := by simp
      go_wp2
      go_ret
      obtain ⟨Ao, co, rfl⟩ := Kd.R_slice HO.out
      have hrd := Kd.R_reads' HO.out
      have hln : ((oT gens i).map H).length = (minL gens).length := by unfold minL; rw [HGE.out, List.length_map, List.length_map]
      refine ⟨_, Ao, co, rfl, by rw [← hln]; rfl, by rw [← hln]; exact hrd.2.1, ?_, HB.out⟩
      refine rows_out hrd.2.2 hln (fun j hj => ?_)
      have hj2 : j < (oT gens i).length := by rw [← hln, List.length_map] at hj; exact hj
      have hq := (oT_lt gens i).1 _ (List.getElem_mem hj2)
      obtain ⟨_, _, _, h3⟩ := HH.out _ hq
      have e1 : ((oT gens i).map H).getD j (none, 0, 0) = H (oT gens i)[j] := by rw [List.getD_eq_getElem?_getD, List.getElem?_map, List.getElem?_eq_getElem hj2]; rfl
      have hml : minL gens = (oT gens i).map (fun q => gens[q]!) := by unfold minL; rw [← HGE.out]
      have e2 : (minL gens)[j]! = gens[(oT gens i)[j]]! := by rw [hml, getElem!_pos _ j (by rw [List.length_map]; exact hj2), List.getElem_map]
      rw [e1, e2]
      exact h3.below HB.out
    | succ kq =>
      have hi : i < G := by have := HI.out; omega
      have hq4 : ((i : Int) < (G : Int)) = True := eq_true (by omega)
      have hw1 : wrap64 ((i : Int) + 1) = ((i + 1 : Nat) : Int) := wrapS (by have := HGL.out; omega)
      obtain ⟨ad, rfl, hxc, hxr⟩ := HH.out i hi
      obtain ⟨⟨Ai, ni, ci⟩, hHi⟩ : ∃ h, h = H i := ⟨_, rfl⟩
      rw [← hHi] at hxc hxr
      obtain rfl : ni = gens[i]!.length := hxr.1
      obtain ⟨xi, hxi⟩ : ∃ x, x = gens[i]! := ⟨_, rfl⟩
      rw [← hxi] at hxc hxr
      have HXI := Aside0.mk hxi
      have HHI := Aside0.mk hHi
      have HHX : Aside0 ((Ai, xi.length, ci) = H i) := ⟨by rw [hxi]; exact hHi⟩
      have hx : wr.cell? (ad.add i) = some (.slice Ai xi.length ci) := pw_cell_below HB.out hxc
      have HXC := Aside0.mk hx
      have HXR := Aside0.mk (hxr.below HB.out)
      clear hxc hxr hxi hHi
      go_wp2
      go_loopg [5, 6] G (fun kq2 v5 v6 wr2 => ∃ k m : Nat, v6 = .int .i64 (k : Int) ∧ v5 = .bool (okI gens i k) ∧ Aside0 (k + kq2 = G) ∧ wr2 = wr.drewN m)
      case atStart => exact ⟨0, 0, rfl, rfl, ⟨by omega⟩, rfl⟩
      case round =>
        obtain ⟨k, m, rfl, rfl, HK, rfl⟩ := hrel
        cases gk with
        | zero =>
          obtain rfl : k = G := by have := HK.out; omega
          have hd : decide ((k : Int) < (k : Int)) = false := by simp
          obtain ⟨o, ho⟩ : ∃ o, o = oT gens i := ⟨_, rfl⟩
          have HOLT : Aside0 ((∀ q ∈ o, q < i) ∧ o.length ≤ i) := ⟨by rw [ho]; exact oT_lt gens i⟩
          have HOI : Aside0 (oT gens (i + 1) = if okI gens i gens.length = true then o.take (posI gens o i) ++ [i] ++ o.drop (posI gens o i) else o) := ⟨by rw [ho]; rfl⟩
          rw [← HGE.out] at HOI
          obtain ⟨b, hb⟩ : ∃ b, okI gens i k = b := ⟨_, rfl⟩
          rw [hb] at HOI ⊢
          obtain ⟨L, hL⟩ : ∃ L, L = o.map H := ⟨_, rfl⟩
          rw [← ho, ← hL] at HO
          have HLL : Aside0 (L.length = o.length) := ⟨by rw [hL, List.length_map]⟩
          have HLE := Aside0.mk hL
          have HOE := Aside0.mk ho
          clear hb hL ho
          cases b with
          | false =>
            rw [if_neg (by decide)] at HOI
            go_wp2
            go_roundg kq
            case measure => have := HI.out; omega
            case rel => exact ⟨i + 1, by first | rfl | rw [hw1], ⟨by have := HI.out; omega⟩, ⟨by rw [HOI.out, ← HLE.out]; exact Kd.R_drewN HO.out _⟩, ⟨pw_below_drewN HB.out _⟩⟩
          | true =>
            rw [if_pos rfl] at HOI
            obtain ⟨Ao, co, rfl⟩ := Kd.R_slice HO.out
            have HOC := Aside0.mk (Kd.R_reads' HO.out)
            go_wp2
            clear hd
            go_loopg [7] L.length (fun kq3 v7 wr3 => ∃ p m2 : Nat, v7 = .int .i64 (p : Int) ∧ Aside0 (p + kq3 = L.length) ∧ Aside0 (∀ q (h : q < o.length), q < p → lexLt gens[o[q]]! xi = true) ∧ wr3 = wr.drewN m2)
            case atStart => exact ⟨0, m, rfl, ⟨by omega⟩, ⟨fun q h h2 => absurd h2 (by omega)⟩, rfl⟩
            case round =>
              obtain ⟨p, m2, rfl, HP, HPB, rfl⟩ := hrel
              have HPL : Aside0 (p ≤ L.length) := ⟨by have := HP.out; omega⟩
              by_cases hpl : p < L.length
              · have hpd : ((p : Int) < (L.length : Int)) = True := eq_true (by omega)
                have hpo : p < o.length := by rw [← HLL.out]; exact hpl
                have hq := HOLT.out.1 _ (List.getElem_mem hpo)
                have hw3 : wrap64 ((p : Int) + 1) = ((p + 1 : Nat) : Int) := wrapS (by have := HGL.out; have := HOLT.out.2; have := HLL.out; omega)
                obtain ⟨ado, cc, hA, _, hcc, hcell⟩ := Kd.C_get HOC.out.2.2 (none, 0, 0) (p : Int) (by omega) (by omega)
                subst hA
                rw [Int.toNat_natCast] at hcc hcell
                have hce : cc = [hv (L.getD p (none, 0, 0))] := hcc
                have hlg : L.getD p (none, 0, 0) = H o[p] := by rw [HLE.out, List.getD_eq_getElem?_getD, List.getElem?_map, List.getElem?_eq_getElem hpo]; rfl
                have hyw0 : wr.cell? (ado.add p) = some (hv (H o[p])) := by
                  have h := hcell 0 _ (by rw [hce]; rfl)
                  rw [hlg] at h
                  have e : p * kH.sz + 0 = p := by show p * 1 + 0 = p; omega
                  rwa [e] at h
                have hyr : HR w (H o[p]) gens[o[p]]! := by
                  obtain ⟨_, _, _, h⟩ := HH.out _ (Nat.lt_trans hq hi)
                  exact h
                obtain ⟨K3, hK3⟩ := HBEF.out i o[p] hi (Nat.lt_trans hq hi)
                obtain ⟨⟨Ak, nk, ck⟩, hHk⟩ : ∃ h, h = H o[p] := ⟨_, rfl⟩
                rw [← hHk] at hyw0 hyr
                obtain rfl : nk = gens[o[p]]!.length := hyr.1
                obtain ⟨y, hy⟩ : ∃ y, y = gens[o[p]]! := ⟨_, rfl⟩
                rw [← hy] at hyw0 hyr
                rw [← hy, ← HXI.out] at hK3
                have hyw : wr.cell? (ado.add p) = some (.slice Ak y.length ck) := hyw0
                have hywm : (wr.drewN m2).cell? (ado.add p) = some (.slice Ak y.length ck) := hyw
                have HYR := Aside0.mk (hyr.below HB.out)
                have HYE := Aside0.mk hy
                obtain ⟨b3, hb3⟩ : ∃ b, lexLt y xi = b := ⟨_, rfl⟩
                rw [hb3] at hK3
                have HK3 := Aside0.mk hK3
                have HB3 := Aside0.mk hb3
                clear hq hcc hcell hce hlg hyw0 hyr hHk hy hK3 hb3
                cases b3 with
                | true =>
                  go_wp2
                  go_quiet (first | (go_at_call 64; first | exact quiet_of_drawn2 (woggleref01_Before.calls K3 Ak ck y Ai ci xi _ _ (Kd.C_drewN HYR.out.2.2 _) HYR.out.2.1 (Kd.C_drewN HXR.out.2.2 _) HXR.out.2.1 HK3.out) | exact quiet_of_drawn (woggleref01_Before.calls K3 Ak ck y Ai ci xi _ _ (Kd.C_drewN HYR.out.2.2 _) HYR.out.2.1 (Kd.C_drewN HXR.out.2.2 _) HXR.out.2.1 HK3.out)))
                  go_wp2
                  cases gk with
                  | zero => exact absurd HP.out (by omega)
                  | succ kq3 =>
                    go_roundg kq3
                    case measure => have := HP.out; omega
                    case rel => exact ⟨p + 1, _, by first | rfl | rw [hw3], ⟨by have := HP.out; omega⟩, ⟨fun q h h2 => by
                      rcases Nat.lt_or_ge q p with h3 | h3
                      · exact HPB.out q h h3
                      · obtain rfl : q = p := by omega
                        rw [← HYE.out]; exact HB3.out⟩, by first | rfl | (rw [World.drewN_drewN]) | (simp)⟩
                | false =>
                  go_wp2
                  go_quiet (first | (go_at_call 64; first | exact quiet_of_drawn2 (woggleref01_Before.calls K3 Ak ck y Ai ci xi _ _ (Kd.C_drewN HYR.out.2.2 _) HYR.out.2.1 (Kd.C_drewN HXR.out.2.2 _) HXR.out.2.1 HK3.out) | exact quiet_of_drawn (woggleref01_Before.calls K3 Ak ck y Ai ci xi _ _ (Kd.C_drewN HYR.out.2.2 _) HYR.out.2.1 (Kd.C_drewN HXR.out.2.2 _) HXR.out.2.1 HK3.out)))
                  go_wp2
                  have hpos : posI gens o i = p := takeWhile_is o p (by rw [← HLL.out]; exact HPL.out) (fun q h hq => by rw [← HXI.out]; exact HPB.out q h hq) (fun h => by rw [← HXI.out]; show lexLt gens[o[p]]! xi = false; rw [← HYE.out]; exact HB3.out)
                  have HINS : Aside0 (L.take p ++ [(Ai, xi.length, ci)] ++ L.drop p = (oT gens (i + 1)).map H) := ⟨by rw [HOI.out, hpos, HLE.out, HHX.out]; simp [List.map_append, List.map_take, List.map_drop]⟩
                  have HLB : Aside0 (L.length ≤ 67108864) := ⟨by have := HLL.out; have := HOLT.out.2; have := HGL.out; omega⟩
                  have HOW := Aside0.mk (Kd.R_drewN (Kd.R_drewN HO.out m2) nq)
                  have HBW := Aside0.mk (pw_below_drewN (pw_below_drewN HB.out m2) nq)
                  have HXW : Aside0 (((wr.drewN m2).drewN nq).cell? (ad.add i) = some (.slice Ai xi.length ci)) := ⟨HXC.out⟩
                  clear hpos
                  generalize (wr.drewN m2).drewN nq = W at HOW HBW HXW ⊢
                  obtain ⟨i0_, hi0_, _, hsz_, _⟩ := info_parts info25
                  have hroom_ : L.length ≤ co := (Kd.R_reads' HOW.out).2.1
                  have hcut1 := cut_to (P := Try.prog) 22 25 .i64 Try.underlying22 hi0_ (some ado) L.length co (p : Int) (by omega) (by have := HPL.out; omega) hroom_
                  have hcut2 := cut_from (P := Try.prog) 22 25 .i64 Try.underlying22 hi0_ 1 hsz_ (some ado) L.length co (p : Int) (by omega) (by have := HPL.out; omega)
                  rw [Int.toNat_natCast] at hcut1 hcut2
                  have hjt : (L.take p).length = p := by rw [List.length_take]; have := HPL.out; omega
                  have hjd : (L.drop p).length = L.length - p := List.length_drop
                  obtain ⟨A2, hA2⟩ : ∃ A2, A2 = (if co = p then (some ado) else ((some ado) : Option Addr).map (·.add (p * 1))) := ⟨_, rfl⟩
                  rw [← hA2] at hcut2
                  clear hi0_ hsz_
                  refine start_ (n := 16) (S := fun w' => w'.cell? (ad.add i) = some (.slice Ai xi.length ci)) (ds := []) #[false, false, false, false, false, false, false, false, false, false, false, false, false, false, false, false] (by kernel_rfl) rfl rfl HXW.out (fun hHeld => ?_)
                  have HO0 := Aside0.mk (Kd.R_drew HOW.out)
                  have HBZ2 := Aside0.mk (below_drew1 HBW.out)
                  have HX0 : Aside0 (W.drew.cell? (ad.add i) = some (.slice Ai xi.length ci)) := ⟨HXW.out⟩
                  clear HXW
                  have HXL : Aside0 ((ad.add i).block < W.drew.heap.size) := ⟨World.block_lt_of_cell? _ _ HX0.out⟩
                  generalize W.drew = W0 at HO0 HBZ2 HX0 HXL hHeld ⊢
                  clear HOW HBW
                  have HTK : Aside0 (Kd.C kH W0 (some ado) p (L.take p)) := ⟨by have h_ := Kd.C_take (Kd.R_reads' HO0.out).2.2 HPL.out; rwa [hjt] at h_⟩
                  have HDR : Aside0 (Kd.C kH W0 A2 (L.length - p) (L.drop p)) := ⟨by rw [hA2]; have h_ := Kd.C_drop (m := p) (c := co) (Kd.R_reads' HO0.out).2.2 HPL.out hroom_; rwa [hjd] at h_⟩
                  clear hjt hjd hA2
                  have HB0 := Aside0.mk (Below.refl W0.heap.size W0)
                  refine pure_ (i := 1) (N := some 71) (v := ?_) (a' := ?_) #[false, true, false, false, false, false, false, false, false, false, false, false, false, false, false, false] rfl rfl (by kernel_rfl) (fun _ _ _ h => h) (Or.inl ⟨by rfl, ?_⟩) ?_ ?_
                  rotate_left
                  · intro w'
                    go_simp
                    with_reducible rfl
                  rotate_left
                  · simp only [Act.put, List.setIfInBounds_toArray, List.set_cons_zero, List.set_cons_succ, i64_w, i32_w]
                    rfl
                  refine pure_ (i := 2) (N := some 72) (v := ?_) (a' := ?_) #[false, true, true, false, false, false, false, false, false, false, false, false, false, false, false, false] rfl rfl (by kernel_rfl) (fun _ _ _ h => h) (Or.inl ⟨by rfl, ?_⟩) ?_ ?_
                  rotate_left
                  · intro w'
                    go_simp
                    with_reducible rfl
                  rotate_left
                  · simp only [Act.put, List.setIfInBounds_toArray, List.set_cons_zero, List.set_cons_succ, i64_w, i32_w]
                    rfl
                  refine pure_ (i := 3) (N := some 73) (v := ?_) (a' := ?_) #[false, true, true, true, false, false, false, false, false, false, false, false, false, false, false, false] rfl rfl (by kernel_rfl) (fun _ _ _ h => h) (Or.inl ⟨by rfl, ?_⟩) ?_ ?_
                  rotate_left
                  · intro w'
                    go_simp
                    with_reducible rfl
                  rotate_left
                  · simp only [Act.put, List.setIfInBounds_toArray, List.set_cons_zero, List.set_cons_succ, i64_w, i32_w]
                    rfl
                  refine pure_ (i := 5) (N := some 75) (v := ?_) (a' := ?_) #[false, true, true, true, false, true, false, false, false, false, false, false, false, false, false, false] rfl rfl (by kernel_rfl) (fun _ _ _ h => h) (Or.inl ⟨by rfl, ?_⟩) ?_ ?_
                  rotate_left
                  · intro w'
                    go_simp
                    with_reducible rfl
                  rotate_left
                  · simp only [Act.put, List.setIfInBounds_toArray, List.set_cons_zero, List.set_cons_succ, i64_w, i32_w]
                    rfl
                  refine pure_ (i := 6) (N := some 76) (v := ?_) (a' := ?_) #[false, true, true, true, false, true, true, false, false, false, false, false, false, false, false, false] rfl rfl (by kernel_rfl) (fun _ _ _ h => h) (Or.inl ⟨by rfl, ?_⟩) ?_ ?_
                  rotate_left
                  · intro w'
                    go_simp
                    with_reducible rfl
                  rotate_left
                  · simp only [Act.put, List.setIfInBounds_toArray, List.set_cons_zero, List.set_cons_succ, i64_w, i32_w]
                    rfl
                  refine pure_ (i := 7) (N := some 77) (v := ?_) (a' := ?_) #[false, true, true, true, false, true, true, true, false, false, false, false, false, false, false, false] rfl rfl (by kernel_rfl) (fun _ _ _ h => h) (Or.inl ⟨by rfl, ?_⟩) ?_ ?_
                  rotate_left
                  · intro w'
                    go_simp
                    with_reducible rfl
                  rotate_left
                  · simp only [Act.put, List.setIfInBounds_toArray, List.set_cons_zero, List.set_cons_succ, i64_w, i32_w]
                    rfl
                  refine take_ (i := 8) (N := some 78) (v := ?_) (a' := ?_) #[false, true, true, true, false, true, true, true, true, false, false, false, false, false, false, false] rfl rfl (by kernel_rfl) (fun _ _ _ h => h) (Or.inl ⟨by rfl, ?_⟩) hHeld ?_ ?_
                  rotate_left
                  · rintro w' s0
                    go_simp
                    with_reducible rfl
                  rotate_left
                  · simp only [Act.put, List.setIfInBounds_toArray, List.set_cons_zero, List.set_cons_succ, i64_w, i32_w]
                    rfl
                  refine pure_ (i := 11) (N := some 81) (v := ?_) (a' := ?_) #[false, true, true, true, false, true, true, true, true, false, false, true, false, false, false, false] rfl rfl (by kernel_rfl) (fun _ _ _ h => h) (Or.inl ⟨by rfl, ?_⟩) ?_ ?_
                  rotate_left
                  · intro w'
                    go_simp
                    with_reducible rfl
                  rotate_left
                  · simp only [Act.put, List.setIfInBounds_toArray, List.set_cons_zero, List.set_cons_succ, i64_w, i32_w]
                    rfl
                  refine pure_ (i := 12) (N := some 82) (v := ?_) (a' := ?_) #[false, true, true, true, false, true, true, true, true, false, false, true, true, false, false, false] rfl rfl (by kernel_rfl) (fun _ _ _ h => h) (Or.inl ⟨by rfl, ?_⟩) ?_ ?_
                  rotate_left
                  · intro w'
                    go_simp
                    with_reducible rfl
                  rotate_left
                  · simp only [Act.put, List.setIfInBounds_toArray, List.set_cons_zero, List.set_cons_succ, i64_w, i32_w]
                    rfl
                  refine pure_ (i := 13) (N := some 83) (v := ?_) (a' := ?_) #[false, true, true, true, false, true, true, true, true, false, false, true, true, true, false, false] rfl rfl (by kernel_rfl) (fun _ _ _ h => h) (Or.inl ⟨by rfl, ?_⟩) ?_ ?_
                  rotate_left
                  · intro w'
                    go_simp
                    with_reducible rfl
                  rotate_left
                  · simp only [Act.put, List.setIfInBounds_toArray, List.set_cons_zero, List.set_cons_succ, i64_w, i32_w]
                    rfl
                  refine join_ (σ := Value × Value × Value × Value × Value) 1 #[true, true, true, true, true, true, true, true, true, true, true, true, true, true, true, false] (fun s_ => [(70, s_.1), (74, s_.2.1), (79, s_.2.2.1), (80, s_.2.2.2.1), (84, s_.2.2.2.2)]) (fun s_ w' => Kd.R kH 25 w' W0.heap.size (fun _ => True) s_.2.2.2.2 ([] ++ L.take p ++ [(Ai, xi.length, ci)] ++ L.drop p) ∧ Below W0.heap.size W0 w') ?_ ?_
                  rotate_left
                  · intro hJ
                    refine two_ (i := 0) (j := 9) (Ni := some 70) (Nj := some 79) #[true, true, true, true, false, true, true, true, true, false, false, true, true, true, false, false] #[false, true, true, true, false, true, true, true, true, true, false, true, true, true, false, false] rfl rfl rfl rfl (by kernel_rfl) (by decide) (by decide) (fun K hK => ?_) (fun K hK => ?_)
                    · skip
                      refine Kd.R_lit_step kH W0.heap.size 25 (by rfl) (N := 70) rfl (xs := ([] : List Hdr)) (inner := []) (ok := fun k_ => True) (okp := fun _ => True) ?hr (Reps.none _ _) (fun k_ hk => trivial) trivial HB0.out (below_size HB0.out) (by simp) ?_
                      (case hr => first | (go_simp; done) | (go_simp; rfl))
                      intro v31 w0q ho hb hg hn
                      have HV31 := Aside0.mk ho
                      have HB1 := Aside0.mk hb
                      clear ho hb hg hn
                      refine hK.out _ _ ((Below.cell HB1.out HXL.out).trans HX0.out) (fun hHeld => ?_)
                      clear hK K
                      refine norm_ (a' := ?_) ?_ ?_
                      rotate_left
                      · show Act.put _ (some 70) _ = _
                        simp only [Act.put, List.setIfInBounds_toArray, List.set_cons_zero, List.set_cons_succ, i64_w, i32_w]
                        rfl
                      refine two_ (i := 4) (j := 9) (Ni := some 74) (Nj := some 79) #[true, true, true, true, true, true, true, true, true, false, false, true, true, true, false, false] #[true, true, true, true, false, true, true, true, true, true, false, true, true, true, false, false] rfl rfl rfl rfl (by kernel_rfl) (by decide) (by decide) (fun K hK => ?_) (fun K hK => ?_)
                      · skip
                        refine Kd.R_append_rows_step kH (w0 := W0) W0.heap.size (by rfl) (.tmp 70) (.tmp 73) 22 25 (.slice none 0 0) 24 rfl Try.underlying22 info25 rfl (by decide) (by omega) v31 ([] : List Hdr) (L.take p) _ _ _ (fun _ => True) (fun _ => False) rfl rfl ?aO ?aR (fun _ _ h => h) (fun _ h => h.elim) ?aF HB1.out (below_size HB1.out) ?aL ?_
                        (case aR => exact (Kd.C_below HTK.out HB1.out))
                        (case aO => exact Kd.R_mono HV31.out (fun k_ hk_ => trivial))
                        (case aF => exact fun _ _ => trivial)
                        (case aL => simp only [List.length_append, List.length_take, List.length_drop, List.length_cons, List.length_nil]; have := HLB.out; have := HPL.out; omega)
                        intro v35 w1q ho hb hg hat
                        have HV35 := Aside0.mk ho
                        have HB2 := Aside0.mk hb
                        clear ho hb hg hat
                        refine hK.out _ _ ((Below.cell HB2.out HXL.out).trans HX0.out) (fun hHeld => ?_)
                        clear hK K
                        refine norm_ (a' := ?_) ?_ ?_
                        rotate_left
                        · show Act.put _ (some 74) _ = _
                          simp only [Act.put, List.setIfInBounds_toArray, List.set_cons_zero, List.set_cons_succ, i64_w, i32_w]
                          rfl
                        refine one_ (i := 9) (N := some 79) #[true, true, true, true, true, true, true, true, true, true, false, true, true, true, false, false] rfl rfl (by kernel_rfl) (by decide) (fun K hK => ?_)
                        refine Kd.R_lit_step kH W0.heap.size 25 (by rfl) (N := 79) rfl (xs := [(Ai, xi.length, ci)]) (inner := [hv (Ai, xi.length, ci)]) (ok := fun k_ => some k_ ≠ v35.ownBlock) (okp := fun _ => False) ?hr ?hp (fun k_ hk => hk.elim) ?hf HB2.out (below_size HB2.out) (by simp) ?_
                        (case hf => exact fun e_ => by have := Kd.R_lt HV35.out _ e_.symm; omega)
                        (case hr => first | (go_simp; done) | (go_simp; rfl))
                        (case hp => exact (Reps.one rfl (Reps.none _ _)))
                        intro v40 w2q ho hb hg hn
                        have HV40 := Aside0.mk ho
                        have HB3 := Aside0.mk hb
                        have HVb := Aside0.mk (Kd.R_step (ok := fun k_ => some k_ ≠ v40.ownBlock) (Kd.R_mono (Kd.R_bound HV35.out) (fun k_ hk_ e_ => by obtain ⟨b_, h1_, h2_⟩ := hn; rw [h1_] at e_; injection e_ with e_; have := hk_.2.2.1; omega)) (fun k_ hk_ hl_ => hg.block k_ hl_ (by simp)))
                        clear HV35
                        have HV35 := HVb
                        clear HVb
                        clear ho hb hg hn
                        refine hK.out _ _ ((Below.cell HB3.out HXL.out).trans HX0.out) (fun hHeld => ?_)
                        clear hK K
                        refine norm_ (a' := ?_) ?_ ?_
                        rotate_left
                        · show Act.put _ (some 79) _ = _
                          simp only [Act.put, List.setIfInBounds_toArray, List.set_cons_zero, List.set_cons_succ, i64_w, i32_w]
                          rfl
                        refine one_ (i := 10) (N := some 80) #[true, true, true, true, true, true, true, true, true, true, true, true, true, true, false, false] rfl rfl (by kernel_rfl) (by decide) (fun K hK => ?_)
                        obtain ⟨A40, c40, rfl⟩ := Kd.R_slice HV40.out
                        refine Kd.R_append_rows_step kH (w0 := W0) W0.heap.size (by rfl) (.tmp 74) (.tmp 79) 22 25 (.slice none 0 0) 24 rfl Try.underlying22 info25 rfl (by decide) (by omega) v35 ([] ++ L.take p) [(Ai, xi.length, ci)] _ _ _ (fun _ => True) (fun _ => False) rfl rfl ?aO ?aR (fun _ _ h => h) (fun _ h => h.elim) ?aF HB3.out (below_size HB3.out) ?aL ?_
                        (case aR => exact (Kd.R_reads' HV40.out).2.2)
                        (case aO => exact Kd.R_mono HV35.out (fun k_ hk_ => trivial))
                        (case aF => exact fun _ _ => trivial)
                        (case aL => simp only [List.length_append, List.length_take, List.length_drop, List.length_cons, List.length_nil]; have := HLB.out; have := HPL.out; omega)
                        intro v41 w3q ho hb hg hat
                        have HV41 := Aside0.mk ho
                        have HB4 := Aside0.mk hb
                        clear ho hb hg hat
                        refine hK.out _ _ ((Below.cell HB4.out HXL.out).trans HX0.out) (fun hHeld => ?_)
                        clear hK K
                        refine norm_ (a' := ?_) ?_ ?_
                        rotate_left
                        · show Act.put _ (some 80) _ = _
                          simp only [Act.put, List.setIfInBounds_toArray, List.set_cons_zero, List.set_cons_succ, i64_w, i32_w]
                          rfl
                        refine one_ (i := 14) (N := some 84) #[true, true, true, true, true, true, true, true, true, true, true, true, true, true, true, false] rfl rfl (by kernel_rfl) (by decide) (fun K hK => ?_)
                        refine Kd.R_append_rows_step kH (w0 := W0) W0.heap.size (by rfl) (.tmp 80) (.tmp 83) 22 25 (.slice none 0 0) 24 rfl Try.underlying22 info25 rfl (by decide) (by omega) v41 ([] ++ L.take p ++ [(Ai, xi.length, ci)]) (L.drop p) _ _ _ (fun _ => True) (fun _ => False) rfl rfl ?aO ?aR (fun _ _ h => h) (fun _ h => h.elim) ?aF HB4.out (below_size HB4.out) ?aL ?_
                        (case aR => exact (Kd.C_below HDR.out HB4.out))
                        (case aO => exact Kd.R_mono HV41.out (fun k_ hk_ => trivial))
                        (case aF => exact fun _ _ => trivial)
                        (case aL => simp only [List.length_append, List.length_take, List.length_drop, List.length_cons, List.length_nil]; have := HLB.out; have := HPL.out; omega)
                        intro v45 w4q ho hb hg hat
                        have HV45 := Aside0.mk ho
                        have HB5 := Aside0.mk hb
                        clear ho hb hg hat
                        refine hK.out _ _ ((Below.cell HB5.out HXL.out).trans HX0.out) (fun hHeld => ?_)
                        clear hK K
                        refine norm_ (a' := ?_) ?_ ?_
                        rotate_left
                        · show Act.put _ (some 84) _ = _
                          simp only [Act.put, List.setIfInBounds_toArray, List.set_cons_zero, List.set_cons_succ, i64_w, i32_w]
                          rfl
                        exact norm_ (by simp only [putAll, Act.put, List.setIfInBounds_toArray, List.set_cons_zero, List.set_cons_succ]) (hJ (v31, v35, .slice A40 [(Ai, xi.length, ci)].length c40, v41, v45) _ ⟨HV45.out, HB5.out⟩)
                      · skip
                        refine Kd.R_lit_step kH W0.heap.size 25 (by rfl) (N := 79) rfl (xs := [(Ai, xi.length, ci)]) (inner := [hv (Ai, xi.length, ci)]) (ok := fun k_ => some k_ ≠ v31.ownBlock) (okp := fun _ => False) ?hr ?hp (fun k_ hk => hk.elim) ?hf HB1.out (below_size HB1.out) (by simp) ?_
                        (case hf => exact fun e_ => by have := Kd.R_lt HV31.out _ e_.symm; omega)
                        (case hr => first | (go_simp; done) | (go_simp; rfl))
                        (case hp => exact (Reps.one rfl (Reps.none _ _)))
                        intro v40 w1q ho hb hg hn
                        have HV40 := Aside0.mk ho
                        have HB2 := Aside0.mk hb
                        have HVb := Aside0.mk (Kd.R_step (ok := fun k_ => some k_ ≠ v40.ownBlock) (Kd.R_mono (Kd.R_bound HV31.out) (fun k_ hk_ e_ => by obtain ⟨b_, h1_, h2_⟩ := hn; rw [h1_] at e_; injection e_ with e_; have := hk_.2.2.1; omega)) (fun k_ hk_ hl_ => hg.block k_ hl_ (by simp)))
                        clear HV31
                        have HV31 := HVb
                        clear HVb
                        clear ho hb hg hn
                        refine hK.out _ _ ((Below.cell HB2.out HXL.out).trans HX0.out) (fun hHeld => ?_)
                        clear hK K
                        refine norm_ (a' := ?_) ?_ ?_
                        rotate_left
                        · show Act.put _ (some 79) _ = _
                          simp only [Act.put, List.setIfInBounds_toArray, List.set_cons_zero, List.set_cons_succ, i64_w, i32_w]
                          rfl
                        refine one_ (i := 4) (N := some 74) #[true, true, true, true, true, true, true, true, true, true, false, true, true, true, false, false] rfl rfl (by kernel_rfl) (by decide) (fun K hK => ?_)
                        refine Kd.R_append_rows_step kH (w0 := W0) W0.heap.size (by rfl) (.tmp 70) (.tmp 73) 22 25 (.slice none 0 0) 24 rfl Try.underlying22 info25 rfl (by decide) (by omega) v31 ([] : List Hdr) (L.take p) _ _ _ (fun k_ => some k_ ≠ v40.ownBlock) (fun _ => False) rfl rfl ?aO ?aR (fun _ _ h => h) (fun _ h => h.elim) ?aF HB2.out (below_size HB2.out) ?aL ?_
                        (case aR => exact (Kd.C_below HTK.out HB2.out))
                        (case aO => exact Kd.R_mono HV31.out (fun k_ hk_ => hk_))
                        (case aF => exact fun k_ hk_ e_ => by have := Kd.R_lt HV40.out _ e_.symm; omega)
                        (case aL => simp only [List.length_append, List.length_take, List.length_drop, List.length_cons, List.length_nil]; have := HLB.out; have := HPL.out; omega)
                        intro v35 w2q ho hb hg hat
                        have HV35 := Aside0.mk ho
                        have HB3 := Aside0.mk hb
                        have HV40b := Aside0.mk (Kd.R_after (ok := fun _ => True) (Kd.R_mono HV40.out (fun k_ hk_ => ⟨trivial, hk_⟩)) hg hat)
                        clear HV40
                        have HV40 := Aside0.mk (Kd.R_mono HV40b.out (fun k_ hk_ => hk_.2))
                        clear HV40b
                        clear ho hb hg hat
                        refine hK.out _ _ ((Below.cell HB3.out HXL.out).trans HX0.out) (fun hHeld => ?_)
                        clear hK K
                        refine norm_ (a' := ?_) ?_ ?_
                        rotate_left
                        · show Act.put _ (some 74) _ = _
                          simp only [Act.put, List.setIfInBounds_toArray, List.set_cons_zero, List.set_cons_succ, i64_w, i32_w]
                          rfl
                        refine one_ (i := 10) (N := some 80) #[true, true, true, true, true, true, true, true, true, true, true, true, true, true, false, false] rfl rfl (by kernel_rfl) (by decide) (fun K hK => ?_)
                        obtain ⟨A40, c40, rfl⟩ := Kd.R_slice HV40.out
                        refine Kd.R_append_rows_step kH (w0 := W0) W0.heap.size (by rfl) (.tmp 74) (.tmp 79) 22 25 (.slice none 0 0) 24 rfl Try.underlying22 info25 rfl (by decide) (by omega) v35 ([] ++ L.take p) [(Ai, xi.length, ci)] _ _ _ (fun _ => True) (fun _ => False) rfl rfl ?aO ?aR (fun _ _ h => h) (fun _ h => h.elim) ?aF HB3.out (below_size HB3.out) ?aL ?_
                        (case aR => exact (Kd.R_reads' HV40.out).2.2)
                        (case aO => exact Kd.R_mono HV35.out (fun k_ hk_ => trivial))
                        (case aF => exact fun _ _ => trivial)
                        (case aL => simp only [List.length_append, List.length_take, List.length_drop, List.length_cons, List.length_nil]; have := HLB.out; have := HPL.out; omega)
                        intro v41 w3q ho hb hg hat
                        have HV41 := Aside0.mk ho
                        have HB4 := Aside0.mk hb
                        clear ho hb hg hat
                        refine hK.out _ _ ((Below.cell HB4.out HXL.out).trans HX0.out) (fun hHeld => ?_)
                        clear hK K
                        refine norm_ (a' := ?_) ?_ ?_
                        rotate_left
                        · show Act.put _ (some 80) _ = _
                          simp only [Act.put, List.setIfInBounds_toArray, List.set_cons_zero, List.set_cons_succ, i64_w, i32_w]
                          rfl
                        refine one_ (i := 14) (N := some 84) #[true, true, true, true, true, true, true, true, true, true, true, true, true, true, true, false] rfl rfl (by kernel_rfl) (by decide) (fun K hK => ?_)
                        refine Kd.R_append_rows_step kH (w0 := W0) W0.heap.size (by rfl) (.tmp 80) (.tmp 83) 22 25 (.slice none 0 0) 24 rfl Try.underlying22 info25 rfl (by decide) (by omega) v41 ([] ++ L.take p ++ [(Ai, xi.length, ci)]) (L.drop p) _ _ _ (fun _ => True) (fun _ => False) rfl rfl ?aO ?aR (fun _ _ h => h) (fun _ h => h.elim) ?aF HB4.out (below_size HB4.out) ?aL ?_
                        (case aR => exact (Kd.C_below HDR.out HB4.out))
                        (case aO => exact Kd.R_mono HV41.out (fun k_ hk_ => trivial))
                        (case aF => exact fun _ _ => trivial)
                        (case aL => simp only [List.length_append, List.length_take, List.length_drop, List.length_cons, List.length_nil]; have := HLB.out; have := HPL.out; omega)
                        intro v45 w4q ho hb hg hat
                        have HV45 := Aside0.mk ho
                        have HB5 := Aside0.mk hb
                        clear ho hb hg hat
                        refine hK.out _ _ ((Below.cell HB5.out HXL.out).trans HX0.out) (fun hHeld => ?_)
                        clear hK K
                        refine norm_ (a' := ?_) ?_ ?_
                        rotate_left
                        · show Act.put _ (some 84) _ = _
                          simp only [Act.put, List.setIfInBounds_toArray, List.set_cons_zero, List.set_cons_succ, i64_w, i32_w]
                          rfl
                        exact norm_ (by simp only [putAll, Act.put, List.setIfInBounds_toArray, List.set_cons_zero, List.set_cons_succ]) (hJ (v31, v35, .slice A40 [(Ai, xi.length, ci)].length c40, v41, v45) _ ⟨HV45.out, HB5.out⟩)
                    · skip
                      refine Kd.R_lit_step kH W0.heap.size 25 (by rfl) (N := 79) rfl (xs := [(Ai, xi.length, ci)]) (inner := [hv (Ai, xi.length, ci)]) (ok := fun k_ => True) (okp := fun _ => True) ?hr ?hp (fun _ hk => hk) trivial HB0.out (below_size HB0.out) (by simp) ?_
                      (case hr => first | (go_simp; done) | (go_simp; rfl))
                      (case hp => exact (Reps.one rfl (Reps.none _ _)))
                      intro v40 w0q ho hb hg hn
                      have HV40 := Aside0.mk ho
                      have HB1 := Aside0.mk hb
                      clear ho hb hg hn
                      refine hK.out _ _ ((Below.cell HB1.out HXL.out).trans HX0.out) (fun hHeld => ?_)
                      clear hK K
                      refine norm_ (a' := ?_) ?_ ?_
                      rotate_left
                      · show Act.put _ (some 79) _ = _
                        simp only [Act.put, List.setIfInBounds_toArray, List.set_cons_zero, List.set_cons_succ, i64_w, i32_w]
                        rfl
                      refine one_ (i := 0) (N := some 70) #[true, true, true, true, false, true, true, true, true, true, false, true, true, true, false, false] rfl rfl (by kernel_rfl) (by decide) (fun K hK => ?_)
                      refine Kd.R_lit_step kH W0.heap.size 25 (by rfl) (N := 70) rfl (xs := ([] : List Hdr)) (inner := []) (ok := fun k_ => some k_ ≠ v40.ownBlock) (okp := fun _ => False) ?hr (Reps.none _ _) (fun k_ hk => hk.elim) ?hf HB1.out (below_size HB1.out) (by simp) ?_
                      (case hf => exact fun e_ => by have := Kd.R_lt HV40.out _ e_.symm; omega)
                      (case hr => first | (go_simp; done) | (go_simp; rfl))
                      intro v31 w1q ho hb hg hn
                      have HV31 := Aside0.mk ho
                      have HB2 := Aside0.mk hb
                      have HV40b := Aside0.mk (Kd.R_step (ok := fun k_ => some k_ ≠ v31.ownBlock) (Kd.R_mono (Kd.R_bound HV40.out) (fun k_ hk_ e_ => by obtain ⟨b_, h1_, h2_⟩ := hn; rw [h1_] at e_; injection e_ with e_; have := hk_.2.2.1; omega)) (fun k_ hk_ hl_ => hg.block k_ hl_ (by simp)))
                      clear HV40
                      have HV40 := HV40b
                      clear HV40b
                      clear ho hb hg hn
                      refine hK.out _ _ ((Below.cell HB2.out HXL.out).trans HX0.out) (fun hHeld => ?_)
                      clear hK K
                      refine norm_ (a' := ?_) ?_ ?_
                      rotate_left
                      · show Act.put _ (some 70) _ = _
                        simp only [Act.put, List.setIfInBounds_toArray, List.set_cons_zero, List.set_cons_succ, i64_w, i32_w]
                        rfl
                      refine one_ (i := 4) (N := some 74) #[true, true, true, true, true, true, true, true, true, true, false, true, true, true, false, false] rfl rfl (by kernel_rfl) (by decide) (fun K hK => ?_)
                      refine Kd.R_append_rows_step kH (w0 := W0) W0.heap.size (by rfl) (.tmp 70) (.tmp 73) 22 25 (.slice none 0 0) 24 rfl Try.underlying22 info25 rfl (by decide) (by omega) v31 ([] : List Hdr) (L.take p) _ _ _ (fun k_ => some k_ ≠ v40.ownBlock) (fun _ => False) rfl rfl ?aO ?aR (fun _ _ h => h) (fun _ h => h.elim) ?aF HB2.out (below_size HB2.out) ?aL ?_
                      (case aR => exact (Kd.C_below HTK.out HB2.out))
                      (case aO => exact Kd.R_mono HV31.out (fun k_ hk_ => hk_))
                      (case aF => exact fun k_ hk_ e_ => by have := Kd.R_lt HV40.out _ e_.symm; omega)
                      (case aL => simp only [List.length_append, List.length_take, List.length_drop, List.length_cons, List.length_nil]; have := HLB.out; have := HPL.out; omega)
                      intro v35 w2q ho hb hg hat
                      have HV35 := Aside0.mk ho
                      have HB3 := Aside0.mk hb
                      have HV40b := Aside0.mk (Kd.R_after (ok := fun _ => True) (Kd.R_mono HV40.out (fun k_ hk_ => ⟨trivial, hk_⟩)) hg hat)
                      clear HV40
                      have HV40 := Aside0.mk (Kd.R_mono HV40b.out (fun k_ hk_ => hk_.2))
                      clear HV40b
                      clear ho hb hg hat
                      refine hK.out _ _ ((Below.cell HB3.out HXL.out).trans HX0.out) (fun hHeld => ?_)
                      clear hK K
                      refine norm_ (a' := ?_) ?_ ?_
                      rotate_left
                      · show Act.put _ (some 74) _ = _
                        simp only [Act.put, List.setIfInBounds_toArray, List.set_cons_zero, List.set_cons_succ, i64_w, i32_w]
                        rfl
                      refine one_ (i := 10) (N := some 80) #[true, true, true, true, true, true, true, true, true, true, true, true, true, true, false, false] rfl rfl (by kernel_rfl) (by decide) (fun K hK => ?_)
                      obtain ⟨A40, c40, rfl⟩ := Kd.R_slice HV40.out
                      refine Kd.R_append_rows_step kH (w0 := W0) W0.heap.size (by rfl) (.tmp 74) (.tmp 79) 22 25 (.slice none 0 0) 24 rfl Try.underlying22 info25 rfl (by decide) (by omega) v35 ([] ++ L.take p) [(Ai, xi.length, ci)] _ _ _ (fun _ => True) (fun _ => False) rfl rfl ?aO ?aR (fun _ _ h => h) (fun _ h => h.elim) ?aF HB3.out (below_size HB3.out) ?aL ?_
                      (case aR => exact (Kd.R_reads' HV40.out).2.2)
                      (case aO => exact Kd.R_mono HV35.out (fun k_ hk_ => trivial))
                      (case aF => exact fun _ _ => trivial)
                      (case aL => simp only [List.length_append, List.length_take, List.length_drop, List.length_cons, List.length_nil]; have := HLB.out; have := HPL.out; omega)
                      intro v41 w3q ho hb hg hat
                      have HV41 := Aside0.mk ho
                      have HB4 := Aside0.mk hb
                      clear ho hb hg hat
                      refine hK.out _ _ ((Below.cell HB4.out HXL.out).trans HX0.out) (fun hHeld => ?_)
                      clear hK K
                      refine norm_ (a' := ?_) ?_ ?_
                      rotate_left
                      · show Act.put _ (some 80) _ = _
                        simp only [Act.put, List.setIfInBounds_toArray, List.set_cons_zero, List.set_cons_succ, i64_w, i32_w]
                        rfl
                      refine one_ (i := 14) (N := some 84) #[true, true, true, true, true, true, true, true, true, true, true, true, true, true, true, false] rfl rfl (by kernel_rfl) (by decide) (fun K hK => ?_)
                      refine Kd.R_append_rows_step kH (w0 := W0) W0.heap.size (by rfl) (.tmp 80) (.tmp 83) 22 25 (.slice none 0 0) 24 rfl Try.underlying22 info25 rfl (by decide) (by omega) v41 ([] ++ L.take p ++ [(Ai, xi.length, ci)]) (L.drop p) _ _ _ (fun _ => True) (fun _ => False) rfl rfl ?aO ?aR (fun _ _ h => h) (fun _ h => h.elim) ?aF HB4.out (below_size HB4.out) ?aL ?_
                      (case aR => exact (Kd.C_below HDR.out HB4.out))
                      (case aO => exact Kd.R_mono HV41.out (fun k_ hk_ => trivial))
                      (case aF => exact fun _ _ => trivial)
                      (case aL => simp only [List.length_append, List.length_take, List.length_drop, List.length_cons, List.length_nil]; have := HLB.out; have := HPL.out; omega)
                      intro v45 w4q ho hb hg hat
                      have HV45 := Aside0.mk ho
                      have HB5 := Aside0.mk hb
                      clear ho hb hg hat
                      refine hK.out _ _ ((Below.cell HB5.out HXL.out).trans HX0.out) (fun hHeld => ?_)
                      clear hK K
                      refine norm_ (a' := ?_) ?_ ?_
                      rotate_left
                      · show Act.put _ (some 84) _ = _
                        simp only [Act.put, List.setIfInBounds_toArray, List.set_cons_zero, List.set_cons_succ, i64_w, i32_w]
                        rfl
                      exact norm_ (by simp only [putAll, Act.put, List.setIfInBounds_toArray, List.set_cons_zero, List.set_cons_succ]) (hJ (v31, v35, .slice A40 [(Ai, xi.length, ci)].length c40, v41, v45) _ ⟨HV45.out, HB5.out⟩)
                  rintro ⟨u31, u35, u40, u41, v45⟩ w9 ⟨f1, f2⟩
                  have HF1 := Aside0.mk f1
                  have HF2 := Aside0.mk f2
                  simp only at HF1
                  clear f1 f2 hHeld
                  refine norm_ (a' := ?_) ?_ ?_
                  rotate_left
                  · simp only [putAll, Act.put, List.setIfInBounds_toArray, List.set_cons_zero, List.set_cons_succ]
                    rfl
                  refine pure_ (i := 15) (N := some 3) (v := ?_) (a' := ?_) #[true, true, true, true, true, true, true, true, true, true, true, true, true, true, true, true] rfl rfl (by kernel_rfl) (fun _ _ _ h => h) (Or.inl ⟨by rfl, ?_⟩) ?_ ?_
                  rotate_left
                  · intro w'
                    go_simp
                    with_reducible rfl
                  rotate_left
                  · simp only [Act.put, List.setIfInBounds_toArray, List.set_cons_zero, List.set_cons_succ, i64_w, i32_w]
                    rfl
                  refine done_ (by kernel_rfl) ?_
                  have HFIN : Aside0 (Kd.R kH 25 w9 w.heap.size (fun _ => True) v45 ((oT gens (i + 1)).map H)) := ⟨by rw [← HINS.out]; exact Kd.R_lower HF1.out (below_size HBZ2.out)⟩
                  have HBF := Aside0.mk (below_step HBZ2.out HF2.out)
                  go_wp2
                  go_roundg kq
                  case measure => have := HI.out; omega
                  case rel => exact ⟨i + 1, by first | rfl | rw [hw1], ⟨by have := HI.out; omega⟩, HFIN, HBF⟩
              · have hpd : ((p : Int) < (L.length : Int)) = False := eq_false (by omega)
                go_wp2
                go_quiet (fail)
                go_wp2
                have hpos : posI gens o i = p := takeWhile_is o p (by rw [← HLL.out]; exact HPL.out) (fun q h hq => by rw [← HXI.out]; exact HPB.out q h hq) (fun h => by rw [← HXI.out]; exact absurd h (by rw [← HLL.out]; exact hpl))
                have HINS : Aside0 (L.take p ++ [(Ai, xi.length, ci)] ++ L.drop p = (oT gens (i + 1)).map H) := ⟨by rw [HOI.out, hpos, HLE.out, HHX.out]; simp [List.map_append, List.map_take, List.map_drop]⟩
                have HLB : Aside0 (L.length ≤ 67108864) := ⟨by have := HLL.out; have := HOLT.out.2; have := HGL.out; omega⟩
                have HOW := Aside0.mk (Kd.R_drewN (Kd.R_drewN HO.out m2) nq)
                have HBW := Aside0.mk (pw_below_drewN (pw_below_drewN HB.out m2) nq)
                have HXW : Aside0 (((wr.drewN m2).drewN nq).cell? (ad.add i) = some (.slice Ai xi.length ci)) := ⟨HXC.out⟩
                clear hpos
                generalize (wr.drewN m2).drewN nq = W at HOW HBW HXW ⊢
                obtain ⟨i0_, hi0_, _, hsz_, _⟩ := info_parts info25
                have hroom_ : L.length ≤ co := (Kd.R_reads' HOW.out).2.1
                have hcut1 := cut_to (P := Try.prog) 22 25 .i64 Try.underlying22 hi0_ Ao L.length co (p : Int) (by omega) (by have := HPL.out; omega) hroom_
                have hcut2 := cut_from (P := Try.prog) 22 25 .i64 Try.underlying22 hi0_ 1 hsz_ Ao L.length co (p : Int) (by omega) (by have := HPL.out; omega)
                rw [Int.toNat_natCast] at hcut1 hcut2
                have hjt : (L.take p).length = p := by rw [List.length_take]; have := HPL.out; omega
                have hjd : (L.drop p).length = L.length - p := List.length_drop
                obtain ⟨A2, hA2⟩ : ∃ A2, A2 = (if co = p then Ao else (Ao : Option Addr).map (·.add (p * 1))) := ⟨_, rfl⟩
                rw [← hA2] at hcut2
                clear hi0_ hsz_
                refine start_ (n := 16) (S := fun w' => w'.cell? (ad.add i) = some (.slice Ai xi.length ci)) (ds := []) #[false, false, false, false, false, false, false, false, false, false, false, false, false, false, false, false] (by kernel_rfl) rfl rfl HXW.out (fun hHeld => ?_)
                have HO0 := Aside0.mk (Kd.R_drew HOW.out)
                have HBZ2 := Aside0.mk (below_drew1 HBW.out)
                have HX0 : Aside0 (W.drew.cell? (ad.add i) = some (.slice Ai xi.length ci)) := ⟨HXW.out⟩
                clear HXW
                have HXL : Aside0 ((ad.add i).block < W.drew.heap.size) := ⟨World.block_lt_of_cell? _ _ HX0.out⟩
                generalize W.drew = W0 at HO0 HBZ2 HX0 HXL hHeld ⊢
                clear HOW HBW
                have HTK : Aside0 (Kd.C kH W0 Ao p (L.take p)) := ⟨by have h_ := Kd.C_take (Kd.R_reads' HO0.out).2.2 HPL.out; rwa [hjt] at h_⟩
                have HDR : Aside0 (Kd.C kH W0 A2 (L.length - p) (L.drop p)) := ⟨by rw [hA2]; have h_ := Kd.C_drop (m := p) (c := co) (Kd.R_reads' HO0.out).2.2 HPL.out hroom_; rwa [hjd] at h_⟩
                clear hjt hjd hA2
                have HB0 := Aside0.mk (Below.refl W0.heap.size W0)
                refine pure_ (i := 1) (N := some 71) (v := ?_) (a' := ?_) #[false, true, false, false, false, false, false, false, false, false, false, false, false, false, false, false] rfl rfl (by kernel_rfl) (fun _ _ _ h => h) (Or.inl ⟨by rfl, ?_⟩) ?_ ?_
                rotate_left
                · intro w'
                  go_simp
                  with_reducible rfl
                rotate_left
                · simp only [Act.put, List.setIfInBounds_toArray, List.set_cons_zero, List.set_cons_succ, i64_w, i32_w]
                  rfl
                refine pure_ (i := 2) (N := some 72) (v := ?_) (a' := ?_) #[false, true, true, false, false, false, false, false, false, false, false, false, false, false, false, false] rfl rfl (by kernel_rfl) (fun _ _ _ h => h) (Or.inl ⟨by rfl, ?_⟩) ?_ ?_
                rotate_left
                · intro w'
                  go_simp
                  with_reducible rfl
                rotate_left
                · simp only [Act.put, List.setIfInBounds_toArray, List.set_cons_zero, List.set_cons_succ, i64_w, i32_w]
                  rfl
                refine pure_ (i := 3) (N := some 73) (v := ?_) (a' := ?_) #[false, true, true, true, false, false, false, false, false, false, false, false, false, false, false, false] rfl rfl (by kernel_rfl) (fun _ _ _ h => h) (Or.inl ⟨by rfl, ?_⟩) ?_ ?_
                rotate_left
                · intro w'
                  go_simp
                  with_reducible rfl
                rotate_left
                · simp only [Act.put, List.setIfInBounds_toArray, List.set_cons_zero, List.set_cons_succ, i64_w, i32_w]
                  rfl
                refine pure_ (i := 5) (N := some 75) (v := ?_) (a' := ?_) #[false, true, true, true, false, true, false, false, false, false, false, false, false, false, false, false] rfl rfl (by kernel_rfl) (fun _ _ _ h => h) (Or.inl ⟨by rfl, ?_⟩) ?_ ?_
                rotate_left
                · intro w'
                  go_simp
                  with_reducible rfl
                rotate_left
                · simp only [Act.put, List.setIfInBounds_toArray, List.set_cons_zero, List.set_cons_succ, i64_w, i32_w]
                  rfl
                refine pure_ (i := 6) (N := some 76) (v := ?_) (a' := ?_) #[false, true, true, true, false, true, true, false, false, false, false, false, false, false, false, false] rfl rfl (by kernel_rfl) (fun _ _ _ h => h) (Or.inl ⟨by rfl, ?_⟩) ?_ ?_
                rotate_left
                · intro w'
                  go_simp
                  with_reducible rfl
                rotate_left
                · simp only [Act.put, List.setIfInBounds_toArray, List.set_cons_zero, List.set_cons_succ, i64_w, i32_w]
                  rfl
                refine pure_ (i := 7) (N := some 77) (v := ?_) (a' := ?_) #[false, true, true, true, false, true, true, true, false, false, false, false, false, false, false, false] rfl rfl (by kernel_rfl) (fun _ _ _ h => h) (Or.inl ⟨by rfl, ?_⟩) ?_ ?_
                rotate_left
                · intro w'
                  go_simp
                  with_reducible rfl
                rotate_left
                · simp only [Act.put, List.setIfInBounds_toArray, List.set_cons_zero, List.set_cons_succ, i64_w, i32_w]
                  rfl
                refine take_ (i := 8) (N := some 78) (v := ?_) (a' := ?_) #[false, true, true, true, false, true, true, true, true, false, false, false, false, false, false, false] rfl rfl (by kernel_rfl) (fun _ _ _ h => h) (Or.inl ⟨by rfl, ?_⟩) hHeld ?_ ?_
                rotate_left
                · rintro w' s0
                  go_simp
                  with_reducible rfl
                rotate_left
                · simp only [Act.put, List.setIfInBounds_toArray, List.set_cons_zero, List.set_cons_succ, i64_w, i32_w]
                  rfl
                refine pure_ (i := 11) (N := some 81) (v := ?_) (a' := ?_) #[false, true, true, true, false, true, true, true, true, false, false, true, false, false, false, false] rfl rfl (by kernel_rfl) (fun _ _ _ h => h) (Or.inl ⟨by rfl, ?_⟩) ?_ ?_
                rotate_left
                · intro w'
                  go_simp
                  with_reducible rfl
                rotate_left
                · simp only [Act.put, List.setIfInBounds_toArray, List.set_cons_zero, List.set_cons_succ, i64_w, i32_w]
                  rfl
                refine pure_ (i := 12) (N := some 82) (v := ?_) (a' := ?_) #[false, true, true, true, false, true, true, true, true, false, false, true, true, false, false, false] rfl rfl (by kernel_rfl) (fun _ _ _ h => h) (Or.inl ⟨by rfl, ?_⟩) ?_ ?_
                rotate_left
                · intro w'
                  go_simp
                  with_reducible rfl
                rotate_left
                · simp only [Act.put, List.setIfInBounds_toArray, List.set_cons_zero, List.set_cons_succ, i64_w, i32_w]
                  rfl
                refine pure_ (i := 13) (N := some 83) (v := ?_) (a' := ?_) #[false, true, true, true, false, true, true, true, true, false, false, true, true, true, false, false] rfl rfl (by kernel_rfl) (fun _ _ _ h => h) (Or.inl ⟨by rfl, ?_⟩) ?_ ?_
                rotate_left
                · intro w'
                  go_simp
                  with_reducible rfl
                rotate_left
                · simp only [Act.put, List.setIfInBounds_toArray, List.set_cons_zero, List.set_cons_succ, i64_w, i32_w]
                  rfl
                refine join_ (σ := Value × Value × Value × Value × Value) 1 #[true, true, true, true, true, true, true, true, true, true, true, true, true, true, true, false] (fun s_ => [(70, s_.1), (74, s_.2.1), (79, s_.2.2.1), (80, s_.2.2.2.1), (84, s_.2.2.2.2)]) (fun s_ w' => Kd.R kH 25 w' W0.heap.size (fun _ => True) s_.2.2.2.2 ([] ++ L.take p ++ [(Ai, xi.length, ci)] ++ L.drop p) ∧ Below W0.heap.size W0 w') ?_ ?_
                rotate_left
                · intro hJ
                  refine two_ (i := 0) (j := 9) (Ni := some 70) (Nj := some 79) #[true, true, true, true, false, true, true, true, true, false, false, true, true, true, false, false] #[false, true, true, true, false, true, true, true, true, true, false, true, true, true, false, false] rfl rfl rfl rfl (by kernel_rfl) (by decide) (by decide) (fun K hK => ?_) (fun K hK => ?_)
                  · skip
                    refine Kd.R_lit_step kH W0.heap.size 25 (by rfl) (N := 70) rfl (xs := ([] : List Hdr)) (inner := []) (ok := fun k_ => True) (okp := fun _ => True) ?hr (Reps.none _ _) (fun k_ hk => trivial) trivial HB0.out (below_size HB0.out) (by simp) ?_
                    (case hr => first | (go_simp; done) | (go_simp; rfl))
                    intro v31 w0q ho hb hg hn
                    have HV31 := Aside0.mk ho
                    have HB1 := Aside0.mk hb
                    clear ho hb hg hn
                    refine hK.out _ _ ((Below.cell HB1.out HXL.out).trans HX0.out) (fun hHeld => ?_)
                    clear hK K
                    refine norm_ (a' := ?_) ?_ ?_
                    rotate_left
                    · show Act.put _ (some 70) _ = _
                      simp only [Act.put, List.setIfInBounds_toArray, List.set_cons_zero, List.set_cons_succ, i64_w, i32_w]
                      rfl
                    refine two_ (i := 4) (j := 9) (Ni := some 74) (Nj := some 79) #[true, true, true, true, true, true, true, true, true, false, false, true, true, true, false, false] #[true, true, true, true, false, true, true, true, true, true, false, true, true, true, false, false] rfl rfl rfl rfl (by kernel_rfl) (by decide) (by decide) (fun K hK => ?_) (fun K hK => ?_)
                    · skip
                      refine Kd.R_append_rows_step kH (w0 := W0) W0.heap.size (by rfl) (.tmp 70) (.tmp 73) 22 25 (.slice none 0 0) 24 rfl Try.underlying22 info25 rfl (by decide) (by omega) v31 ([] : List Hdr) (L.take p) _ _ _ (fun _ => True) (fun _ => False) rfl rfl ?aO ?aR (fun _ _ h => h) (fun _ h => h.elim) ?aF HB1.out (below_size HB1.out) ?aL ?_
                      (case aR => exact (Kd.C_below HTK.out HB1.out))
                      (case aO => exact Kd.R_mono HV31.out (fun k_ hk_ => trivial))
                      (case aF => exact fun _ _ => trivial)
                      (case aL => simp only [List.length_append, List.length_take, List.length_drop, List.length_cons, List.length_nil]; have := HLB.out; have := HPL.out; omega)
                      intro v35 w1q ho hb hg hat
                      have HV35 := Aside0.mk ho
                      have HB2 := Aside0.mk hb
                      clear ho hb hg hat
                      refine hK.out _ _ ((Below.cell HB2.out HXL.out).trans HX0.out) (fun hHeld => ?_)
                      clear hK K
                      refine norm_ (a' := ?_) ?_ ?_
                      rotate_left
                      · show Act.put _ (some 74) _ = _
                        simp only [Act.put, List.setIfInBounds_toArray, List.set_cons_zero, List.set_cons_succ, i64_w, i32_w]
                        rfl
                      refine one_ (i := 9) (N := some 79) #[true, true, true, true, true, true, true, true, true, true, false, true, true, true, false, false] rfl rfl (by kernel_rfl) (by decide) (fun K hK => ?_)
                      refine Kd.R_lit_step kH W0.heap.size 25 (by rfl) (N := 79) rfl (xs := [(Ai, xi.length, ci)]) (inner := [hv (Ai, xi.length, ci)]) (ok := fun k_ => some k_ ≠ v35.ownBlock) (okp := fun _ => False) ?hr ?hp (fun k_ hk => hk.elim) ?hf HB2.out (below_size HB2.out) (by simp) ?_
                      (case hf => exact fun e_ => by have := Kd.R_lt HV35.out _ e_.symm; omega)
                      (case hr => first | (go_simp; done) | (go_simp; rfl))
                      (case hp => exact (Reps.one rfl (Reps.none _ _)))
                      intro v40 w2q ho hb hg hn
                      have HV40 := Aside0.mk ho
                      have HB3 := Aside0.mk hb
                      have HVb := Aside0.mk (Kd.R_step (ok := fun k_ => some k_ ≠ v40.ownBlock) (Kd.R_mono (Kd.R_bound HV35.out) (fun k_ hk_ e_ => by obtain ⟨b_, h1_, h2_⟩ := hn; rw [h1_] at e_; injection e_ with e_; have := hk_.2.2.1; omega)) (fun k_ hk_ hl_ => hg.block k_ hl_ (by simp)))
                      clear HV35
                      have HV35 := HVb
                      clear HVb
                      clear ho hb hg hn
                      refine hK.out _ _ ((Below.cell HB3.out HXL.out).trans HX0.out) (fun hHeld => ?_)
                      clear hK K
                      refine norm_ (a' := ?_) ?_ ?_
                      rotate_left
                      · show Act.put _ (some 79) _ = _
                        simp only [Act.put, List.setIfInBounds_toArray, List.set_cons_zero, List.set_cons_succ, i64_w, i32_w]
                        rfl
                      refine one_ (i := 10) (N := some 80) #[true, true, true, true, true, true, true, true, true, true, true, true, true, true, false, false] rfl rfl (by kernel_rfl) (by decide) (fun K hK => ?_)
                      obtain ⟨A40, c40, rfl⟩ := Kd.R_slice HV40.out
                      refine Kd.R_append_rows_step kH (w0 := W0) W0.heap.size (by rfl) (.tmp 74) (.tmp 79) 22 25 (.slice none 0 0) 24 rfl Try.underlying22 info25 rfl (by decide) (by omega) v35 ([] ++ L.take p) [(Ai, xi.length, ci)] _ _ _ (fun _ => True) (fun _ => False) rfl rfl ?aO ?aR (fun _ _ h => h) (fun _ h => h.elim) ?aF HB3.out (below_size HB3.out) ?aL ?_
                      (case aR => exact (Kd.R_reads' HV40.out).2.2)
                      (case aO => exact Kd.R_mono HV35.out (fun k_ hk_ => trivial))
                      (case aF => exact fun _ _ => trivial)
                      (case aL => simp only [List.length_append, List.length_take, List.length_drop, List.length_cons, List.length_nil]; have := HLB.out; have := HPL.out; omega)
                      intro v41 w3q ho hb hg hat
                      have HV41 := Aside0.mk ho
                      have HB4 := Aside0.mk hb
                      clear ho hb hg hat
                      refine hK.out _ _ ((Below.cell HB4.out HXL.out).trans HX0.out) (fun hHeld => ?_)
                      clear hK K
                      refine norm_ (a' := ?_) ?_ ?_
                      rotate_left
                      · show Act.put _ (some 80) _ = _
                        simp only [Act.put, List.setIfInBounds_toArray, List.set_cons_zero, List.set_cons_succ, i64_w, i32_w]
                        rfl
                      refine one_ (i := 14) (N := some 84) #[true, true, true, true, true, true, true, true, true, true, true, true, true, true, true, false] rfl rfl (by kernel_rfl) (by decide) (fun K hK => ?_)
                      refine Kd.R_append_rows_step kH (w0 := W0) W0.heap.size (by rfl) (.tmp 80) (.tmp 83) 22 25 (.slice none 0 0) 24 rfl Try.underlying22 info25 rfl (by decide) (by omega) v41 ([] ++ L.take p ++ [(Ai, xi.length, ci)]) (L.drop p) _ _ _ (fun _ => True) (fun _ => False) rfl rfl ?aO ?aR (fun _ _ h => h) (fun _ h => h.elim) ?aF HB4.out (below_size HB4.out) ?aL ?_
                      (case aR => exact (Kd.C_below HDR.out HB4.out))
                      (case aO => exact Kd.R_mono HV41.out (fun k_ hk_ => trivial))
                      (case aF => exact fun _ _ => trivial)
                      (case aL => simp only [List.length_append, List.length_take, List.length_drop, List.length_cons, List.length_nil]; have := HLB.out; have := HPL.out; omega)
                      intro v45 w4q ho hb hg hat
                      have HV45 := Aside0.mk ho
                      have HB5 := Aside0.mk hb
                      clear ho hb hg hat
                      refine hK.out _ _ ((Below.cell HB5.out HXL.out).trans HX0.out) (fun hHeld => ?_)
                      clear hK K
                      refine norm_ (a' := ?_) ?_ ?_
                      rotate_left
                      · show Act.put _ (some 84) _ = _
                        simp only [Act.put, List.setIfInBounds_toArray, List.set_cons_zero, List.set_cons_succ, i64_w, i32_w]
                        rfl
                      exact norm_ (by simp only [putAll, Act.put, List.setIfInBounds_toArray, List.set_cons_zero, List.set_cons_succ]) (hJ (v31, v35, .slice A40 [(Ai, xi.length, ci)].length c40, v41, v45) _ ⟨HV45.out, HB5.out⟩)
                    · skip
                      refine Kd.R_lit_step kH W0.heap.size 25 (by rfl) (N := 79) rfl (xs := [(Ai, xi.length, ci)]) (inner := [hv (Ai, xi.length, ci)]) (ok := fun k_ => some k_ ≠ v31.ownBlock) (okp := fun _ => False) ?hr ?hp (fun k_ hk => hk.elim) ?hf HB1.out (below_size HB1.out) (by simp) ?_
                      (case hf => exact fun e_ => by have := Kd.R_lt HV31.out _ e_.symm; omega)
                      (case hr => first | (go_simp; done) | (go_simp; rfl))
                      (case hp => exact (Reps.one rfl (Reps.none _ _)))
                      intro v40 w1q ho hb hg hn
                      have HV40 := Aside0.mk ho
                      have HB2 := Aside0.mk hb
                      have HVb := Aside0.mk (Kd.R_step (ok := fun k_ => some k_ ≠ v40.ownBlock) (Kd.R_mono (Kd.R_bound HV31.out) (fun k_ hk_ e_ => by obtain ⟨b_, h1_, h2_⟩ := hn; rw [h1_] at e_; injection e_ with e_; have := hk_.2.2.1; omega)) (fun k_ hk_ hl_ => hg.block k_ hl_ (by simp)))
                      clear HV31
                      have HV31 := HVb
                      clear HVb
                      clear ho hb hg hn
                      refine hK.out _ _ ((Below.cell HB2.out HXL.out).trans HX0.out) (fun hHeld => ?_)
                      clear hK K
                      refine norm_ (a' := ?_) ?_ ?_
                      rotate_left
                      · show Act.put _ (some 79) _ = _
                        simp only [Act.put, List.setIfInBounds_toArray, List.set_cons_zero, List.set_cons_succ, i64_w, i32_w]
                        rfl
                      refine one_ (i := 4) (N := some 74) #[true, true, true, true, true, true, true, true, true, true, false, true, true, true, false, false] rfl rfl (by kernel_rfl) (by decide) (fun K hK => ?_)
                      refine Kd.R_append_rows_step kH (w0 := W0) W0.heap.size (by rfl) (.tmp 70) (.tmp 73) 22 25 (.slice none 0 0) 24 rfl Try.underlying22 info25 rfl (by decide) (by omega) v31 ([] : List Hdr) (L.take p) _ _ _ (fun k_ => some k_ ≠ v40.ownBlock) (fun _ => False) rfl rfl ?aO ?aR (fun _ _ h => h) (fun _ h => h.elim) ?aF HB2.out (below_size HB2.out) ?aL ?_
                      (case aR => exact (Kd.C_below HTK.out HB2.out))
                      (case aO => exact Kd.R_mono HV31.out (fun k_ hk_ => hk_))
                      (case aF => exact fun k_ hk_ e_ => by have := Kd.R_lt HV40.out _ e_.symm; omega)
                      (case aL => simp only [List.length_append, List.length_take, List.length_drop, List.length_cons, List.length_nil]; have := HLB.out; have := HPL.out; omega)
                      intro v35 w2q ho hb hg hat
                      have HV35 := Aside0.mk ho
                      have HB3 := Aside0.mk hb
                      have HV40b := Aside0.mk (Kd.R_after (ok := fun _ => True) (Kd.R_mono HV40.out (fun k_ hk_ => ⟨trivial, hk_⟩)) hg hat)
                      clear HV40
                      have HV40 := Aside0.mk (Kd.R_mono HV40b.out (fun k_ hk_ => hk_.2))
                      clear HV40b
                      clear ho hb hg hat
                      refine hK.out _ _ ((Below.cell HB3.out HXL.out).trans HX0.out) (fun hHeld => ?_)
                      clear hK K
                      refine norm_ (a' := ?_) ?_ ?_
                      rotate_left
                      · show Act.put _ (some 74) _ = _
                        simp only [Act.put, List.setIfInBounds_toArray, List.set_cons_zero, List.set_cons_succ, i64_w, i32_w]
                        rfl
                      refine one_ (i := 10) (N := some 80) #[true, true, true, true, true, true, true, true, true, true, true, true, true, true, false, false] rfl rfl (by kernel_rfl) (by decide) (fun K hK => ?_)
                      obtain ⟨A40, c40, rfl⟩ := Kd.R_slice HV40.out
                      refine Kd.R_append_rows_step kH (w0 := W0) W0.heap.size (by rfl) (.tmp 74) (.tmp 79) 22 25 (.slice none 0 0) 24 rfl Try.underlying22 info25 rfl (by decide) (by omega) v35 ([] ++ L.take p) [(Ai, xi.length, ci)] _ _ _ (fun _ => True) (fun _ => False) rfl rfl ?aO ?aR (fun _ _ h => h) (fun _ h => h.elim) ?aF HB3.out (below_size HB3.out) ?aL ?_
                      (case aR => exact (Kd.R_reads' HV40.out).2.2)
                      (case aO => exact Kd.R_mono HV35.out (fun k_ hk_ => trivial))
                      (case aF => exact fun _ _ => trivial)
                      (case aL => simp only [List.length_append, List.length_take, List.length_drop, List.length_cons, List.length_nil]; have := HLB.out; have := HPL.out; omega)
                      intro v41 w3q ho hb hg hat
                      have HV41 := Aside0.mk ho
                      have HB4 := Aside0.mk hb
                      clear ho hb hg hat
                      refine hK.out _ _ ((Below.cell HB4.out HXL.out).trans HX0.out) (fun hHeld => ?_)
                      clear hK K
                      refine norm_ (a' := ?_) ?_ ?_
                      rotate_left
                      · show Act.put _ (some 80) _ = _
                        simp only [Act.put, List.setIfInBounds_toArray, List.set_cons_zero, List.set_cons_succ, i64_w, i32_w]
                        rfl
                      refine one_ (i := 14) (N := some 84) #[true, true, true, true, true, true, true, true, true, true, true, true, true, true, true, false] rfl rfl (by kernel_rfl) (by decide) (fun K hK => ?_)
                      refine Kd.R_append_rows_step kH (w0 := W0) W0.heap.size (by rfl) (.tmp 80) (.tmp 83) 22 25 (.slice none 0 0) 24 rfl Try.underlying22 info25 rfl (by decide) (by omega) v41 ([] ++ L.take p ++ [(Ai, xi.length, ci)]) (L.drop p) _ _ _ (fun _ => True) (fun _ => False) rfl rfl ?aO ?aR (fun _ _ h => h) (fun _ h => h.elim) ?aF HB4.out (below_size HB4.out) ?aL ?_
                      (case aR => exact (Kd.C_below HDR.out HB4.out))
                      (case aO => exact Kd.R_mono HV41.out (fun k_ hk_ => trivial))
                      (case aF => exact fun _ _ => trivial)
                      (case aL => simp only [List.length_append, List.length_take, List.length_drop, List.length_cons, List.length_nil]; have := HLB.out; have := HPL.out; omega)
                      intro v45 w4q ho hb hg hat
                      have HV45 := Aside0.mk ho
                      have HB5 := Aside0.mk hb
                      clear ho hb hg hat
                      refine hK.out _ _ ((Below.cell HB5.out HXL.out).trans HX0.out) (fun hHeld => ?_)
                      clear hK K
                      refine norm_ (a' := ?_) ?_ ?_
                      rotate_left
                      · show Act.put _ (some 84) _ = _
                        simp only [Act.put, List.setIfInBounds_toArray, List.set_cons_zero, List.set_cons_succ, i64_w, i32_w]
                        rfl
                      exact norm_ (by simp only [putAll, Act.put, List.setIfInBounds_toArray, List.set_cons_zero, List.set_cons_succ]) (hJ (v31, v35, .slice A40 [(Ai, xi.length, ci)].length c40, v41, v45) _ ⟨HV45.out, HB5.out⟩)
                  · skip
                    refine Kd.R_lit_step kH W0.heap.size 25 (by rfl) (N := 79) rfl (xs := [(Ai, xi.length, ci)]) (inner := [hv (Ai, xi.length, ci)]) (ok := fun k_ => True) (okp := fun _ => True) ?hr ?hp (fun _ hk => hk) trivial HB0.out (below_size HB0.out) (by simp) ?_
                    (case hr => first | (go_simp; done) | (go_simp; rfl))
                    (case hp => exact (Reps.one rfl (Reps.none _ _)))
                    intro v40 w0q ho hb hg hn
                    have HV40 := Aside0.mk ho
                    have HB1 := Aside0.mk hb
                    clear ho hb hg hn
                    refine hK.out _ _ ((Below.cell HB1.out HXL.out).trans HX0.out) (fun hHeld => ?_)
                    clear hK K
                    refine norm_ (a' := ?_) ?_ ?_
                    rotate_left
                    · show Act.put _ (some 79) _ = _
                      simp only [Act.put, List.setIfInBounds_toArray, List.set_cons_zero, List.set_cons_succ, i64_w, i32_w]
                      rfl
                    refine one_ (i := 0) (N := some 70) #[true, true, true, true, false, true, true, true, true, true, false, true, true, true, false, false] rfl rfl (by kernel_rfl) (by decide) (fun K hK => ?_)
                    refine Kd.R_lit_step kH W0.heap.size 25 (by rfl) (N := 70) rfl (xs := ([] : List Hdr)) (inner := []) (ok := fun k_ => some k_ ≠ v40.ownBlock) (okp := fun _ => False) ?hr (Reps.none _ _) (fun k_ hk => hk.elim) ?hf HB1.out (below_size HB1.out) (by simp) ?_
                    (case hf => exact fun e_ => by have := Kd.R_lt HV40.out _ e_.symm; omega)
                    (case hr => first | (go_simp; done) | (go_simp; rfl))
                    intro v31 w1q ho hb hg hn
                    have HV31 := Aside0.mk ho
                    have HB2 := Aside0.mk hb
                    have HV40b := Aside0.mk (Kd.R_step (ok := fun k_ => some k_ ≠ v31.ownBlock) (Kd.R_mono (Kd.R_bound HV40.out) (fun k_ hk_ e_ => by obtain ⟨b_, h1_, h2_⟩ := hn; rw [h1_] at e_; injection e_ with e_; have := hk_.2.2.1; omega)) (fun k_ hk_ hl_ => hg.block k_ hl_ (by simp)))
                    clear HV40
                    have HV40 := HV40b
                    clear HV40b
                    clear ho hb hg hn
                    refine hK.out _ _ ((Below.cell HB2.out HXL.out).trans HX0.out) (fun hHeld => ?_)
                    clear hK K
                    refine norm_ (a' := ?_) ?_ ?_
                    rotate_left
                    · show Act.put _ (some 70) _ = _
                      simp only [Act.put, List.setIfInBounds_toArray, List.set_cons_zero, List.set_cons_succ, i64_w, i32_w]
                      rfl
                    refine one_ (i := 4) (N := some 74) #[true, true, true, true, true, true, true, true, true, true, false, true, true, true, false, false] rfl rfl (by kernel_rfl) (by decide) (fun K hK => ?_)
                    refine Kd.R_append_rows_step kH (w0 := W0) W0.heap.size (by rfl) (.tmp 70) (.tmp 73) 22 25 (.slice none 0 0) 24 rfl Try.underlying22 info25 rfl (by decide) (by omega) v31 ([] : List Hdr) (L.take p) _ _ _ (fun k_ => some k_ ≠ v40.ownBlock) (fun _ => False) rfl rfl ?aO ?aR (fun _ _ h => h) (fun _ h => h.elim) ?aF HB2.out (below_size HB2.out) ?aL ?_
                    (case aR => exact (Kd.C_below HTK.out HB2.out))
                    (case aO => exact Kd.R_mono HV31.out (fun k_ hk_ => hk_))
                    (case aF => exact fun k_ hk_ e_ => by have := Kd.R_lt HV40.out _ e_.symm; omega)
                    (case aL => simp only [List.length_append, List.length_take, List.length_drop, List.length_cons, List.length_nil]; have := HLB.out; have := HPL.out; omega)
                    intro v35 w2q ho hb hg hat
                    have HV35 := Aside0.mk ho
                    have HB3 := Aside0.mk hb
                    have HV40b := Aside0.mk (Kd.R_after (ok := fun _ => True) (Kd.R_mono HV40.out (fun k_ hk_ => ⟨trivial, hk_⟩)) hg hat)
                    clear HV40
                    have HV40 := Aside0.mk (Kd.R_mono HV40b.out (fun k_ hk_ => hk_.2))
                    clear HV40b
                    clear ho hb hg hat
                    refine hK.out _ _ ((Below.cell HB3.out HXL.out).trans HX0.out) (fun hHeld => ?_)
                    clear hK K
                    refine norm_ (a' := ?_) ?_ ?_
                    rotate_left
                    · show Act.put _ (some 74) _ = _
                      simp only [Act.put, List.setIfInBounds_toArray, List.set_cons_zero, List.set_cons_succ, i64_w, i32_w]
                      rfl
                    refine one_ (i := 10) (N := some 80) #[true, true, true, true, true, true, true, true, true, true, true, true, true, true, false, false] rfl rfl (by kernel_rfl) (by decide) (fun K hK => ?_)
                    obtain ⟨A40, c40, rfl⟩ := Kd.R_slice HV40.out
                    refine Kd.R_append_rows_step kH (w0 := W0) W0.heap.size (by rfl) (.tmp 74) (.tmp 79) 22 25 (.slice none 0 0) 24 rfl Try.underlying22 info25 rfl (by decide) (by omega) v35 ([] ++ L.take p) [(Ai, xi.length, ci)] _ _ _ (fun _ => True) (fun _ => False) rfl rfl ?aO ?aR (fun _ _ h => h) (fun _ h => h.elim) ?aF HB3.out (below_size HB3.out) ?aL ?_
                    (case aR => exact (Kd.R_reads' HV40.out).2.2)
                    (case aO => exact Kd.R_mono HV35.out (fun k_ hk_ => trivial))
                    (case aF => exact fun _ _ => trivial)
                    (case aL => simp only [List.length_append, List.length_take, List.length_drop, List.length_cons, List.length_nil]; have := HLB.out; have := HPL.out; omega)
                    intro v41 w3q ho hb hg hat
                    have HV41 := Aside0.mk ho
                    have HB4 := Aside0.mk hb
                    clear ho hb hg hat
                    refine hK.out _ _ ((Below.cell HB4.out HXL.out).trans HX0.out) (fun hHeld => ?_)
                    clear hK K
                    refine norm_ (a' := ?_) ?_ ?_
                    rotate_left
                    · show Act.put _ (some 80) _ = _
                      simp only [Act.put, List.setIfInBounds_toArray, List.set_cons_zero, List.set_cons_succ, i64_w, i32_w]
                      rfl
                    refine one_ (i := 14) (N := some 84) #[true, true, true, true, true, true, true, true, true, true, true, true, true, true, true, false] rfl rfl (by kernel_rfl) (by decide) (fun K hK => ?_)
                    refine Kd.R_append_rows_step kH (w0 := W0) W0.heap.size (by rfl) (.tmp 80) (.tmp 83) 22 25 (.slice none 0 0) 24 rfl Try.underlying22 info25 rfl (by decide) (by omega) v41 ([] ++ L.take p ++ [(Ai, xi.length, ci)]) (L.drop p) _ _ _ (fun _ => True) (fun _ => False) rfl rfl ?aO ?aR (fun _ _ h => h) (fun _ h => h.elim) ?aF HB4.out (below_size HB4.out) ?aL ?_
                    (case aR => exact (Kd.C_below HDR.out HB4.out))
                    (case aO => exact Kd.R_mono HV41.out (fun k_ hk_ => trivial))
                    (case aF => exact fun _ _ => trivial)
                    (case aL => simp only [List.length_append, List.length_take, List.length_drop, List.length_cons, List.length_nil]; have := HLB.out; have := HPL.out; omega)
                    intro v45 w4q ho hb hg hat
                    have HV45 := Aside0.mk ho
                    have HB5 := Aside0.mk hb
                    clear ho hb hg hat
                    refine hK.out _ _ ((Below.cell HB5.out HXL.out).trans HX0.out) (fun hHeld => ?_)
                    clear hK K
                    refine norm_ (a' := ?_) ?_ ?_
                    rotate_left
                    · show Act.put _ (some 84) _ = _
                      simp only [Act.put, List.setIfInBounds_toArray, List.set_cons_zero, List.set_cons_succ, i64_w, i32_w]
                      rfl
                    exact norm_ (by simp only [putAll, Act.put, List.setIfInBounds_toArray, List.set_cons_zero, List.set_cons_succ]) (hJ (v31, v35, .slice A40 [(Ai, xi.length, ci)].length c40, v41, v45) _ ⟨HV45.out, HB5.out⟩)
                rintro ⟨u31, u35, u40, u41, v45⟩ w9 ⟨f1, f2⟩
                have HF1 := Aside0.mk f1
                have HF2 := Aside0.mk f2
                simp only at HF1
                clear f1 f2 hHeld
                refine norm_ (a' := ?_) ?_ ?_
                rotate_left
                · simp only [putAll, Act.put, List.setIfInBounds_toArray, List.set_cons_zero, List.set_cons_succ]
                  rfl
                refine pure_ (i := 15) (N := some 3) (v := ?_) (a' := ?_) #[true, true, true, true, true, true, true, true, true, true, true, true, true, true, true, true] rfl rfl (by kernel_rfl) (fun _ _ _ h => h) (Or.inl ⟨by rfl, ?_⟩) ?_ ?_
                rotate_left
                · intro w'
                  go_simp
                  with_reducible rfl
                rotate_left
                · simp only [Act.put, List.setIfInBounds_toArray, List.set_cons_zero, List.set_cons_succ, i64_w, i32_w]
                  rfl
                refine done_ (by kernel_rfl) ?_
                have HFIN : Aside0 (Kd.R kH 25 w9 w.heap.size (fun _ => True) v45 ((oT gens (i + 1)).map H)) := ⟨by rw [← HINS.out]; exact Kd.R_lower HF1.out (below_size HBZ2.out)⟩
                have HBF := Aside0.mk (below_step HBZ2.out HF2.out)
                go_wp2
                go_roundg kq
                case measure => have := HI.out; omega
                case rel => exact ⟨i + 1, by first | rfl | rw [hw1], ⟨by have := HI.out; omega⟩, HFIN, HBF⟩
        | succ kq2 =>
          have hk : k < G := by have := HK.out; omega
          have hq5 : ((k : Int) < (G : Int)) = True := eq_true (by omega)
          have hw2 : wrap64 ((k : Int) + 1) = ((k + 1 : Nat) : Int) := wrapS (by have := HGL.out; omega)
          obtain ⟨ad2, e2, hyc, hyr⟩ := HH.out k hk
          injection e2 with e2
          subst e2
          obtain ⟨⟨Ak, nk, ck⟩, hHk⟩ : ∃ h, h = H k := ⟨_, rfl⟩
          rw [← hHk] at hyc hyr
          obtain rfl : nk = gens[k]!.length := hyr.1
          obtain ⟨y, hy⟩ : ∃ y, y = gens[k]! := ⟨_, rfl⟩
          rw [← hy] at hyc hyr
          have hyw : (wr.drewN m).cell? (ad.add k) = some (.slice Ak y.length ck) := pw_cell_below HB.out hyc
          have hxw : (wr.drewN m).cell? (ad.add i) = some (.slice Ai xi.length ci) := HXC.out
          have hyw0 : wr.cell? (ad.add k) = some (.slice Ak y.length ck) := pw_cell_below HB.out hyc
          have HYR := Aside0.mk (hyr.below HB.out)
          obtain ⟨K1, hK1⟩ := HDIV.out i k hi hk
          obtain ⟨K2, hK2⟩ := HSAM.out i k hi hk
          have HOK : Aside0 (okI gens i (k + 1) = (okI gens i k && !condI gens i k)) := ⟨rfl⟩
          unfold condI at HOK
          rw [← hy, ← HXI.out] at hK1 hK2 HOK
          obtain ⟨b0, hb0⟩ : ∃ b, okI gens i k = b := ⟨_, rfl⟩
          obtain ⟨b1, hb1⟩ : ∃ b, divL y xi = b := ⟨_, rfl⟩
          obtain ⟨b2, hb2⟩ : ∃ b, decide (y = xi) = b := ⟨_, rfl⟩
          rw [hb1] at hK1
          rw [hb2] at hK2
          rw [hb0, hb1, hb2] at HOK
          rw [hb0]
          have HK1 := Aside0.mk hK1
          have HK2 := Aside0.mk hK2
          clear hyc hyr hHk hy hK1 hK2 hb0 hb1 hb2
          by_cases hki : k = i
          · have d0 : ((k : Int) != (i : Int)) = false := by simp [hki]
            have HOK2 : Aside0 (okI gens i (k + 1) = b0) := ⟨by rw [HOK.out, hki]; simp⟩
            clear HOK
            go_wp2
            go_quiet (first | (go_at_call 24; first | exact quiet_of_drawn2 (woggleref04_Divides.calls K1 Ak ck y Ai ci xi _ _ (Kd.C_drewN HYR.out.2.2 _) HYR.out.2.1 (Kd.C_drewN HXR.out.2.2 _) HXR.out.2.1 HK1.out) | exact quiet_of_drawn (woggleref04_Divides.calls K1 Ak ck y Ai ci xi _ _ (Kd.C_drewN HYR.out.2.2 _) HYR.out.2.1 (Kd.C_drewN HXR.out.2.2 _) HXR.out.2.1 HK1.out)) | (go_at_call 31; first | exact quiet_of_drawn2 (woggleref01_Same.calls K2 Ak ck y Ai ci xi _ _ (Kd.C_drewN HYR.out.2.2 _) HYR.out.2.1 (Kd.C_drewN HXR.out.2.2 _) HXR.out.2.1 HK2.out) | exact quiet_of_drawn (woggleref01_Same.calls K2 Ak ck y Ai ci xi _ _ (Kd.C_drewN HYR.out.2.2 _) HYR.out.2.1 (Kd.C_drewN HXR.out.2.2 _) HXR.out.2.1 HK2.out)))
            go_wp2
            go_roundg kq2
            case measure => have := HK.out; omega
            case rel => exact ⟨k + 1, _, by first | rfl | rw [hw2] | (rw [hki, hw1]), by rw [HOK2.out], ⟨by have := HK.out; omega⟩, by first | rfl | (rw [World.drewN_drewN]) | (simp)⟩
          · have d0 : ((k : Int) != (i : Int)) = true := by simp; omega
            have hkd : decide (k ≠ i) = true := decide_eq_true hki
            rw [hkd] at HOK
            cases b1 with
            | false =>
              have HOK2 : Aside0 (okI gens i (k + 1) = b0) := ⟨by rw [HOK.out]; simp⟩
              clear HOK
              go_wp2
              go_quiet (first | (go_at_call 24; first | exact quiet_of_drawn2 (woggleref04_Divides.calls K1 Ak ck y Ai ci xi _ _ (Kd.C_drewN HYR.out.2.2 _) HYR.out.2.1 (Kd.C_drewN HXR.out.2.2 _) HXR.out.2.1 HK1.out) | exact quiet_of_drawn (woggleref04_Divides.calls K1 Ak ck y Ai ci xi _ _ (Kd.C_drewN HYR.out.2.2 _) HYR.out.2.1 (Kd.C_drewN HXR.out.2.2 _) HXR.out.2.1 HK1.out)) | (go_at_call 31; first | exact quiet_of_drawn2 (woggleref01_Same.calls K2 Ak ck y Ai ci xi _ _ (Kd.C_drewN HYR.out.2.2 _) HYR.out.2.1 (Kd.C_drewN HXR.out.2.2 _) HXR.out.2.1 HK2.out) | exact quiet_of_drawn (woggleref01_Same.calls K2 Ak ck y Ai ci xi _ _ (Kd.C_drewN HYR.out.2.2 _) HYR.out.2.1 (Kd.C_drewN HXR.out.2.2 _) HXR.out.2.1 HK2.out)))
              go_wp2
              go_roundg kq2
              case measure => have := HK.out; omega
              case rel => exact ⟨k + 1, _, by first | rfl | rw [hw2] | (rw [hki, hw1]), by rw [HOK2.out], ⟨by have := HK.out; omega⟩, by first | rfl | (rw [World.drewN_drewN]) | (simp)⟩
            | true =>
              cases b2 with
              | false =>
                have HOK2 : Aside0 (okI gens i (k + 1) = false) := ⟨by rw [HOK.out]; simp⟩
                clear HOK
                go_wp2
                go_quiet (first | (go_at_call 24; first | exact quiet_of_drawn2 (woggleref04_Divides.calls K1 Ak ck y Ai ci xi _ _ (Kd.C_drewN HYR.out.2.2 _) HYR.out.2.1 (Kd.C_drewN HXR.out.2.2 _) HXR.out.2.1 HK1.out) | exact quiet_of_drawn (woggleref04_Divides.calls K1 Ak ck y Ai ci xi _ _ (Kd.C_drewN HYR.out.2.2 _) HYR.out.2.1 (Kd.C_drewN HXR.out.2.2 _) HXR.out.2.1 HK1.out)) | (go_at_call 31; first | exact quiet_of_drawn2 (woggleref01_Same.calls K2 Ak ck y Ai ci xi _ _ (Kd.C_drewN HYR.out.2.2 _) HYR.out.2.1 (Kd.C_drewN HXR.out.2.2 _) HXR.out.2.1 HK2.out) | exact quiet_of_drawn (woggleref01_Same.calls K2 Ak ck y Ai ci xi _ _ (Kd.C_drewN HYR.out.2.2 _) HYR.out.2.1 (Kd.C_drewN HXR.out.2.2 _) HXR.out.2.1 HK2.out)))
                go_wp2
                go_roundg kq2
                case measure => have := HK.out; omega
                case rel => exact ⟨k + 1, _, by first | rfl | rw [hw2] | (rw [hki, hw1]), by rw [HOK2.out], ⟨by have := HK.out; omega⟩, by first | rfl | (rw [World.drewN_drewN]) | (simp)⟩
              | true =>
                by_cases hlt : k < i
                · have d4 : ((k : Int) < (i : Int)) = True := eq_true (by omega)
                  have d5 : decide (k < i) = true := decide_eq_true hlt
                  rw [d5] at HOK
                  have HOK2 : Aside0 (okI gens i (k + 1) = false) := ⟨by rw [HOK.out]; simp⟩
                  clear HOK
                  go_wp2
                  go_quiet (first | (go_at_call 24; first | exact quiet_of_drawn2 (woggleref04_Divides.calls K1 Ak ck y Ai ci xi _ _ (Kd.C_drewN HYR.out.2.2 _) HYR.out.2.1 (Kd.C_drewN HXR.out.2.2 _) HXR.out.2.1 HK1.out) | exact quiet_of_drawn (woggleref04_Divides.calls K1 Ak ck y Ai ci xi _ _ (Kd.C_drewN HYR.out.2.2 _) HYR.out.2.1 (Kd.C_drewN HXR.out.2.2 _) HXR.out.2.1 HK1.out)) | (go_at_call 31; first | exact quiet_of_drawn2 (woggleref01_Same.calls K2 Ak ck y Ai ci xi _ _ (Kd.C_drewN HYR.out.2.2 _) HYR.out.2.1 (Kd.C_drewN HXR.out.2.2 _) HXR.out.2.1 HK2.out) | exact quiet_of_drawn (woggleref01_Same.calls K2 Ak ck y Ai ci xi _ _ (Kd.C_drewN HYR.out.2.2 _) HYR.out.2.1 (Kd.C_drewN HXR.out.2.2 _) HXR.out.2.1 HK2.out)))
                  go_wp2
                  go_roundg kq2
                  case measure => have := HK.out; omega
                  case rel => exact ⟨k + 1, _, by first | rfl | rw [hw2] | (rw [hki, hw1]), by rw [HOK2.out], ⟨by have := HK.out; omega⟩, by first | rfl | (rw [World.drewN_drewN]) | (simp)⟩
                · have d4 : ((k : Int) < (i : Int)) = False := eq_false (by omega)
                  have d5 : decide (k < i) = false := decide_eq_false hlt
                  rw [d5] at HOK
                  have HOK2 : Aside0 (okI gens i (k + 1) = b0) := ⟨by rw [HOK.out]; simp⟩
                  clear HOK
                  go_wp2
                  go_quiet (first | (go_at_call 24; first | exact quiet_of_drawn2 (woggleref04_Divides.calls K1 Ak ck y Ai ci xi _ _ (Kd.C_drewN HYR.out.2.2 _) HYR.out.2.1 (Kd.C_drewN HXR.out.2.2 _) HXR.out.2.1 HK1.out) | exact quiet_of_drawn (woggleref04_Divides.calls K1 Ak ck y Ai ci xi _ _ (Kd.C_drewN HYR.out.2.2 _) HYR.out.2.1 (Kd.C_drewN HXR.out.2.2 _) HXR.out.2.1 HK1.out)) | (go_at_call 31; first | exact quiet_of_drawn2 (woggleref01_Same.calls K2 Ak ck y Ai ci xi _ _ (Kd.C_drewN HYR.out.2.2 _) HYR.out.2.1 (Kd.C_drewN HXR.out.2.2 _) HXR.out.2.1 HK2.out) | exact quiet_of_drawn (woggleref01_Same.calls K2 Ak ck y Ai ci xi _ _ (Kd.C_drewN HYR.out.2.2 _) HYR.out.2.1 (Kd.C_drewN HXR.out.2.2 _) HXR.out.2.1 HK2.out)))
                  go_wp2
                  go_roundg kq2
                  case measure => have := HK.out; omega
                  case rel => exact ⟨k + 1, _, by first | rfl | rw [hw2] | (rw [hki, hw1]), by rw [HOK2.out], ⟨by have := HK.out; omega⟩, by first | rfl | (rw [World.drewN_drewN]) | (simp)⟩
end Go.Proofs.Ytjkfjnempofihaa.Fi
