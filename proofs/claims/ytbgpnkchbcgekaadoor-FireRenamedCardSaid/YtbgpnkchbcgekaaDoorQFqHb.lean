/- The calls of fire.read and fire.lit: a valid graph is laid in memory as its number of vertices and the sets of their neighbours; an invalid one is refused. -/
import Derived.Test.YtbgpnkchbcgekaaDoorQFqFi1
import Derived.Test.YtbgpnkchbcgekaaDoorQFqS6
namespace Go.Proofs.YtbgpnkchbcgekaaDoor.Fi
open Go.RowKit Go.Proofs.YtbgpnkchbcgekaaDoorW.PrintWords Go.Proofs.YtbgpnkchbcgekaaDoorW.PrintLast Go.Proofs.YtbgpnkchbcgekaaDoorW.PrintMore
attribute [local go_sem] max2_int min2_int max_two min_two max_three min_three max_four min_four
set_option linter.unusedVariables false
set_option linter.unusedSimpArgs false
def toI (xs : List Nat) : List Int := xs.map fun (x : Nat) => (x : Int)
def okE (n : Nat) (e : S42) : Prop := 0 ≤ e.f0 ∧ 0 ≤ e.f1 ∧ e.f0 < n ∧ e.f1 < n ∧ e.f0 ≠ e.f1
def addS (xs : List Nat) (e : S42) : List Nat :=
  let ys := xs.set e.f0.toNat (xs.getD e.f0.toNat 0 ||| 2 ^ e.f1.toNat)
  ys.set e.f1.toNat (ys.getD e.f1.toNat 0 ||| 2 ^ e.f0.toNat)
def nearS (n : Nat) (l : List S42) : List Nat := l.foldl addS (List.replicate n 0)
theorem addS_length (xs : List Nat) (e : S42) : (addS xs e).length = xs.length := by simp [addS]
theorem foldl_addS_length (l : List S42) : ∀ xs : List Nat, (l.foldl addS xs).length = xs.length := by
  induction l with
  | nil => intro xs; rfl
  | cons e l ih => intro xs; rw [List.foldl_cons, ih, addS_length]
theorem nearS_length (n : Nat) (l : List S42) : (nearS n l).length = n := by
  unfold nearS
  rw [foldl_addS_length, List.length_replicate]
theorem getD_mem_or (xs : List Nat) (i : Nat) : xs.getD i 0 = 0 ∨ xs.getD i 0 ∈ xs := by
  rw [List.getD_eq_getElem?_getD]
  rcases Nat.lt_or_ge i xs.length with h | h
  · right; rw [List.getElem?_eq_getElem h]; simp
  · left; rw [List.getElem?_eq_none h]; rfl
theorem getD_lt {xs : List Nat} {m : Nat} (h : ∀ x ∈ xs, x < 2 ^ m) (i : Nat) : xs.getD i 0 < 2 ^ m := by
  rcases getD_mem_or xs i with e | e
  · rw [e]; exact Nat.two_pow_pos m
  · exact h _ e
theorem addS_lt {n : Nat} {xs : List Nat} (h : ∀ x ∈ xs, x < 2 ^ n) {e : S42} (he : okE n e) : ∀ x ∈ addS xs e, x < 2 ^ n := by
  obtain ⟨h0, h1, h2, h3, _⟩ := he
  have p0 : 2 ^ e.f0.toNat < 2 ^ n := Nat.pow_lt_pow_right (by omega) (by omega)
  have p1 : 2 ^ e.f1.toNat < 2 ^ n := Nat.pow_lt_pow_right (by omega) (by omega)
  have hy : ∀ x ∈ xs.set e.f0.toNat (xs.getD e.f0.toNat 0 ||| 2 ^ e.f1.toNat), x < 2 ^ n := by
    intro x hx
    rcases List.mem_or_eq_of_mem_set hx with hx | rfl
    · exact h x hx
    · exact Nat.or_lt_two_pow (getD_lt h _) p1
  intro x hx
  rcases List.mem_or_eq_of_mem_set hx with hx | rfl
  · exact hy x hx
  · exact Nat.or_lt_two_pow (getD_lt hy _) p0
theorem foldl_addS_lt {n : Nat} (l : List S42) : ∀ xs : List Nat, (∀ x ∈ xs, x < 2 ^ n) → (∀ e ∈ l, okE n e) → ∀ x ∈ l.foldl addS xs, x < 2 ^ n := by
  induction l with
  | nil => intro xs h _; exact h
  | cons e l ih => intro xs h he; exact ih _ (addS_lt h (he e (by simp))) (fun e' h' => he e' (by simp [h']))
theorem nearS_lt {n : Nat} {l : List S42} (he : ∀ e ∈ l, okE n e) : ∀ x ∈ nearS n l, x < 2 ^ n :=
  foldl_addS_lt l _ (fun x hx => by rw [List.eq_of_mem_replicate hx]; exact Nat.two_pow_pos n) he
theorem toI_length (xs : List Nat) : (toI xs).length = xs.length := by simp [toI]
theorem toI_get (xs : List Nat) (i : Nat) (h : i < xs.length) : (nums .u16 (toI xs)).toArray[i]? = some (.int .u16 ((xs.getD i 0 : Nat) : Int)) := by
  simp [nums, toI, List.getD_eq_getElem?_getD, List.getElem?_eq_getElem h]
theorem toI_set (xs : List Nat) (i v : Nat) : (nums .u16 (toI xs)).toArray.setIfInBounds i (.int .u16 (v : Int)) = (nums .u16 (toI (xs.set i v))).toArray := by
  simp [nums, toI, List.map_set]
structure Rd (w wr : World) (n : Nat) (xs : List Nat) : Prop where
  row : wr.heap[w.heap.size]? = some (.cells (nums .u16 (toI xs)).toArray 81 (0, 0))
  st : wr.heap[w.heap.size + 1]? = some (.cells #[.int .i64 n, .slice (some ⟨w.heap.size, 0, none⟩) n n] 105 (0, 0))
  bel : Below w.heap.size w wr
theorem Rd.drew {w wr : World} {n : Nat} {xs : List Nat} (h : Rd w wr n xs) : Rd w wr.drew n xs := ⟨h.row, h.st, below_drew h.bel⟩
theorem Rd.alloc {w wr : World} {n : Nat} {xs : List Nat} (h : Rd w wr n xs) (o : Obj) : Rd w (wr.alloc o) n xs := ⟨blk_alloc h.row o, blk_alloc h.st o, below_alloc h.bel o⟩
theorem Rd.set {w wr : World} {n : Nat} {xs : List Nat} (h : Rd w wr n xs) (i v : Nat) : Rd w (wr.setCell ⟨w.heap.size, i, none⟩ (.int .u16 (v : Int))) n (xs.set i v) :=
  ⟨by rw [blk_set h.row, toI_set], blk_far h.st (by simp) _, below_set h.bel (Nat.le_refl _)⟩
theorem Rd.step {w wr : World} {n : Nat} {xs : List Nat} (h : Rd w wr n xs) (hl : xs.length = n) (hn : n ≤ 10) (hx : ∀ x ∈ xs, x < 2 ^ n) (e : S42) (he : okE n e) {x0 x1 : Nat} (e0 : x0 = xs.getD e.f0.toNat 0) (e1 : x1 = xs.getD e.f1.toNat 0) (o : Obj) :
    Rd w ((((wr.alloc o).setCell ⟨w.heap.size, e.f0.toNat, none⟩ (.int .u16 (Go.bits .or .u16 (x0 : Int) (IntKind.u16.wrap (2 ^ e.f1.toNat))))).setCell ⟨w.heap.size, e.f1.toNat, none⟩ (.int .u16 (Go.bits .or .u16 (x1 : Int) (IntKind.u16.wrap (2 ^ e.f0.toNat)))))) n (addS xs e) := by
  obtain ⟨h0, h1, h2, h3, h4⟩ := he
  have q : ∀ i : Nat, i < 10 → IntKind.u16.wrap (2 ^ i) = ((2 ^ i : Nat) : Int) := by
    intro i hi
    have := Wog.shl16 i (by omega)
    unfold shl at this
    rw [Int.toNat_natCast, Int.one_mul] at this
    rw [← this]
    show _ = IntKind.u16.wrap (2 ^ min i 16)
    rw [Nat.min_eq_left (by omega)]
  have b : ∀ i : Nat, i < 10 → 2 ^ i < 65536 := fun i hi => Nat.lt_of_lt_of_le (Nat.pow_lt_pow_right (a := 2) (by omega) hi) (by omega)
  have hg : ∀ i, xs.getD i 0 < 65536 := fun i => Nat.lt_of_lt_of_le (getD_lt hx i) (Nat.le_trans (Nat.pow_le_pow_right (by omega) hn) (by omega))
  subst e0 e1
  rw [q _ (by omega), q _ (by omega), Wog.or16 _ _ (hg _) (b _ (by omega)), Wog.or16 _ _ (hg _) (b _ (by omega))]
  have r := ((h.alloc o).set e.f0.toNat (xs.getD e.f0.toNat 0 ||| 2 ^ e.f1.toNat)).set e.f1.toNat (xs.getD e.f1.toNat 0 ||| 2 ^ e.f0.toNat)
  have e2 : addS xs e = (xs.set e.f0.toNat (xs.getD e.f0.toNat 0 ||| 2 ^ e.f1.toNat)).set e.f1.toNat (xs.getD e.f1.toNat 0 ||| 2 ^ e.f0.toNat) := by
    have e3 : ∀ v, (xs.set e.f0.toNat v).getD e.f1.toNat 0 = xs.getD e.f1.toNat 0 := fun v => by
      rw [List.getD_eq_getElem?_getD, List.getElem?_set_ne (by omega), ← List.getD_eq_getElem?_getD]
    show (xs.set e.f0.toNat _).set e.f1.toNat ((xs.set e.f0.toNat _).getD e.f1.toNat 0 ||| _) = _
    rw [e3]
  rw [e2]
  exact r
def ReadPost (n : Nat) (l : List S42) (w : World) (e : Ending) (w' : World) : Prop :=
  ((∀ x ∈ l, okE n x) → e = .returned (.tuple #[.pointer (some ⟨w.heap.size + 1, 0, none⟩), .bool true]) ∧ Rd w w' n (nearS n l)) ∧
  (¬ (∀ x ∈ l, okE n x) → e = .returned (.tuple #[.pointer none, .bool false]) ∧ Below w.heap.size w w')
theorem ReadPost.no {n : Nat} {l : List S42} {w w' : World} {e : Ending} {k : Nat} (hk : k < l.length) (h : ¬ okE n (rd_T42 l k)) (he : e = .returned (.tuple #[.pointer none, .bool false])) (hb : Below w.heap.size w w') : ReadPost n l w e w' := by
  refine ⟨fun hall => absurd (hall (rd_T42 l k) ?_) h, fun _ => ⟨he, hb⟩⟩
  unfold rd_T42
  rw [Int.toNat_natCast, List.getD_eq_getElem?_getD, List.getElem?_eq_getElem hk]
  simp
theorem rd_mem {l : List S42} {k : Nat} (hk : k < l.length) : rd_T42 l k = l[k] := by
  unfold rd_T42
  rw [Int.toNat_natCast, List.getD_eq_getElem?_getD, List.getElem?_eq_getElem hk]
  simp
theorem near_snoc (n : Nat) (l : List S42) (k : Nat) (hk : k < l.length) : nearS n (l.take (k + 1)) = addS (nearS n (l.take k)) (rd_T42 l k) := by
  rw [rd_mem hk, List.take_succ_eq_append_getElem hk]
  unfold nearS
  rw [List.foldl_append]
  rfl
theorem all_snoc {n : Nat} {l : List S42} {k : Nat} (hk : k < l.length) (h : ∀ x ∈ l.take k, okE n x) (he : okE n (rd_T42 l k)) : ∀ x ∈ l.take (k + 1), okE n x := by
  intro x hx
  rw [List.take_succ_eq_append_getElem hk, List.mem_append] at hx
  rcases hx with hx | hx
  · exact h x hx
  · rw [List.mem_singleton] at hx
    rw [hx, ← rd_mem hk]
    exact he
set_option maxHeartbeats 2000000 in
set_option maxRecDepth 100000 in
theorem read_ok (n : Nat) (A : Option Addr) (c : Nat) (l : List S42) (w : World) (hr : Kd.C k42 w A l.length l) (hc : l.length ≤ c) (h1 : 1 ≤ n) (h2 : n ≤ 10) (h3 : l.length ≤ 60) :
    Calls Tryd.prog 49 #[.int .i64 n, .slice A l.length c] w (ReadPost n l w) := by
  have HR := Aside0.mk hr
  clear hr
  have b1 : decide ((n : Int) < 1) = false := by simp; omega
  have b2 : decide ((10 : Int) < n) = false := by simp; omega
  have b3 : decide ((60 : Int) < (l.length : Int)) = false := by simp; omega
  have b4 : decide (60 < l.length) = false := by simp; omega
  have hmk := print_make (P := Tryd.prog) 94 81 .u16 2 Tryd.underlying94 info81 (by decide) n (by omega)
  go_enter Tryd.func49, Tryd.ntmps49
  go_wp2
  go_loopw [27] (fun i wr => ∃ k : Nat, k ≤ l.length ∧ i = .int .i64 k ∧ Aside0 (Rd w wr n (nearS n (l.take k))) ∧ Aside0 (∀ x ∈ l.take k, okE n x)) (fun i _ => l.length - (intOf i).toNat)
  case atStart =>
    refine ⟨0, Nat.zero_le _, rfl, ⟨?_⟩, ⟨by simp⟩⟩
    refine ⟨?_, ?_, below_alloc (below_alloc (Below.refl _ _) _) _⟩
    · refine blk_alloc ((blk_new w _).trans ?_) _
      congr 2
      apply Array.toList_inj.1
      apply List.ext_getElem
      · simp [nearS, toI, nums, madeCells]
      · intro i h1 h2
        simp [nearS, toI, nums, madeCells, Nat.mod_one]
    · have := blk_new (w.alloc (.cells (madeCells #[.int .u16 0] n) 81)) (.cells #[.int .i64 n, .slice (some ⟨w.heap.size, 0, none⟩) n n] 105)
      simpa using this
  case round =>
    obtain ⟨k, hk, rfl, HD, HE⟩ := hrel
    by_cases hlt : k < l.length
    · obtain ⟨ad, e0, hx0, hx1⟩ := at_T42 (Kd.C_below HR.out HD.out.bel) (k : Int) (by omega) (by omega)
      cases e0
      rw [Int.toNat_natCast] at hx0 hx1
      obtain ⟨p0, hp0⟩ : ∃ x, x = (rd_T42 l k).f0 := ⟨_, rfl⟩
      obtain ⟨p1, hp1⟩ : ∃ x, x = (rd_T42 l k).f1 := ⟨_, rfl⟩
      rw [← hp0] at hx0
      rw [← hp1] at hx1
      have HP0 := Aside0.mk hp0
      have HP1 := Aside0.mk hp1
      clear hp0 hp1
      have hz := HD.out.bel.size
      obtain ⟨lo, hlo⟩ : ∃ x, (if p1 < p0 then p1 else p0) = x := ⟨_, rfl⟩
      obtain ⟨hi, hhi⟩ : ∃ x, (if p0 < p1 then p1 else p0) = x := ⟨_, rfl⟩
      by_cases c1 : lo < 0
      · have hno : Hid (¬ okE n (rd_T42 l k)) := fun ⟨q0, q1, _⟩ => by rw [← HP0.out] at q0; rw [← HP1.out] at q1; revert hlo; split <;> omega
        have d1 : decide (lo < 0) = true := decide_eq_true c1
        go_wp2
        go_ret2
        exact ReadPost.no hlt hno rfl (below_alloc HD.out.bel _)
      · have d1 : decide (lo < 0) = false := decide_eq_false c1
        by_cases c2 : hi < n
        · have d2 : decide ((n : Int) ≤ hi) = false := by simpa using c2
          by_cases c3 : p0 = p1
          · have hno : Hid (¬ okE n (rd_T42 l k)) := fun ⟨_, _, _, _, q0⟩ => by rw [← HP0.out, ← HP1.out] at q0; exact q0 c3
            have d3 : (p0 == p1) = true := beq_iff_eq.2 c3
            clear c3
            go_wp2
            go_ret2
            exact ReadPost.no hlt hno rfl (below_alloc HD.out.bel _)
          · have d3 : (p0 == p1) = false := beq_eq_false_iff_ne.2 c3
            have ha0 : 0 ≤ p0 := by (revert hlo; split <;> omega)
            have hb0 : 0 ≤ p1 := by (revert hlo; split <;> omega)
            have ha : p0 < n := by (revert hhi; split <;> omega)
            have hb : p1 < n := by (revert hhi; split <;> omega)
            have hok : Hid (okE n (rd_T42 l k)) := by
              refine ⟨?_, ?_, ?_, ?_, ?_⟩ <;> first | rw [← HP0.out, ← HP1.out] | rw [← HP0.out] | rw [← HP1.out]
              all_goals assumption
            obtain ⟨xs, hxs⟩ : ∃ xs, xs = nearS n (l.take k) := ⟨_, rfl⟩
            have HL : Hid (xs.length = n) := by rw [hxs]; exact nearS_length _ _
            have HX : Hid (∀ x ∈ xs, x < 2 ^ n) := by rw [hxs]; exact nearS_lt HE.out
            obtain ⟨x0, hx0'⟩ : ∃ x0, x0 = xs.getD p0.toNat 0 := ⟨_, rfl⟩
            obtain ⟨x1, hx1'⟩ : ∃ x1, x1 = xs.getD p1.toNat 0 := ⟨_, rfl⟩
            have hD := HD.out
            rw [← hxs] at hD
            have hs1 : ∀ o, (wr.alloc o).cell? ⟨w.heap.size + 1, 1, none⟩ = some (.slice (some ⟨w.heap.size, 0, none⟩) n n) := fun o => (blk_cell (blk_alloc hD.st o) 1).trans rfl
            have hr1 : ∀ o, (wr.alloc o).cell? ⟨w.heap.size, p0.toNat, none⟩ = some (.int .u16 (x0 : Int)) := fun o => (blk_cell (blk_alloc hD.row o) _).trans (by rw [hx0']; exact toI_get xs _ (by have : xs.length = n := HL; omega))
            have hr2 : ∀ o, (wr.alloc o).cell? ⟨w.heap.size, p1.toNat, none⟩ = some (.int .u16 (x1 : Int)) := fun o => (blk_cell (blk_alloc hD.row o) _).trans (by rw [hx1']; exact toI_get xs _ (by have : xs.length = n := HL; omega))
            have hf1 : ∀ o, (wr.alloc o).frozen? ⟨w.heap.size, p0.toNat, none⟩ = false := fun o => blk_frozen (blk_alloc hD.row o) _
            have hf2 : ∀ o, (wr.alloc o).frozen? ⟨w.heap.size, p1.toNat, none⟩ = false := fun o => blk_frozen (blk_alloc hD.row o) _
            have hz2 := blk_lt hD.st
            have HS : Hid (∀ o : Obj, Rd w (((wr.alloc o).setCell ⟨w.heap.size, p0.toNat, none⟩ (.int .u16 (Go.bits .or .u16 (x0 : Int) (IntKind.u16.wrap (2 ^ p1.toNat))))).setCell ⟨w.heap.size, p1.toNat, none⟩ (.int .u16 (Go.bits .or .u16 (x1 : Int) (IntKind.u16.wrap (2 ^ p0.toNat))))) n (addS xs (rd_T42 l k))) := by
              intro o
              have r := Rd.step (x0 := x0) (x1 := x1) hD HL h2 HX _ hok (by rw [← HP0.out]; exact hx0') (by rw [← HP1.out]; exact hx1') o
              rw [← HP0.out, ← HP1.out] at r
              exact r
            have H0 := Aside0.mk hx0'
            have H1 := Aside0.mk hx1'
            have HXS := Aside0.mk hxs
            have HDD := Aside0.mk hD
            clear hxs hx0' hx1' hD
            go_wp2
            go_region
            all_goals go_wp2
            go_region
            all_goals go_wp2
            go_roundw
            case rel => exact ⟨k + 1, by omega, by go_num, ⟨by rw [near_snoc n l k hlt, ← HXS.out]; exact (HS _).drew.drew⟩, ⟨all_snoc hlt HE.out hok⟩⟩
            case measure => simp [intOf]; omega
        · have hno : Hid (¬ okE n (rd_T42 l k)) := fun ⟨_, _, q0, q1, _⟩ => by rw [← HP0.out] at q0; rw [← HP1.out] at q1; revert hhi; split <;> omega
          have d2 : decide ((n : Int) ≤ hi) = true := by simpa using c2
          go_wp2
          go_ret2
          exact ReadPost.no hlt hno rfl (below_alloc HD.out.bel _)
    · obtain rfl : k = l.length := by omega
      go_wp2
      go_ret2
      refine ⟨fun _ => ⟨rfl, ?_⟩, fun h => absurd ?_ h⟩
      · have := HD.out
        rwa [List.take_length] at this
      · have := HE.out
        rwa [List.take_length] at this
end Go.Proofs.YtbgpnkchbcgekaaDoor.Fi
