/- Monomials as four numbers; the library's any, contains and sort over them. -/
import Derived.Test.YtjkfjnempofihaaQPgE1
import Derived.Test.YtjkfjnempofihaaQPgSb
namespace Go.Proofs.Ytjkfjnempofihaa.Fi
open Go.RowKit Go.Shelf Go.Lib Go.Proofs.YtjkfjnempofihaaW.PrintWords Go.Proofs.YtjkfjnempofihaaW.PrintLast Go.Proofs.YtjkfjnempofihaaW.PrintMore
set_option linter.unusedVariables false
set_option linter.unusedSimpArgs false
attribute [local go_sem high] eql75
abbrev M4 := Int × Int × Int × Int
def enc4 (m : M4) : List Value := [.int .i64 m.1, .int .i64 m.2.1, .int .i64 m.2.2.1, .int .i64 m.2.2.2]
def ag (m : M4) : Value := .agg (enc4 m).toArray
def tl (m : M4) : List Int := [m.1, m.2.1, m.2.2.1, m.2.2.2]
theorem tl_len (m : M4) : (tl m).length = 4 := rfl
theorem tl_inj {a b : M4} (h : tl a = tl b) : a = b := by
  obtain ⟨a0, a1, a2, a3⟩ := a
  obtain ⟨b0, b1, b2, b3⟩ := b
  simpa [tl] using h
def lcmM (a b : M4) : M4 := (max a.1 b.1, max a.2.1 b.2.1, max a.2.2.1 b.2.2.1, max a.2.2.2 b.2.2.2)
theorem lcmS_tl (a b : M4) : lcmS (tl a) (tl b) = tl (lcmM a b) := rfl
def divM (a b : M4) : Bool := decide (lcmM a b = b)
theorem divB_tl (a b : M4) : divB (tl a) (tl b) = divM a b := by
  unfold divB divM
  rw [lcmS_tl]
  exact decide_eq_decide.2 ⟨tl_inj, fun h => by rw [h]⟩
theorem divM_calls (a b : M4) (w : World) : Calls Try.prog 57 #[ag a, ag b] w fun e w' => e = .returned (.bool (divM a b)) ∧ Below w.heap.size w w' := by
  have h := divides_calls (tl a) (tl b) rfl rfl w
  rw [divB_tl] at h
  exact h
/-- The kind of a monomial. -/
def kM : Kd M4 where
  sz := 4
  E := []
  K := fun _ x cs => cs = enc4 x
  M := fun _ _ _ x cs => cs = enc4 x
  K_len := fun h => by rw [h]; rfl
  K_one := fun {_ x cs} h u hu => by
    rw [h] at hu
    simp only [enc4, List.mem_cons, List.not_mem_nil, or_false] at hu
    rcases hu with rfl | rfl | rfl | rfl <;> rfl
  K_below := fun _ h => h
  K_of_M := fun h => h
  M_mono := fun _ h => h
  M_bound := fun h => h
  M_move := fun _ h => h
  M_lower := fun _ h => h
theorem eqM : EqlAt Try.prog 75 (fun x : M4 => .agg (enc4 x).toArray) (fun x y => decide (x = y)) := by
  refine ⟨fun x y w => ?_, GuardAt.agg _ (by kernel_rfl)⟩
  refine (eql75 _ _ _ _ _ _ _ _ w).trans ?_
  congr 2
  rw [Bool.eq_iff_iff]
  obtain ⟨a0, a1, a2, a3⟩ := x
  obtain ⟨b0, b1, b2, b3⟩ := y
  simp [and_assoc]
/-- The cells of a list of monomials. -/
def flat (l : List M4) : List Value := l.flatMap enc4
theorem flat_len (l : List M4) : (flat l).length = l.length * 4 := by
  unfold flat
  induction l with
  | nil => rfl
  | cons m l ih => rw [List.flatMap_cons, List.length_append, ih, List.length_cons]; show 4 + _ = _; omega
theorem flat_app (l k : List M4) : flat (l ++ k) = flat l ++ flat k := by unfold flat; exact List.flatMap_append
theorem flat_one (m : M4) : flat [m] = enc4 m := by simp [flat]
theorem flat_get (l : List M4) (j : Nat) (h : j < l.length) (i : Nat) (v : Value) (hv : (enc4 l[j]!)[i]? = some v) : (flat l)[j * 4 + i]? = some v := by
  induction l generalizing j with
  | nil => simp at h
  | cons m l ih =>
    have e : flat (m :: l) = enc4 m ++ flat l := by simp [flat]
    rw [e]
    have hi : i < 4 := by have := (List.getElem?_eq_some_iff.1 hv).1; simpa [enc4] using this
    cases j with
    | zero => rw [List.getElem?_append_left (by simp [enc4]; omega)]; simpa using hv
    | succ j =>
      rw [List.getElem?_append_right (by simp [enc4]; omega)]
      have := ih j (by simpa using h) (by simpa using hv)
      rw [← this]
      congr 1
      simp only [enc4, List.length_cons, List.length_nil]
      omega
/-- A list of monomials in a row of its own block, from base on. -/
abbrev MR (w : World) (base : Nat) (v : Value) (l : List M4) : Prop := w.ownsRow base 75 4 v l.length (flat l)
theorem MR.cases {w : World} {base : Nat} {v : Value} {l : List M4} (h : MR w base v l) : (v = .slice none 0 0 ∧ l = []) ∨ ∃ g c, v = .slice (some ⟨g, 0, none⟩) l.length c ∧ base ≤ g ∧ g < w.heap.size ∧ l.length ≤ c ∧ l.length ≤ 9223372036854775807 ∧ ∀ j, j < l.length → ∀ i v, (enc4 l[j]!)[i]? = some v → w.cell? ⟨g, 0 + j * 4 + i, none⟩ = some v := by
  rcases h.2 with ⟨h1, h2⟩ | ⟨g, cap, cur, h1, h2, h3, h4, h5, h6, h7⟩
  · exact .inl ⟨h1, List.eq_nil_of_length_eq_zero h2⟩
  · refine .inr ⟨g, cap, h1, h2, (Array.getElem?_eq_some_iff.1 h3).1, h4, by simp only [maxLen] at h5; omega, fun j hj i u hu => ?_⟩
    have := h.cells (g := g) (by rw [h1]; rfl) _ _ (flat_get l j hj i u hu)
    rw [Addr.add_lit] at this
    rw [Nat.zero_add] at this ⊢
    exact this
theorem MR.below {w w1 : World} {base : Nat} {v : Value} {l : List M4} (h : MR w base v l) (hb : Below w.heap.size w w1) : MR w1 base v l := own_move h (fun k hk => hb.block k (own_lt h k hk))
theorem MR.zero {w : World} {base : Nat} {v : Value} {l : List M4} (h : MR w base v l) : MR w 0 v l := own_weaken h (Nat.zero_le _)
theorem MR.drew {w : World} {base : Nat} {v : Value} {l : List M4} (h : MR w base v l) : MR w.drew base v l := own_move h (fun _ _ => rfl)
theorem MR.slice {w : World} {base : Nat} {v : Value} {l : List M4} (h : MR w base v l) : ∃ A c, v = .slice A l.length c ∧ l.length ≤ 9223372036854775807 := by
  rcases h.cases with ⟨rfl, rfl⟩ | ⟨g, c, rfl, _, _, _, h, _⟩
  · exact ⟨none, 0, rfl, by simp⟩
  · exact ⟨_, c, rfl, h⟩
set_option maxHeartbeats 1000000 in
set_option maxRecDepth 100000 in
/-- slices.ContainsFunc. -/
theorem any_calls (v : Value) (l : List M4) (p : M4 → Bool) (gb : Nat) (cb : Array Value) (w : World) (eg : ∀ args w, (callFunc gb args).run Try.prog w = .ok (.enter gb args) w) (h : MR w 0 v l)
    (hp : ∀ (W : World) (x : M4), Below w.heap.size w W → Calls Try.prog gb (#[ag x] ++ cb) W fun e w' => e = .returned (.bool (p x)) ∧ Below w.heap.size w w') :
    Calls Try.prog 54 #[v, .func (.func gb) #[] cb] w fun e w' => e = .returned (.bool (l.any p)) ∧ Below w.heap.size w w' := by
  rcases h.cases with ⟨rfl, rfl⟩ | ⟨g, c, rfl, _, hlt, hc, hbig, hcells⟩
  · have h77 : Calls Try.prog 77 #[.slice none 0 0, .func (.func gb) #[] cb] w fun e w' => e = .returned (.int .i64 (-1)) ∧ w' = w := by
      clear h hp eg
      go_enter Try.func77, Try.ntmps77
      go_wp2
      refine wp_loop_rounds 1 ?_
      rw [rounds_succ]
      go_wp2
      go_ret
      exact ⟨rfl, rfl⟩
    have H77 := Aside0.mk h77
    clear h hp eg h77
    go_enter Try.func54, Try.ntmps54
    go_wp2_with (go_at_call 77; refine H77.out.mono ?_; rintro e w1 ⟨rfl, rfl⟩)
    go_ret
    exact ⟨rfl, Below.refl _ _⟩
  · have := AnyQ.slices_ContainsFunc anyM 4 Try.isAgg75 Try.sizeOf75 enc4 (fun _ => rfl) p gb cb eg g 0 l.length c l w hp (Nat.le_refl _) hbig hlt hcells
    change Calls Try.prog 54 _ _ _ at this
    rw [List.take_length] at this
    exact this
set_option maxHeartbeats 1000000 in
set_option maxRecDepth 100000 in
/-- slices.Contains. -/
theorem has_calls (v : Value) (l : List M4) (x : M4) (w : World) (h : MR w 0 v l) :
    Calls Try.prog 88 #[v, ag x] w fun e w' => e = .returned (.bool (l.any fun y => decide (x = y))) ∧ Below w.heap.size w w' := by
  rcases h.cases with ⟨rfl, rfl⟩ | ⟨g, c, rfl, _, hlt, hc, hbig, hcells⟩
  · have h91 : ∀ w : World, Calls Try.prog 91 #[.slice none 0 0, ag x] w fun e w' => e = .returned (.int .i64 (-1)) ∧ Below w.heap.size w w' := fun w => by
      have HB := Aside0.mk (Below.refl w.heap.size w)
      obtain ⟨x0, x1, x2, x3⟩ := x
      show Calls Try.prog 91 #[.slice none 0 0, .agg #[.int .i64 x0, .int .i64 x1, .int .i64 x2, .int .i64 x3]] w _
      clear h
      go_enter Try.func91, Try.ntmps91
      go_wp2_with ((with_reducible refine gate_dst (N := 3) rfl ?_); refine box_event ?hg (N := 3) ?hd (cs := #[.int .i64 x0, .int .i64 x1, .int .i64 x2, .int .i64 x3]) (t := 75) ?hr ?_; (case hd => rfl); (case hg => rfl); (case hr => first | (go_simp; done) | (go_simp; rfl)); intro ga hga w1 hbox hb; have HB1 := Aside0.mk (below_step HB.out hb); clear hbox hb hga)
      refine wp_loop_rounds 1 ?_
      rw [rounds_succ]
      go_wp2
      go_ret
      exact ⟨rfl, HB1.out⟩
    have H91 := Aside0.mk h91
    clear h91 h
    have HB := Aside0.mk (Below.refl w.heap.size w)
    have HX : Aside0 (#[.int .i64 x.1, .int .i64 x.2.1, .int .i64 x.2.2.1, .int .i64 x.2.2.2] = (enc4 x).toArray) := ⟨rfl⟩
    obtain ⟨x0, x1, x2, x3⟩ := x
    have H91 : Aside0 (∀ w : World, Calls Try.prog 91 #[.slice none 0 0, .agg #[.int .i64 x0, .int .i64 x1, .int .i64 x2, .int .i64 x3]] w fun e w' => e = .returned (.int .i64 (-1)) ∧ Below w.heap.size w w') := H91
    show Calls Try.prog 88 #[.slice none 0 0, .agg #[.int .i64 x0, .int .i64 x1, .int .i64 x2, .int .i64 x3]] w _
    go_enter Try.func88, Try.ntmps88
    go_wp2_with (first
      | ((with_reducible refine gate_dst (N := 3) rfl ?_); refine box_event ?hg (N := 3) ?hd (cs := #[.int .i64 x0, .int .i64 x1, .int .i64 x2, .int .i64 x3]) (t := 75) ?hr ?_; (case hd => rfl); (case hg => rfl); (case hr => first | (go_simp; done) | (go_simp; rfl)); intro ga hga w1 hbox hb; have s0 := blk_cell hbox 0; have s1 := blk_cell hbox 1; have s2 := blk_cell hbox 2; have s3 := blk_cell hbox 3; have HB1 := Aside0.mk (below_step HB.out hb); clear hbox hb hga)
      | (go_at_call 91; refine (H91.out _).mono ?_; rintro e w2 ⟨rfl, hb⟩; have HB2 := Aside0.mk (below_step HB1.out hb); clear hb))
    go_ret
    exact ⟨rfl, HB2.out⟩
  · have := AnyQ.slices_Contains hasM 4 Try.isAgg75 Try.sizeOf75 enc4 (fun _ => rfl) (fun x y => decide (x = y)) eqM g 0 l.length c l x w (Nat.le_refl _) hbig hcells
    change Calls Try.prog 88 _ _ _ at this
    rw [List.take_length] at this
    exact this
end Go.Proofs.Ytjkfjnempofihaa.Fi
