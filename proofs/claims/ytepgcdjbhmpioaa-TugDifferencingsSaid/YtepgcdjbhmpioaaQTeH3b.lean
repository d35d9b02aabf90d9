/- The calls of the closure of Teams: what lies in memory, and the last call. -/
import Derived.Test.YtepgcdjbhmpioaaQTeH3a
import Derived.Outline
namespace Go.Proofs.Ytepgcdjbhmpioaa.Fi
open Go.RowKit Go.Proofs.YtepgcdjbhmpioaaW.PrintWords Go.Proofs.YtepgcdjbhmpioaaW.PrintLast Go.Proofs.YtepgcdjbhmpioaaW.PrintMore
set_option linter.unusedVariables false
set_option linter.unusedSimpArgs false
theorem TRow.of_R {W : World} {base : Nat} {ok : Nat → Prop} {v : Value} {l : List Int} (h : Kd.R (Kd.int .i64) 3 W base ok v l) : TRow W base v l := by
  obtain ⟨_, inner, ho, hr⟩ := h
  have e : inner = ints l := by
    have hl : inner.length = l.length := by have := ho.1; rwa [show (Kd.int .i64).sz = 1 from rfl, Nat.mul_one] at this
    apply List.ext_getElem?
    intro j
    rcases Nat.lt_or_ge j l.length with hj | hj
    · have h2 := hr.2 j l[j] (List.getElem?_eq_getElem hj)
      have h3 : (inner.drop (j * 1)).take 1 = [Value.int .i64 l[j]] := h2
      rw [Nat.mul_one, List.drop_eq_getElem_cons (by omega), List.take_succ_cons] at h3
      injection h3 with h3 _
      rw [List.getElem?_eq_getElem (by omega), h3]
      simp [ints, List.getElem?_eq_getElem hj]
    · rw [List.getElem?_eq_none (by omega), List.getElem?_eq_none (by simp [ints]; omega)]
  subst e
  exact ho
theorem RowKept.congr {W W' : World} {v u : Value} {n : Nat} (h : RowKept W W' v n) (e : u.ownBlock = v.ownBlock) : RowKept W W' u n := fun g cur hv hg => h g cur (by rw [← e]; exact hv) hg
theorem TRow.lt {W : World} {base : Nat} {v : Value} {l : List Int} (h : TRow W base v l) {q : Nat} (hq : v.ownBlock = some q) : base ≤ q ∧ q < W.heap.size := World.ownsRow.lt h q hq
theorem TRow.cells {W : World} {base : Nat} {v : Value} {l : List Int} (h : TRow W base v l) {q : Nat} (hq : v.ownBlock = some q) : ∃ cur, W.heap[q]? = some (.cells cur 3 (0, 0)) := by
  obtain ⟨_, h2⟩ := h
  rcases h2 with ⟨rfl, _⟩ | ⟨g, cap, cur, rfl, hb, hg, _⟩
  · cases hq
  · obtain rfl : g = q := by simpa [Value.ownBlock] using hq
    exact ⟨cur, hg⟩
structure TK where
  gp : Nat
  gb : Nat
  go : Nat
  gk : Nat
  ga : Nat
  gs : Nat
/-- The places lie behind the caller's world, and apart. -/
structure TK.Ad (K : TK) (base : Nat) : Prop where
  bp : base ≤ K.gp
  bb : base ≤ K.gb
  bo : base ≤ K.go
  bk : base ≤ K.gk
  ba : base ≤ K.ga
  bs : base ≤ K.gs
  bk_ : K.gb ≠ K.gk
  bs_ : K.gb ≠ K.gs
  ks_ : K.gk ≠ K.gs
  po_ : K.gp ≠ K.go
def pt (g : Nat) : Value := .pointer (some ⟨g, 0, none⟩)
structure TI (w0 W : World) (K : TK) (A0 : Option Addr) (c0 : Nat) (pl : List Int) (k : Nat) (acc : Int × List Nat) (vo : Value) (sums : List Int) : Prop where
  bel : Below w0.heap.size w0 W
  hp : W.heap[K.gp]? = some (.cells #[.slice A0 pl.length c0] 22 (0, 0))
  hb : W.heap[K.gb]? = some (.cells #[.int .i64 acc.1] 3 (0, 0))
  ho : W.heap[K.go]? = some (.cells #[vo] 22 (0, 0))
  hk : W.heap[K.gk]? = some (.cells #[.int .i64 (k : Int)] 3 (0, 0))
  ha : W.heap[K.ga]? = some (.cells #[.func (.func 51) #[] #[pt K.gp, pt K.gb, pt K.go, pt K.gk, pt K.ga]] 74 (0, 0))
  hs : W.heap[K.gs]? = some (.cells (ints sums).toArray 3 (0, 0))
  out : TRow W w0.heap.size vo (toZ acc.2)
  own : ∀ q, vo.ownBlock = some q → q ≠ K.gb ∧ q ≠ K.gk ∧ q ≠ K.gs
/-- What a call may turn: the best, the sums while it runs, and its row beyond what its caller holds. -/
structure TStep (W W' : World) (K : TK) (v vo vo' : Value) (n : Nat) : Prop where
  size : W.heap.size ≤ W'.heap.size
  keep : ∀ q, q < W.heap.size → q ≠ K.gb → q ≠ K.go → q ≠ K.gs → some q ≠ v.ownBlock → W'.heap[q]? = W.heap[q]?
  row : RowKept W W' v n
  new : vo' = vo ∨ ∀ q, vo'.ownBlock = some q → W.heap.size ≤ q
theorem TStep.refl (W : World) (K : TK) (v vo : Value) (n : Nat) : TStep W W K v vo vo n := ⟨Nat.le_refl _, fun _ _ _ _ _ _ => rfl, RowKept.refl _ _ _, .inl rfl⟩
theorem TStep.trans {W W1 W2 : World} {K : TK} {v vo vo1 vo2 : Value} {n : Nat} (h1 : TStep W W1 K v vo vo1 n) (h2 : TStep W1 W2 K v vo1 vo2 n) : TStep W W2 K v vo vo2 n :=
  ⟨Nat.le_trans h1.size h2.size, fun q a b c d e => (h2.keep q (Nat.lt_of_lt_of_le a h1.size) b c d e).trans (h1.keep q a b c d e), h1.row.trans h2.row, by
    rcases h2.new with rfl | h
    · exact h1.new
    · exact .inr fun q hq => Nat.le_trans h1.size (h q hq)⟩
/-- The row of the call lies apart from all else. -/
def Apart (K : TK) (v vo : Value) : Prop := ∀ q, v.ownBlock = some q → q ≠ K.gb ∧ q ≠ K.gk ∧ q ≠ K.gs ∧ some q ≠ vo.ownBlock
section
variable {w0 W W' : World} {K : TK} {A0 : Option Addr} {c0 : Nat} {pl : List Int} {k : Nat} {acc : Int × List Nat} {vo : Value} {sums : List Int}
theorem TI.lts (h : TI w0 W K A0 c0 pl k acc vo sums) : K.gp < W.heap.size ∧ K.gb < W.heap.size ∧ K.go < W.heap.size ∧ K.gk < W.heap.size ∧ K.ga < W.heap.size ∧ K.gs < W.heap.size :=
  ⟨blk_lt h.hp, blk_lt h.hb, blk_lt h.ho, blk_lt h.hk, blk_lt h.ha, blk_lt h.hs⟩
/-- The world turned only in one row of the call, or not at all below. -/
theorem TI.move (h : TI w0 W K A0 c0 pl k acc vo sums) {row : Option Nat} (hg : W.grownBy W' row) (hb : Below w0.heap.size w0 W') (hr : ∀ q, row = some q → q ≠ K.gp ∧ q ≠ K.gb ∧ q ≠ K.go ∧ q ≠ K.gk ∧ q ≠ K.ga ∧ q ≠ K.gs ∧ some q ≠ vo.ownBlock) : TI w0 W' K A0 c0 pl k acc vo sums := by
  have hn : ∀ {g : Nat}, (∀ q, row = some q → q ≠ g) → some g ≠ row := fun {g} hh e => hh g e.symm rfl
  exact ⟨hb, blk_grown h.hp hg (hn fun q hq => (hr q hq).1), blk_grown h.hb hg (hn fun q hq => (hr q hq).2.1), blk_grown h.ho hg (hn fun q hq => (hr q hq).2.2.1), blk_grown h.hk hg (hn fun q hq => (hr q hq).2.2.2.1), blk_grown h.ha hg (hn fun q hq => (hr q hq).2.2.2.2.1), blk_grown h.hs hg (hn fun q hq => (hr q hq).2.2.2.2.2.1),
    h.out.kept (RowKept.of_block fun g hv hlt => hg.block g hlt (fun e => (hr g e.symm).2.2.2.2.2.2 hv.symm)), h.own⟩
theorem TI.drewN (h : TI w0 W K A0 c0 pl k acc vo sums) (m : Nat) : TI w0 (W.drewN m) K A0 c0 pl k acc vo sums :=
  ⟨pw_below_drewN h.bel m, h.hp, h.hb, h.ho, h.hk, h.ha, h.hs, h.out, h.own⟩
/-- A sum is turned. -/
theorem TI.put (h : TI w0 W K A0 c0 pl k acc vo sums) (had : K.Ad w0.heap.size) (t : Nat) (x : Int) : TI w0 (W.setCell ⟨K.gs, t, none⟩ (.int .i64 x)) K A0 c0 pl k acc vo (sums.set t x) := by
  have hps : K.gp ≠ K.gs := blk_ne h.hp h.hs (by decide)
  have hos : K.go ≠ K.gs := blk_ne h.ho h.hs (by decide)
  have has : K.ga ≠ K.gs := blk_ne h.ha h.hs (by decide)
  refine ⟨below_set h.bel had.bs, blk_far h.hp hps _, blk_far h.hb had.bs_ _, blk_far h.ho hos _, blk_far h.hk had.ks_ _, blk_far h.ha has _, ?_, ?_, h.own⟩
  · refine blk_put h.hs t _ ?_
    rw [List.setIfInBounds_toArray]
    simp [ints, List.map_set]
  · refine h.out.kept (RowKept.of_block fun g hv _ => Below.heap_setCell W _ _ g (fun e => (h.own g hv).2.2 e))
theorem TStep.put (had : K.Ad w0.heap.size) (v : Value) (n : Nat) (hv : ∀ q, v.ownBlock = some q → q ≠ K.gs) (t : Nat) (u : Value) : TStep W (W.setCell ⟨K.gs, t, none⟩ u) K v vo vo n :=
  ⟨by simp [World.setCell], fun q _ _ _ hq _ => Below.heap_setCell W _ _ q hq, RowKept.of_block fun g hg _ => Below.heap_setCell W _ _ g (hv g hg), .inl rfl⟩
theorem TStep.drewN (W : World) (K : TK) (v vo : Value) (n m : Nat) : TStep W (W.drewN m) K v vo vo n := ⟨Nat.le_refl _, fun _ _ _ _ _ _ => rfl, RowKept.refl _ _ _, .inl rfl⟩
end
end Go.Proofs.Ytepgcdjbhmpioaa.Fi
