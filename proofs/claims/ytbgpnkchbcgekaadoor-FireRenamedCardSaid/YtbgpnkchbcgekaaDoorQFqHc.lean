/- The calls of best and of fire.Best: the best plan by the recursion, whatever was known before. -/
import Derived.Test.YtbgpnkchbcgekaaDoorQFqHm
import Derived.Test.YtbgpnkchbcgekaaDoorQFqHb2
import Derived.Test.YtbgpnkchbcgekaaDoorQFqP4
import Derived.Deep.RegionWith
import Derived.Outline
import Derived.Deep.RegionHeld3
namespace Go.Proofs.YtbgpnkchbcgekaaDoor.Fi
open Go.RowKit Go.Proofs.YtbgpnkchbcgekaaDoorW.PrintWords Go.Proofs.YtbgpnkchbcgekaaDoorW.PrintLast Go.Proofs.YtbgpnkchbcgekaaDoorW.PrintMore Wog
set_option linter.unusedVariables false
set_option linter.unusedSimpArgs false
theorem alloc_drewN (w : World) (n : Nat) (o : Obj) : (w.drewN n).alloc o = (w.alloc o).drewN n := rfl
theorem setCell_drewN (w : World) (n : Nat) (a : Addr) (v : Value) : (w.drewN n).setCell a v = (w.setCell a v).drewN n := by
  simp [World.setCell, World.drewN]
attribute [local go_sem] alloc_drewN setCell_drewN
def GoodE (nx : List Nat) (W : World) (base g b : Nat) (e : MapEntry) : Prop :=
  ∃ (B D k : Nat) (s : Int) (v : Value) (l : List Int), e.key = key83 B D ∧ e.val = .agg #[.int .i64 s, v] ∧ bestF nx k B D = some (s, l) ∧ l.length ≤ 1000 ∧ Kd.R (Kd.int .i64) 3 W base (fun q => q ≠ g ∧ q ≠ b) v l
structure BS (w0 : World) (g b base : Nat) (nx : List Nat) (W : World) : Prop where
  st : IsS105 w0 W g nx.length (toI nx)
  bel : Below w0.heap.size w0 W
  map : ∃ es ck, W.heap[b]? = some (.map es ck) ∧ ∀ e ∈ es, GoodE nx W base g b e
  gb : g ≠ b
  hb : base ≤ g
theorem GoodE.isKey {nx : List Nat} {W : World} {base g b : Nat} {e : MapEntry} (h : GoodE nx W base g b e) : isKey e.key := by
  obtain ⟨B, D, _, _, _, _, h1, _⟩ := h
  exact ⟨_, _, h1⟩
theorem GoodE.move {nx : List Nat} {W W1 : World} {base g b : Nat} {e : MapEntry} (h : GoodE nx W base g b e) (hm : ∀ k, k ≠ g ∧ k ≠ b → k < W.heap.size → W1.heap[k]? = W.heap[k]?) : GoodE nx W1 base g b e := by
  obtain ⟨B, D, k, s, v, l, h1, h2, h3, h4, h5⟩ := h
  exact ⟨B, D, k, s, v, l, h1, h2, h3, h4, Kd.R_step h5 hm⟩
section
variable {w0 W W1 : World} {g b base : Nat} {nx : List Nat}
theorem BS.lt (h : BS w0 g b base nx W) : b < W.heap.size := by
  obtain ⟨es, ck, hb, _⟩ := h.map
  exact blk_lt hb
theorem BS.below (h : BS w0 g b base nx W) (k : Below W.heap.size W W1) : BS w0 g b base nx W1 := by
  obtain ⟨es, ck, hb, he⟩ := h.map
  exact ⟨h.st.below k, below_then h.bel h.bel.size k, ⟨es, ck, blk_below hb k, fun e he' => (he e he').move (fun q _ hq => k.block q hq)⟩, h.gb, h.hb⟩
theorem BS.alloc (h : BS w0 g b base nx W) (o : Obj) : BS w0 g b base nx (W.alloc o) := h.below (below_alloc (Below.refl _ _) o)
theorem BS.drewN (h : BS w0 g b base nx W) (m : Nat) : BS w0 g b base nx (W.drewN m) := ⟨h.st.drewN m, pw_below_drewN h.bel m, h.map, h.gb, h.hb⟩
theorem BS.drew (h : BS w0 g b base nx W) : BS w0 g b base nx W.drew := ⟨h.st.drew, below_drew h.bel, h.map, h.gb, h.hb⟩
theorem BS.after (h : BS w0 g b base nx W) (k1 : IsS105 w0 W1 g nx.length (toI nx)) (k2 : Below w0.heap.size w0 W1) (k3 : KeepBut W W1 g none) : BS w0 g b base nx W1 := by
  obtain ⟨es, ck, hb, he⟩ := h.map
  exact ⟨k1, k2, ⟨es, ck, k3.blk hb (fun e => h.gb e.symm) (by simp), fun e he' => (he e he').move (fun q hq hl => k3.2 q hl hq.1 (by simp))⟩, h.gb, h.hb⟩
theorem keep_weak {W W1 : World} {g : Nat} {row : Option Nat} (h : KeepBut W W1 g none) : KeepBut W W1 g row := ⟨h.1, fun i hi hg _ => h.2 i hi hg (by simp)⟩
end
theorem Rint_step {W W1 : World} {base : Nat} {ok : Nat → Prop} {v : Value} {l : List Int} {p t : Nat} {cs : Array Value} (h : Kd.R (Kd.int .i64) 3 W base ok v l) (hp : W.heap[p]? = some (.cells cs t (0, 0))) (ht : t ≠ 3) (hm : ∀ k, ok k → k ≠ p → k < W.heap.size → W1.heap[k]? = W.heap[k]?) : Kd.R (Kd.int .i64) 3 W1 base ok v l := by
  have h1 := Kd.R_types h hp (fun q hq e => by simp [Kd.int, Kd.scalar] at hq; omega)
  exact Kd.R_mono (Kd.R_step h1 (fun k hk hl => hm k hk.1 hk.2 hl)) (fun k hk => hk.1)
theorem BS.local_ {w0 W : World} {g b base : Nat} {nx : List Nat} (h : BS w0 g b base nx W) {p t : Nat} {cs : Array Value} (hp : W.heap[p]? = some (.cells cs t (0, 0))) (ht : t ≠ 3) (hg : p ≠ g) (hb : p ≠ b) (hw : w0.heap.size ≤ p) (j : Nat) (u : Value) : BS w0 g b base nx (W.setCell ⟨p, j, none⟩ u) := by
  obtain ⟨es, ck, hm, he⟩ := h.map
  refine ⟨h.st.far (fun e => hg e.symm) u, h.bel.setCell hw u, ⟨es, ck, (Below.heap_setCell W ⟨p, j, none⟩ u b (fun e => hb e.symm)).trans hm, fun e he' => ?_⟩, h.gb, h.hb⟩
  obtain ⟨B, D, k, s, v, l, h1, h2, h3, h4, h5⟩ := he e he'
  exact ⟨B, D, k, s, v, l, h1, h2, h3, h4, Rint_step h5 hp ht (fun q _ hq _ => Below.heap_setCell W ⟨p, j, none⟩ u q hq)⟩
theorem setObjW_heap (W : World) (b q : Nat) (o : Obj) (h : q ≠ b) : (setObjW W b o).heap[q]? = W.heap[q]? := by
  show (W.heap.setIfInBounds b o)[q]? = _
  rw [Array.getElem?_setIfInBounds_ne (fun e => h e.symm)]
theorem setObjW_size (W : World) (b : Nat) (o : Obj) : (setObjW W b o).heap.size = W.heap.size := by
  show (W.heap.setIfInBounds b o).size = _
  simp
theorem BS.put {w0 W : World} {g b base : Nat} {nx : List Nat} (h : BS w0 g b base nx W) (es' : Array MapEntry) (ck' : Nat) (hw : w0.heap.size ≤ b) (he : ∀ e ∈ es', GoodE nx W base g b e) : BS w0 g b base nx (setObjW W b (.map es' ck')) := by
  obtain ⟨A1, c1, hb, hg, hr1⟩ := h.st
  have hlt := h.lt
  refine ⟨⟨A1, c1, (setObjW_heap W b g _ h.gb).trans hb, hg, hr1⟩, ?_, ⟨es', ck', ?_, fun e he' => (he e he').move (fun q hq _ => setObjW_heap W b q _ hq.2)⟩, h.gb, h.hb⟩
  · exact ⟨h.bel.os, h.bel.tape, h.bel.output, by rw [setObjW_size]; exact h.bel.size, fun q hq => (setObjW_heap W b q _ (by omega)).trans (h.bel.block q hq)⟩
  · show (W.heap.setIfInBounds b _)[b]? = _
    rw [Array.getElem?_setIfInBounds_self_of_lt hlt]
/-- The state and the result's place, as the call lays them. -/
structure Loc (w W : World) (B D : Nat) : Prop where
  s : W.heap[w.heap.size]? = some (.cells #[.int .u16 B, .int .u16 D] 83 (0, 0))
  r : W.heap[w.heap.size + 1]? = some (.cells #[.int .i64 0, .slice none 0 0] 78 (0, 0))
theorem Loc.keep {w W W1 : World} {B D g : Nat} (h : Loc w W B D) (k : KeepBut W W1 g none) (hg : g < w.heap.size) : Loc w W1 B D :=
  ⟨k.blk h.s (by omega) (by simp), k.blk h.r (by omega) (by simp)⟩
theorem Loc.drewN {w W : World} {B D : Nat} (h : Loc w W B D) (m : Nat) : Loc w (W.drewN m) B D := ⟨h.s, h.r⟩
theorem lt16 {n s : Nat} (hn : n ≤ 10) (h : s < 2 ^ n) : s < 65536 := Nat.lt_of_lt_of_le h (Nat.le_trans (Nat.pow_le_pow_right (by omega) hn) (by omega))
def BestPost (w0 : World) (g b base : Nat) (nx : List Nat) (s : Int) (l : List Int) (w : World) (e : Ending) (w' : World) : Prop :=
  ∃ v, e = .returned (.agg #[.int .i64 s, v]) ∧ Kd.R (Kd.int .i64) 3 w' base (fun q => q ≠ g ∧ q ≠ b) v l ∧ BS w0 g b base nx w' ∧ KeepBut w w' g (some b)
/-- What the last regions do: the plan lies in the map, and in the result's place. -/
theorem best_end {nx : List Nat} {g b base o B D k : Nat} {w0 w wc : World} {s : Int} {l : List Int} {cv : Value} (HS : BS w0 g b base nx wc) (HL : Loc w wc B D) (HK : KeepBut w wc g (some b)) (hb : b < w.heap.size) (hgw : g < w.heap.size) (hw0 : w0.heap.size ≤ b) (hw1 : w0.heap.size ≤ w.heap.size)
    (ho : w.heap.size + 2 ≤ o) (HO : wc.heap[o]? = some (.cells #[.int .i64 s, cv] 78 (0, 0))) (HR : Kd.R (Kd.int .i64) 3 wc base (fun q => q ≠ g ∧ q ≠ b) cv l) (HF : bestF nx k B D = some (s, l)) (hl : l.length ≤ 1000) :
    ∃ W2, (Instr.mapUpdate 84 (.map (some b)) (.agg #[.int .u16 (B : Int), .int .u16 (D : Int)]) (.agg #[.int .i64 s, cv])).run Tryd.prog wc = .ok () W2 ∧ W2.cell? ⟨o, 0, none⟩ = some (.int .i64 s) ∧ W2.cell? ⟨o, 1, none⟩ = some cv ∧
      W2.cell? ⟨w.heap.size + 1, 0, none⟩ = some (.int .i64 0) ∧ W2.cell? ⟨w.heap.size + 1, 1, none⟩ = some (.slice none 0 0) ∧ W2.frozen? ⟨w.heap.size + 1, 0, none⟩ = false ∧ W2.frozen? ⟨w.heap.size + 1, 1, none⟩ = false ∧
      ((W2.setCell ⟨w.heap.size + 1, 0, none⟩ (.int .i64 s)).setCell ⟨w.heap.size + 1, 1, none⟩ cv).cell? ⟨w.heap.size + 1, 0, none⟩ = some (.int .i64 s) ∧ ((W2.setCell ⟨w.heap.size + 1, 0, none⟩ (.int .i64 s)).setCell ⟨w.heap.size + 1, 1, none⟩ cv).cell? ⟨w.heap.size + 1, 1, none⟩ = some cv ∧
      BestPost w0 g b base nx s l w (.returned (.agg #[.int .i64 s, cv])) ((W2.setCell ⟨w.heap.size + 1, 0, none⟩ (.int .i64 s)).setCell ⟨w.heap.size + 1, 1, none⟩ cv) := by
  obtain ⟨es1, ck1, hm1, he1⟩ := HS.map
  obtain ⟨es2, ck2, hput, hmem⟩ := put83 wc b es1 ck1 hm1 (fun e h' => (he1 e h').isKey) B D (.agg #[.int .i64 s, cv])
  have ho2 : (setObjW wc b (.map es2 ck2)).heap[o]? = _ := (setObjW_heap wc b o _ (by omega)).trans HO
  have hr2 : (setObjW wc b (.map es2 ck2)).heap[w.heap.size + 1]? = _ := (setObjW_heap wc b _ _ (by omega)).trans HL.r
  have hS2 : BS w0 g b base nx (setObjW wc b (.map es2 ck2)) := HS.put es2 ck2 hw0 (fun e he' => by
    rcases hmem e he' with h | ⟨h1, h2⟩
    · exact he1 e h
    · exact ⟨B, D, k, s, cv, l, h1, h2, HF, hl, HR⟩)
  have hR2 : Kd.R (Kd.int .i64) 3 (setObjW wc b (.map es2 ck2)) base (fun q => q ≠ g ∧ q ≠ b) cv l := Kd.R_step HR (fun q hq _ => setObjW_heap wc b q _ hq.2)
  have hr3 : ((setObjW wc b (.map es2 ck2)).setCell ⟨w.heap.size + 1, 0, none⟩ (.int .i64 s)).heap[w.heap.size + 1]? = some (.cells #[.int .i64 s, .slice none 0 0] 78 (0, 0)) := by
    rw [blk_set hr2]; rfl
  have hr4 : (((setObjW wc b (.map es2 ck2)).setCell ⟨w.heap.size + 1, 0, none⟩ (.int .i64 s)).setCell ⟨w.heap.size + 1, 1, none⟩ cv).heap[w.heap.size + 1]? = some (.cells #[.int .i64 s, cv] 78 (0, 0)) := by
    rw [blk_set hr3]; rfl
  refine ⟨_, hput, blk_cell ho2 0, blk_cell ho2 1, blk_cell hr2 0, blk_cell hr2 1, blk_frozen hr2 0, blk_frozen hr2 1, blk_cell hr4 0, blk_cell hr4 1, cv, rfl, ?_, ?_, ?_⟩
  · exact Rint_step (Rint_step hR2 hr2 (by decide) (fun q _ hq _ => Below.heap_setCell _ _ _ q hq)) hr3 (by decide) (fun q _ hq _ => Below.heap_setCell _ _ _ q hq)
  · exact (hS2.local_ hr2 (by decide) (by omega) (by omega) (by omega) 0 _).local_ hr3 (by decide) (by omega) (by omega) (by omega) 1 _
  · refine ⟨?_, fun q hq hqg hqb => ?_⟩
    · simp [setObjW_size]; exact HK.1
    · rw [Below.heap_setCell _ _ _ q (fun e => by have e' : q = w.heap.size + 1 := e; omega), Below.heap_setCell _ _ _ q (fun e => by have e' : q = w.heap.size + 1 := e; omega), setObjW_heap wc b q _ (fun e => hqb (by simp [e]))]
      exact HK.2 q hq hqg hqb
theorem R_one (W : World) (base : Nat) (ok : Nat → Prop) (x : Int) (hok : ok W.heap.size) (hb : base ≤ W.heap.size) : Kd.R (Kd.int .i64) 3 (W.alloc (.cells #[.int .i64 x] 3)) base ok (.slice (some ⟨W.heap.size, 0, none⟩) 1 1) [x] := by
  refine ⟨fun k hk => ?_, [.int .i64 x], ?_, ?_⟩
  · have : W.heap.size = k := by simpa [Value.ownBlock] using hk
    subst this
    exact hok
  · have h2 := World.ownsRow_lit (base := base) (e := 3) (size := 1) W #[.int .i64 x] 1 hb (by simp [maxLen]) (by simp)
    have h3 : (W.alloc (.cells #[.int .i64 x] 3)).ownsRow base 3 1 (.slice (some ⟨W.heap.size, 0, none⟩) 1 1) 1 [.int .i64 x] := by simpa using h2
    exact h3
  · exact Reps.snoc (Reps.none _ _) rfl rfl
/-- An element ahead of a row. -/
theorem step_cons {ops : Array Oper} {o : Oper} {a : Act} {W0 W : World} {Kc : Act → World → Prop} {Q : Exit → Act → World → Prop} (base : Nat) (hw : Region.wanted o (yielded ops a.tmps) = true) (s x : Operand) (ho : o.op = .call { callee := .builtin .append, args := #[s, x], argTypes := #[27, 27] })
    (d : Int) (l : List Int) (A : Option Addr) (c : Nat) (ok : Nat → Prop) (hW : W = W0.alloc (.cells #[.int .i64 d] 3)) (H : Nat) (hH : H = W0.heap.size) (hs : a.eval s = .slice (some ⟨H, 0, none⟩) 1 1) (hx : a.eval x = .slice A l.length c) (hC : Kd.C (Kd.int .i64) W0 A l.length l) (hfresh : ∀ k, W0.heap.size ≤ k → ok k) (hbase : base ≤ W0.heap.size) (hl : l.length ≤ 100000)
    (h : ∀ v1 w1, Kd.R (Kd.int .i64) 3 w1 base ok v1 (d :: l) → Below W0.heap.size W0 w1 → Kc (a.put o.dst v1) w1) : if Region.wanted o (yielded ops a.tmps) = true then Oper.wp Tryd.prog o a W Kc Q else Kc (a.put o.dst undef) W := by
  subst hW
  subst hH
  refine Kd.R_append_rows_step (Kd.int .i64) (w0 := W0) W0.heap.size hw s x 27 3 (.int .i64 0) 8 ho Tryd.underlying27 info3 rfl (by decide) (by omega) _ [d] l A l.length c ok (fun _ => False) hs hx (R_one W0 _ _ d (hfresh _ (Nat.le_refl _)) (Nat.le_refl _)) (Kd.C_alloc hC _) (fun _ _ h => h) (fun _ h => h.elim) (fun k hk => hfresh k (by simp at hk; omega)) (below_alloc (Below.refl _ _) _) (by simp) (by simp; omega) ?_
  intro v1 w1 h1 h2 _ _
  exact h v1 w1 (Kd.R_lower h1 hbase) h2
theorem best_mid {nx : List Nat} {g b base o B D : Nat} {w0 w wr w1 w2 w3 : World} {cs s1 : Int} {cl L : List Int} {cv v2 v3 : Value} {m : Nat} (HL : Loc w wr B D) (HK : KeepBut w wr g (some b)) (HO : wr.heap[o]? = some (.cells #[.int .i64 cs, cv] 78 (0, 0))) (HR1 : Kd.R (Kd.int .i64) 3 wr base (fun q => q ≠ g ∧ q ≠ b) cv cl)
    (hog : o ≠ g) (hob : o ≠ b) (hgw : g < w.heap.size) (hbw : b < w.heap.size) (hww : w0.heap.size ≤ w.heap.size) (k3 : KeepBut (wr.drewN m) w1 g none) (m2 : BS w0 g b base nx w2) (m3 : KeepBut w1 w2 g (some b)) (p1 : Kd.R (Kd.int .i64) 3 w3 base (fun q => q ≠ g ∧ q ≠ b) v3 L) (p2 : Below ((w2.alloc (.cells #[.int .i64 s1, v2] 78)).drew).heap.size ((w2.alloc (.cells #[.int .i64 s1, v2] 78)).drew) w3) :
    ∃ W4, W4 = (w3.setCell ⟨w2.heap.size, 0, none⟩ (.int .i64 s1)).setCell ⟨w2.heap.size, 1, none⟩ v3 ∧ BS w0 g b base nx W4 ∧ Loc w W4 B D ∧ KeepBut w W4 g (some b) ∧ W4.heap[o]? = some (.cells #[.int .i64 cs, cv] 78 (0, 0)) ∧ Kd.R (Kd.int .i64) 3 W4 base (fun q => q ≠ g ∧ q ≠ b) cv cl ∧ W4.heap[w2.heap.size]? = some (.cells #[.int .i64 s1, v3] 78 (0, 0)) ∧ Kd.R (Kd.int .i64) 3 W4 base (fun q => q ≠ g ∧ q ≠ b) v3 L := by
  refine ⟨_, rfl, ?_⟩
  have hz1 : wr.heap.size ≤ w1.heap.size := k3.1
  have hz2 : w1.heap.size ≤ w2.heap.size := m3.1
  have hz0 := HK.1
  have hz3 : w2.heap.size + 1 ≤ w3.heap.size := by have := p2.size; simpa using this
  have hB3 : Below w2.heap.size w2 w3 := below_then (below_drew (below_alloc (Below.refl _ _) (.cells #[.int .i64 s1, v2] 78))) (by simp) p2
  have h4 : w3.heap[w2.heap.size]? = some (.cells #[.int .i64 s1, v2] 78 (0, 0)) := blk_below (blk_drew (blk_new w2 _)) p2
  have h5 : (w3.setCell ⟨w2.heap.size, 0, none⟩ (.int .i64 s1)).heap[w2.heap.size]? = some (.cells #[.int .i64 s1, v2] 78 (0, 0)) := by
    rw [blk_set h4]; rfl
  have h6 : ((w3.setCell ⟨w2.heap.size, 0, none⟩ (.int .i64 s1)).setCell ⟨w2.heap.size, 1, none⟩ v3).heap[w2.heap.size]? = some (.cells #[.int .i64 s1, v3] 78 (0, 0)) := by
    rw [blk_set h5]; rfl
  have hf : ∀ q, q < w2.heap.size → ((w3.setCell ⟨w2.heap.size, 0, none⟩ (.int .i64 s1)).setCell ⟨w2.heap.size, 1, none⟩ v3).heap[q]? = w2.heap[q]? := by
    intro q hq
    rw [Below.heap_setCell _ _ _ q (fun e => by have e' : q = w2.heap.size := e; omega), Below.heap_setCell _ _ _ q (fun e => by have e' : q = w2.heap.size := e; omega)]
    exact hB3.block q hq
  have hf2 : ∀ q, q ≠ g → q ≠ b → q < wr.heap.size → ((w3.setCell ⟨w2.heap.size, 0, none⟩ (.int .i64 s1)).setCell ⟨w2.heap.size, 1, none⟩ v3).heap[q]? = wr.heap[q]? := by
    intro q h1 h2 h3
    rw [hf q (by omega), m3.2 q (by omega) h1 (by simpa using h2), k3.2 q h3 h1 (by simp)]
    rfl
  have hsz : ((w3.setCell ⟨w2.heap.size, 0, none⟩ (.int .i64 s1)).setCell ⟨w2.heap.size, 1, none⟩ v3).heap.size = w3.heap.size := by simp [World.setCell]
  refine ⟨?_, ⟨?_, ?_⟩, ⟨by rw [hsz]; omega, ?_⟩, ?_, ?_, h6, ?_⟩
  · have hg2 := m2.st.lt
    have hb2 := m2.lt
    have hw2 := m2.bel.size
    exact ((m2.below hB3).local_ h4 (by decide) (by omega) (by omega) hw2 0 _).local_ h5 (by decide) (by omega) (by omega) hw2 1 _
  · exact (hf2 _ (by omega) (by omega) (blk_lt HL.s)).trans HL.s
  · exact (hf2 _ (by omega) (by omega) (blk_lt HL.r)).trans HL.r
  · intro q h1 h2 h3
    exact (hf2 q h2 (by simpa using h3) (by omega)).trans (HK.2 q h1 h2 h3)
  · exact (hf2 o hog hob (blk_lt HO)).trans HO
  · exact Kd.R_step HR1 (fun q hq hl => hf2 q hq.1 hq.2 hl)
  · exact Rint_step (Rint_step p1 h4 (by decide) (fun q _ hq _ => Below.heap_setCell _ _ _ q hq)) h5 (by decide) (fun q _ hq _ => Below.heap_setCell _ _ _ q hq)
theorem best_put {nx : List Nat} {g b base o B D : Nat} {w0 w wr : World} {s1 : Int} {L : List Int} {x y v : Value} (HS : BS w0 g b base nx wr) (HL : Loc w wr B D) (HK : KeepBut w wr g (some b)) (HO : wr.heap[o]? = some (.cells #[x, y] 78 (0, 0))) (HR : Kd.R (Kd.int .i64) 3 wr base (fun q => q ≠ g ∧ q ≠ b) v L)
    (hog : o ≠ g) (hob : o ≠ b) (ho : w.heap.size + 2 ≤ o) (hww : w0.heap.size ≤ w.heap.size) :
    ((wr.setCell ⟨o, 0, none⟩ (.int .i64 s1)).setCell ⟨o, 1, none⟩ v).heap[o]? = some (.cells #[.int .i64 s1, v] 78 (0, 0)) ∧ Kd.R (Kd.int .i64) 3 ((wr.setCell ⟨o, 0, none⟩ (.int .i64 s1)).setCell ⟨o, 1, none⟩ v) base (fun q => q ≠ g ∧ q ≠ b) v L ∧ BS w0 g b base nx ((wr.setCell ⟨o, 0, none⟩ (.int .i64 s1)).setCell ⟨o, 1, none⟩ v) ∧ Loc w ((wr.setCell ⟨o, 0, none⟩ (.int .i64 s1)).setCell ⟨o, 1, none⟩ v) B D ∧ KeepBut w ((wr.setCell ⟨o, 0, none⟩ (.int .i64 s1)).setCell ⟨o, 1, none⟩ v) g (some b) := by
  have h5 : (wr.setCell ⟨o, 0, none⟩ (.int .i64 s1)).heap[o]? = some (.cells #[.int .i64 s1, y] 78 (0, 0)) := by
    rw [blk_set HO]; rfl
  have h6 : ((wr.setCell ⟨o, 0, none⟩ (.int .i64 s1)).setCell ⟨o, 1, none⟩ v).heap[o]? = some (.cells #[.int .i64 s1, v] 78 (0, 0)) := by
    rw [blk_set h5]; rfl
  have hf : ∀ q, q ≠ o → ((wr.setCell ⟨o, 0, none⟩ (.int .i64 s1)).setCell ⟨o, 1, none⟩ v).heap[q]? = wr.heap[q]? := by
    intro q hq
    rw [Below.heap_setCell _ _ _ q (fun e => hq e), Below.heap_setCell _ _ _ q (fun e => hq e)]
  have hsz : ((wr.setCell ⟨o, 0, none⟩ (.int .i64 s1)).setCell ⟨o, 1, none⟩ v).heap.size = wr.heap.size := by simp [World.setCell]
  refine ⟨h6, ?_, ?_, ⟨?_, ?_⟩, ⟨by rw [hsz]; exact HK.1, ?_⟩⟩
  · exact Rint_step (Rint_step HR HO (by decide) (fun q _ hq _ => Below.heap_setCell _ _ _ q hq)) h5 (by decide) (fun q _ hq _ => Below.heap_setCell _ _ _ q hq)
  · exact (HS.local_ HO (by decide) hog hob (by omega) 0 _).local_ h5 (by decide) hog hob (by omega) 1 _
  · exact (hf _ (by omega)).trans HL.s
  · exact (hf _ (by omega)).trans HL.r
  · intro q h1 h2 h3
    exact (hf q (by omega)).trans (HK.2 q h1 h2 h3)
theorem bestF_len {nx : List Nat} : ∀ {k B D : Nat} {s : Int} {l : List Int}, bestF nx k B D = some (s, l) → l.length ≤ k := by
  intro k
  induction k with
  | zero => intro B D s l h; simp [bestF] at h
  | succ k ih =>
    intro B D s l h
    rw [bestF] at h
    obtain ⟨R, hR, h⟩ := Option.bind_eq_some_iff.1 h
    have key : ∀ (L : List Nat) (o : Option (Int × List Int)) (r : Int × List Int), (∀ p, o = some p → p.2.length ≤ k + 1) → L.foldl (stepO (bestF nx k) nx B D) o = some r → r.2.length ≤ k + 1 := by
      intro L
      induction L with
      | nil => intro o r ho h; exact ho r h
      | cons d L ihL =>
        intro o r ho h
        rw [List.foldl_cons] at h
        refine ihL _ r ?_ h
        intro p hp
        unfold stepO at hp
        obtain ⟨out, h1, h2⟩ := Option.bind_eq_some_iff.1 hp
        split at h2
        · exact ho p (h1.trans h2)
        · obtain ⟨q, h3, h4⟩ := Option.bind_eq_some_iff.1 h2
          obtain rfl := Option.some.inj h4
          unfold pick
          split
          · have := ih h3
            simp; omega
          · exact ho _ h1
    split at h
    · obtain ⟨_, rfl⟩ := Prod.mk.inj (Option.some.inj h); simp
    · exact key _ _ _ (by rintro p hp; obtain rfl := Option.some.inj hp; simp) h
theorem drop_range {n d : Nat} (h : d < n) : (List.range n).drop d = d :: (List.range n).drop (d + 1) := by
  rw [List.drop_eq_getElem_cons (by simpa using h)]; simp
set_option maxHeartbeats 2000000 in
set_option maxRecDepth 100000 in
theorem best_any (nx : List Nat) (hn : nx.length ≤ 10) (hx : ∀ x ∈ nx, x < 2 ^ nx.length) (g b base : Nat) (w0 : World) (hw0 : w0.heap.size ≤ b) (k : Nat) (hk1 : k ≤ 1000) :
    ∀ (B D : Nat) (s : Int) (l : List Int) (w : World), B < 2 ^ nx.length → D < 2 ^ nx.length → bestF nx k B D = some (s, l) → BS w0 g b base nx w →
    Calls Tryd.prog 45 #[.pointer (some ⟨g, 0, none⟩), .agg #[.int .u16 B, .int .u16 D], .map (some b)] w (BestPost w0 g b base nx s l w) := by
  induction k with
  | zero => intro B D s l w _ _ h; simp [bestF] at h
  | succ k ih =>
    intro B D s l w hB hD h hS
    have HS := Aside0.mk hS
    have HF := Aside0.mk h
    clear hS h
    have IH := Aside0.mk ih
    clear ih
    have hgw := HS.out.st.lt
    have HBW := Aside0.mk HS.out.lt
    have HS0 := HS
    obtain ⟨es, ck, hm, he⟩ := HS.out.map
    have HM := Aside0.mk hm
    have HE := Aside0.mk he
    clear hm he
    rcases look83 ((w.alloc (.cells #[.int .u16 (B : Int), .int .u16 (D : Int)] 83)).alloc (.cells #[.int .i64 0, .slice none 0 0] 78)) b es ck (blk_alloc (blk_alloc HM.out _) _) (fun e h' => (HE.out e h').isKey) B D with hlook | ⟨e, hes, hek, hlook⟩
    · unfold key83 at hlook
      obtain ⟨R, hR, hrest⟩ := Option.bind_eq_some_iff.1 HF.out
      have HRR := Aside0.mk hR
      have HREST := Aside0.mk hrest
      clear hR hrest
      go_enter Tryd.func45, Tryd.ntmps45
      go_wp2
      go_loopg [9, 10] (k + 1) (fun kq v9 v10 wr => ∃ (r : Nat) (mo : Bool), v9 = .int .u16 (r : Int) ∧ v10 = .bool mo ∧ Aside0 (r < 2 ^ nx.length) ∧ Aside0 (mo = true → cloF nx D kq r = some R) ∧ Aside0 (mo = false → r = R) ∧ Aside0 (BS w0 g b base nx wr) ∧ Aside0 (Loc w wr B D) ∧ Aside0 (KeepBut w wr g (some b)))
      case atStart =>
        refine ⟨B, true, rfl, rfl, ⟨hB⟩, ⟨fun _ => HRR.out⟩, ⟨fun h => by cases h⟩, ⟨((HS.out.alloc _).alloc _).alloc _⟩, ⟨?_, ?_⟩, ⟨keep_weak (keep_alloc (keep_alloc (keep_alloc (KeepBut.refl _ _ _) _) _) _)⟩⟩
        · exact blk_alloc (blk_alloc (blk_new w _) _) _
        · refine blk_alloc ?_ _
          have := blk_new (w.alloc (.cells #[.int .u16 (B : Int), .int .u16 (D : Int)] 83)) (.cells #[.int .i64 0, .slice none 0 0] 78)
          simpa using this
      case round =>
        obtain ⟨r, mo, rfl, rfl, HR, HT, HN, HS, HL, HK⟩ := hrel
        cases mo with
        | true =>
          cases gk with
          | zero => exact absurd (HT.out rfl) (by simp [cloF])
          | succ q1 =>
            obtain ⟨ka, hka⟩ := (around_ev nx nx.length r hn hx HR.out).rounds
            have HKA := Aside0.mk hka
            clear hka
            have hcD := blk_cell HL.out.s 1
            have hcD' : wr.cell? ⟨w.heap.size, 1, none⟩ = some (.int .u16 D) := hcD
            clear hcD
            obtain ⟨r', hr'⟩ : ∃ r', r' = diff (arnd nx r) D := ⟨_, rfl⟩
            have hA : Go.bits .andNot .u16 ((arnd nx r : Nat) : Int) (D : Int) = (r' : Int) := by
              rw [hr']
              exact andNot16 _ _ (lt16 hn (arnd_lt hx HR.out)) (lt16 hn hD)
            have hlt : r' < 2 ^ nx.length := by rw [hr']; exact diff_le _ _ _ (arnd_lt hx HR.out)
            have HRL := Aside0.mk hlt
            have hT := HT.out rfl
            rw [cloF, ← hr'] at hT
            clear HT HN hlt
            have HRR' := Aside0.mk hr'
            clear hr'
            by_cases e : r' = r
            · have d : (((r' : Int)) != (r : Int)) = false := by simp [e]
              rw [if_pos e] at hT
              have HRe : Aside0 (r' = R) := ⟨by rw [e]; exact Option.some.inj hT⟩
              clear e hT
              --D(
              go_wp2
              go_region_with (go_at_call 59; refine (fire_graph_around.calls ka g _ _ _ _ _ w0 _ (by first | exact HS.out.st.drew | exact HS.out.st) (by first | exact HS.out.drew.bel | exact HS.out.bel) HKA.out).mono ?_; rintro e w1 ⟨rfl, j1, j2, j3⟩; have hcw : w1.cell? ⟨w.heap.size, 1, none⟩ = some (.int .u16 (D : Int)) := keep_cell j3 hcD' (by simp; omega))
              all_goals go_wp2
              all_goals go_roundg q1
              all_goals first
                | exact ⟨r', false, rfl, rfl, HRL, ⟨fun h => by cases h⟩, ⟨fun _ => HRe.out⟩, ⟨HS.out.drew.after j1 j2 j3⟩, ⟨HL.out.keep j3 hgw⟩, ⟨HK.out.trans (keep_weak j3) (.inl rfl)⟩⟩
                | exact Nat.lt_succ_self _
              --)
            · have d : (((r' : Int)) != (r : Int)) = true := by simp; omega
              rw [if_neg e] at hT
              have HTe := Aside0.mk hT
              clear e hT
              --D(
              go_wp2
              go_region_with (go_at_call 59; refine (fire_graph_around.calls ka g _ _ _ _ _ w0 _ (by first | exact HS.out.st.drew | exact HS.out.st) (by first | exact HS.out.drew.bel | exact HS.out.bel) HKA.out).mono ?_; rintro e w1 ⟨rfl, j1, j2, j3⟩; have hcw : w1.cell? ⟨w.heap.size, 1, none⟩ = some (.int .u16 (D : Int)) := keep_cell j3 hcD' (by simp; omega))
              all_goals go_wp2
              all_goals go_roundg q1
              all_goals first
                | exact ⟨r', true, rfl, rfl, HRL, ⟨fun _ => HTe.out⟩, ⟨fun h => by cases h⟩, ⟨HS.out.drew.after j1 j2 j3⟩, ⟨HL.out.keep j3 hgw⟩, ⟨HK.out.trans (keep_weak j3) (.inl rfl)⟩⟩
                | exact Nat.lt_succ_self _
              --)
        | false =>
          obtain rfl : r = R := HN.out rfl
          clear HT HN
          have hcn : wr.cell? ⟨g, 0, none⟩ = some (.int .i64 (nx.length : Int)) := by
            obtain ⟨A1, c1, hb, _⟩ := HS.out.st
            exact cellS105_0 hb
          have hgr := HS.out.st.lt
          have hpl : popc 16 r ≤ 16 := Nat.le_trans List.countP_le_length (by simp)
          have hwr : IntKind.i64.wrap ((nx.length : Int) - (popc 16 r : Nat)) = (nx.length : Int) - (popc 16 r : Nat) := IntWalk.i64_in _ (by omega)
          have hws := HK.out.1
          have hsz := size_is r (lt16 hn HR.out)
          have HSZ := Aside0.mk hsz
          clear hsz
          go_upto_region 10 with (fail)
          go_cut [12] (fun v12 wc => ∃ o : Nat, v12 = .pointer (some ⟨o, 0, none⟩) ∧ w.heap.size + 2 ≤ o ∧ Aside0 (wc.heap[o]? = some (.cells #[.int .i64 ((nx.length : Int) - (popc 16 r : Nat)), .slice none 0 0] 78 (0, 0))) ∧ Aside0 (BS w0 g b base nx wc) ∧ Aside0 (Loc w wc B D) ∧ Aside0 (KeepBut w wc g (some b)))
          case first =>
            --D(
            go_region_with (go_at_call 56; refine (fire_set_size.calls _ _ _ HSZ.out).mono ?_; rintro e w1 ⟨rfl, ⟨nd, rfl⟩⟩)
            all_goals go_wp2
            all_goals go_meet
            all_goals exact ⟨wr.heap.size, rfl, by have := blk_lt HL.out.r; omega, ⟨blk_drewN (blk_new wr _) _⟩, ⟨(HS.out.alloc _).drewN _⟩, ⟨(HL.out.keep (keep_alloc (KeepBut.refl _ _ _) _) hgw).drewN _⟩, ⟨keep_drewN (HK.out.trans (keep_weak (keep_alloc (KeepBut.refl _ _ _) _)) (.inl rfl)) _⟩⟩
            --)
          case rest =>
            clear hcn hgr hws
            obtain ⟨o, rfl, ho, HO, HS, HL, HK⟩ := hcut
            have hlo := HL.out
            have hcB : wc.cell? ⟨w.heap.size, 0, none⟩ = some (.int .u16 (B : Int)) := blk_cell hlo.s 0
            have hcD : wc.cell? ⟨w.heap.size, 1, none⟩ = some (.int .u16 (D : Int)) := blk_cell hlo.s 1
            clear hlo
            have hwc := HK.out.1
            by_cases hrB : r = B
            · have hd1 : (((r : Int)) != (B : Int)) = false := by simp; omega
              have hfin := HREST.out
              rw [if_pos hrB] at hfin
              have HFIN := Aside0.mk (Option.some.inj hfin)
              clear hfin hrB
              obtain ⟨rfl, rfl⟩ := Prod.mk.inj HFIN.out
              obtain ⟨W2, hput, q1, q2, q3, q4, q5, q6, q7, q8, hpost⟩ := best_end HS.out HL.out HK.out HBW.out hgw hw0 (by have := HS0.out.bel.size; omega) ho HO.out (Kd.R_nil _ _ _ _ _) HF.out (by simp)
              have HPOST := Aside0.mk hpost
              clear hpost HFIN
              have ho0' : wc.cell? ⟨o, 0, none⟩ = some (.int .i64 ((nx.length : Int) - (popc 16 r : Nat))) := blk_cell HO.out 0
              have ho1' : wc.cell? ⟨o, 1, none⟩ = some (.slice none 0 0) := blk_cell HO.out 1
              go_wp2
              refine bodyPost_ret (v := .agg #[.int .i64 ((nx.length : Int) - (popc 16 r : Nat)), .slice none 0 0]) ?_ rfl HPOST.out
              simp [results, Tryd.results45, go_sem, q7, q8]
            · have hd1 : (((r : Int)) != (B : Int)) = true := by simp; omega
              have HNE := Aside0.mk hrB
              clear hrB
              have hcn : wc.cell? ⟨g, 0, none⟩ = some (.int .i64 (nx.length : Int)) := by
                obtain ⟨A1, c1, hb, _⟩ := HS.out.st
                exact cellS105_0 hb
              have hfold := HREST.out
              rw [if_neg HNE.out] at hfold
              have HFOLD := Aside0.mk hfold
              clear hfold HREST
              go_wp2
              go_loopg [54] nx.length (fun kq v54 wq => ∃ (d : Nat) (cs : Int) (cv : Value) (cl : List Int), v54 = .int .i64 (d : Int) ∧ Aside0 (d + kq = nx.length) ∧ Aside0 (((List.range nx.length).drop d).foldl (stepO (bestF nx k) nx B D) (some (cs, cl)) = some (s, l)) ∧ Aside0 (cl.length ≤ k + 1) ∧ Aside0 (wq.heap[o]? = some (.cells #[.int .i64 cs, cv] 78 (0, 0))) ∧ Aside0 (Kd.R (Kd.int .i64) 3 wq base (fun q => q ≠ g ∧ q ≠ b) cv cl) ∧ Aside0 (BS w0 g b base nx wq) ∧ Aside0 (Loc w wq B D) ∧ Aside0 (KeepBut w wq g (some b)))
              case atStart => exact ⟨0, _, _, _, rfl, ⟨by omega⟩, ⟨by simpa using HFOLD.out⟩, ⟨by simp⟩, HO, ⟨Kd.R_nil _ _ _ _ _⟩, HS, HL, HK⟩
              case round =>
                clear HO HS HL HK HFOLD
                obtain ⟨d, cs, cv, cl, rfl, HDK, HT, HCL, HO, HR1, HS, HL, HK⟩ := hrel
                cases gk with
                | zero =>
                  obtain rfl : d = nx.length := by have := HDK.out; omega
                  have hlt : decide ((nx.length : Int) < (nx.length : Int)) = false := by simp
                  have hT := HT.out
                  rw [List.drop_eq_nil_of_le (by simp)] at hT
                  obtain ⟨rfl, rfl⟩ := Prod.mk.inj (Option.some.inj hT)
                  clear hT
                  obtain ⟨W2, hput, q1, q2, q3, q4, q5, q6, q7, q8, hpost⟩ := best_end HS.out HL.out HK.out HBW.out hgw hw0 (by have := HS0.out.bel.size; omega) ho HO.out HR1.out HF.out (by have := HCL.out; omega)
                  have HPOST := Aside0.mk hpost
                  clear hpost
                  obtain ⟨A1, c1, rfl⟩ := Kd.R_slice HR1.out
                  have hcB : wr.cell? ⟨w.heap.size, 0, none⟩ = some (.int .u16 (B : Int)) := blk_cell HL.out.s 0
                  have hcD : wr.cell? ⟨w.heap.size, 1, none⟩ = some (.int .u16 (D : Int)) := blk_cell HL.out.s 1
                  have ho0' : wr.cell? ⟨o, 0, none⟩ = some (.int .i64 cs) := blk_cell HO.out 0
                  have ho1' : wr.cell? ⟨o, 1, none⟩ = some (.slice A1 cl.length c1) := blk_cell HO.out 1
                  --D(
                  go_wp2
                  refine bodyPost_ret (v := .agg #[.int .i64 cs, .slice A1 cl.length c1]) ?_ rfl HPOST.out
                  simp [results, Tryd.results45, go_sem, q7, q8]
                  --)
                | succ q1 =>
                  have hdn : d < nx.length := by have := HDK.out; omega
                  have hlt : decide ((d : Int) < (nx.length : Int)) = true := by simp; omega
                  have hcB : wr.cell? ⟨w.heap.size, 0, none⟩ = some (.int .u16 (B : Int)) := blk_cell HL.out.s 0
                  have hcD : wr.cell? ⟨w.heap.size, 1, none⟩ = some (.int .u16 (D : Int)) := blk_cell HL.out.s 1
                  have hor : Go.bits .or .u16 (B : Int) (D : Int) = ((B ||| D : Nat) : Int) := or16 _ _ (lt16 hn hB) (lt16 hn hD)
                  have HH := Aside0.mk (has_is (B ||| D) d (Nat.lt_of_lt_of_le (Nat.or_lt_two_pow hB hD) (Nat.le_trans (Nat.pow_le_pow_right (by omega) hn) (by omega))))
                  have hwd : IntKind.i64.wrap ((d : Int) + 1) = ((d + 1 : Nat) : Int) := by rw [IntWalk.i64_in _ (by omega)]; simp
                  by_cases hbit : (B ||| D).testBit d = true
                  · have hst : ((List.range nx.length).drop (d + 1)).foldl (stepO (bestF nx k) nx B D) (some (cs, cl)) = some (s, l) := by
                      have hT := HT.out
                      rw [drop_range hdn, List.foldl_cons] at hT
                      simpa [stepO, hbit] using hT
                    have HT' := Aside0.mk hst
                    clear hst HT
                    rw [hbit] at HH
                    go_wp2_with (first | (go_at_call 63; refine (fire_set_has.calls _ _ _ _ HH.out).mono ?_; rintro e w1 ⟨rfl, ⟨nd, rfl⟩⟩))
                    --D(
                    go_roundg q1
                    · exact ⟨d + 1, cs, cv, cl, by first | rfl | rw [hwd], ⟨by have := HDK.out; omega⟩, HT', HCL, ⟨HO.out⟩, ⟨Kd.R_drewN HR1.out _⟩, ⟨HS.out.drewN _⟩, ⟨HL.out.drewN _⟩, ⟨keep_drewN HK.out _⟩⟩
                    · exact Nat.lt_succ_self _
                    --)
                  · rw [Bool.not_eq_true] at hbit
                    rw [hbit] at HH
                    obtain ⟨D1, hD1⟩ : ∃ x, x = D ||| 2 ^ d := ⟨_, rfl⟩
                    obtain ⟨B1, hB1⟩ : ∃ x, x = diff (arnd nx B) D1 := ⟨_, rfl⟩
                    have hlD : D1 < 2 ^ nx.length := by rw [hD1]; exact Nat.or_lt_two_pow hD (Nat.pow_lt_pow_right (by omega) hdn)
                    have hlB : B1 < 2 ^ nx.length := by rw [hB1]; exact diff_le _ _ _ (arnd_lt hx hB)
                    have hT := HT.out
                    rw [drop_range hdn, List.foldl_cons] at hT
                    have hrec : ∃ s1 l1, bestF nx k B1 D1 = some (s1, l1) ∧ ((List.range nx.length).drop (d + 1)).foldl (stepO (bestF nx k) nx B D) (some (pick (s1, (d : Int) :: l1) (cs, cl))) = some (s, l) := by
                      cases hq : bestF nx k B1 D1 with
                      | none =>
                        exfalso
                        rw [hB1, hD1] at hq
                        simp [stepO, hbit, hq, foldl_stepO_none] at hT
                      | some p =>
                        refine ⟨p.1, p.2, rfl, ?_⟩
                        rw [hB1, hD1] at hq
                        simpa [stepO, hbit, hq] using hT
                    obtain ⟨s1, l1, hrec, hT'⟩ := hrec
                    have HREC := Aside0.mk hrec
                    have HT' := Aside0.mk hT'
                    clear hT hrec hT' HT
                    have hl1 := bestF_len HREC.out
                    have hsh : shl .u16 1 (d : Int) = ((2 ^ d : Nat) : Int) := shl16 d (by omega)
                    have hor2 : Go.bits .or .u16 (D : Int) (IntKind.u16.wrap (2 ^ d)) = (D1 : Int) := by
                      rw [show IntKind.u16.wrap (2 ^ d) = ((2 ^ d : Nat) : Int) by rw [← hsh]; simp [shl, IntKind.bits, Nat.min_eq_left (show d ≤ 16 by omega)]]
                      rw [hD1]; exact or16 _ _ (lt16 hn hD) (lt16 hn (Nat.pow_lt_pow_right (by omega) hdn))
                    have hA : Go.bits .andNot .u16 ((arnd nx B : Nat) : Int) (D1 : Int) = (B1 : Int) := by
                      rw [hB1]
                      exact andNot16 _ _ (lt16 hn (arnd_lt hx hB)) (lt16 hn hlD)
                    have hd0 : (0 : Int) ≤ (d : Int) := by omega
                    obtain ⟨ka, hka⟩ := (around_ev nx nx.length B hn hx hB).rounds
                    have HKA := Aside0.mk hka
                    have HXD := Aside0.mk (And.intro hD1 hB1)
                    clear hka hD1 hB1
                    go_wp2_with (first | (go_at_call 63; refine (fire_set_has.calls _ _ _ _ HH.out).mono ?_; rintro e w1 ⟨rfl, ⟨nd, rfl⟩⟩))
                    go_quiet (fail)
                    have HS1 := Aside0.mk (HS.out.drewN (nd + nq))
                    go_wp2_with (first | (go_at_call 59; refine (fire_graph_around.calls ka g _ _ _ _ _ w0 _ HS1.out.st HS1.out.bel HKA.out).mono ?_; rintro e w1 ⟨rfl, j1, j2, j3⟩) | (go_at_call 45; refine (IH.out (by omega) B1 D1 s1 l1 _ hlB hlD HREC.out (HS1.out.after j1 j2 j3)).mono ?_; rintro e w2 ⟨v1, rfl, m1, m2, m3⟩; obtain ⟨A2, c2, rfl, hlc, hC⟩ := Kd.R_reads m1))
                    have f1 : ∀ q, (w2.alloc (.cells #[.int .i64 s1, .slice A2 l1.length c2] 78)).heap.size ≤ q → q ≠ g ∧ q ≠ b := by
                      intro q hq
                      have := m2.lt
                      have := m2.st.lt
                      simp at hq
                      constructor <;> omega
                    have f2 : base ≤ (w2.alloc (.cells #[.int .i64 s1, .slice A2 l1.length c2] 78)).heap.size := by
                      have := m2.st.lt
                      have := m2.hb
                      simp
                      omega
                    have f3 := Kd.C_drew (Kd.C_alloc hC (.cells #[.int .i64 s1, .slice A2 l1.length c2] 78))
                    have f4 := blk_drew (blk_new w2 (.cells #[.int .i64 s1, .slice A2 l1.length c2] 78))
                    have f5 : l1.length ≤ 100000 := by omega
                    refine start_ (n := 9) (S := fun w' => w'.cell? ⟨w2.heap.size, 0, none⟩ = some (.int .i64 s1) ∧ w'.cell? ⟨w2.heap.size, 1, none⟩ = some (.slice A2 l1.length c2)) (ds := [8]) #[false, false, false, false, false, false, false, false, false] (by kernel_rfl) rfl rfl ⟨blk_cell f4 0, blk_cell f4 1⟩ (fun hHeld => ?_)
                    refine pure_ (i := 0) (N := some 81) (v := ?_) (a' := ?_) #[true, false, false, false, false, false, false, false, false] rfl rfl (by kernel_rfl) (fun _ _ _ h => h) (Or.inl ⟨by rfl, ?_⟩) ?_ ?_
                    rotate_left
                    · intro w'
                      go_simp
                      with_reducible rfl
                    rotate_left
                    · simp only [Act.put, List.setIfInBounds_toArray, List.set_cons_zero, List.set_cons_succ, i64_w, i32_w]
                      rfl
                    refine take_ (i := 1) (N := some 82) (v := ?_) (a' := ?_) #[true, true, false, false, false, false, false, false, false] rfl rfl (by kernel_rfl) (fun _ _ _ h => h) (Or.inl ⟨by rfl, ?_⟩) hHeld ?_ ?_
                    rotate_left
                    · rintro w' ⟨s0, s1⟩
                      go_simp
                      with_reducible rfl
                    rotate_left
                    · simp only [Act.put, List.setIfInBounds_toArray, List.set_cons_zero, List.set_cons_succ, i64_w, i32_w]
                      rfl
                    refine pure_ (i := 2) (N := some 83) (v := ?_) (a' := ?_) #[true, true, true, false, false, false, false, false, false] rfl rfl (by kernel_rfl) (fun _ _ _ h => h) (Or.inl ⟨by rfl, ?_⟩) ?_ ?_
                    rotate_left
                    · intro w'
                      go_simp
                      with_reducible rfl
                    rotate_left
                    · simp only [Act.put, List.setIfInBounds_toArray, List.set_cons_zero, List.set_cons_succ, i64_w, i32_w]
                      rfl
                    refine pure_ (i := 4) (N := some 85) (v := ?_) (a' := ?_) #[true, true, true, false, true, false, false, false, false] rfl rfl (by kernel_rfl) (fun _ _ _ h => h) (Or.inl ⟨by rfl, ?_⟩) ?_ ?_
                    rotate_left
                    · intro w'
                      go_simp
                      with_reducible rfl
                    rotate_left
                    · simp only [Act.put, List.setIfInBounds_toArray, List.set_cons_zero, List.set_cons_succ, i64_w, i32_w]
                      rfl
                    refine take_ (i := 5) (N := some 86) (v := ?_) (a' := ?_) #[true, true, true, false, true, true, false, false, false] rfl rfl (by kernel_rfl) (fun _ _ _ h => h) (Or.inl ⟨by rfl, ?_⟩) hHeld ?_ ?_
                    rotate_left
                    · rintro w' ⟨s0, s1⟩
                      go_simp
                      with_reducible rfl
                    rotate_left
                    · simp only [Act.put, List.setIfInBounds_toArray, List.set_cons_zero, List.set_cons_succ, i64_w, i32_w]
                      rfl
                    refine one_ (i := 3) (N := some 84) #[true, true, true, true, true, true, false, false, false] rfl rfl (by kernel_rfl) (by decide) (fun K hK => ?_)
                    refine value_ (w1 := ?_) (v := ?_) (by rfl) rfl ?_ ?_
                    rotate_left 2
                    · go_simp
                      constructor
                      · rfl
                      · rfl
                    refine hK.out _ _ ⟨blk_cell (blk_alloc f4 _) 0, blk_cell (blk_alloc f4 _) 1⟩ (fun hHeld => ?_)
                    clear hK K
                    refine norm_ (a' := ?_) ?_ ?_
                    rotate_left
                    · show Act.put _ (some 84) _ = _
                      simp only [Act.put, List.setIfInBounds_toArray, List.set_cons_zero, List.set_cons_succ, i64_w, i32_w]
                      rfl
                    refine one_ (i := 6) (N := some 87) #[true, true, true, true, true, true, true, false, false] rfl rfl (by kernel_rfl) (by decide) (fun K hK => ?_)
                    refine step_cons base (by rfl) (.tmp 84) (.tmp 86) rfl (d : Int) l1 A2 c2 (fun q => q ≠ g ∧ q ≠ b) rfl (w2.heap.size + 1) (by simp) rfl rfl f3 f1 f2 f5 ?_
                    intro v3 w3 p1 p2
                    obtain ⟨A3, c3, rfl, hlc3, hC3⟩ := Kd.R_reads p1
                    have p3 : w3.cell? ⟨w2.heap.size, 0, none⟩ = some (.int .i64 s1) := blk_cell (blk_below f4 p2) 0
                    have p4 : w3.cell? ⟨w2.heap.size, 1, none⟩ = some (.slice A2 l1.length c2) := blk_cell (blk_below f4 p2) 1
                    have p5 : w3.frozen? ⟨w2.heap.size, 0, none⟩ = false := blk_frozen (blk_below f4 p2) 0
                    have p6 : w3.frozen? ⟨w2.heap.size, 1, none⟩ = false := blk_frozen (blk_below f4 p2) 1
                    refine hK.out _ _ ⟨blk_cell (blk_below f4 p2) 0, blk_cell (blk_below f4 p2) 1⟩ (fun hHeld => ?_)
                    clear hK K
                    refine norm_ (a' := ?_) ?_ ?_
                    rotate_left
                    · show Act.put _ (some 87) _ = _
                      simp only [Act.put, List.setIfInBounds_toArray, List.set_cons_zero, List.set_cons_succ, i64_w, i32_w]
                      rfl
                    refine pure_ (i := 7) (N := some 88) (v := ?_) (a' := ?_) #[true, true, true, true, true, true, true, true, false] rfl rfl (by kernel_rfl) (fun _ _ _ h => h) (Or.inl ⟨by rfl, ?_⟩) ?_ ?_
                    rotate_left
                    · intro w'
                      go_simp
                      with_reducible rfl
                    rotate_left
                    · simp only [Act.put, List.setIfInBounds_toArray, List.set_cons_zero, List.set_cons_succ, i64_w, i32_w]
                      rfl
                    refine last_ (i := 8) (N := none) #[true, true, true, true, true, true, true, true, true] rfl rfl (by kernel_rfl) (by decide) (fun K hK => ?_)
                    refine skip_ (w1 := ?_) (by rfl) rfl ?_ ?_
                    rotate_left
                    · go_simp
                      rfl
                    refine hK.out _ _ ?_
                    clear hK K
                    refine done_ (by kernel_rfl) ?_
                    obtain ⟨W4, hW4, b1, b2, b3, b4, b5, b6, b7⟩ := best_mid HL.out HK.out HO.out HR1.out (by omega) (by have := HBW.out; omega) hgw HBW.out (by have := HS0.out.bel.size; omega) j3 m2 m3 p1 p2
                    have hz1 : wr.heap.size ≤ w1.heap.size := j3.1
                    have hz2 : w1.heap.size ≤ w2.heap.size := m3.1
                    have hz0 := HK.out.1
                    have hzo := blk_lt HO.out
                    change Exit.then _ _ Exit.normal _ ((w3.setCell ⟨w2.heap.size, 0, none⟩ (.int .i64 s1)).setCell ⟨w2.heap.size, 1, none⟩ (.slice A3 ((d : Int) :: l1).length c3))
                    rw [← hW4]
                    clear hW4 f1 f2 f3 f4 f5 p1 p2 p3 p4 p5 p6 hC m1 m2 m3 j1 j2 j3 hHeld hcB hcD
                    obtain ⟨A1, c1, rfl, hlc1, HC1⟩ := Kd.R_reads b5
                    have HC3 := (Kd.R_reads' b7).2.2
                    have hlc3' : ((d : Int) :: l1).length ≤ c3 := by simpa using hlc3
                    obtain ⟨kb, hkb⟩ := (better_ev (s1, (d : Int) :: l1) (cs, cl) (by simp; omega)).rounds
                    have HKB := Aside0.mk hkb
                    have B1' := Aside0.mk b1
                    have B2' := Aside0.mk b2
                    have B3' := Aside0.mk b3
                    have B4' := Aside0.mk b4
                    have B5' := Aside0.mk b5
                    have B6' := Aside0.mk b6
                    have B7' := Aside0.mk b7
                    have hc0 : W4.cell? ⟨w2.heap.size, 0, none⟩ = some (.int .i64 s1) := blk_cell b6 0
                    have hc1 : W4.cell? ⟨w2.heap.size, 1, none⟩ = some (.slice A3 (l1.length + 1) c3) := blk_cell b6 1
                    have hc2 : W4.cell? ⟨o, 0, none⟩ = some (.int .i64 cs) := blk_cell b4 0
                    have hc3 : W4.cell? ⟨o, 1, none⟩ = some (.slice A1 cl.length c1) := blk_cell b4 1
                    have hzd : w3.heap.size = w3.heap.size := rfl
                    clear hkb b1 b2 b3 b4 b5 b6 b7 hzd
                    by_cases hbet : betterP (s1, (d : Int) :: l1) (cs, cl) = true
                    · rw [hbet] at HKB
                      have hT2 := HT'.out
                      rw [show pick (s1, (d : Int) :: l1) (cs, cl) = (s1, (d : Int) :: l1) by simp [pick, hbet]] at hT2
                      have HT2 := Aside0.mk hT2
                      clear hT2 HT'
                      go_wp2_with (first | (go_at_call 64; refine (fire_plan_better.calls kb s1 A3 c3 ((d : Int) :: l1) cs A1 c1 cl true _ HC3 hlc3' HC1 hlc1 HKB.out).mono ?_; rintro e w5 ⟨rfl, n1⟩; have hd0 : w5.cell? ⟨w2.heap.size, 0, none⟩ = some (.int .i64 s1) := blk_cell (blk_below B6'.out n1) 0; have hd1 : w5.cell? ⟨w2.heap.size, 1, none⟩ = some (.slice A3 (l1.length + 1) c3) := blk_cell (blk_below B6'.out n1) 1; have hd2 : w5.cell? ⟨o, 0, none⟩ = some (.int .i64 cs) := blk_cell (blk_below B4'.out n1) 0; have hd3 : w5.cell? ⟨o, 1, none⟩ = some (.slice A1 cl.length c1) := blk_cell (blk_below B4'.out n1) 1; have hd4 : w5.frozen? ⟨o, 0, none⟩ = false := blk_frozen (blk_below B4'.out n1) 0; have hd5 : w5.frozen? ⟨o, 1, none⟩ = false := blk_frozen (blk_below B4'.out n1) 1))
                      obtain ⟨r1, r2, r3, r4, r5⟩ := best_put (s1 := s1) (B1'.out.below n1) ⟨blk_below B2'.out.s n1, blk_below B2'.out.r n1⟩ (B3'.out.trans (KeepBut.of_below n1 g (some b)) (.inl rfl)) (blk_below B4'.out n1) (Kd.R_step B7'.out (fun q _ hl => n1.block q hl)) (by omega) (by have := HBW.out; omega) ho (by have := HS0.out.bel.size; omega)
                      go_roundg q1
                      · exact ⟨d + 1, s1, _, (d : Int) :: l1, by first | rfl | rw [hwd], ⟨by have := HDK.out; omega⟩, HT2, ⟨by simp; omega⟩, ⟨r1⟩, ⟨r2⟩, ⟨r3⟩, ⟨r4⟩, ⟨r5⟩⟩
                      · exact Nat.lt_succ_self _
                    · rw [Bool.not_eq_true] at hbet
                      rw [hbet] at HKB
                      have hT2 := HT'.out
                      rw [show pick (s1, (d : Int) :: l1) (cs, cl) = (cs, cl) by simp [pick, hbet]] at hT2
                      have HT2 := Aside0.mk hT2
                      clear hT2 HT'
                      go_wp2_with (first | (go_at_call 64; refine (fire_plan_better.calls kb s1 A3 c3 ((d : Int) :: l1) cs A1 c1 cl false _ HC3 hlc3' HC1 hlc1 HKB.out).mono ?_; rintro e w5 ⟨rfl, n1⟩))
                      go_roundg q1
                      · exact ⟨d + 1, cs, _, cl, by first | rfl | rw [hwd], ⟨by have := HDK.out; omega⟩, HT2, HCL, ⟨blk_below B4'.out n1⟩, ⟨Kd.R_step B5'.out (fun q _ hl => n1.block q hl)⟩, ⟨B1'.out.below n1⟩, ⟨blk_below B2'.out.s n1, blk_below B2'.out.r n1⟩, ⟨B3'.out.trans (KeepBut.of_below n1 g (some b)) (.inl rfl)⟩⟩
                      · exact Nat.lt_succ_self _
    · obtain ⟨B', D', k', s', v', l', h1, h2, h3, h4, h5⟩ := HE.out e hes
      rw [h1] at hek
      unfold key83 at hek hlook
      injection hek with hek
      injection hek with hek
      injection hek with e1 e2
      injection e1 with _ e1
      injection e2 with e2 _
      injection e2 with _ e2
      obtain rfl : B' = B := by omega
      obtain rfl : D' = D := by omega
      obtain ⟨rfl, rfl⟩ := Prod.mk.inj (bestF_det nx h3 HF.out)
      obtain ⟨A1, c1, rfl, hlc, HC1⟩ := Kd.R_reads h5
      rw [h2] at hlook
      have H5 := Aside0.mk h5
      clear h1 h2 h3 h4 h5 hes
      go_enter Tryd.func45, Tryd.ntmps45
      go_wp2
      have q0 : (((w.alloc (.cells #[.int .u16 B', .int .u16 D'] 83)).alloc (.cells #[.int .i64 s', .slice A1 l'.length c1] 78)).alloc (.cells #[.int .i64 s', .slice A1 l'.length c1] 78)).heap[w.heap.size + 1]? = some (.cells #[.int .i64 s', .slice A1 l'.length c1] 78 (0, 0)) := by
        refine blk_alloc ?_ _
        have := blk_new (w.alloc (.cells #[.int .u16 (B' : Int), .int .u16 (D' : Int)] 83)) (.cells #[.int .i64 s', .slice A1 l'.length c1] 78)
        simpa using this
      have q7 := blk_cell q0 0
      have q8 := blk_cell q0 1
      refine bodyPost_ret (v := .agg #[.int .i64 s', .slice A1 l'.length c1]) ?_ rfl ⟨_, rfl, ?_, ?_, ?_⟩
      · simp [results, Tryd.results45, go_sem]
      · exact Kd.R_alloc (Kd.R_alloc (Kd.R_alloc H5.out _) _) _
      · exact ((HS.out.alloc _).alloc _).alloc _
      · exact keep_weak (keep_alloc (keep_alloc (keep_alloc (KeepBut.refl _ _ _) _) _) _)
end Go.Proofs.YtbgpnkchbcgekaaDoor.Fi
