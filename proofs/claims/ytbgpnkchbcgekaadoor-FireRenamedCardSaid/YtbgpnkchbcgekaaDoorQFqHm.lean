/- The map from states to plans: what a lookup and an update do, entry by entry. -/
import Derived.Test.YtbgpnkchbcgekaaDoorQFqFi1
import Derived.Test.YtbgpnkchbcgekaaDoorQFqS6
import Derived.Maps.Own
import Derived.MapKept
import Derived.Outline
namespace Go.Proofs.YtbgpnkchbcgekaaDoor.Fi
open Go.RowKit Go.Proofs.YtbgpnkchbcgekaaDoorW.PrintWords Go.Proofs.YtbgpnkchbcgekaaDoorW.PrintLast Go.Proofs.YtbgpnkchbcgekaaDoorW.PrintMore
set_option linter.unusedVariables false
set_option linter.unusedSimpArgs false
def key83 (a b : Int) : Value := .agg #[.int .u16 a, .int .u16 b]
def isKey (v : Value) : Prop := ∃ a b : Int, v = key83 a b
theorem eqA83 (d : Nat) (w : World) (x0 x1 y0 y1 : Int) :
    (Op.equalIn (d + 2) 83 (key83 x0 x1) (key83 y0 y1)).run Tryd.prog w = .ok (x0 == y0 && (x1 == y1)) w := by
  refine eqA_of Tryd.underlying83 (by kernel_rfl) ?_
  refine eqf_cons (by rfl) (by go_simp; rfl) (by go_simp; rfl) (by go_simp) ?_
  exact eqf_last (by rfl) (by go_simp; rfl) (by go_simp; rfl) (by go_simp)
theorem equal83 (w : World) (x0 x1 y0 y1 : Int) : (Op.equal 83 (key83 x0 x1) (key83 y0 y1)).run Tryd.prog w = .ok (x0 == y0 && (x1 == y1)) w := eqA83 9998 w x0 x1 y0 y1
theorem asking83 (w : World) (a b : Int) : ∀ (es : List MapEntry) (i : Nat), (∀ e ∈ es, isKey e.key) →
    ((Instr.findAsking 83 (key83 a b) es i).run Tryd.prog w = .ok none w ∧ ∀ e ∈ es, e.key ≠ key83 a b) ∨
    ∃ j e, (Instr.findAsking 83 (key83 a b) es i).run Tryd.prog w = .ok (some (i + j, e.val)) w ∧ es[j]? = some e ∧ e.key = key83 a b := by
  intro es
  induction es with
  | nil => intro i _; exact .inl ⟨by simp [Instr.findAsking], by simp⟩
  | cons e es ih =>
    intro i h
    obtain ⟨c, d, hk⟩ := h e (by simp)
    have hq := equal83 w a b c d
    rw [← hk] at hq
    by_cases hh : a = c ∧ b = d
    · obtain ⟨rfl, rfl⟩ := hh
      refine .inr ⟨0, e, ?_, rfl, hk⟩
      simp [Instr.findAsking, hq]
    · have hf : (a == c && (b == d)) = false := by
        rw [Bool.and_eq_false_iff, beq_eq_false_iff_ne, beq_eq_false_iff_ne]
        by_cases h1 : a = c
        · exact .inr fun h2 => hh ⟨h1, h2⟩
        · exact .inl h1
      rw [hf] at hq
      rcases ih (i + 1) (fun e' he' => h e' (by simp [he'])) with ⟨h1, h2⟩ | ⟨j, e', h1, h2, h3⟩
      · refine .inl ⟨by simp [Instr.findAsking, hq, h1], fun e' he' => ?_⟩
        rcases List.mem_cons.1 he' with rfl | he'
        · rw [hk]
          intro he
          unfold key83 at he
          injection he with he
          injection he with he
          injection he with h3 h4
          injection h3 with _ h3
          injection h4 with h4 _
          injection h4 with _ h4
          exact hh ⟨h3.symm, h4.symm⟩
        · exact h2 e' he'
      · exact .inr ⟨j + 1, e', by simp [Instr.findAsking, hq, h1, Nat.add_assoc, Nat.add_comm 1 j], by simpa using h2, h3⟩
theorem check83 (w : World) (e : Bool) (a b : Int) : (Instr.checkKey e 10000 83 (key83 a b)).run Tryd.prog w = .ok () w := by
  kernel_rfl
theorem zero78 (w : World) : (zeroValue 78).run Tryd.prog w = .ok (.agg #[.int .i64 0, .slice none 0 0]) w := by kernel_rfl
theorem find83 (w : World) (a b : Int) (es : List MapEntry) (h : ∀ e ∈ es, isKey e.key) :
    ((Instr.findKey 83 (key83 a b) es).run Tryd.prog w = .ok none w ∧ ∀ e ∈ es, e.key ≠ key83 a b) ∨
    ∃ j e, (Instr.findKey 83 (key83 a b) es).run Tryd.prog w = .ok (some (j, e.val)) w ∧ es[j]? = some e ∧ e.key = key83 a b := by
  cases es with
  | nil => exact .inl ⟨by simp [Instr.findKey, run_underlying Tryd.underlying83, Instr.findNow], by simp⟩
  | cons e es =>
    have hn : ∀ fs, Instr.findNow (.struct fs) (key83 a b) (e :: es) 0 = none := fun _ => rfl
    rcases asking83 w a b (e :: es) 0 h with ⟨h1, h2⟩ | ⟨j, e', h1, h2, h3⟩
    · exact .inl ⟨by simp [Instr.findKey, run_underlying Tryd.underlying83, hn, h1], h2⟩
    · exact .inr ⟨j, e', by simp [Instr.findKey, run_underlying Tryd.underlying83, hn, h1], h2, h3⟩
/-- A block's object is replaced. -/
def setObjW (w : World) (b : Nat) (o : Obj) : World := { w with heap := w.heap.setIfInBounds b o }
/-- A lookup with ok: what is there, or nothing. -/
theorem look83 (W : World) (b : Nat) (es : Array MapEntry) (ck : Nat) (hb : W.heap[b]? = some (.map es ck)) (hes : ∀ e ∈ es, isKey e.key) (x y : Int) :
    (Instr.lookup 84 (.map (some b)) (key83 x y) true).run Tryd.prog W = .ok (.tuple #[.agg #[.int .i64 0, .slice none 0 0], .bool false]) W ∨
    ∃ e ∈ es, e.key = key83 x y ∧ (Instr.lookup 84 (.map (some b)) (key83 x y) true).run Tryd.prog W = .ok (.tuple #[e.val, .bool true]) W := by
  rcases find83 W x y es.toList (fun e he => hes e (by simpa using he)) with ⟨h1, h2⟩ | ⟨j, e, h1, h2, h3⟩
  · left
    simp [Instr.lookup, run_underlying Tryd.underlying84, MapKept.run_getObj_map hb, check83, h1, zero78, Result.andThen]
  · right
    refine ⟨e, ?_, h3, ?_⟩
    · have := List.mem_of_getElem? h2
      simpa using this
    · simp [Instr.lookup, run_underlying Tryd.underlying84, MapKept.run_getObj_map hb, check83, h1, Result.andThen]
/-- An update: whatever was there at this key is the new value now; all other entries stay. -/
theorem put83 (W : World) (b : Nat) (es : Array MapEntry) (ck : Nat) (hb : W.heap[b]? = some (.map es ck)) (hes : ∀ e ∈ es, isKey e.key) (x y : Int) (v : Value) :
    ∃ es' ck', (Instr.mapUpdate 84 (.map (some b)) (key83 x y) v).run Tryd.prog W = .ok () (setObjW W b (.map es' ck')) ∧ ∀ e ∈ es', e ∈ es ∨ (e.key = key83 x y ∧ e.val = v) := by
  rcases find83 W x y es.toList (fun e he => hes e (by simpa using he)) with ⟨h1, h2⟩ | ⟨j, e, h1, h2, h3⟩
  · refine ⟨es.push { key := key83 x y, val := v, born := ck }, ck + 1, ?_, ?_⟩
    · simp [Instr.mapUpdate, run_underlying Tryd.underlying84, MapKept.run_getObj_map hb, check83, h1, MapKept.run_setObj_map _ hb, Result.andThen, setObjW]
    · intro e he
      rcases Array.mem_push.1 he with he | rfl
      · exact .inl he
      · exact .inr ⟨rfl, rfl⟩
  · have hs : Instr.sameBits 10000 e.key (key83 x y) = true := by rw [h3]; simp [key83, Instr.sameBits]
    refine ⟨es.modify j fun e => { e with key := key83 x y, val := v }, ck, ?_, ?_⟩
    · have h2' : es[j]? = some e := by simpa using h2
      simp [Instr.mapUpdate, run_underlying Tryd.underlying84, MapKept.run_getObj_map hb, check83, h1, h2', hs, Instr.keyThatStays, MapKept.run_setObj_map _ hb, Result.andThen, setObjW]
    · intro e' he'
      obtain ⟨i, hi, rfl⟩ := Array.mem_iff_getElem.1 he'
      rw [Array.getElem_modify]
      split
      · exact .inr ⟨rfl, rfl⟩
      · exact .inl (Array.getElem_mem _)
end Go.Proofs.YtbgpnkchbcgekaaDoor.Fi
