/- All teams in lexicographic order, one after the other: plain. -/
import Derived.Test.YtepgcdjbhmpioaaQTkT2
namespace Go.Proofs.Ytepgcdjbhmpioaa.Fi
set_option linter.unusedVariables false
/-- The next teams. -/
def nxtT (k : Nat) : List Nat → Option (List Nat)
  | [] => none
  | d :: ds => match nxtT k ds with
    | some e => some (d :: e)
    | none => if d + 1 < k then some ((d + 1) :: List.replicate ds.length 0) else none
/-- Each is followed by its next one, the last one by x. -/
def Runs (k : Nat) : List (List Nat) → Option (List Nat) → Prop
  | [], _ => True
  | a :: r, x => nxtT k a = r.head?.or x ∧ Runs k r x
theorem runs_append (k : Nat) : ∀ (L M : List (List Nat)) (x : Option (List Nat)), Runs k L (M.head?.or x) → Runs k M x → Runs k (L ++ M) x
  | [], M, x, _, h => h
  | a :: L, M, x, h1, h2 => by
    refine ⟨?_, runs_append k L M x h1.2 h2⟩
    rw [h1.1]
    cases L <;> simp
theorem runs_split (k : Nat) : ∀ (L M : List (List Nat)) (x : Option (List Nat)), Runs k (L ++ M) x → Runs k M x
  | [], M, x, h => h
  | a :: L, M, x, h => runs_split k L M x h.2
theorem runs_block (k d n : Nat) : ∀ A : List (List Nat), (∀ a ∈ A, a.length = n) → Runs k A none → Runs k (A.map (d :: ·)) (if d + 1 < k then some ((d + 1) :: List.replicate n 0) else none)
  | [], _, _ => trivial
  | a :: A, hl, h => by
    refine ⟨?_, runs_block k d n A (fun b hb => hl b (by simp [hb])) h.2⟩
    have h1 := h.1
    have h2 := hl a (by simp)
    show nxtT k (d :: a) = _
    cases A with
    | nil =>
      simp only [List.head?_nil, Option.none_or] at h1
      simp only [nxtT, h1, h2, List.map_nil, List.head?_nil, Option.none_or]
    | cons b A =>
      simp only [List.head?_cons, Option.some_or] at h1
      simp only [nxtT, h1, List.map_cons, List.head?_cons, Option.some_or]
theorem allT_runs {k : Nat} (hk : 1 ≤ k) : ∀ n, Runs k (allT k n) none ∧ (allT k n).head? = some (List.replicate n 0)
  | 0 => ⟨⟨rfl, trivial⟩, rfl⟩
  | n + 1 => by
    obtain ⟨h1, h2⟩ := allT_runs hk n
    have hl : ∀ a ∈ allT k n, a.length = n := fun a ha => (allT_mem.1 ha).1
    have key : ∀ m s, s + m = k → Runs k ((List.range' s m).flatMap fun t => (allT k n).map (t :: ·)) none ∧ ((List.range' s m).flatMap fun t => (allT k n).map (t :: ·)).head? = if m = 0 then none else some (s :: List.replicate n 0) := by
      intro m
      induction m with
      | zero => exact fun s _ => ⟨trivial, rfl⟩
      | succ m ih =>
        intro s hs
        obtain ⟨i1, i2⟩ := ih (s + 1) (by omega)
        rw [List.range'_succ, List.flatMap_cons]
        have hb := runs_block k s n (allT k n) hl h1
        refine ⟨runs_append k _ _ _ ?_ i1, ?_⟩
        · rw [i2]
          have e : (if m = 0 then none else some ((s + 1) :: List.replicate n 0)).or none = if s + 1 < k then some ((s + 1) :: List.replicate n 0) else none := by
            by_cases hm : m = 0
            · rw [if_pos hm, if_neg (by omega)]; rfl
            · rw [if_neg hm, if_pos (by omega)]; rfl
          rw [e]
          exact hb
        · rw [List.head?_append, List.head?_map, h2]
          rfl
    have h := key k 0 (by omega)
    rw [if_neg (by omega), ← List.range_eq_range'] at h
    exact h
theorem nxt_max {k : Nat} (hk : 1 ≤ k) : ∀ m, nxtT k (List.replicate m (k - 1)) = none
  | 0 => rfl
  | m + 1 => by
    rw [List.replicate_succ]
    simp only [nxtT, nxt_max hk m]
    rw [if_neg (by omega)]
theorem nxt_form {k d : Nat} (hd : d + 1 < k) (m : Nat) : ∀ A : List Nat, nxtT k (A ++ d :: List.replicate m (k - 1)) = some (A ++ (d + 1) :: List.replicate m 0)
  | [] => by
    simp only [List.nil_append, nxtT, nxt_max (show 1 ≤ k by omega) m, List.length_replicate]
    rw [if_pos hd]
  | a :: A => by
    simp only [List.cons_append, nxtT, nxt_form hd m A]
end Go.Proofs.Ytepgcdjbhmpioaa.Fi
