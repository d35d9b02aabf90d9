/- Plain words: balls, what is reached, and the search for a sequence that burns a graph, by the program's own pruning. No program is in sight here. -/
import Derived.Test.YtbgpnkchbcgekaaDoorQFbS3
namespace Wog
set_option linter.unusedVariables false
/-- The least member of a set. -/
def low (x : Nat) : Nat := ((List.range 10).find? (fun i => x.testBit i)).getD 16
/-- What is at most r edges away. -/
def ball (nx : List Nat) (v : Nat) : Nat → Nat
  | 0 => 2 ^ v
  | r + 1 => arnd nx (ball nx v r)
def ballsRow (nx : List Nat) (v : Nat) : List Nat := (List.range nx.length).map (ball nx v)
def ballsS (nx : List Nat) : List (List Nat) := (List.range nx.length).map (ballsRow nx)
theorem ball_lt {nx : List Nat} (hx : ∀ x ∈ nx, x < 2 ^ nx.length) {v : Nat} (hv : v < nx.length) : ∀ r, ball nx v r < 2 ^ nx.length
  | 0 => Nat.pow_lt_pow_right (by omega) hv
  | r + 1 => arnd_lt hx (ball_lt hx hv r)
/-- What is reached from a vertex without some others. -/
def reachS (nx : List Nat) (D v : Nat) : Nat := (cloF nx D (nx.length + 1) (2 ^ v)).getD 0
theorem disj_pow {D v : Nat} (hd : D.testBit v = false) : disj (2 ^ v) D := by
  intro i hi
  rw [testBit_two_pow] at hi
  have : v = i := by simpa using hi
  rw [← this]; exact hd
theorem reach_is {nx : List Nat} (hx : ∀ x ∈ nx, x < 2 ^ nx.length) {D v : Nat} (hv : v < nx.length) (hd : D.testBit v = false) : cloF nx D (nx.length + 1) (2 ^ v) = some (reachS nx D v) ∧ reachS nx D v < 2 ^ nx.length := by
  obtain ⟨R, hR, hl, _⟩ := cloF_some (D := D) hx nx.length (2 ^ v) (Nat.pow_lt_pow_right (by omega) hv) (disj_pow hd) (zer_le _ _)
  unfold reachS
  rw [hR]
  exact ⟨rfl, hl⟩
/-- How many parts the rest lies in. -/
def partsF (nx : List Nat) : Nat → Nat → Nat
  | 0, _ => 0
  | k + 1, rest => if rest = 0 then 0 else partsF nx k (diff rest (reachS nx 0 (low rest))) + 1
def mostS (nx : List Nat) (r : Nat) : Nat := (List.range nx.length).foldl (fun m v => max m (popc 16 (ball nx v r))) 0
def roomS (nx : List Nat) (left : Nat) : Nat := (List.range left).foldl (fun a r => a + mostS nx r) 0
def restS (nx : List Nat) (burnt : Nat) : Nat := diff (2 ^ nx.length - 1) burnt
def hopS (nx : List Nat) (burnt left : Nat) : Bool := decide (left < partsF nx nx.length (restS nx burnt)) || decide ((roomS nx left : Int) < (nx.length : Int) - (popc 16 burnt : Nat))
def findS (nx : List Nat) : Nat → Nat → Option (List Nat)
  | 0, b => if popc 16 b = nx.length then some [] else none
  | left + 1, b => if popc 16 b = nx.length then some (List.replicate (left + 1) 0) else if hopS nx b (left + 1) = true then none else (List.range nx.length).findSome? fun v => (findS nx left (b ||| ball nx v left)).map fun l => v :: l
/-- The first shortest sequence. -/
def burnS (nx : List Nat) : Option (List Nat) := (List.range nx.length).findSome? fun j => findS nx (j + 1) 0
theorem cloF_sup {nx : List Nat} {D : Nat} : ∀ (k s R : Nat), disj s D → cloF nx D k s = some R → ∀ i, s.testBit i = true → R.testBit i = true := by
  intro k
  induction k with
  | zero => intro s R _ h; simp [cloF] at h
  | succ k ih =>
    intro s R hd h i hi
    rw [cloF] at h
    split at h
    · obtain rfl := Option.some.inj h; exact hi
    · exact ih _ _ (disj_diff _ _) h i (step_sup hd i hi)
theorem reach_self {nx : List Nat} (hx : ∀ x ∈ nx, x < 2 ^ nx.length) {D v : Nat} (hv : v < nx.length) (hd : D.testBit v = false) : (reachS nx D v).testBit v = true := by
  refine cloF_sup _ _ _ (fun i hi => ?_) (reach_is hx hv hd).1 v (by rw [testBit_two_pow]; simp)
  rw [testBit_two_pow] at hi
  have : v = i := by simpa using hi
  rw [← this]; exact hd
theorem low_is {x : Nat} (h0 : x ≠ 0) (h : x < 2 ^ 10) : low x < 10 ∧ x.testBit (low x) = true := by
  unfold low
  have : ∃ i, i < 10 ∧ x.testBit i = true := by
    apply Classical.byContradiction
    intro hno
    apply h0
    refine zero_of_bits (fun i => ?_)
    cases hi : x.testBit i with
    | false => rfl
    | true => exact absurd ⟨i, lt_of_bit h hi, hi⟩ hno
  obtain ⟨i, hi, hb⟩ := this
  cases hq : (List.range 10).find? (fun i => x.testBit i) with
  | none =>
    have := List.find?_eq_none.1 hq i (List.mem_range.2 hi)
    simp [hb] at this
  | some j => exact ⟨List.mem_range.1 (List.mem_of_find?_eq_some hq), by simpa using List.find?_some hq⟩
theorem full_bit (n i : Nat) : (2 ^ n - 1).testBit i = decide (i < n) := by
  rw [Nat.testBit_two_pow_sub_one]
theorem restS_bit (nx : List Nat) (b i : Nat) : (restS nx b).testBit i = (decide (i < nx.length) && !b.testBit i) := by
  unfold restS
  rw [testBit_diff, full_bit]
theorem restS_lt (nx : List Nat) (b : Nat) : restS nx b < 2 ^ nx.length := diff_le _ _ _ (by have := Nat.two_pow_pos nx.length; omega)
theorem popc16 {n x : Nat} (hn : n ≤ 16) (h : x < 2 ^ n) : popc 16 x = popc n x := by
  have : ∀ d, popc (n + d) x = popc n x := by
    intro d
    induction d with
    | zero => rfl
    | succ d ih =>
      have : popc (n + (d + 1)) x = popc (n + d) x + (if x.testBit (n + d) then 1 else 0) := by
        unfold popc
        rw [show n + (d + 1) = (n + d) + 1 by omega, List.range_succ, List.countP_append]
        simp [List.countP_cons]
      rw [this, ih, Nat.testBit_lt_two_pow (Nat.lt_of_lt_of_le h (Nat.pow_le_pow_right (by omega) (by omega)))]
      simp
  have := this (16 - n)
  rwa [show n + (16 - n) = 16 by omega] at this
theorem popc_zer (n x : Nat) : popc n x + zer n x = n := by
  unfold popc zer
  have := List.length_eq_countP_add_countP (fun i => x.testBit i) (l := List.range n)
  simp at this
  have e : List.countP (fun i => !x.testBit i) (List.range n) = List.countP (fun i => decide (x.testBit i = false)) (List.range n) := by
    congr 1; funext i; cases x.testBit i <;> rfl
  rw [e]; omega
theorem full_of_rest {nx : List Nat} {b : Nat} (hn : nx.length ≤ 16) (hb : b < 2 ^ nx.length) (h : restS nx b = 0) : popc 16 b = nx.length := by
  rw [popc16 hn hb]
  have h1 := popc_zer nx.length b
  have h2 : zer nx.length b = 0 := by
    unfold zer
    rw [List.countP_eq_zero]
    intro i hi h3
    have h4 := restS_bit nx b i
    rw [h, Nat.zero_testBit] at h4
    simp at hi h3
    simp [hi, h3] at h4
  omega
theorem partsF_pos {nx : List Nat} {k rest : Nat} (h : rest ≠ 0) : 0 < partsF nx (k + 1) rest := by
  rw [partsF, if_neg h]; omega
end Wog
