/- The items of Differencing in memory: how two are compared, and how one is put on sides. -/
import Derived.Test.YtepgcdjbhmpioaaQTeH4b
import Derived.Test.YtepgcdjbhmpioaaQTeSb
namespace Go.Proofs.Ytepgcdjbhmpioaa.Fi
open Go.RowKit Go.Shelf Go.Lib Go.Sort Go.Proofs.YtepgcdjbhmpioaaW.PrintWords Go.Proofs.YtepgcdjbhmpioaaW.PrintLast Go.Proofs.YtepgcdjbhmpioaaW.PrintMore
set_option linter.unusedVariables false
set_option linter.unusedSimpArgs false
def kidP (tab : Nat → Nat) : Option Nat → Value
  | none => .pointer none
  | some a => .pointer (some ⟨tab a, 0, none⟩)
/-- What lies in memory of an item. -/
def ndCells (tab : Nat → Nat) (x : Nd) (j : Nat) : Array Value := #[.int .i64 x.worth, .int .i64 (j : Int), .int .i64 (if x.kids.isSome then -1 else (j : Int)), kidP tab (x.kids.map Prod.fst), kidP tab (x.kids.map Prod.snd)]
def NodesAt (W : World) (base : Nat) (tab : Nat → Nat) (nd : List Nd) : Prop := ∀ j, j < nd.length → base ≤ tab j ∧ W.heap[tab j]? = some (.cells (ndCells tab (nd.getD j default) j) 63 (0, 0))
/-- The items' parts were made before them; a pull's number is one of the pulls. -/
def KidsOk (n : Nat) (nd : List Nd) : Prop := ∀ j, j < nd.length → match (nd.getD j default).kids with
  | none => j < n
  | some (a, b) => a < j ∧ b < j
theorem NodesAt.move {W W' : World} {base : Nat} {tab : Nat → Nat} {nd : List Nd} (h : NodesAt W base tab nd) (hm : ∀ j, j < nd.length → W'.heap[tab j]? = W.heap[tab j]?) : NodesAt W' base tab nd := fun j hj => ⟨(h j hj).1, (hm j hj).trans (h j hj).2⟩
set_option maxHeartbeats 1000000 in
set_option maxRecDepth 100000 in
theorem before_calls (w1 w2 : Int) (m1 m2 : Nat) (W : World) : Calls Try.prog 46 #[.agg #[.int .i64 w1, .int .i64 (m1 : Int)], .agg #[.int .i64 w2, .int .i64 (m2 : Int)]] W fun e w' => e = .returned (.bool (decide (w2 < w1 ∨ (w1 = w2 ∧ m1 < m2)))) ∧ ∃ q os', w' = grow (W.drewN q) os' := by
  by_cases h1 : w2 < w1
  · rw [decide_eq_true (.inl h1)]
    have e1 : decide (w2 < w1) = true := decide_eq_true h1
    clear h1
    go_enter Try.func46, Try.ntmps46
    go_wp2
    go_ret
    exact ⟨rfl, 0, #[.cells #[.int .i64 w1, .int .i64 (m1 : Int)] 61 (0, 0), .cells #[.int .i64 w2, .int .i64 (m2 : Int)] 61 (0, 0)], rfl⟩
  · have e1 : decide (w2 < w1) = false := decide_eq_false h1
    by_cases h2 : w1 = w2
    · subst h2
      have e2 : (w1 == w1) = true := by simp
      by_cases h3 : m1 < m2
      · rw [decide_eq_true (.inr ⟨rfl, h3⟩)]
        have e3 : decide ((m1 : Int) < (m2 : Int)) = true := decide_eq_true (by omega)
        clear h1 h3
        go_enter Try.func46, Try.ntmps46
        go_wp2
        go_ret
        exact ⟨by first | rfl | simp_all, 0, #[.cells #[.int .i64 w1, .int .i64 (m1 : Int)] 61 (0, 0), .cells #[.int .i64 w1, .int .i64 (m2 : Int)] 61 (0, 0)], rfl⟩
      · rw [decide_eq_false (fun h => h.elim h1 (fun h => h3 h.2))]
        have e3 : decide ((m1 : Int) < (m2 : Int)) = false := decide_eq_false (by omega)
        clear h1 h3
        go_enter Try.func46, Try.ntmps46
        go_wp2
        go_ret
        exact ⟨by first | rfl | simp_all, 0, #[.cells #[.int .i64 w1, .int .i64 (m1 : Int)] 61 (0, 0), .cells #[.int .i64 w1, .int .i64 (m2 : Int)] 61 (0, 0)], rfl⟩
    · rw [decide_eq_false (fun h => h.elim h1 (fun h => h2 h.1))]
      have e2 : (w1 == w2) = false := beq_eq_false_iff_ne.2 h2
      clear h1 h2
      go_enter Try.func46, Try.ntmps46
      go_wp2
      go_ret
      exact ⟨by first | rfl | simp_all, 0, #[.cells #[.int .i64 w1, .int .i64 (m1 : Int)] 61 (0, 0), .cells #[.int .i64 w2, .int .i64 (m2 : Int)] 61 (0, 0)], rfl⟩
theorem NodesAt.cells {W : World} {base : Nat} {tab : Nat → Nat} {nd : List Nd} (h : NodesAt W base tab nd) {j : Nat} (hj : j < nd.length) (i : Nat) : W.cell? ⟨tab j, i, none⟩ = (ndCells tab (nd.getD j default) j)[i]? := blk_cell (h j hj).2 i
set_option maxHeartbeats 1000000 in
set_option maxRecDepth 100000 in
theorem cmpN_calls (tab : Nat → Nat) (nd : List Nd) (base a b : Nat) (W : World) (hN : NodesAt W base tab nd) (ha : a < nd.length) (hb : b < nd.length) :
    Calls Try.prog 45 #[.pointer (some ⟨tab a, 0, none⟩), .pointer (some ⟨tab b, 0, none⟩)] W fun e w' => e = .returned (.int .i64 (if befN nd a b then -1 else 1)) ∧ ∃ q os', w' = grow (W.drewN q) os' := by
  have c1 := hN.cells ha 0
  have c2 := hN.cells ha 1
  have c3 := hN.cells hb 0
  have c4 := hN.cells hb 1
  have HBC := Aside0.mk (fun m => before_calls (nd.getD a default).worth (nd.getD b default).worth a b (World.drewN W m))
  have hbe : decide ((nd.getD b default).worth < (nd.getD a default).worth ∨ ((nd.getD a default).worth = (nd.getD b default).worth ∧ a < b)) = befN nd a b := rfl
  obtain ⟨wa, hwa⟩ : ∃ x, x = (nd.getD a default).worth := ⟨_, rfl⟩
  obtain ⟨wb, hwb⟩ : ∃ x, x = (nd.getD b default).worth := ⟨_, rfl⟩
  simp only [ndCells] at c1 c2 c3 c4
  rw [← hwa] at c1
  rw [← hwb] at c3
  rw [← hwa, ← hwb] at HBC hbe
  rw [hbe] at HBC
  clear hbe hwa hwb
  cases hz : befN nd a b with
  | true =>
    rw [hz] at HBC
    clear hz
    go_enter Try.func45, Try.ntmps45
    go_wp2
    refine start_ (n := 9) (S := fun w' => w'.cell? ⟨tab a, 0, none⟩ = some (.int .i64 wa) ∧ w'.cell? ⟨tab a, 1, none⟩ = some (.int .i64 (a : Int)) ∧ w'.cell? ⟨tab b, 0, none⟩ = some (.int .i64 wb) ∧ w'.cell? ⟨tab b, 1, none⟩ = some (.int .i64 (b : Int))) (ds := [8]) #[false, false, false, false, false, false, false, false, false] (by kernel_rfl) rfl rfl ⟨c1, c2, c3, c4⟩ (fun hHeld => ?_)
    refine pure_ (i := 0) (N := some 5) (v := ?_) (a' := ?_) #[true, false, false, false, false, false, false, false, false] rfl rfl (by kernel_rfl) (fun _ _ _ h => h) (Or.inl ⟨by rfl, ?_⟩) ?_ ?_
    rotate_left
    · intro w'
      go_simp
      with_reducible rfl
    rotate_left
    · simp only [Act.put, List.setIfInBounds_toArray, List.set_cons_zero, List.set_cons_succ, i64_w, i32_w]
      rfl
    refine pure_ (i := 1) (N := some 6) (v := ?_) (a' := ?_) #[true, true, false, false, false, false, false, false, false] rfl rfl (by kernel_rfl) (fun _ _ _ h => h) (Or.inl ⟨by rfl, ?_⟩) ?_ ?_
    rotate_left
    · intro w'
      go_simp
      with_reducible rfl
    rotate_left
    · simp only [Act.put, List.setIfInBounds_toArray, List.set_cons_zero, List.set_cons_succ, i64_w, i32_w]
      rfl
    refine pure_ (i := 2) (N := some 7) (v := ?_) (a' := ?_) #[true, true, true, false, false, false, false, false, false] rfl rfl (by kernel_rfl) (fun _ _ _ h => h) (Or.inl ⟨by rfl, ?_⟩) ?_ ?_
    rotate_left
    · intro w'
      go_simp
      with_reducible rfl
    rotate_left
    · simp only [Act.put, List.setIfInBounds_toArray, List.set_cons_zero, List.set_cons_succ, i64_w, i32_w]
      rfl
    refine pure_ (i := 4) (N := some 9) (v := ?_) (a' := ?_) #[true, true, true, false, true, false, false, false, false] rfl rfl (by kernel_rfl) (fun _ _ _ h => h) (Or.inl ⟨by rfl, ?_⟩) ?_ ?_
    rotate_left
    · intro w'
      go_simp
      with_reducible rfl
    rotate_left
    · simp only [Act.put, List.setIfInBounds_toArray, List.set_cons_zero, List.set_cons_succ, i64_w, i32_w]
      rfl
    refine pure_ (i := 5) (N := some 10) (v := ?_) (a' := ?_) #[true, true, true, false, true, true, false, false, false] rfl rfl (by kernel_rfl) (fun _ _ _ h => h) (Or.inl ⟨by rfl, ?_⟩) ?_ ?_
    rotate_left
    · intro w'
      go_simp
      with_reducible rfl
    rotate_left
    · simp only [Act.put, List.setIfInBounds_toArray, List.set_cons_zero, List.set_cons_succ, i64_w, i32_w]
      rfl
    refine pure_ (i := 6) (N := some 11) (v := ?_) (a' := ?_) #[true, true, true, false, true, true, true, false, false] rfl rfl (by kernel_rfl) (fun _ _ _ h => h) (Or.inl ⟨by rfl, ?_⟩) ?_ ?_
    rotate_left
    · intro w'
      go_simp
      with_reducible rfl
    rotate_left
    · simp only [Act.put, List.setIfInBounds_toArray, List.set_cons_zero, List.set_cons_succ, i64_w, i32_w]
      rfl
    refine take_ (i := 3) (N := some 8) (v := ?_) (a' := ?_) #[true, true, true, true, true, true, true, false, false] rfl rfl (by kernel_rfl) (fun _ _ _ h => h) (Or.inl ⟨by rfl, ?_⟩) hHeld ?_ ?_
    rotate_left
    · rintro w' ⟨s0, s1, s2, s3⟩
      go_simp
      with_reducible rfl
    rotate_left
    · simp only [Act.put, List.setIfInBounds_toArray, List.set_cons_zero, List.set_cons_succ, i64_w, i32_w]
      rfl
    refine take_ (i := 7) (N := some 12) (v := ?_) (a' := ?_) #[true, true, true, true, true, true, true, true, false] rfl rfl (by kernel_rfl) (fun _ _ _ h => h) (Or.inl ⟨by rfl, ?_⟩) hHeld ?_ ?_
    rotate_left
    · rintro w' ⟨s0, s1, s2, s3⟩
      go_simp
      with_reducible rfl
    rotate_left
    · simp only [Act.put, List.setIfInBounds_toArray, List.set_cons_zero, List.set_cons_succ, i64_w, i32_w]
      rfl
    refine last_ (i := 8) (N := some 13) #[true, true, true, true, true, true, true, true, true] rfl rfl (by kernel_rfl) (by decide) (fun K hK => ?_)
    refine goes_ Try.func46 (by kernel_rfl) rfl #[.agg #[.int .i64 wa, .int .i64 (a : Int)], .agg #[.int .i64 wb, .int .i64 (b : Int)]] (by rfl) rfl rfl (by (try simp only [List.map_toArray, List.map_cons, List.map_nil]); first | done | rfl) ?_
    refine (HBC.out 1).mono ?_
    rintro e w2 ⟨rfl, q, os, hw⟩
    have HW := Aside0.mk hw
    clear hw
    refine ⟨_, rfl, ?_⟩
    refine hK.out _ _ ?_
    clear hK K
    refine norm_ (a' := ?_) ?_ ?_
    rotate_left
    · show Act.put _ (some 13) _ = _
      simp only [Act.put, List.setIfInBounds_toArray, List.set_cons_zero, List.set_cons_succ, i64_w, i32_w]
      rfl
    refine done_ (by kernel_rfl) ?_
    go_wp2
    go_ret
    exact ⟨rfl, 1 + q, os, by rw [HW.out]; simp⟩
  | false =>
    rw [hz] at HBC
    clear hz
    go_enter Try.func45, Try.ntmps45
    go_wp2
    refine start_ (n := 9) (S := fun w' => w'.cell? ⟨tab a, 0, none⟩ = some (.int .i64 wa) ∧ w'.cell? ⟨tab a, 1, none⟩ = some (.int .i64 (a : Int)) ∧ w'.cell? ⟨tab b, 0, none⟩ = some (.int .i64 wb) ∧ w'.cell? ⟨tab b, 1, none⟩ = some (.int .i64 (b : Int))) (ds := [8]) #[false, false, false, false, false, false, false, false, false] (by kernel_rfl) rfl rfl ⟨c1, c2, c3, c4⟩ (fun hHeld => ?_)
    refine pure_ (i := 0) (N := some 5) (v := ?_) (a' := ?_) #[true, false, false, false, false, false, false, false, false] rfl rfl (by kernel_rfl) (fun _ _ _ h => h) (Or.inl ⟨by rfl, ?_⟩) ?_ ?_
    rotate_left
    · intro w'
      go_simp
      with_reducible rfl
    rotate_left
    · simp only [Act.put, List.setIfInBounds_toArray, List.set_cons_zero, List.set_cons_succ, i64_w, i32_w]
      rfl
    refine pure_ (i := 1) (N := some 6) (v := ?_) (a' := ?_) #[true, true, false, false, false, false, false, false, false] rfl rfl (by kernel_rfl) (fun _ _ _ h => h) (Or.inl ⟨by rfl, ?_⟩) ?_ ?_
    rotate_left
    · intro w'
      go_simp
      with_reducible rfl
    rotate_left
    · simp only [Act.put, List.setIfInBounds_toArray, List.set_cons_zero, List.set_cons_succ, i64_w, i32_w]
      rfl
    refine pure_ (i := 2) (N := some 7) (v := ?_) (a' := ?_) #[true, true, true, false, false, false, false, false, false] rfl rfl (by kernel_rfl) (fun _ _ _ h => h) (Or.inl ⟨by rfl, ?_⟩) ?_ ?_
    rotate_left
    · intro w'
      go_simp
      with_reducible rfl
    rotate_left
    · simp only [Act.put, List.setIfInBounds_toArray, List.set_cons_zero, List.set_cons_succ, i64_w, i32_w]
      rfl
    refine pure_ (i := 4) (N := some 9) (v := ?_) (a' := ?_) #[true, true, true, false, true, false, false, false, false] rfl rfl (by kernel_rfl) (fun _ _ _ h => h) (Or.inl ⟨by rfl, ?_⟩) ?_ ?_
    rotate_left
    · intro w'
      go_simp
      with_reducible rfl
    rotate_left
    · simp only [Act.put, List.setIfInBounds_toArray, List.set_cons_zero, List.set_cons_succ, i64_w, i32_w]
      rfl
    refine pure_ (i := 5) (N := some 10) (v := ?_) (a' := ?_) #[true, true, true, false, true, true, false, false, false] rfl rfl (by kernel_rfl) (fun _ _ _ h => h) (Or.inl ⟨by rfl, ?_⟩) ?_ ?_
    rotate_left
    · intro w'
      go_simp
      with_reducible rfl
    rotate_left
    · simp only [Act.put, List.setIfInBounds_toArray, List.set_cons_zero, List.set_cons_succ, i64_w, i32_w]
      rfl
    refine pure_ (i := 6) (N := some 11) (v := ?_) (a' := ?_) #[true, true, true, false, true, true, true, false, false] rfl rfl (by kernel_rfl) (fun _ _ _ h => h) (Or.inl ⟨by rfl, ?_⟩) ?_ ?_
    rotate_left
    · intro w'
      go_simp
      with_reducible rfl
    rotate_left
    · simp only [Act.put, List.setIfInBounds_toArray, List.set_cons_zero, List.set_cons_succ, i64_w, i32_w]
      rfl
    refine take_ (i := 3) (N := some 8) (v := ?_) (a' := ?_) #[true, true, true, true, true, true, true, false, false] rfl rfl (by kernel_rfl) (fun _ _ _ h => h) (Or.inl ⟨by rfl, ?_⟩) hHeld ?_ ?_
    rotate_left
    · rintro w' ⟨s0, s1, s2, s3⟩
      go_simp
      with_reducible rfl
    rotate_left
    · simp only [Act.put, List.setIfInBounds_toArray, List.set_cons_zero, List.set_cons_succ, i64_w, i32_w]
      rfl
    refine take_ (i := 7) (N := some 12) (v := ?_) (a' := ?_) #[true, true, true, true, true, true, true, true, false] rfl rfl (by kernel_rfl) (fun _ _ _ h => h) (Or.inl ⟨by rfl, ?_⟩) hHeld ?_ ?_
    rotate_left
    · rintro w' ⟨s0, s1, s2, s3⟩
      go_simp
      with_reducible rfl
    rotate_left
    · simp only [Act.put, List.setIfInBounds_toArray, List.set_cons_zero, List.set_cons_succ, i64_w, i32_w]
      rfl
    refine last_ (i := 8) (N := some 13) #[true, true, true, true, true, true, true, true, true] rfl rfl (by kernel_rfl) (by decide) (fun K hK => ?_)
    refine goes_ Try.func46 (by kernel_rfl) rfl #[.agg #[.int .i64 wa, .int .i64 (a : Int)], .agg #[.int .i64 wb, .int .i64 (b : Int)]] (by rfl) rfl rfl (by (try simp only [List.map_toArray, List.map_cons, List.map_nil]); first | done | rfl) ?_
    refine (HBC.out 1).mono ?_
    rintro e w2 ⟨rfl, q, os, hw⟩
    have HW := Aside0.mk hw
    clear hw
    refine ⟨_, rfl, ?_⟩
    refine hK.out _ _ ?_
    clear hK K
    refine norm_ (a' := ?_) ?_ ?_
    rotate_left
    · show Act.put _ (some 13) _ = _
      simp only [Act.put, List.setIfInBounds_toArray, List.set_cons_zero, List.set_cons_succ, i64_w, i32_w]
      rfl
    refine done_ (by kernel_rfl) ?_
    go_wp2
    go_ret
    exact ⟨rfl, 1 + q, os, by rw [HW.out]; simp⟩
def plcPost (tab : Nat → Nat) (W : World) (go : Nat) (out : List Int) : Ending → World → Prop := fun e W' => e = .returned (.tuple #[]) ∧ W.grownBy W' (some go) ∧ W'.heap[go]? = some (.cells (ints out).toArray 3 (0, 0))
theorem plc_len (nd : List Nd) : ∀ (f j : Nat) (side : Int) (out : List Int), (plc nd f j side out).length = out.length
  | 0, _, _, _ => rfl
  | f + 1, j, side, out => by
    unfold plc
    split
    · simp
    · rw [plc_len nd f, plc_len nd f]
set_option maxHeartbeats 1000000 in
set_option maxRecDepth 100000 in
theorem place_calls (tab : Nat → Nat) (nd : List Nd) (n base go : Nat) (hk : KidsOk n nd) (hgo : ∀ j, j < nd.length → tab j ≠ go) :
    ∀ (f j : Nat), j < f → j < nd.length → ∀ (side : Int) (out : List Int) (W : World), (side = 0 ∨ side = 1) → out.length = n → n ≤ 1000 → NodesAt W base tab nd → W.heap[go]? = some (.cells (ints out).toArray 3 (0, 0)) →
      Calls Try.prog 47 #[.pointer (some ⟨tab j, 0, none⟩), .slice (some ⟨go, 0, none⟩) n n, .int .i64 side] W (plcPost tab W go (plc nd f j side out)) := by
  intro f
  induction f with
  | zero => intro j hj; omega
  | succ f ih =>
    intro j hjf hj side out W hs hl hn hN BO
    have HIH := Aside0.mk ih
    have hkj := hk j hj
    have c2 := hN.cells hj 2
    have c3 := hN.cells hj 3
    have c4 := hN.cells hj 4
    have HN := Aside0.mk hN
    have BU := Aside0.mk BO
    have HK := Aside0.mk hk
    have HGO := Aside0.mk hgo
    have HS := Aside0.mk hs
    have HNN := Aside0.mk hn
    have HL := Aside0.mk hl
    cases hkd : (nd.getD j default).kids with
    | none =>
      rw [hkd] at hkj
      simp only [ndCells, hkd] at c2
      have hp : plc nd (f + 1) j side out = out.set j side := by rw [plc]; simp only [hkd]
      have HP := Aside0.mk hp
      have sc := ints_cell BO (i := j) (by rw [hl]; exact hkj)
      have fz := blk_frozen BO j
      have hjn : j < n := hkj
      clear ih hkd hkj c3 c4 hN BO hk hgo hs hn hl hp hjf hj
      go_enter Try.func47, Try.ntmps47
      go_wp2
      refine bodyPost_ret (results_none rfl _ _ _) rfl ?_
      refine ⟨rfl, ⟨rfl, rfl, rfl, by simp [World.setCell], fun k _ hne => Below.heap_setCell W _ _ k (fun e => hne (by rw [e]))⟩, ?_⟩
      rw [HP.out]
      exact ints_set BU.out j side
    | some ab =>
      obtain ⟨a, b⟩ := ab
      rw [hkd] at hkj
      simp only [ndCells, hkd, kidP, Option.map_some] at c2 c3 c4
      have hp : plc nd (f + 1) j side out = plc nd f b (1 - side) (plc nd f a side out) := by rw [plc]; simp only [hkd]
      have HP := Aside0.mk hp
      have HAB : Aside0 (a < j ∧ b < j) := ⟨hkj⟩
      have HKD := Aside0.mk hkd
      have HJ : Aside0 (j < f + 1 ∧ j < nd.length) := ⟨hjf, hj⟩
      have hw : wrap64 (1 - side) = 1 - side := wrapS (by rcases hs with h | h <;> rw [h] <;> omega)
      clear ih hkd hkj hN BO hk hgo hs hn hl hp hjf hj
      go_enter Try.func47, Try.ntmps47
      have CA := Aside0.mk (HIH.out a (by have := HAB.out; have := HJ.out; omega) (by have := HAB.out; have := HJ.out; omega) side out W HS.out HL.out HNN.out HN.out BU.out)
      have CB : Aside0 (∀ W1 : World, W.grownBy W1 (some go) → W1.heap[go]? = some (.cells (ints (plc nd f a side out)).toArray 3 (0, 0)) → Calls Try.prog 47 #[.pointer (some ⟨tab b, 0, none⟩), .slice (some ⟨go, 0, none⟩) n n, .int .i64 (1 - side)] W1 (plcPost tab W1 go (plc nd f b (1 - side) (plc nd f a side out)))) := ⟨fun W1 hg hb => HIH.out b (by have := HAB.out; have := HJ.out; omega) (by have := HAB.out; have := HJ.out; omega) (1 - side) _ W1 (by rcases HS.out with h | h <;> rw [h] <;> simp) ((plc_len _ _ _ _ _).trans HL.out) HNN.out (HN.out.move (fun q hq => hg.block _ (blk_lt (HN.out q hq).2) (fun e => HGO.out q hq (by injection e)))) hb⟩
      go_wp2_with (go_at_call 99; skip)
      refine CA.out.mono ?_
      rintro e w1 ⟨rfl, hg, hb⟩
      have HG1 := Aside0.mk hg
      have HCB := Aside0.mk (CB.out w1 hg hb)
      have hN1 := HN.out.move (fun q hq => hg.block _ (blk_lt (HN.out q hq).2) (fun e => HGO.out q hq (by injection e)))
      have c2 := hN1.cells HJ.out.2 2
      have c4 := hN1.cells HJ.out.2 4
      simp only [ndCells, HKD.out, kidP, Option.map_some] at c2 c4
      clear hg hb hN1
      dsimp only
      go_wp2_with (go_at_call 99; skip)
      refine HCB.out.mono ?_
      rintro e w2 ⟨rfl, hg, hb⟩
      have HG2 := Aside0.mk hg
      have HB2 := Aside0.mk hb
      clear hg hb
      dsimp only
      go_wp2
      refine bodyPost_end (results_none rfl _ _ _) rfl ?_
      refine ⟨rfl, ⟨HG2.out.os.trans HG1.out.os, HG2.out.tape.trans HG1.out.tape, HG2.out.output.trans HG1.out.output, Nat.le_trans HG1.out.size HG2.out.size, fun q hq hne => (HG2.out.block q (Nat.lt_of_lt_of_le hq HG1.out.size) hne).trans (HG1.out.block q hq hne)⟩, ?_⟩
      rw [HP.out]
      exact HB2.out
end Go.Proofs.Ytepgcdjbhmpioaa.Fi
