/- The printed functions balls and reach in plain words. -/
import Derived.Test.YtbgpnkchbcgekaaDoorQFbP3
import Derived.Test.YtbgpnkchbcgekaaDoorQFbS4
import Derived.Test.YtbgpnkchbcgekaaDoorQFbFi5
namespace Go.Proofs.YtbgpnkchbcgekaaDoor.Fi
open Go.RowKit Go.Proofs.YtbgpnkchbcgekaaDoorW.PrintWords Go.Proofs.YtbgpnkchbcgekaaDoorW.PrintLast Go.Proofs.YtbgpnkchbcgekaaDoorW.PrintMore Wog
set_option linter.unusedVariables false
theorem lt16' {nx : List Nat} (hn : nx.length ≤ 10) {x : Nat} (h : x < 2 ^ nx.length) : x < 65536 := Nat.lt_of_lt_of_le h (Nat.le_trans (Nat.pow_le_pow_right (by omega) hn) (by omega))
theorem reach_ev (nx : List Nat) (n : Int) (hn : nx.length ≤ 10) (hx : ∀ x ∈ nx, x < 2 ^ nx.length) (v D : Nat) (hv : v < nx.length) (hD : D < 2 ^ nx.length) (hd : D.testBit v = false) :
    Ev (fun k => fire_graph_reach.f k n (toI nx) (v : Int) (D : Int)) (((reachS nx D v : Nat) : Int), n) := by
  have key : ∀ (m s R : Nat), s < 2 ^ nx.length → cloF nx D m s = some R → Ev (fun k => fire_graph_reach.l0 k (D : Int) (s : Int) n (toI nx)) ((R : Int), n) := by
    intro m
    induction m with
    | zero => intro s R _ h; simp [cloF] at h
    | succ m ih =>
      intro s R hs h
      rw [cloF] at h
      refine Ev.step (fun k => by simp only [fire_graph_reach.l0]; rfl) ?_
      refine Ev.bind (around_ev nx n s hn hx hs) ?_
      have e : Go.bits .andNot .u16 ((arnd nx s : Nat) : Int) (D : Int) = ((diff (arnd nx s) D : Nat) : Int) := andNot16 _ _ (lt16' hn (arnd_lt hx hs)) (lt16' hn hD)
      simp only [e]
      by_cases hq : diff (arnd nx s) D = s
      · rw [if_pos hq] at h
        obtain rfl := Option.some.inj h
        simp only [if_pos (show ((diff (arnd nx s) D : Nat) : Int) = (s : Int) by rw [hq])]
        exact Ev.now _
      · rw [if_neg hq] at h
        simp only [if_neg (show ¬ ((diff (arnd nx s) D : Nat) : Int) = (s : Int) by omega)]
        exact ih _ _ (diff_le _ _ _ (arnd_lt hx hs)) h
  have k := key _ _ _ (Nat.pow_lt_pow_right (by omega) hv) (reach_is hx hv hd).1
  refine Ev.congr (fun k => ?_) k
  unfold fire_graph_reach.f
  rw [if_pos (by omega), shl16 v (by omega)]
theorem toI_rd (xs : List Nat) (j : Nat) (h : j < xs.length) : rd (toI xs) (j : Int) = ((xs[j] : Nat) : Int) := by
  unfold rd toI
  rw [Int.toNat_natCast, List.getD_eq_getElem?_getD, List.getElem?_map, List.getElem?_eq_getElem h]; rfl
theorem balls_ev (nx : List Nat) (n : Int) (hnn : n = nx.length) (hn : nx.length ≤ 10) (hx : ∀ x ∈ nx, x < 2 ^ nx.length) :
    Ev (fun k => fire_graph_balls.f k n (toI nx)) ((ballsS nx).map toI, n) := by
  have key1 : ∀ (d r v : Nat) (out : List (List Int)) (res : List (List Int) × Int), r + d = nx.length → 1 ≤ r → v < nx.length → out.length ≤ 10 →
      Ev (fun k => fire_graph_balls.l0 k (out ++ [toI (ballsRow nx v)]) n ((v + 1 : Nat) : Int) n (toI nx)) res →
      Ev (fun k => fire_graph_balls.l1 k out (toI ((List.range r).map (ball nx v))) (r : Int) n (v : Int) n (toI nx)) res := by
    intro d
    induction d with
    | zero =>
      intro r v out res hr h1 hv ho h
      obtain rfl : r = nx.length := by omega
      refine Ev.step (fun k => ?_) h
      simp only [fire_graph_balls.l1]
      rw [if_neg (by omega), if_pos (by omega), wrapS (by omega)]
      rfl
    | succ d ih =>
      intro r v out res hr h1 hv ho h
      have hlen : ((List.range r).map (ball nx v)).length = r := by simp
      have hwr : wrap64 ((r : Int) - 1) = ((r - 1 : Nat) : Int) := by unfold wrap64; omega
      have hrd : rd (toI ((List.range r).map (ball nx v))) ((r - 1 : Nat) : Int) = ((ball nx v (r - 1) : Nat) : Int) := by
        rw [toI_rd _ _ (by rw [hlen]; omega)]
        simp
      have hsn : toI ((List.range r).map (ball nx v)) ++ [((arnd nx (ball nx v (r - 1)) : Nat) : Int)] = toI ((List.range (r + 1)).map (ball nx v)) := by
        rw [toI_snoc, List.range_succ, List.map_append]
        congr 2
        obtain ⟨q, rfl⟩ : ∃ q, r = q + 1 := ⟨r - 1, by omega⟩
        rfl
      refine Ev.step (f := fun k => (fire_graph_around.f k n (toI nx) ((ball nx v (r - 1) : Nat) : Int)).bind fun bt147 => fire_graph_balls.l1 k out (toI ((List.range r).map (ball nx v)) ++ [bt147.1]) ((r + 1 : Nat) : Int) n (v : Int) bt147.2 (toI nx)) (fun k => ?_) ?_
      · simp only [fire_graph_balls.l1]
        rw [if_pos (by omega), hwr, if_pos (by omega), if_pos (by rw [toI_length, hlen]; omega), hrd, wrapS (by omega)]
        simp only [toI_length, hlen]
        congr 1
        funext bt
        rw [if_pos (by omega)]
      · refine Ev.bind (around_ev nx n _ hn hx (ball_lt hx hv _)) ?_
        simp only [hsn]
        exact ih (r + 1) v out res (by omega) (by omega) hv ho h
  have key0 : ∀ (d v : Nat), v + d = nx.length → Ev (fun k => fire_graph_balls.l0 k (((List.range v).map (ballsRow nx)).map toI) n (v : Int) n (toI nx)) ((ballsS nx).map toI, n) := by
    intro d
    induction d with
    | zero =>
      intro v hv
      obtain rfl : v = nx.length := by omega
      refine Ev.step (f := fun _ => some ((ballsS nx).map toI, n)) (fun k => ?_) (Ev.now _)
      simp only [fire_graph_balls.l0]
      rw [if_neg (by omega)]
      rfl
    | succ d ih =>
      intro v hv
      have ih' := ih (v + 1) (by omega)
      refine Ev.step (f := fun k => fire_graph_balls.l1 k (((List.range v).map (ballsRow nx)).map toI) (toI ((List.range 1).map (ball nx v))) ((1 : Nat) : Int) n (v : Int) n (toI nx)) (fun k => ?_) ?_
      · simp only [fire_graph_balls.l0]
        rw [if_pos (by omega), if_pos (by omega), shl16 v (by omega)]
        rfl
      · refine key1 (nx.length - 1) 1 v _ _ (by omega) (by omega) (by omega) (by simp; omega) ?_
        rw [List.range_succ, List.map_append, List.map_append] at ih'
        exact ih'
  have k := key0 nx.length 0 (by omega)
  subst hnn
  exact k
end Go.Proofs.YtbgpnkchbcgekaaDoor.Fi
