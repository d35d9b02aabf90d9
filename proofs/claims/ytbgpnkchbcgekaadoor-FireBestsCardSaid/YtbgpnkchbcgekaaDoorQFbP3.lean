/- The printed functions play and saved in plain words. -/
import Derived.Test.YtbgpnkchbcgekaaDoorQFbP1
import Derived.Test.YtbgpnkchbcgekaaDoorQFbS3
import Derived.Test.YtbgpnkchbcgekaaDoorQFbFi3
import Derived.Test.YtbgpnkchbcgekaaDoorQFbFi8
import Derived.Test.YtbgpnkchbcgekaaDoorQFbHb
namespace Go.Proofs.YtbgpnkchbcgekaaDoor.Fi
open Go.RowKit Go.Proofs.YtbgpnkchbcgekaaDoorW.PrintWords Go.Proofs.YtbgpnkchbcgekaaDoorW.PrintLast Go.Proofs.YtbgpnkchbcgekaaDoorW.PrintMore Wog
set_option linter.unusedVariables false
theorem more16 {nx : List Nat} (hn : nx.length ≤ 10) (hx : ∀ x ∈ nx, x < 2 ^ nx.length) {B D : Nat} (hB : B < 2 ^ nx.length) (hD : D < 2 ^ nx.length) :
    Go.bits .andNot .u16 (Go.bits .andNot .u16 ((arnd nx B : Nat) : Int) (B : Int)) (D : Int) = ((moreS nx B D : Nat) : Int) := by
  have h16 : ∀ {x : Nat}, x < 2 ^ nx.length → x < 65536 := fun h => Nat.lt_of_lt_of_le h (Nat.le_trans (Nat.pow_le_pow_right (by omega) hn) (by omega))
  rw [andNot16 _ _ (h16 (arnd_lt hx hB)) (h16 hB)]
  exact andNot16 _ _ (h16 (diff_le _ _ _ (arnd_lt hx hB))) (h16 hD)
theorem toI_snoc (xs : List Nat) (x : Nat) : toI xs ++ [(x : Int)] = toI (xs ++ [x]) := by simp [toI]
theorem drop_cons {α : Type} {l : List α} {j : Nat} {d : α} {p : List α} (h : l.drop j = d :: p) : j < l.length ∧ l[j]? = some d ∧ l.drop (j + 1) = p := by
  have hj : j < l.length := by
    rcases Nat.lt_or_ge j l.length with h1 | h1
    · exact h1
    · rw [List.drop_eq_nil_of_le h1] at h; cases h
  rw [List.drop_eq_getElem_cons hj] at h
  injection h with h1 h2
  exact ⟨hj, by rw [List.getElem?_eq_getElem hj, h1], h2⟩
def playOut (n : Int) (o : Option (List Nat)) (out : List Nat) : List Int × Bool × Int := match o with
  | some q => (toI (out ++ q), true, n)
  | none => ([], false, n)
theorem play_ev (nx : List Nat) (n : Int) (hnn : n = nx.length) (hn : nx.length ≤ 10) (hx : ∀ x ∈ nx, x < 2 ^ nx.length) (plan : List Int) (hp : plan.length < 2 ^ 39) (f : Nat) (hf : f < nx.length) :
    Ev (fun k => fire_graph_play.f k n (toI nx) (f : Int) plan) (playOut n (playS nx plan (2 ^ f) 0) []) := by
  have h16 : ∀ {x : Nat}, x < 2 ^ nx.length → x < 65536 := fun h => Nat.lt_of_lt_of_le h (Nat.le_trans (Nat.pow_le_pow_right (by omega) hn) (by omega))
  -- the rounds behind the plan
  have key0 : ∀ (m j B D : Nat) (out : List Nat), plan.length ≤ j → j + m < 2 ^ 40 → B < 2 ^ nx.length → D < 2 ^ nx.length → zer nx.length B ≤ m → out.length + m ≤ 2 ^ 41 →
      Ev (fun k => fire_graph_play.j1 k plan (toI out) (B : Int) (D : Int) (j : Int) n (toI nx)) (playOut n (some (playN nx nx.length B D)) out) := by
    intro m
    induction m with
    | zero =>
      intro j B D out hj hjm hB hD hz hl
      refine Ev.step (fun k => by simp only [fire_graph_play.j1]; rfl) ?_
      refine Ev.bind (around_ev nx n B hn hx hB) ?_
      simp only [more16 hn hx hB hD]
      rw [playN_unfold hx hB, if_pos (zer_zero hx hB D (by omega)), zer_zero hx hB D (by omega)]
      refine Ev.step (f := fun k => some (toI out, true, n)) (fun k => ?_) ?_
      · simp only [fire_graph_play.j2]
        rw [if_pos (show ((0 : Nat) : Int) = 0 from rfl), if_pos (by simp; omega)]
      · simpa [playOut] using Ev.now (toI out, true, n)
    | succ m ih =>
      intro j B D out hj hjm hB hD hz hl
      refine Ev.step (fun k => by simp only [fire_graph_play.j1]; rfl) ?_
      refine Ev.bind (around_ev nx n B hn hx hB) ?_
      simp only [more16 hn hx hB hD]
      rw [playN_unfold hx hB]
      by_cases h : moreS nx B D = 0
      · rw [if_pos h, h]
        refine Ev.step (f := fun k => some (toI out, true, n)) (fun k => ?_) ?_
        · simp only [fire_graph_play.j2]
          rw [if_pos (show ((0 : Nat) : Int) = 0 from rfl), if_pos (by simp; omega)]
        · simpa [playOut] using Ev.now (toI out, true, n)
      · rw [if_neg h]
        have hlt := zer_more hx hB h
        have hB' := Nat.or_lt_two_pow hB (moreS_lt hx hB D)
        have ih' := ih (j + 1) (B ||| moreS nx B D) D (out ++ [moreS nx B D]) (by omega) (by omega) hB' hD (by omega) (by simp; omega)
        have hne : ¬ (((moreS nx B D : Nat) : Int) = 0) := by omega
        refine Ev.step (f := fun k => fire_graph_play.l0 k plan (toI (out ++ [moreS nx B D])) (((B ||| moreS nx B D : Nat)) : Int) (D : Int) ((j + 1 : Nat) : Int) n (toI nx)) (fun k => ?_) ?_
        · simp only [fire_graph_play.j2]
          rw [if_neg hne, if_neg (by simp), if_neg hne, if_pos (by rw [toI_length]; omega), or16 _ _ (h16 hB) (h16 (moreS_lt hx hB D)), wrapS (by omega), toI_snoc]
        · refine Ev.step (f := fun k => fire_graph_play.j1 k plan (toI (out ++ [moreS nx B D])) (((B ||| moreS nx B D : Nat)) : Int) (D : Int) ((j + 1 : Nat) : Int) n (toI nx)) (fun k => ?_) ?_
          · simp only [fire_graph_play.l0]
            rw [if_neg (by omega)]
          · have e : playOut n (some (moreS nx B D :: playN nx nx.length (B ||| moreS nx B D) D)) out = playOut n (some (playN nx nx.length (B ||| moreS nx B D) D)) (out ++ [moreS nx B D]) := by simp [playOut]
            rw [e]
            exact ih'
  have key : ∀ (p : List Int) (j B D : Nat) (out : List Nat), plan.drop j = p → j + p.length = plan.length → B < 2 ^ nx.length → D < 2 ^ nx.length → out.length ≤ j →
      Ev (fun k => fire_graph_play.l0 k plan (toI out) (B : Int) (D : Int) (j : Int) n (toI nx)) (playOut n (playS nx p B D) out) := by
    intro p
    induction p with
    | nil =>
      intro j B D out hd hjp hB hD ho
      refine Ev.step (f := fun k => fire_graph_play.j1 k plan (toI out) (B : Int) (D : Int) (j : Int) n (toI nx)) (fun k => ?_) (key0 nx.length j B D out (by simp at hjp; omega) (by simp at hjp; omega) hB hD (zer_le _ _) (by simp at hjp; omega))
      simp only [fire_graph_play.l0]
      rw [if_neg (by simp at hjp; omega)]
    | cons d p ih =>
      intro j B D out hd hjp hB hD ho
      obtain ⟨hj, hget, hd'⟩ := drop_cons hd
      have hrd : rd plan (j : Int) = d := by
        unfold rd
        rw [Int.toNat_natCast, List.getD_eq_getElem?_getD, hget]; rfl
      have hjp' : j + 1 + p.length = plan.length := by simp at hjp; omega
      by_cases h0 : d < 0
      · refine Ev.step (f := fun k => some ([], false, n)) (fun k => ?_) ?_
        · simp only [fire_graph_play.l0, hrd]
          rw [if_pos (by omega), if_pos (by omega), if_pos h0]
        · rw [playS, if_neg (by omega)]
          exact Ev.now _
      · by_cases h1 : d ≥ n
        · refine Ev.step (f := fun k => some ([], false, n)) (fun k => ?_) ?_
          · simp only [fire_graph_play.l0, hrd]
            rw [if_pos (by omega), if_pos (by omega), if_neg h0, if_pos h1]
          · rw [playS, if_neg (by omega)]
            exact Ev.now _
        · obtain ⟨e, rfl⟩ := Int.eq_ofNat_of_zero_le (show 0 ≤ d by omega)
          have hBD := Nat.or_lt_two_pow hB hD
          have hhas := has_is (B ||| D) e (h16 hBD)
          have hor : Go.bits .or .u16 (B : Int) (D : Int) = ((B ||| D : Nat) : Int) := or16 _ _ (h16 hB) (h16 hD)
          have he : e < nx.length := by omega
          have hp2 : 2 ^ e < 2 ^ nx.length := Nat.pow_lt_pow_right (by omega) he
          by_cases hb : (B ||| D).testBit e = true
          · refine Ev.step (f := fun k => some ([], false, n)) (fun k => ?_) ?_
            · simp only [fire_graph_play.l0, hrd]
              rw [if_pos (by omega), if_pos (by omega), if_neg h0, if_neg h1, hor, hhas, Option.bind_some, if_pos hb]
            · rw [playS, if_neg (by simp [hb])]
              exact Ev.now _
          · rw [Bool.not_eq_true] at hb
            have hD' : D ||| 2 ^ e < 2 ^ nx.length := Nat.or_lt_two_pow hD hp2
            refine Ev.step (f := fun k => fire_graph_play.j1 k plan (toI out) (B : Int) ((D ||| 2 ^ e : Nat) : Int) (j : Int) n (toI nx)) (fun k => ?_) ?_
            · simp only [fire_graph_play.l0, hrd]
              rw [if_pos (by omega), if_pos (by omega), if_neg h0, if_neg h1, hor, hhas, Option.bind_some, hb, if_neg (by simp), if_pos (by omega), shl16 e (by omega), or16 _ _ (h16 hD) (h16 hp2)]
            · rw [playS, if_pos ⟨by omega, by omega, by simpa using hb⟩, Int.toNat_natCast]
              refine Ev.step (fun k => by simp only [fire_graph_play.j1]; rfl) ?_
              refine Ev.bind (around_ev nx n B hn hx hB) ?_
              simp only [more16 hn hx hB hD']
              have hge : decide (((j : Nat) : Int) ≥ (plan.length : Int)) = false := by simp; omega
              obtain ⟨M, hM⟩ : ∃ M, M = moreS nx B (D ||| 2 ^ e) := ⟨_, rfl⟩
              have hML : M < 2 ^ nx.length := by rw [hM]; exact moreS_lt hx hB _
              rw [← hM]
              by_cases h : M = 0
              · subst h
                have ih' := ih (j + 1) (B ||| 0) (D ||| 2 ^ e) out hd' hjp' (by simpa using hB) hD' (by omega)
                refine Ev.step (f := fun k => fire_graph_play.l0 k plan (toI out) ((B ||| 0 : Nat) : Int) ((D ||| 2 ^ e : Nat) : Int) ((j + 1 : Nat) : Int) n (toI nx)) (fun k => ?_) ?_
                · simp only [fire_graph_play.j2]
                  rw [if_pos (show ((0 : Nat) : Int) = 0 from rfl), if_neg (by rw [hge]; simp), if_pos (show ((0 : Nat) : Int) = 0 from rfl), or16 _ _ (h16 hB) (by omega), wrapS (by omega)]
                · have e1 : ∀ q : Option (List Nat), (q.map fun o => if (0 : Nat) = 0 then o else 0 :: o) = q := fun q => by cases q <;> simp
                  rw [e1]
                  exact ih'
              · have ih' := ih (j + 1) (B ||| M) (D ||| 2 ^ e) (out ++ [M]) hd' hjp' (Nat.or_lt_two_pow hB hML) hD' (by simp; omega)
                have hne : ¬ ((M : Int) = 0) := by omega
                refine Ev.step (f := fun k => fire_graph_play.l0 k plan (toI (out ++ [M])) ((B ||| M : Nat) : Int) ((D ||| 2 ^ e : Nat) : Int) ((j + 1 : Nat) : Int) n (toI nx)) (fun k => ?_) ?_
                · simp only [fire_graph_play.j2]
                  rw [if_neg hne, if_neg (by simp), if_neg hne, if_pos (by rw [toI_length]; omega), or16 _ _ (h16 hB) (h16 hML), wrapS (by omega), toI_snoc]
                · have e1 : ∀ q : Option (List Nat), playOut n (q.map fun o => if M = 0 then o else M :: o) out = playOut n q (out ++ [M]) := fun q => by cases q <;> simp [h, playOut]
                  rw [e1]
                  exact ih'
  have hp2 : 2 ^ f < 2 ^ nx.length := Nat.pow_lt_pow_right (by omega) hf
  have k := key plan 0 (2 ^ f) 0 [] (by simp) (by simp) hp2 (Nat.two_pow_pos _) (by simp)
  refine Ev.congr (fun k => ?_) k
  unfold fire_graph_play.f
  rw [if_pos (by omega), shl16 f (by omega)]
  rfl
end Go.Proofs.YtbgpnkchbcgekaaDoor.Fi
