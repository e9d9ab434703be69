/- DERIVED. Ready ones: what is done again; the law ReadyAgain. -/
import Derived.Test.YtfkamdahfmlgmaaYk
import Derived.Test.YtfkamdahfmlgmaaVcc
namespace Go.Proofs.Ytfkamdahfmlgmaa
set_option linter.unusedSimpArgs false
set_option linter.unusedVariables false
open Go Sl Cv Go.RowKit
abbrev kd_ (x : Int × Int) : Int := (x.1.tmod 7 + 7).tmod 7
/-- Something that is done, and what it tells. -/
def doneS (S : RS) (x : Int × Int) : Int × RS :=
  if kd_ x = 3 ∨ kd_ x = 4 ∨ kd_ x = 6 then (if S.L = [] then (-1, S) else (S.L.getD (plS S).1 0, pickS S))
  else if kd_ x = 5 then (if x.2 ∈ S.L then 1 else 0, restS S x.2)
  else (wakeE S x.2, wakeS S x.2)
theorem doneS_ok {S : RS} (h : ROk S) (x : Int × Int) (ht : S.TD.length < 8900000000000) : ROk (doneS S x).2 ∧ (doneS S x).2.TD.length ≤ S.TD.length + 1 ∧ (doneS S x).2.P = S.P := by
  unfold doneS
  split
  · split
    · exact ⟨h, by dsimp only; omega, rfl⟩
    · rename_i hn
      exact ⟨h.pick (List.length_pos_iff.2 hn) ht, by show (S.TD ++ [_]).length ≤ _; simp, rfl⟩
  split
  · exact ⟨h.rest _, by show S.TD.length ≤ _; omega, rfl⟩
  · refine ⟨h.wake _, by dsimp only; rw [(wake_f S x.2).2.2.1]; omega, ?_⟩
    unfold wakeS; split <;> rfl
/-- With the places that were picked as the picks, the same is told. -/
structure Same (S T : RS) : Prop where
  L : T.L = S.L
  TD : T.TD = S.TD
theorem done_same {S T : RS} (hS : ROk S) (x : Int × Int) (h : Same S T) (hp : (doneS S x).2.TD <+: T.P) : (doneS T x).1 = (doneS S x).1 ∧ Same (doneS S x).2 (doneS T x).2 := by
  unfold doneS at hp ⊢
  rw [h.L]
  split
  · rename_i hk
    rw [if_pos hk] at hp
    split
    · exact ⟨rfl, h⟩
    · rename_i hn
      rw [if_neg hn] at hp
      have h0 : 0 < S.L.length := List.length_pos_iff.2 hn
      have hlt := hS.plt h0
      have hp' : S.TD ++ [((plS S).1 : Int)] <+: T.P := hp
      have hpk : pkS T = some ((plS S).1 : Int) := by
        unfold pkS
        rw [h.TD]
        obtain ⟨R, hR⟩ := hp'
        rw [← hR]; simp
      have hpl : (plS T).1 = (plS S).1 := by
        have e : plS T = plc T.pol T.lot T.L (pkS T) := rfl
        rw [e, hpk, h.L]
        show ((((plS S).1 : Int).tmod S.L.length + S.L.length).tmod S.L.length).toNat = _
        obtain ⟨h1, h2, h3⟩ := tm_rng ((plS S).1 : Int) h0
        have e1 : ((plS S).1 : Int).tmod S.L.length = (plS S).1 := by rw [Int.tmod_eq_emod_of_nonneg (by omega)]; exact Int.emod_eq_of_lt (by omega) (by omega)
        rw [h3, e1, if_neg (by omega)]; omega
      refine ⟨by dsimp only; rw [hpl], ⟨?_, ?_⟩⟩
      · show T.L.eraseIdx _ = S.L.eraseIdx _
        rw [hpl, h.L]
      · show T.TD ++ [_] = S.TD ++ [_]
        rw [hpl, h.TD]
  · split
    · refine ⟨rfl, ⟨?_, h.TD⟩⟩
      show T.L.filter _ = S.L.filter _
      rw [h.L]
    · have hw := wake_f S x.2
      have hw2 := wake_f T x.2
      refine ⟨by show wakeE T x.2 = wakeE S x.2; unfold wakeE; rw [h.L], ⟨?_, ?_⟩⟩
      · rw [hw2.2.2.2, hw.2.2.2, h.L]
      · rw [hw2.2.2.1, hw.2.2.1, h.TD]
theorem done_td (S : RS) (x : Int × Int) : S.TD <+: (doneS S x).2.TD := by
  unfold doneS
  split
  · split
    · exact List.prefix_refl _
    · exact List.prefix_append _ _
  split
  · exact List.prefix_refl _
  · dsimp only; rw [(wake_f S x.2).2.2.1]; exact List.prefix_refl _
section
variable (S0 : RS) (l : List (Int × Int))
def stS : Nat → RS
  | 0 => S0
  | i + 1 => (doneS (stS i) (l.getD i (0, 0))).2
def vlS (i : Nat) : Int := (doneS (stS S0 l i) (l.getD i (0, 0))).1
def sdS (n : Nat) : List Int := (List.range n).map (vlS S0 l)
theorem sdS_len (n : Nat) : (sdS S0 l n).length = n := by simp [sdS]
theorem sdS_succ (n : Nat) : sdS S0 l (n + 1) = sdS S0 l n ++ [vlS S0 l n] := by simp [sdS, List.range_succ]
theorem stS_ok (h : ROk S0) (h0 : S0.TD = []) : ∀ i, i ≤ 8800000000000 → ROk (stS S0 l i) ∧ (stS S0 l i).TD.length ≤ i ∧ (stS S0 l i).P = S0.P
  | 0, _ => ⟨h, by rw [stS, h0]; exact Nat.zero_le _, rfl⟩
  | i + 1, hi => by
    obtain ⟨h1, h2, h3⟩ := stS_ok h h0 i (by omega)
    obtain ⟨g1, g2, g3⟩ := doneS_ok h1 (l.getD i (0, 0)) (by omega)
    exact ⟨g1, by show (doneS _ _).2.TD.length ≤ _; omega, by rw [stS, g3, h3]⟩
theorem stS_pre : ∀ i k, (stS S0 l i).TD <+: (stS S0 l (i + k)).TD
  | i, 0 => List.prefix_refl _
  | i, k + 1 => (stS_pre i k).trans (done_td _ _)
end
section
variable (F : List HP) (r : Nat) (S : RS) (b : Nat)
set_option maxHeartbeats 8000000 in
theorem done_spec (hS : ROk S) (hb : b ≤ 8900000000000) (ht : S.TD.length < 8900000000000) (kd n : Int) : Sp Try.prog 13 [ptr r, .agg (ayl (kd, n)).toArray] (RDY r S b :: F) fun v M => v = .int .i64 (doneS S (kd, n)).1 ∧ M = RDY r (doneS S (kd, n)).2 (b + 1) :: F := by
  have h7 := tm7 kd
  have hup : ∀ (A : RS) (G : List HP), Ent (RDY r A b :: G) (RDY r A (b + 1) :: G) := fun A G => rle (Nat.le_succ b)
  unfold doneS
  dsimp only [kd_, ayl]
  by_cases h1 : (kd.tmod 7 + 7).tmod 7 = 3 ∨ (kd.tmod 7 + 7).tmod 7 = 4 ∨ (kd.tmod 7 + 7).tmod 7 = 6
  · rw [if_pos h1]
    by_cases hn : S.L = []
    · rw [if_pos hn]
      have hpi := fun F => pick_none F r S b hS hn
      rcases h1 with h1 | h1 | h1
      all_goals refine y_of Try.func13 rfl Try.ntmps13 rfl fun w0 => ?_
      all_goals (repeat' (first | (show KQ (WL _ _ _ _ _) _ _ _ _; first | refine yW p_move ?_ | refine yW p_asg ?_ | refine yA ?_ | refine yW p_ld ?_ | refine yW p_lda ?_ | refine yB ?_ | refine yW p_ext ?_ | refine yW p_nott ?_ | refine yW p_notf ?_ | refine yW p_not ?_ | refine yW p_neg ?_ | (refine yX ?_; first | (refine w_bx ?_; intro q) | (refine w_call (hpi _) ?_; rintro r L ⟨rfl, rfl⟩) | fail) | fail) | (show KQ (CD _ _ _ _ _) _ _ _ _; first | refine yT ?_ | refine yF ?_ | fail) | ((first | refine yC ?_ ?_) <;> (intro hc; (try simp only [hcS] at hc); try exact dD)) | refine yE ?_ | fail))
      all_goals refine y_fin ?_
      all_goals exact ⟨_, ⟨rfl, rfl⟩, Ent.trans (by ((repeat (first | with_reducible exact Ent.rfl | with_reducible exact Ent.nil | ((with_reducible apply Ent.cons); focus ((repeat (first | exact Sel.here | apply Sel.there)); done)) | with_reducible refine Ent.drop ?_)); done)) (hup _ _)⟩
    · rw [if_neg hn]
      have hpi := fun F => pick_some F r S b hS (List.length_pos_iff.2 hn) ht
      generalize pickS S = T at hpi ⊢
      generalize S.L.getD (plS S).1 0 = v at hpi ⊢
      rcases h1 with h1 | h1 | h1
      all_goals refine y_of Try.func13 rfl Try.ntmps13 rfl fun w0 => ?_
      all_goals (repeat' (first | (show KQ (WL _ _ _ _ _) _ _ _ _; first | refine yW p_move ?_ | refine yW p_asg ?_ | refine yA ?_ | refine yW p_ld ?_ | refine yW p_lda ?_ | refine yB ?_ | refine yW p_ext ?_ | refine yW p_nott ?_ | refine yW p_notf ?_ | refine yW p_not ?_ | refine yW p_neg ?_ | (refine yX ?_; first | (refine w_bx ?_; intro q) | (refine w_call (hpi _) ?_; rintro r L ⟨rfl, rfl⟩) | fail) | fail) | (show KQ (CD _ _ _ _ _) _ _ _ _; first | refine yT ?_ | refine yF ?_ | fail) | ((first | refine yC ?_ ?_) <;> (intro hc; (try simp only [hcS] at hc); try exact dD)) | refine yE ?_ | fail))
      all_goals refine y_fin ?_
      all_goals exact ⟨_, ⟨rfl, rfl⟩, Ent.trans (by ((repeat (first | with_reducible exact Ent.rfl | with_reducible exact Ent.nil | ((with_reducible apply Ent.cons); focus ((repeat (first | exact Sel.here | apply Sel.there)); done)) | with_reducible refine Ent.drop ?_)); done)) (hup _ _)⟩
  · rw [if_neg h1]
    have h3 : ¬ (kd.tmod 7 + 7).tmod 7 = 3 := fun h => h1 (.inl h)
    have h4 : ¬ (kd.tmod 7 + 7).tmod 7 = 4 := fun h => h1 (.inr (.inl h))
    have h6 : ¬ (kd.tmod 7 + 7).tmod 7 = 6 := fun h => h1 (.inr (.inr h))
    clear h1
    by_cases h5 : (kd.tmod 7 + 7).tmod 7 = 5
    · rw [if_pos h5]
      have hre := fun F => rest_spec F r S b n
      generalize restS S n = T at hre ⊢
      by_cases hin : n ∈ S.L
      · rw [decide_eq_true hin] at hre
        rw [if_pos hin]
        refine y_of Try.func13 rfl Try.ntmps13 rfl fun w0 => ?_
        (repeat' (first | (show KQ (WL _ _ _ _ _) _ _ _ _; first | refine yW p_move ?_ | refine yW p_asg ?_ | refine yA ?_ | refine yW p_ld ?_ | refine yW p_lda ?_ | refine yB ?_ | refine yW p_ext ?_ | refine yW p_nott ?_ | refine yW p_notf ?_ | refine yW p_not ?_ | refine yW p_neg ?_ | (refine yX ?_; first | (refine w_bx ?_; intro q) | (refine w_call (hre _) ?_; rintro r L ⟨rfl, rfl⟩) | fail) | fail) | (show KQ (CD _ _ _ _ _) _ _ _ _; first | refine yT ?_ | refine yF ?_ | fail) | ((first | refine yC ?_ ?_) <;> (intro hc; (try simp only [hcS] at hc); try exact dD)) | refine yE ?_ | fail))
        all_goals refine y_fin ?_
        all_goals exact ⟨_, ⟨rfl, rfl⟩, Ent.trans (by ((repeat (first | with_reducible exact Ent.rfl | with_reducible exact Ent.nil | ((with_reducible apply Ent.cons); focus ((repeat (first | exact Sel.here | apply Sel.there)); done)) | with_reducible refine Ent.drop ?_)); done)) (hup _ _)⟩
      · rw [decide_eq_false hin] at hre
        rw [if_neg hin]
        refine y_of Try.func13 rfl Try.ntmps13 rfl fun w0 => ?_
        (repeat' (first | (show KQ (WL _ _ _ _ _) _ _ _ _; first | refine yW p_move ?_ | refine yW p_asg ?_ | refine yA ?_ | refine yW p_ld ?_ | refine yW p_lda ?_ | refine yB ?_ | refine yW p_ext ?_ | refine yW p_nott ?_ | refine yW p_notf ?_ | refine yW p_not ?_ | refine yW p_neg ?_ | (refine yX ?_; first | (refine w_bx ?_; intro q) | (refine w_call (hre _) ?_; rintro r L ⟨rfl, rfl⟩) | fail) | fail) | (show KQ (CD _ _ _ _ _) _ _ _ _; first | refine yT ?_ | refine yF ?_ | fail) | ((first | refine yC ?_ ?_) <;> (intro hc; (try simp only [hcS] at hc); try exact dD)) | refine yE ?_ | fail))
        all_goals refine y_fin ?_
        all_goals exact ⟨_, ⟨rfl, rfl⟩, Ent.trans (by ((repeat (first | with_reducible exact Ent.rfl | with_reducible exact Ent.nil | ((with_reducible apply Ent.cons); focus ((repeat (first | exact Sel.here | apply Sel.there)); done)) | with_reducible refine Ent.drop ?_)); done)) (hup _ _)⟩
    · rw [if_neg h5]
      have hwk := fun F => wake_spec F r S b n hS hb
      generalize wakeS S n = T at hwk ⊢
      generalize wakeE S n = e at hwk ⊢
      refine y_of Try.func13 rfl Try.ntmps13 rfl fun w0 => ?_
      (repeat' (first | (show KQ (WL _ _ _ _ _) _ _ _ _; first | refine yW p_move ?_ | refine yW p_asg ?_ | refine yA ?_ | refine yW p_ld ?_ | refine yW p_lda ?_ | refine yB ?_ | refine yW p_ext ?_ | refine yW p_nott ?_ | refine yW p_notf ?_ | refine yW p_not ?_ | refine yW p_neg ?_ | (refine yX ?_; first | (refine w_bx ?_; intro q) | (refine w_call (hwk _) ?_; rintro r L ⟨rfl, rfl⟩) | fail) | fail) | (show KQ (CD _ _ _ _ _) _ _ _ _; first | refine yT ?_ | refine yF ?_ | fail) | ((first | refine yC ?_ ?_) <;> (intro hc; (try simp only [hcS] at hc); try exact dD)) | refine yE ?_ | fail))
      all_goals (refine y_fin ?_; exact ⟨_, ⟨rfl, rfl⟩, Ent.auto⟩)
end
end Go.Proofs.Ytfkamdahfmlgmaa
