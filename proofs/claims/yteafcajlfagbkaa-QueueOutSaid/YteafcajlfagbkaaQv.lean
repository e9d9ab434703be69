/- DERIVED. Who came first goes first: awake. -/
import Derived.Test.YteafcajlfagbkaaQu
import Derived.Test.YteafcajlfagbkaaVcc
namespace Go.Proofs.Yteafcajlfagbkaa
set_option linter.unusedSimpArgs false
set_option linter.unusedVariables false
open Go Sl Cv Go.RowKit
section
variable (p m m1 m2 : Nat) (F : List HP)
theorem ti0 : TI 0 0 [] := ⟨by decide, by decide, by decide, by simp, by decide⟩
theorem ti1 : TI 0 1 [(0, 5)] := ⟨by decide, by decide, by decide, by simp, by decide⟩
theorem ti2 : TI 0 2 [(0, 5), (1, 3)] := ⟨by decide, by decide, by decide, by simp, by decide⟩
theorem aput1 : Sp Try.prog 11 [ptr p, .int .i64 5] (tq p m1 m2 0 0 [] F) fun r M => r = .int .i64 0 ∧ M = tq p m1 m2 0 1 [(0, 5)] F := tput_new p m1 m2 0 0 [] F 5 ti0 (by simp [its]) (by decide) (by decide)
theorem aput2 : Sp Try.prog 11 [ptr p, .int .i64 3] (tq p m1 m2 0 1 [(0, 5)] F) fun r M => r = .int .i64 0 ∧ M = tq p m1 m2 0 2 [(0, 5), (1, 3)] F := tput_new p m1 m2 0 1 [(0, 5)] F 3 ti1 (by simp [its]) (by decide) (by decide)
theorem atake : Sp Try.prog 13 [ptr p] (tq p m1 m2 0 2 [(0, 5), (1, 3)] F) fun r M => r = .tuple #[.int .i64 5, .bool true] ∧ M = tq p m1 m2 0 2 [(1, 3)] F := ttake_some p m1 m2 0 2 [(1, 3)] F 5 0 ti2
theorem amput : Sp Try.prog 12 [ptr p, .int .i64 7, .int .i64 1] (tms p m none 0 [] [] 0 F) fun r M => ∃ a2 c2, r = .int .i64 0 ∧ M = tms p m a2 c2 [⟨7, 0, 1⟩] [(1, ⟨7, 0, 1⟩)] 1 F := mput_one p m none 0 0 F 7 1 (by decide) (by decide)
set_option maxHeartbeats 4000000 in
theorem awake_spec : Sp Try.prog 10 [] F fun r M => r = .bool true ∧ M = F := by
  refine y_of Try.func10 rfl Try.ntmps10 rfl fun w0 => ?_
  (repeat' (first | (show KQ (WL _ _ _ _ _) _ _ _ _; first | refine yW p_move ?_ | refine yW p_asg ?_ | refine yB ?_ | refine yW p_ext ?_ | refine yW p_pt ?_ | refine yW p_pf ?_ | (refine yX ?_; first | (refine w_call (tnew_spec _) ?_; rintro r L ⟨p, m1, m2, rfl, rfl⟩) | (refine w_call (mnew_spec _) ?_; rintro r L ⟨q, m, rfl, rfl⟩) | (refine w_call (aput1 p m1 m2 _) ?_; rintro r L ⟨rfl, rfl⟩) | (refine w_call (aput2 p m1 m2 _) ?_; rintro r L ⟨rfl, rfl⟩) | (refine w_call (amput q m _) ?_; rintro r L ⟨a2, c2, rfl, rfl⟩) | (refine w_call (atake p m1 m2 _) ?_; rintro r L ⟨rfl, rfl⟩) | (refine w_call (mnext_one q m a2 c2 1 _ ⟨7, 0, 1⟩) ?_; rintro r L ⟨rfl, rfl⟩) | fail) | refine yN ?_ | refine yO ?_ | fail) | (show KQ (CD _ _ _ _ _) _ _ _ _; first | refine yT ?_ | refine yF ?_ | fail) | ((first | refine yG ?_ ?_ | refine yC ?_ ?_) <;> (intro hc; (try simp only [hcS] at hc); try exact dD)) | refine yE ?_ | fail))
  all_goals (refine y_fin ?_; exact ⟨_, ⟨rfl, rfl⟩, Ent.auto⟩)
end
end Go.Proofs.Yteafcajlfagbkaa
