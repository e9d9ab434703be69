/- DERIVED. Ready ones: awake; the law ReadyNil. -/
import Derived.Test.YtfkamdahfmlgmaaYa
import Derived.Test.YtfkamdahfmlgmaaVcc
namespace Go.Proofs.Ytfkamdahfmlgmaa
set_option linter.unusedSimpArgs false
set_option linter.unusedVariables false
open Go Sl Cv Go.RowKit
section
variable (r q m1 m2 : Nat) (a : Option Addr) (c : Nat) (F : List HP)
theorem ti0 : TI 0 0 [] := ⟨by decide, by decide, by decide, by simp, by decide⟩
theorem ti1 : TI 0 1 [(0, 5)] := ⟨by decide, by decide, by decide, by simp, by decide⟩
theorem ti2 : TI 0 2 [(0, 5), (1, 6)] := ⟨by decide, by decide, by decide, by simp, by decide⟩
theorem ti3 : TI 0 2 [(1, 6)] := ⟨by decide, by decide, by decide, by simp, by decide⟩
theorem aw1 : Sp Try.prog 9 [ptr r, .int .i64 5] (rdn r q m1 m2 0 none 0 [] 0 0 [] F) fun v M => v = .int .i64 0 ∧ M = rdn r q m1 m2 0 none 0 [] 0 1 [(0, 5)] F := rwake_new r q m1 m2 0 none 0 [] 0 0 [] F 5 ti0 (by simp [its]) (by decide) (by decide)
theorem aw2 : Sp Try.prog 9 [ptr r, .int .i64 6] (rdn r q m1 m2 0 none 0 [] 0 1 [(0, 5)] F) fun v M => v = .int .i64 0 ∧ M = rdn r q m1 m2 0 none 0 [] 0 2 [(0, 5), (1, 6)] F := rwake_new r q m1 m2 0 none 0 [] 0 1 [(0, 5)] F 6 ti1 (by simp [its]) (by decide) (by decide)
theorem aw3 : Sp Try.prog 10 [ptr r] (rdn r q m1 m2 0 none 0 [] 0 2 [(0, 5), (1, 6)] F) fun v M => ∃ a2 c2, v = .tuple #[.int .i64 5, .bool true] ∧ M = rdn r q m1 m2 0 a2 c2 [0] 0 2 [(1, 6)] F := rpick_some r q m1 m2 0 none 0 [] 0 2 [(1, 6)] F 5 0 ti2 (by decide) (by decide)
theorem aw4 : Sp Try.prog 11 [ptr r, .int .i64 6] (rdn r q m1 m2 0 a c [0] 0 2 [(1, 6)] F) fun v M => v = .bool true ∧ M = rdn r q m1 m2 0 a c [0] 0 2 [(1, 6)] F := rhas_spec r q m1 m2 0 a c [0] 0 2 [(1, 6)] F 6 ti3
theorem awake_spec : Sp Try.prog 8 [] F fun r M => r = .bool true ∧ M = F := by
  refine y_of Try.func8 rfl Try.ntmps8 rfl fun w0 => ?_
  (repeat' (first | (show KQ (WL _ _ _ _ _) _ _ _ _; first | refine yW p_move ?_ | refine yW p_asg ?_ | refine yB ?_ | refine yW p_ext ?_ | refine yW p_pt ?_ | refine yW p_pf ?_ | (refine yX ?_; first | (refine w_call (rnew0 _) ?_; rintro r L ⟨r, q, m1, m2, rfl, rfl⟩) | (refine w_call (aw1 r q m1 m2 _) ?_; rintro r L ⟨rfl, rfl⟩) | (refine w_call (aw2 r q m1 m2 _) ?_; rintro r L ⟨rfl, rfl⟩) | (refine w_call (aw3 r q m1 m2 _) ?_; rintro r L ⟨a2, c2, rfl, rfl⟩) | (refine w_call (aw4 r q m1 m2 a2 c2 _) ?_; rintro r L ⟨rfl, rfl⟩) | fail) | refine yN ?_ | refine yO ?_ | fail) | (show KQ (CD _ _ _ _ _) _ _ _ _; first | refine yT ?_ | refine yF ?_ | fail) | ((first | refine yG ?_ ?_ | refine yC ?_ ?_) <;> (intro hc; (try simp only [hcS] at hc); try exact dD)) | refine yE ?_ | fail))
  all_goals (refine y_fin ?_; exact ⟨_, ⟨rfl, rfl⟩, Ent.auto⟩)
end
set_option maxRecDepth 100000 in
set_option maxHeartbeats 4000000 in
theorem law_spec (n : Int) (F : List HP) : Sp Try.prog 6 [.int .i64 n] F fun r M => r = .bool true ∧ M = F := by
  refine y_of Try.func6 rfl Try.ntmps6 rfl fun w0 => ?_
  (repeat' (first | (show KQ (WL _ _ _ _ _) _ _ _ _; first | refine yW p_move ?_ | refine yW p_asg ?_ | refine yB ?_ | refine yW p_ext ?_ | refine yW p_pt ?_ | refine yW p_pf ?_ | refine yW p_nott ?_ | refine yW p_notf ?_ | refine yW p_not ?_ | refine yW p_neg ?_ | refine yW p_len ?_ | refine yW p_lens ?_ | refine yW p_lenm ?_ | (refine yX ?_; first | (refine w_call (rpick_nil _) ?_; rintro r L ⟨rfl, rfl⟩) | (refine w_call (rpeek_nil _) ?_; rintro r L ⟨rfl, rfl⟩) | (refine w_call (awake_spec _) ?_; rintro r L ⟨rfl, rfl⟩) | (refine w_call (rwake_nil _ n) ?_; rintro r L ⟨rfl, rfl⟩) | (refine w_call (rrest_nil _ n) ?_; rintro r L ⟨rfl, rfl⟩) | (refine w_call (rhas_nil _ n) ?_; rintro r L ⟨rfl, rfl⟩) | (refine w_call (rall_nil _) ?_; rintro r L ⟨rfl, rfl⟩) | (refine w_call (rlen_nil _) ?_; rintro r L ⟨rfl, rfl⟩) | (refine w_call (rturns_nil _) ?_; rintro r L ⟨rfl, rfl⟩) | (refine w_call (rtold_nil _) ?_; rintro r L ⟨rfl, rfl⟩) | (refine w_call (rclone_nil _) ?_; rintro r L ⟨rfl, rfl⟩) | fail) | refine yN ?_ | refine yO ?_ | fail) | ((first | refine yG ?_ ?_) <;> (intro hc; (try simp only [hcS] at hc); try exact dD)) | refine yE ?_ | fail))
  all_goals (refine y_fin ?_; exact ⟨_, ⟨rfl, rfl⟩, Ent.auto⟩)
theorem readyNil_walk (w : World) (n : Int) (_ : (Lit.int .i64 n).wf = true) :
    Calls Try.prog 6 #[.int .i64 n] w fun e w' => e = .returned (.bool true) ∧ Below w.heap.size w w' := by
  exact walk_of_sp (law_spec n [old w])
end Go.Proofs.Ytfkamdahfmlgmaa
