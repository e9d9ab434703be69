/- DERIVED. Queues: Back; the document's Put. -/
import Derived.Test.YteafcajlfagbkaaQf
import Derived.Test.YteafcajlfagbkaaVcc
namespace Go.Proofs.Yteafcajlfagbkaa
set_option linter.unusedSimpArgs false
set_option linter.unusedVariables false
open Go Sl Cv Go.RowKit
theorem rem_notin (L : LL) (x : Int) : x ∉ its (rem L x) := by
  intro h
  obtain ⟨p, hp, e⟩ := List.mem_map.1 h
  have := (List.mem_filter.1 hp).2
  simp [e] at this
theorem rem_lt {L : LL} {x : Int} (h : x ∈ its L) : (rem L x).length < L.length := by
  obtain ⟨p, hp, e⟩ := List.mem_map.1 h
  exact List.length_filter_lt_length_iff_exists.2 ⟨p, hp, by simp [e]⟩
section
variable (p m1 m2 : Nat) (fr ut : Int) (L : LL) (a : Option Addr) (c : Nat) (D : List DT) (F : List HP) (x : Int)
theorem tback_no (hT : TI fr ut L) (h : x ∉ its L) : Sp Try.prog 21 [ptr p, .int .i64 x] (tq p m1 m2 fr ut L F) fun r M => r = .bool false ∧ M = tq p m1 m2 fr ut L F := by
  have hd := fun F => tdrop_no p m1 m2 fr ut L F x hT h
  refine y_of Try.func21 rfl Try.ntmps21 rfl fun w0 => ?_
  (repeat' (first | (show KQ (WL _ _ _ _ _) _ _ _ _; first | refine yW p_move ?_ | refine yW p_asg ?_ | refine yB ?_ | refine yW p_pt ?_ | refine yW p_pf ?_ | (refine yX ?_; first | (refine w_call (hd _) ?_; rintro r L ⟨rfl, rfl⟩) | fail) | refine yN ?_ | refine yO ?_ | fail) | ((first | refine yG ?_ ?_) <;> (intro hc; (try simp only [hcS] at hc); try exact dD)) | refine yE ?_ | fail))
  all_goals (refine y_fin ?_; exact ⟨_, ⟨rfl, rfl⟩, Ent.auto⟩)
theorem tback_yes (hT : TI fr ut L) (h : x ∈ its L) (hl : L.length ≤ 65536) (hfr : fr ≤ ut) : Sp Try.prog 21 [ptr p, .int .i64 x] (tq p m1 m2 fr ut L F) fun r M => r = .bool true ∧ M = tq p m1 m2 fr (ut + 1) (rem L x ++ [(ut, x)]) F := by
  have hd := fun F => tdrop_yes p m1 m2 fr ut L F x hT h
  have hp := fun F => tput_new p m1 m2 fr ut (rem L x) F x (rem_keep hT x) (rem_notin L x) (by have := rem_lt h; omega) hfr
  refine y_of Try.func21 rfl Try.ntmps21 rfl fun w0 => ?_
  (repeat' (first | (show KQ (WL _ _ _ _ _) _ _ _ _; first | refine yW p_move ?_ | refine yW p_asg ?_ | refine yB ?_ | refine yW p_pt ?_ | refine yW p_pf ?_ | (refine yX ?_; first | (refine w_call (hd _) ?_; rintro r L ⟨rfl, rfl⟩) | (refine w_call (hp _) ?_; rintro r L ⟨rfl, rfl⟩) | fail) | refine yN ?_ | refine yO ?_ | fail) | ((first | refine yG ?_ ?_) <;> (intro hc; (try simp only [hcS] at hc); try exact dD)) | refine yE ?_ | fail))
  all_goals (refine y_fin ?_; exact ⟨_, ⟨rfl, rfl⟩, Ent.auto⟩)
theorem dput_there (k : Nat) (hk : k < D.length) (hx : D[k].2 = x) (h : ∀ j (hj : j < k), D[j].2 ≠ x) (hl : D.length ≤ 1000000000) : Sp Try.prog 22 [.slice a D.length c, .int .i64 0, .int .i64 x] (drow a c D :: F) fun r M => r = .tuple #[.slice a D.length c, .int .i64 40] ∧ M = drow a c D :: F := by
  refine y_of Try.func22 rfl Try.ntmps22 rfl fun w0 => ?_
  (repeat' (first | (show KQ (WL _ _ _ _ _) _ _ _ _; first | refine yW p_move ?_ | refine yW p_asg ?_ | refine yA ?_ | refine yW p_ld ?_ | refine yW p_lda ?_ | refine yB ?_ | refine yW p_pt ?_ | refine yW p_pf ?_ | refine yW p_idx ?_ | refine yW p_idxl ?_ | refine yW p_len ?_ | refine yW p_lens ?_ | refine yW p_lenm ?_ | refine yW p_bld ?_ | refine yS ?_ | (refine yX ?_; first | (refine w_ap0 ?_; intro ao1 cap1) | (refine w_ap ?_; intro ao1 cap1) | (refine w_bs ?_; intro q) | (refine w_call (dfind_at a c D _ x ?_ hl k hk hx h) ?_; (all_goals (try (focus (first | (first | (apply Reads.row; focus ((repeat (first | exact Sel.here | apply Sel.there)); done)) | (apply reads_blk; focus ((repeat (first | exact Sel.here | apply Sel.there)); done)) | ((refine Reads.ent (by assumption) ?_); ((repeat (first | with_reducible exact Ent.rfl | with_reducible exact Ent.nil | ((with_reducible apply Ent.cons); focus ((repeat (first | exact Sel.here | apply Sel.there)); done)) | with_reducible refine Ent.drop ?_)); done))) | assumption | omega)))); rintro r L ⟨rfl, rfl⟩) | fail) | refine yN ?_ | refine yO ?_ | fail) | (show KQ (CD _ _ _ _ _) _ _ _ _; first | refine yT ?_ | refine yF ?_ | fail) | ((first | refine yG ?_ ?_ | refine yC ?_ ?_) <;> (intro hc; (try simp only [hcS] at hc); try exact dD)) | refine yE ?_ | fail))
  all_goals (refine y_fin ?_; exact ⟨_, ⟨rfl, rfl⟩, Ent.auto⟩)
theorem dput_many (h : ∀ q ∈ D, q.2 ≠ x) (hl : D.length ≤ 1000000000) (h2 : 65536 ≤ D.length) : Sp Try.prog 22 [.slice a D.length c, .int .i64 0, .int .i64 x] (drow a c D :: F) fun r M => r = .tuple #[.slice a D.length c, .int .i64 3] ∧ M = drow a c D :: F := by
  refine y_of Try.func22 rfl Try.ntmps22 rfl fun w0 => ?_
  (repeat' (first | (show KQ (WL _ _ _ _ _) _ _ _ _; first | refine yW p_move ?_ | refine yW p_asg ?_ | refine yA ?_ | refine yW p_ld ?_ | refine yW p_lda ?_ | refine yB ?_ | refine yW p_pt ?_ | refine yW p_pf ?_ | refine yW p_idx ?_ | refine yW p_idxl ?_ | refine yW p_len ?_ | refine yW p_lens ?_ | refine yW p_lenm ?_ | refine yW p_bld ?_ | refine yS ?_ | (refine yX ?_; first | (refine w_ap0 ?_; intro ao1 cap1) | (refine w_ap ?_; intro ao1 cap1) | (refine w_bs ?_; intro q) | (refine w_call (dfind_no a c D _ x ?_ hl h) ?_; (all_goals (try (focus (first | (first | (apply Reads.row; focus ((repeat (first | exact Sel.here | apply Sel.there)); done)) | (apply reads_blk; focus ((repeat (first | exact Sel.here | apply Sel.there)); done)) | ((refine Reads.ent (by assumption) ?_); ((repeat (first | with_reducible exact Ent.rfl | with_reducible exact Ent.nil | ((with_reducible apply Ent.cons); focus ((repeat (first | exact Sel.here | apply Sel.there)); done)) | with_reducible refine Ent.drop ?_)); done))) | assumption | omega)))); rintro r L ⟨rfl, rfl⟩) | fail) | refine yN ?_ | refine yO ?_ | fail) | (show KQ (CD _ _ _ _ _) _ _ _ _; first | refine yT ?_ | refine yF ?_ | fail) | ((first | refine yG ?_ ?_ | refine yC ?_ ?_) <;> (intro hc; (try simp only [hcS] at hc); try exact dD)) | refine yE ?_ | fail))
  all_goals (refine y_fin ?_; exact ⟨_, ⟨rfl, rfl⟩, Ent.auto⟩)
end
end Go.Proofs.Yteafcajlfagbkaa
