/- DERIVED. Queues by time: what the code does with them. -/
import Derived.Test.YteafcajlfagbkaaZe
import Derived.Test.YteafcajlfagbkaaVcc
namespace Go.Proofs.Yteafcajlfagbkaa
set_option linter.unusedSimpArgs false
set_option linter.unusedVariables false
open Go Sl Cv Go.RowKit
section
variable (p : Nat) (Q : List TM) (t : Int) (b : Nat) (F : List HP) (x : TM) (y : Int)
theorem tnew_ok : Sp Try.prog 9 [] F fun r M => ∃ p, r = ptr p ∧ M = TIM p [] 0 0 :: F := by
  refine Sp.post (mnew_spec F) ?_
  rintro v L ⟨p, m, rfl, rfl⟩
  exact ⟨_, ⟨p, rfl, rfl⟩, tshut (p := p) (Q := []) (t := 0) (b := 0) ⟨m, none, 0, [], [], fun k h0 hk => by simp at hk, .refl _, by simp, by simp, by simp⟩ F⟩
theorem tlen_ok : Sp Try.prog 14 [ptr p] (TIM p Q t b :: F) fun r M => r = .int .i64 Q.length ∧ M = TIM p Q t b :: F := by
  refine Sp.post (Post := fun v M => v = .int .i64 Q.length ∧ ∃ w : TW Q t b, M = tmw p Q t w F) (tsp fun w => ?_) (by rintro v L ⟨rfl, w, rfl⟩; exact ⟨_, ⟨rfl, rfl⟩, tshut w F⟩)
  have hl := w.ok.len
  refine y_of Try.func14 rfl Try.ntmps14 rfl fun w0 => ?_
  (repeat' (first | (show KQ (WL _ _ _ _ _) _ _ _ _; first | refine yW p_move ?_ | refine yW p_asg ?_ | refine yA ?_ | refine yW p_ld ?_ | refine yW p_lda ?_ | refine yB ?_ | refine yW p_nil ?_ | refine yW p_nilf ?_ | refine yW p_len ?_ | refine yW p_lens ?_ | refine yW p_lenm ?_ | fail) | (show KQ (CD _ _ _ _ _) _ _ _ _; first | refine yT ?_ | refine yF ?_ | fail) | ((first | refine yC ?_ ?_) <;> (intro hc; (try simp only [hcS] at hc); try exact dD)) | refine yE ?_ | fail))
  all_goals (refine y_fin ?_; exact ⟨_, ⟨by rw [hl]; rfl, w, rfl⟩, Ent.auto⟩)
set_option maxHeartbeats 4000000 in
theorem top_spec (hQ : QOk Q t) (hb : b ≤ 5870000000000) (w : TW Q t b) : Sp Try.prog 35 [ptr p] (tmw p Q t w F) fun r M => ∃ w' : TW Q t b, M = tmw p Q t w' F ∧ ((Q = [] ∧ w'.R = [] ∧ r = .tuple #[.agg #[.int .i64 0, .int .i64 0, .int .i64 0], .bool false]) ∨ (0 < Q.length ∧ 0 < w'.R.length ∧ w'.R.getD 0 d0 = Q.getD 0 d0 ∧ r = .tuple #[tmv (Q.getD 0 d0), .bool true])) := by
  refine y_of Try.func35 rfl Try.ntmps35 rfl fun w0 => ?_
  (repeat' (first | (show KQ (WL _ _ _ _ _) _ _ _ _; first | refine yW p_move ?_ | refine yW p_asg ?_ | refine yA ?_ | refine yW p_ld ?_ | refine yW p_lda ?_ | refine yB ?_ | refine yW p_nil ?_ | refine yW p_nilf ?_ | refine yW p_ext ?_ | refine yW p_pt ?_ | refine yW p_pf ?_ | refine yW p_idx ?_ | refine yW p_idxl ?_ | refine yW p_len ?_ | refine yW p_lens ?_ | refine yW p_lenm ?_ | refine yW p_bld ?_ | refine yW p_lookt ?_ | refine yW p_lookf ?_ | refine yW p_look1 ?_ | refine yW p_look0 ?_ | refine yW p_mif ?_ | refine yW p_mifp ?_ | refine yW p_mifs ?_ | (refine yX ?_; first | refine w_st ?_ | refine w_str ?_ | refine w_stra ?_ | (refine w_al ?_; intro q) | fail) | refine yN ?_ | refine yO ?_ | fail) | (show KQ (CD _ _ _ _ _) _ _ _ _; first | refine yT ?_ | refine yF ?_ | fail) | ((first | refine yG ?_ ?_ | refine yC ?_ ?_) <;> (intro hc; (try simp only [hcS] at hc); try exact dD)) | refine yE ?_ | fail))
  refine y_loop (X := TW Q t b) w (fun _ => True) (fun _ => [(0, ptr p), (2, ptr q)]) (fun w => blk q (.cells (celv (Value.agg #[.int .i64 0, .int .i64 0, .int .i64 0])).toArray 72 (0, 0)) :: tmw p Q t w F) (fun w => w.R.length) trivial ⟨rfl, rfl, trivial⟩ Ent.rfl ?_
  clear w
  rintro K' ⟨m, a, c, R, kv, ok⟩ - hnext
  dsimp only [tmw] at hnext ⊢
  by_cases h0 : R.length = 0
  · obtain rfl := List.eq_nil_of_length_eq_zero h0
    have hq : Q = [] := List.eq_nil_iff_forall_not_mem.2 fun z hz => by have := ok.live z hz; simp at this
    clear hnext
    (repeat' (first | (show KQ (WL _ _ _ _ _) _ _ _ _; first | refine yW p_move ?_ | refine yW p_asg ?_ | refine yA ?_ | refine yW p_ld ?_ | refine yW p_lda ?_ | refine yB ?_ | refine yW p_nil ?_ | refine yW p_nilf ?_ | refine yW p_ext ?_ | refine yW p_pt ?_ | refine yW p_pf ?_ | refine yW p_idx ?_ | refine yW p_idxl ?_ | refine yW p_len ?_ | refine yW p_lens ?_ | refine yW p_lenm ?_ | refine yW p_bld ?_ | refine yW p_lookt ?_ | refine yW p_lookf ?_ | refine yW p_look1 ?_ | refine yW p_look0 ?_ | refine yW p_mif ?_ | refine yW p_mifp ?_ | refine yW p_mifs ?_ | (refine yX ?_; first | refine w_st ?_ | refine w_str ?_ | refine w_stra ?_ | (refine w_al ?_; intro q) | fail) | refine yN ?_ | refine yO ?_ | fail) | (show KQ (CD _ _ _ _ _) _ _ _ _; first | refine yT ?_ | refine yF ?_ | fail) | ((first | refine yG ?_ ?_ | refine yC ?_ ?_) <;> (intro hc; (try simp only [hcS] at hc); try exact dD)) | refine yE ?_ | fail))
    all_goals (refine y_fin ?_; exact ⟨_, ⟨⟨m, a, c, [], kv, ok⟩, rfl, .inl ⟨hq, rfl, rfl⟩⟩, Ent.auto⟩)
  · have hbd := ok.bd
    have hql := hQ.ql
    have hpos : 0 < (flat tme R).length := by rw [tme_len]; omega
    have ht := tk_flat (enc := tme) (sz := 3) (l := R) (fun _ => rfl) 0 (by omega)
    rw [← gt (by omega)] at ht
    have hlen := tme_len R
    refine KQ.know (fun w hw => (Reads.row (L := blk q (.cells (celv (Value.agg #[.int .i64 0, .int .i64 0, .int .i64 0])).toArray 72 (0, 0)) :: tms p m a c R kv t F) (.there (.there .here))).spot hpos w hw) fun hsp => ?_
    have hP := fun F => hpop_spec p m a c R kv t F (by omega) (by omega) ok.hp
    generalize hx0 : R.getD 0 d0 = x at ht hP ⊢
    cases hg : kget kv x.item with
    | none =>
      have hd : x ∉ Q := fun hx => by rw [ok.yes hQ hx] at hg; cases hg
      (repeat' (first | (show KQ (WL _ _ _ _ _) _ _ _ _; first | refine yW p_move ?_ | refine yW p_asg ?_ | refine yA ?_ | refine yW p_ld ?_ | refine yW p_lda ?_ | refine yB ?_ | refine yW p_nil ?_ | refine yW p_nilf ?_ | refine yW p_ext ?_ | refine yW p_pt ?_ | refine yW p_pf ?_ | refine yW p_idx ?_ | refine yW p_idxl ?_ | refine yW p_len ?_ | refine yW p_lens ?_ | refine yW p_lenm ?_ | refine yW p_bld ?_ | refine yW p_lookt ?_ | refine yW p_lookf ?_ | refine yW p_look1 ?_ | refine yW p_look0 ?_ | refine yW p_mif ?_ | refine yW p_mifp ?_ | refine yW p_mifs ?_ | (refine yX ?_; first | refine w_st ?_ | refine w_str ?_ | refine w_stra ?_ | (refine w_al ?_; intro q) | fail) | refine yN ?_ | refine yO ?_ | fail) | (show KQ (CD _ _ _ _ _) _ _ _ _; first | refine yT ?_ | refine yF ?_ | fail) | ((first | refine yG ?_ ?_ | refine yC ?_ ?_) <;> (intro hc; (try simp only [hcS] at hc); try exact dD)) | refine yE ?_ | fail))
      all_goals (refine y_cr ?_; refine kq_draw 5 (blk q (.cells (tme x).toArray 72 (0, 0)) :: tms p m a c R kv t F) 13 ?_; (all_goals refine kq_take 0 rfl p_move ?_); (all_goals (first | refine kq_take 1 rfl p_nil ?_ | refine kq_take 1 rfl p_nilf ?_)); (all_goals refine tkf 2 ?_); (all_goals refine tkl 3 ?_); (all_goals refine tkf 4 ?_); (all_goals refine tkl 5 ?_); (all_goals (first | refine kq_take 6 rfl p_lookt ?_ | refine kq_take 6 rfl p_lookf ?_ | refine kq_take 6 rfl p_look1 ?_ | refine kq_take 6 rfl p_look0 ?_)); (all_goals refine kq_take 7 rfl p_move ?_); (all_goals refine kq_take 8 rfl p_ext ?_); (all_goals refine kq_take 9 rfl p_ext ?_); (all_goals (refine kq_each [10] ⟨?_, trivial⟩; (refine kq_op ?_; first | (refine w_al ?_; intro q)))); (all_goals (refine kq_each [11] ⟨?_, trivial⟩; (refine kq_op ?_; first | refine w_st ?_ | refine w_str ?_ | refine w_stra ?_))); (all_goals refine kq_take 12 rfl p_asg ?_); (all_goals refine kq_done ?_))
      all_goals (repeat' (first | (show KQ (WL _ _ _ _ _) _ _ _ _; first | refine yW p_move ?_ | refine yW p_asg ?_ | refine yA ?_ | refine yW p_ld ?_ | refine yW p_lda ?_ | refine yB ?_ | refine yW p_nil ?_ | refine yW p_nilf ?_ | refine yW p_ext ?_ | refine yW p_pt ?_ | refine yW p_pf ?_ | refine yW p_idx ?_ | refine yW p_idxl ?_ | refine yW p_len ?_ | refine yW p_lens ?_ | refine yW p_lenm ?_ | refine yW p_bld ?_ | refine yW p_lookt ?_ | refine yW p_lookf ?_ | refine yW p_look1 ?_ | refine yW p_look0 ?_ | refine yW p_mif ?_ | refine yW p_mifp ?_ | refine yW p_mifs ?_ | (refine yX ?_; first | refine w_st ?_ | refine w_str ?_ | refine w_stra ?_ | (refine w_al ?_; intro q) | (refine w_call (hP _) ?_; rintro r L ⟨u, R2, rfl, hu, rfl, h3, h4⟩) | fail) | refine yN ?_ | refine yO ?_ | fail) | (show KQ (CD _ _ _ _ _) _ _ _ _; first | refine yT ?_ | refine yF ?_ | fail) | ((first | refine yG ?_ ?_ | refine yC ?_ ?_) <;> (intro hc; (try simp only [hcS] at hc); try exact dD)) | refine yE ?_ | fail))
      all_goals exact hnext ⟨m, a, c, R2, kv, ok.dead (by rw [hx0]; exact hd) (by rw [hx0]; exact h3) h4⟩ _ _ trivial (by have := h3.length_eq; simp at this; dsimp only; omega) ⟨rfl, rfl, trivial⟩ (by ((repeat (first | with_reducible exact Ent.rfl | with_reducible exact Ent.nil | ((with_reducible apply Ent.cons); focus ((repeat (first | exact Sel.here | apply Sel.there)); done)) | with_reducible refine Ent.drop ?_)); done))
    | some v =>
      by_cases hv : v = x
      · subst hv
        have hi := (ok.got hg).1
        have hf := ok.first hQ (by rw [hx0]; exact hi)
        rw [hx0] at hf
        have hq0 : 0 < Q.length := List.length_pos_of_mem hi
        (repeat' (first | (show KQ (WL _ _ _ _ _) _ _ _ _; first | refine yW p_move ?_ | refine yW p_asg ?_ | refine yA ?_ | refine yW p_ld ?_ | refine yW p_lda ?_ | refine yB ?_ | refine yW p_nil ?_ | refine yW p_nilf ?_ | refine yW p_ext ?_ | refine yW p_pt ?_ | refine yW p_pf ?_ | refine yW p_idx ?_ | refine yW p_idxl ?_ | refine yW p_len ?_ | refine yW p_lens ?_ | refine yW p_lenm ?_ | refine yW p_bld ?_ | refine yW p_lookt ?_ | refine yW p_lookf ?_ | refine yW p_look1 ?_ | refine yW p_look0 ?_ | refine yW p_mif ?_ | refine yW p_mifp ?_ | refine yW p_mifs ?_ | (refine yX ?_; first | refine w_st ?_ | refine w_str ?_ | refine w_stra ?_ | (refine w_al ?_; intro q) | fail) | refine yN ?_ | refine yO ?_ | fail) | (show KQ (CD _ _ _ _ _) _ _ _ _; first | refine yT ?_ | refine yF ?_ | fail) | ((first | refine yG ?_ ?_ | refine yC ?_ ?_) <;> (intro hc; (try simp only [hcS] at hc); try exact dD)) | refine yE ?_ | fail))
        all_goals (refine y_cr ?_; refine kq_draw 5 (blk q (.cells (tme v).toArray 72 (0, 0)) :: tms p m a c R kv t F) 13 ?_; (all_goals refine kq_take 0 rfl p_move ?_); (all_goals (first | refine kq_take 1 rfl p_nil ?_ | refine kq_take 1 rfl p_nilf ?_)); (all_goals refine tkf 2 ?_); (all_goals refine tkl 3 ?_); (all_goals refine tkf 4 ?_); (all_goals refine tkl 5 ?_); (all_goals (first | refine kq_take 6 rfl p_lookt ?_ | refine kq_take 6 rfl p_lookf ?_ | refine kq_take 6 rfl p_look1 ?_ | refine kq_take 6 rfl p_look0 ?_)); (all_goals refine kq_take 7 rfl p_move ?_); (all_goals refine kq_take 8 rfl p_ext ?_); (all_goals refine kq_take 9 rfl p_ext ?_); (all_goals (refine kq_each [10] ⟨?_, trivial⟩; (refine kq_op ?_; first | (refine w_al ?_; intro q)))); (all_goals (refine kq_each [11] ⟨?_, trivial⟩; (refine kq_op ?_; first | refine w_st ?_ | refine w_str ?_ | refine w_stra ?_))); (all_goals refine kq_take 12 rfl p_asg ?_); (all_goals refine kq_done ?_))
        all_goals (repeat' (first | (show KQ (WL _ _ _ _ _) _ _ _ _; first | refine yW p_move ?_ | refine yW p_asg ?_ | refine yA ?_ | refine yW p_ld ?_ | refine yW p_lda ?_ | refine yB ?_ | refine yW p_nil ?_ | refine yW p_nilf ?_ | refine yW p_ext ?_ | refine yW p_pt ?_ | refine yW p_pf ?_ | refine yW p_idx ?_ | refine yW p_idxl ?_ | refine yW p_len ?_ | refine yW p_lens ?_ | refine yW p_lenm ?_ | refine yW p_bld ?_ | refine yW p_lookt ?_ | refine yW p_lookf ?_ | refine yW p_look1 ?_ | refine yW p_look0 ?_ | refine yW p_mif ?_ | refine yW p_mifp ?_ | refine yW p_mifs ?_ | (refine yX ?_; first | refine w_st ?_ | refine w_str ?_ | refine w_stra ?_ | (refine w_al ?_; intro q) | fail) | refine yN ?_ | refine yO ?_ | fail) | (show KQ (CD _ _ _ _ _) _ _ _ _; first | refine yT ?_ | refine yF ?_ | fail) | ((first | refine yG ?_ ?_ | refine yC ?_ ?_) <;> (intro hc; (try simp only [hcS] at hc); try exact dD)) | refine yE ?_ | fail))
        all_goals (refine y_fin ?_; exact ⟨_, ⟨⟨m, a, c, R, kv, ok⟩, rfl, .inr ⟨hq0, by show 0 < R.length; omega, by rw [hf]; exact hx0, by rw [hf]; rfl⟩⟩, Ent.auto⟩)
      · have hd : x ∉ Q := fun hx => by rw [ok.yes hQ hx] at hg; injection hg with e; exact hv e.symm
        have hne : (decide (v.at_ = x.at_) && (decide (v.turn = x.turn) && (decide (v.item = x.item) && true))) = false := by
          rw [Bool.eq_false_iff]
          intro e
          simp only [Bool.and_eq_true, decide_eq_true_eq, and_true] at e
          exact hv (by cases v; cases x; simp only at e; obtain ⟨rfl, rfl, rfl⟩ := e; rfl)
        (repeat' (first | (show KQ (WL _ _ _ _ _) _ _ _ _; first | refine yW p_move ?_ | refine yW p_asg ?_ | refine yA ?_ | refine yW p_ld ?_ | refine yW p_lda ?_ | refine yB ?_ | refine yW p_nil ?_ | refine yW p_nilf ?_ | refine yW p_ext ?_ | refine yW p_pt ?_ | refine yW p_pf ?_ | refine yW p_idx ?_ | refine yW p_idxl ?_ | refine yW p_len ?_ | refine yW p_lens ?_ | refine yW p_lenm ?_ | refine yW p_bld ?_ | refine yW p_lookt ?_ | refine yW p_lookf ?_ | refine yW p_look1 ?_ | refine yW p_look0 ?_ | refine yW p_mif ?_ | refine yW p_mifp ?_ | refine yW p_mifs ?_ | (refine yX ?_; first | refine w_st ?_ | refine w_str ?_ | refine w_stra ?_ | (refine w_al ?_; intro q) | fail) | refine yN ?_ | refine yO ?_ | fail) | (show KQ (CD _ _ _ _ _) _ _ _ _; first | refine yT ?_ | refine yF ?_ | fail) | ((first | refine yG ?_ ?_ | refine yC ?_ ?_) <;> (intro hc; (try simp only [hcS] at hc); try exact dD)) | refine yE ?_ | fail))
        all_goals (refine y_cr ?_; refine kq_draw 5 (blk q (.cells (tme x).toArray 72 (0, 0)) :: tms p m a c R kv t F) 13 ?_; (all_goals refine kq_take 0 rfl p_move ?_); (all_goals (first | refine kq_take 1 rfl p_nil ?_ | refine kq_take 1 rfl p_nilf ?_)); (all_goals refine tkf 2 ?_); (all_goals refine tkl 3 ?_); (all_goals refine tkf 4 ?_); (all_goals refine tkl 5 ?_); (all_goals (first | refine kq_take 6 rfl p_lookt ?_ | refine kq_take 6 rfl p_lookf ?_ | refine kq_take 6 rfl p_look1 ?_ | refine kq_take 6 rfl p_look0 ?_)); (all_goals refine kq_take 7 rfl p_move ?_); (all_goals refine kq_take 8 rfl p_ext ?_); (all_goals refine kq_take 9 rfl p_ext ?_); (all_goals (refine kq_each [10] ⟨?_, trivial⟩; (refine kq_op ?_; first | (refine w_al ?_; intro q)))); (all_goals (refine kq_each [11] ⟨?_, trivial⟩; (refine kq_op ?_; first | refine w_st ?_ | refine w_str ?_ | refine w_stra ?_))); (all_goals refine kq_take 12 rfl p_asg ?_); (all_goals refine kq_done ?_))
        all_goals (repeat' (first | (show KQ (WL _ _ _ _ _) _ _ _ _; first | refine yW p_move ?_ | refine yW p_asg ?_ | refine yA ?_ | refine yW p_ld ?_ | refine yW p_lda ?_ | refine yB ?_ | refine yW p_nil ?_ | refine yW p_nilf ?_ | refine yW p_ext ?_ | refine yW p_pt ?_ | refine yW p_pf ?_ | refine yW p_idx ?_ | refine yW p_idxl ?_ | refine yW p_len ?_ | refine yW p_lens ?_ | refine yW p_lenm ?_ | refine yW p_bld ?_ | refine yW p_lookt ?_ | refine yW p_lookf ?_ | refine yW p_look1 ?_ | refine yW p_look0 ?_ | refine yW p_mif ?_ | refine yW p_mifp ?_ | refine yW p_mifs ?_ | (refine yX ?_; first | refine w_st ?_ | refine w_str ?_ | refine w_stra ?_ | (refine w_al ?_; intro q) | (refine w_call (hP _) ?_; rintro r L ⟨u, R2, rfl, hu, rfl, h3, h4⟩) | fail) | refine yN ?_ | refine yO ?_ | fail) | (show KQ (CD _ _ _ _ _) _ _ _ _; first | refine yT ?_ | refine yF ?_ | fail) | ((first | refine yG ?_ ?_ | refine yC ?_ ?_) <;> (intro hc; (try simp only [hcS] at hc); try exact dD)) | refine yE ?_ | fail))
        all_goals first | (rw [hne] at hc; exact absurd hc Bool.false_ne_true) | exact hnext ⟨m, a, c, R2, kv, ok.dead (by rw [hx0]; exact hd) (by rw [hx0]; exact h3) h4⟩ _ _ trivial (by have := h3.length_eq; simp at this; dsimp only; omega) ⟨rfl, rfl, trivial⟩ (by ((repeat (first | with_reducible exact Ent.rfl | with_reducible exact Ent.nil | ((with_reducible apply Ent.cons); focus ((repeat (first | exact Sel.here | apply Sel.there)); done)) | with_reducible refine Ent.drop ?_)); done))
set_option maxHeartbeats 4000000 in
theorem tnext_ok (hQ : QOk Q t) (hb : b ≤ 5870000000000) : Sp Try.prog 15 [ptr p] (TIM p Q t b :: F) fun r M => r = .tuple #[.int .i64 (Q.getD 0 d0).at_, .int .i64 (Q.getD 0 d0).item, .bool (decide (0 < Q.length))] ∧ M = TIM p Q t b :: F := by
  refine Sp.post (Post := fun v M => v = .tuple #[.int .i64 (Q.getD 0 d0).at_, .int .i64 (Q.getD 0 d0).item, .bool (decide (0 < Q.length))] ∧ ∃ w : TW Q t b, M = tmw p Q t w F) (tsp fun w => ?_) (by rintro v L ⟨rfl, w, rfl⟩; exact ⟨_, ⟨rfl, rfl⟩, tshut w F⟩)
  have hT := fun F => top_spec p Q t b F hQ hb w
  refine y_of Try.func15 rfl Try.ntmps15 rfl fun w0 => ?_
  (repeat' (first | (show KQ (WL _ _ _ _ _) _ _ _ _; first | refine yW p_move ?_ | refine yW p_asg ?_ | refine yA ?_ | refine yW p_ld ?_ | refine yW p_lda ?_ | refine yW p_ext ?_ | (refine yX ?_; first | refine w_st ?_ | refine w_str ?_ | refine w_stra ?_ | (refine w_al ?_; intro q) | (refine w_call (hT _) ?_; rintro r L ⟨w', rfl, hw⟩) | fail) | fail) | refine yE ?_ | fail))
  rcases hw with ⟨hq, hr, rfl⟩ | ⟨hq, hr, hg, rfl⟩
  · subst hq
    (repeat' (first | (show KQ (WL _ _ _ _ _) _ _ _ _; first | refine yW p_move ?_ | refine yW p_asg ?_ | refine yA ?_ | refine yW p_ld ?_ | refine yW p_lda ?_ | refine yW p_ext ?_ | (refine yX ?_; first | refine w_st ?_ | refine w_str ?_ | refine w_stra ?_ | (refine w_al ?_; intro q) | fail) | fail) | refine yE ?_ | fail))
    all_goals (refine y_cr ?_; refine kq_draw 2 (blk q (.cells (tme d0).toArray 72 (0, 0)) :: tmw p [] t w' F) 8 ?_; (all_goals refine tkf 0 ?_); (all_goals refine tkl 1 ?_); (all_goals refine tkf 2 ?_); (all_goals refine tkl 3 ?_); (all_goals refine kq_take 4 rfl p_move ?_); (all_goals refine kq_take 5 rfl p_asg ?_); (all_goals refine kq_take 6 rfl p_asg ?_); (all_goals refine kq_take 7 rfl p_asg ?_); (all_goals refine kq_done ?_))
    all_goals (repeat' (first | (show KQ (WL _ _ _ _ _) _ _ _ _; first | refine yW p_move ?_ | refine yW p_asg ?_ | refine yA ?_ | refine yW p_ld ?_ | refine yW p_lda ?_ | refine yW p_ext ?_ | (refine yX ?_; first | refine w_st ?_ | refine w_str ?_ | refine w_stra ?_ | (refine w_al ?_; intro q) | fail) | fail) | refine yE ?_ | fail))
    all_goals (refine y_fin ?_; exact ⟨_, ⟨rfl, w', rfl⟩, Ent.auto⟩)
  · have hq2 : decide (0 < Q.length) = true := by simpa using hq
    rw [hq2]
    generalize Q.getD 0 d0 = x
    (repeat' (first | (show KQ (WL _ _ _ _ _) _ _ _ _; first | refine yW p_move ?_ | refine yW p_asg ?_ | refine yA ?_ | refine yW p_ld ?_ | refine yW p_lda ?_ | refine yW p_ext ?_ | (refine yX ?_; first | refine w_st ?_ | refine w_str ?_ | refine w_stra ?_ | (refine w_al ?_; intro q) | fail) | fail) | refine yE ?_ | fail))
    all_goals (refine y_cr ?_; refine kq_draw 2 (blk q (.cells (tme x).toArray 72 (0, 0)) :: tmw p Q t w' F) 8 ?_; (all_goals refine tkf 0 ?_); (all_goals refine tkl 1 ?_); (all_goals refine tkf 2 ?_); (all_goals refine tkl 3 ?_); (all_goals refine kq_take 4 rfl p_move ?_); (all_goals refine kq_take 5 rfl p_asg ?_); (all_goals refine kq_take 6 rfl p_asg ?_); (all_goals refine kq_take 7 rfl p_asg ?_); (all_goals refine kq_done ?_))
    all_goals (repeat' (first | (show KQ (WL _ _ _ _ _) _ _ _ _; first | refine yW p_move ?_ | refine yW p_asg ?_ | refine yA ?_ | refine yW p_ld ?_ | refine yW p_lda ?_ | refine yW p_ext ?_ | (refine yX ?_; first | refine w_st ?_ | refine w_str ?_ | refine w_stra ?_ | (refine w_al ?_; intro q) | fail) | fail) | refine yE ?_ | fail))
    all_goals (refine y_fin ?_; exact ⟨_, ⟨rfl, w', rfl⟩, Ent.auto⟩)
set_option maxHeartbeats 4000000 in
theorem tdrop_ok (hQ : QOk Q t) (y : Int) : Sp Try.prog 25 [ptr p, .int .i64 y] (TIM p Q t b :: F) fun r M => r = .bool (decide (y ∈ Q.map TM.item)) ∧ M = TIM p (drq Q y) t (b + 1) :: F := by
  refine Sp.post (Post := fun v M => v = .bool (decide (y ∈ Q.map TM.item)) ∧ ∃ w : TW (drq Q y) t (b + 1), M = tmw p (drq Q y) t w F) (tsp fun w => ?_) (by rintro v L ⟨rfl, w, rfl⟩; exact ⟨_, ⟨rfl, rfl⟩, tshut w F⟩)
  obtain ⟨m, a, c, R, kv, ok⟩ := w
  dsimp only [tmw]
  have hw : TW (drq Q y) t (b + 1) := ⟨m, a, c, R, kdel kv y, ok.drop hQ y⟩
  cases hg : kget kv y with
  | none =>
    have hm : decide (y ∈ Q.map TM.item) = false := by
      rw [decide_eq_false_iff_not]
      intro h
      obtain ⟨x, hx, rfl⟩ := List.mem_map.1 h
      rw [ok.yes hQ hx] at hg; cases hg
    rw [hm]
    refine y_of Try.func25 rfl Try.ntmps25 rfl fun w0 => ?_
    (repeat' (first | (show KQ (WL _ _ _ _ _) _ _ _ _; first | refine yW p_move ?_ | refine yW p_asg ?_ | refine yA ?_ | refine yW p_ld ?_ | refine yW p_lda ?_ | refine yB ?_ | refine yW p_nil ?_ | refine yW p_nilf ?_ | refine yW p_ext ?_ | refine yW p_lookt ?_ | refine yW p_lookf ?_ | refine yW p_look1 ?_ | refine yW p_look0 ?_ | (refine yX ?_; first | refine w_st ?_ | refine w_str ?_ | refine w_stra ?_ | (refine w_al ?_; intro q) | refine w_md ?_ | fail) | fail) | (show KQ (CD _ _ _ _ _) _ _ _ _; first | refine yT ?_ | refine yF ?_ | fail) | ((first | refine yC ?_ ?_) <;> (intro hc; (try simp only [hcS] at hc); try exact dD)) | refine yE ?_ | fail))
    all_goals (refine y_fin ?_; exact ⟨_, ⟨rfl, ⟨m, a, c, R, kdel kv y, ok.drop hQ y⟩, rfl⟩, Ent.auto⟩)
  | some v =>
    have hm : decide (y ∈ Q.map TM.item) = true := decide_eq_true (List.mem_map.2 ⟨v, (ok.got hg).1, (ok.got hg).2⟩)
    rw [hm]
    refine y_of Try.func25 rfl Try.ntmps25 rfl fun w0 => ?_
    (repeat' (first | (show KQ (WL _ _ _ _ _) _ _ _ _; first | refine yW p_move ?_ | refine yW p_asg ?_ | refine yA ?_ | refine yW p_ld ?_ | refine yW p_lda ?_ | refine yB ?_ | refine yW p_nil ?_ | refine yW p_nilf ?_ | refine yW p_ext ?_ | refine yW p_lookt ?_ | refine yW p_lookf ?_ | refine yW p_look1 ?_ | refine yW p_look0 ?_ | (refine yX ?_; first | refine w_st ?_ | refine w_str ?_ | refine w_stra ?_ | (refine w_al ?_; intro q) | refine w_md ?_ | fail) | fail) | (show KQ (CD _ _ _ _ _) _ _ _ _; first | refine yT ?_ | refine yF ?_ | fail) | ((first | refine yC ?_ ?_) <;> (intro hc; (try simp only [hcS] at hc); try exact dD)) | refine yE ?_ | fail))
    all_goals (refine y_fin ?_; exact ⟨_, ⟨rfl, ⟨m, a, c, R, kdel kv y, ok.drop hQ y⟩, rfl⟩, Ent.auto⟩)
theorem tat_no (hy : y ∉ Q.map TM.item) : Sp Try.prog 28 [ptr p, .int .i64 y] (TIM p Q t b :: F) fun r M => r = .tuple #[.int .i64 0, .bool false] ∧ M = TIM p Q t b :: F := by
  refine Sp.post (Post := fun v M => v = .tuple #[.int .i64 0, .bool false] ∧ ∃ w : TW Q t b, M = tmw p Q t w F) (tsp fun w => ?_) (by rintro v L ⟨rfl, w, rfl⟩; exact ⟨_, ⟨rfl, rfl⟩, tshut w F⟩)
  obtain ⟨m, a, c, R, kv, ok⟩ := w
  dsimp only [tmw]
  have hg := ok.no hy
  refine y_of Try.func28 rfl Try.ntmps28 rfl fun w0 => ?_
  (repeat' (first | (show KQ (WL _ _ _ _ _) _ _ _ _; first | refine yW p_move ?_ | refine yW p_asg ?_ | refine yA ?_ | refine yW p_ld ?_ | refine yW p_lda ?_ | refine yB ?_ | refine yW p_nil ?_ | refine yW p_nilf ?_ | refine yW p_ext ?_ | refine yW p_lookt ?_ | refine yW p_lookf ?_ | refine yW p_look1 ?_ | refine yW p_look0 ?_ | (refine yX ?_; first | refine w_st ?_ | refine w_str ?_ | refine w_stra ?_ | (refine w_al ?_; intro q) | fail) | fail) | (show KQ (CD _ _ _ _ _) _ _ _ _; first | refine yT ?_ | refine yF ?_ | fail) | ((first | refine yC ?_ ?_) <;> (intro hc; (try simp only [hcS] at hc); try exact dD)) | refine yE ?_ | fail))
  all_goals (refine y_fin ?_; exact ⟨_, ⟨rfl, ⟨m, a, c, R, kv, ok⟩, rfl⟩, Ent.auto⟩)
theorem tat_yes (hQ : QOk Q t) (hx : x ∈ Q) : Sp Try.prog 28 [ptr p, .int .i64 x.item] (TIM p Q t b :: F) fun r M => r = .tuple #[.int .i64 x.at_, .bool true] ∧ M = TIM p Q t b :: F := by
  refine Sp.post (Post := fun v M => v = .tuple #[.int .i64 x.at_, .bool true] ∧ ∃ w : TW Q t b, M = tmw p Q t w F) (tsp fun w => ?_) (by rintro v L ⟨rfl, w, rfl⟩; exact ⟨_, ⟨rfl, rfl⟩, tshut w F⟩)
  obtain ⟨m, a, c, R, kv, ok⟩ := w
  dsimp only [tmw]
  have hg := ok.yes hQ hx
  refine y_of Try.func28 rfl Try.ntmps28 rfl fun w0 => ?_
  (repeat' (first | (show KQ (WL _ _ _ _ _) _ _ _ _; first | refine yW p_move ?_ | refine yW p_asg ?_ | refine yA ?_ | refine yW p_ld ?_ | refine yW p_lda ?_ | refine yB ?_ | refine yW p_nil ?_ | refine yW p_nilf ?_ | refine yW p_ext ?_ | refine yW p_lookt ?_ | refine yW p_lookf ?_ | refine yW p_look1 ?_ | refine yW p_look0 ?_ | (refine yX ?_; first | refine w_st ?_ | refine w_str ?_ | refine w_stra ?_ | (refine w_al ?_; intro q) | fail) | fail) | (show KQ (CD _ _ _ _ _) _ _ _ _; first | refine yT ?_ | refine yF ?_ | fail) | ((first | refine yC ?_ ?_) <;> (intro hc; (try simp only [hcS] at hc); try exact dD)) | refine yE ?_ | fail))
  all_goals (refine y_fin ?_; exact ⟨_, ⟨rfl, ⟨m, a, c, R, kv, ok⟩, rfl⟩, Ent.auto⟩)
end
end Go.Proofs.Yteafcajlfagbkaa
