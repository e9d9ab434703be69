/- DERIVED. Queues by time: taken, put. -/
import Derived.Test.YteafcajlfagbkaaZf
import Derived.Test.YteafcajlfagbkaaVcc
namespace Go.Proofs.Yteafcajlfagbkaa
set_option linter.unusedSimpArgs false
set_option linter.unusedVariables false
open Go Sl Cv Go.RowKit
section
variable (p : Nat) (Q : List TM) (t : Int) (b : Nat) (F : List HP) (x : TM) (y : Int)
set_option maxHeartbeats 4000000 in
theorem ttake_no (hQ : QOk Q t) (hb : b ≤ 5870000000000) (now : Int) (h : 0 < Q.length → now < (Q.getD 0 d0).at_) : Sp Try.prog 16 [ptr p, .int .i64 now] (TIM p Q t b :: F) fun r M => r = .tuple #[.int .i64 0, .bool false] ∧ M = TIM p Q t b :: F := by
  refine Sp.post (Post := fun v M => v = .tuple #[.int .i64 0, .bool false] ∧ ∃ w : TW Q t b, M = tmw p Q t w F) (tsp fun w => ?_) (by rintro v L ⟨rfl, w, rfl⟩; exact ⟨_, ⟨rfl, rfl⟩, tshut w F⟩)
  have hT := fun F => top_spec p Q t b F hQ hb w
  refine y_of Try.func16 rfl Try.ntmps16 rfl fun w0 => ?_
  (repeat' (first | (show KQ (WL _ _ _ _ _) _ _ _ _; first | refine yW p_move ?_ | refine yW p_asg ?_ | refine yA ?_ | refine yW p_ld ?_ | refine yW p_lda ?_ | refine yW p_gtr ?_ | refine yW p_nil ?_ | refine yW p_nilf ?_ | refine yW p_ext ?_ | refine yW p_pt ?_ | refine yW p_pf ?_ | refine yW p_nott ?_ | refine yW p_notf ?_ | refine yW p_not ?_ | refine yW p_neg ?_ | refine yW p_mif ?_ | refine yW p_mifp ?_ | refine yW p_mifs ?_ | (refine yX ?_; first | refine w_st ?_ | refine w_str ?_ | refine w_stra ?_ | (refine w_al ?_; intro q) | refine w_md ?_ | (refine w_call (hT _) ?_; rintro r L ⟨w', rfl, hw⟩) | fail) | refine yN ?_ | refine yO ?_ | fail) | (show KQ (CD _ _ _ _ _) _ _ _ _; first | refine yT ?_ | refine yF ?_ | fail) | ((first | refine yG ?_ ?_ | refine yC ?_ ?_) <;> (intro hc; (try simp only [hcS] at hc); try exact dD)) | refine yE ?_ | fail))
  rcases hw with ⟨hq, hr, rfl⟩ | ⟨hq, hr, hg, rfl⟩
  · clear h
    (repeat' (first | (show KQ (WL _ _ _ _ _) _ _ _ _; first | refine yW p_move ?_ | refine yW p_asg ?_ | refine yA ?_ | refine yW p_ld ?_ | refine yW p_lda ?_ | refine yW p_gtr ?_ | refine yW p_nil ?_ | refine yW p_nilf ?_ | refine yW p_ext ?_ | refine yW p_pt ?_ | refine yW p_pf ?_ | refine yW p_nott ?_ | refine yW p_notf ?_ | refine yW p_not ?_ | refine yW p_neg ?_ | refine yW p_mif ?_ | refine yW p_mifp ?_ | refine yW p_mifs ?_ | (refine yX ?_; first | refine w_st ?_ | refine w_str ?_ | refine w_stra ?_ | (refine w_al ?_; intro q) | refine w_md ?_ | fail) | refine yN ?_ | refine yO ?_ | fail) | (show KQ (CD _ _ _ _ _) _ _ _ _; first | refine yT ?_ | refine yF ?_ | fail) | ((first | refine yG ?_ ?_ | refine yC ?_ ?_) <;> (intro hc; (try simp only [hcS] at hc); try exact dD)) | refine yE ?_ | fail))
    all_goals (refine y_fin ?_; exact ⟨_, ⟨rfl, w', rfl⟩, Ent.auto⟩)
  · have h := h hq
    generalize Q.getD 0 d0 = x at h ⊢
    (repeat' (first | (show KQ (WL _ _ _ _ _) _ _ _ _; first | refine yW p_move ?_ | refine yW p_asg ?_ | refine yA ?_ | refine yW p_ld ?_ | refine yW p_lda ?_ | refine yW p_gtr ?_ | refine yW p_nil ?_ | refine yW p_nilf ?_ | refine yW p_ext ?_ | refine yW p_pt ?_ | refine yW p_pf ?_ | refine yW p_nott ?_ | refine yW p_notf ?_ | refine yW p_not ?_ | refine yW p_neg ?_ | refine yW p_mif ?_ | refine yW p_mifp ?_ | refine yW p_mifs ?_ | (refine yX ?_; first | refine w_st ?_ | refine w_str ?_ | refine w_stra ?_ | (refine w_al ?_; intro q) | refine w_md ?_ | fail) | refine yN ?_ | refine yO ?_ | fail) | (show KQ (CD _ _ _ _ _) _ _ _ _; first | refine yT ?_ | refine yF ?_ | fail) | ((first | refine yG ?_ ?_ | refine yC ?_ ?_) <;> (intro hc; (try simp only [hcS] at hc); try exact dD)) | refine yE ?_ | fail))
    all_goals (refine y_fin ?_; exact ⟨_, ⟨rfl, w', rfl⟩, Ent.auto⟩)
set_option maxHeartbeats 4000000 in
theorem ttake_yes (hQ : QOk (x :: Q) t) (hb : b ≤ 5870000000000) (now : Int) (h : x.at_ ≤ now) : Sp Try.prog 16 [ptr p, .int .i64 now] (TIM p (x :: Q) t b :: F) fun r M => r = .tuple #[.int .i64 x.item, .bool true] ∧ M = TIM p Q t b :: F := by
  refine Sp.post (Post := fun v M => v = .tuple #[.int .i64 x.item, .bool true] ∧ ∃ w : TW Q t b, M = tmw p Q t w F) (tsp fun w => ?_) (by rintro v L ⟨rfl, w, rfl⟩; exact ⟨_, ⟨rfl, rfl⟩, tshut w F⟩)
  have hT := fun F => top_spec p (x :: Q) t b F hQ hb w
  refine y_of Try.func16 rfl Try.ntmps16 rfl fun w0 => ?_
  (repeat' (first | (show KQ (WL _ _ _ _ _) _ _ _ _; first | refine yW p_move ?_ | refine yW p_asg ?_ | refine yA ?_ | refine yW p_ld ?_ | refine yW p_lda ?_ | refine yW p_gtr ?_ | refine yW p_nil ?_ | refine yW p_nilf ?_ | refine yW p_ext ?_ | refine yW p_pt ?_ | refine yW p_pf ?_ | refine yW p_nott ?_ | refine yW p_notf ?_ | refine yW p_not ?_ | refine yW p_neg ?_ | refine yW p_mif ?_ | refine yW p_mifp ?_ | refine yW p_mifs ?_ | (refine yX ?_; first | refine w_st ?_ | refine w_str ?_ | refine w_stra ?_ | (refine w_al ?_; intro q) | refine w_md ?_ | (refine w_call (hT _) ?_; rintro r L ⟨w', rfl, hw⟩) | fail) | refine yN ?_ | refine yO ?_ | fail) | (show KQ (CD _ _ _ _ _) _ _ _ _; first | refine yT ?_ | refine yF ?_ | fail) | ((first | refine yG ?_ ?_ | refine yC ?_ ?_) <;> (intro hc; (try simp only [hcS] at hc); try exact dD)) | refine yE ?_ | fail))
  rcases hw with ⟨hq, hr, rfl⟩ | ⟨hq, hr, hg, rfl⟩
  · cases hq
  · have e : (x :: Q).getD 0 d0 = x := rfl
    rw [e] at hg ⊢
    obtain ⟨m, a, c, R, kv, ok⟩ := w'
    dsimp only [tmw] at hr hg ⊢
    have hbd := ok.bd
    have hql := hQ.ql
    have hP := fun F => hpop_spec p m a c R kv t F hr (by simp only [List.length_cons] at hbd hql; omega) ok.hp
    rw [hg] at hP
    (repeat' (first | (show KQ (WL _ _ _ _ _) _ _ _ _; first | refine yW p_move ?_ | refine yW p_asg ?_ | refine yA ?_ | refine yW p_ld ?_ | refine yW p_lda ?_ | refine yW p_gtr ?_ | refine yW p_nil ?_ | refine yW p_nilf ?_ | refine yW p_ext ?_ | refine yW p_pt ?_ | refine yW p_pf ?_ | refine yW p_nott ?_ | refine yW p_notf ?_ | refine yW p_not ?_ | refine yW p_neg ?_ | refine yW p_mif ?_ | refine yW p_mifp ?_ | refine yW p_mifs ?_ | (refine yX ?_; first | refine w_st ?_ | refine w_str ?_ | refine w_stra ?_ | (refine w_al ?_; intro q) | refine w_md ?_ | (refine w_call (hP _) ?_; rintro r L ⟨u, R2, rfl, hu, rfl, h3, h4⟩) | fail) | refine yN ?_ | refine yO ?_ | fail) | (show KQ (CD _ _ _ _ _) _ _ _ _; first | refine yT ?_ | refine yF ?_ | fail) | ((first | refine yG ?_ ?_ | refine yC ?_ ?_) <;> (intro hc; (try simp only [hcS] at hc); try exact dD)) | refine yE ?_ | fail))
    all_goals (refine y_cr ?_; refine kq_draw 5 (blk p (.cells (tcs a R2.length c m t).toArray 70 (0, 0)) :: blk q (.cells (tme x).toArray 72 (0, 0)) :: trow a c R2 :: F) 7 ?_; (all_goals refine kq_take 0 rfl p_move ?_); (all_goals (first | refine kq_take 1 rfl p_nil ?_ | refine kq_take 1 rfl p_nilf ?_)); (all_goals refine tkf 2 ?_); (all_goals refine tkl 3 ?_); (all_goals refine tkf 4 ?_); (all_goals refine tkl 5 ?_); (all_goals (refine kq_each [6] ⟨?_, trivial⟩; (refine kq_op ?_; first | refine w_md ?_))); (all_goals refine kq_done ?_))
    all_goals (repeat' (first | (show KQ (WL _ _ _ _ _) _ _ _ _; first | refine yW p_move ?_ | refine yW p_asg ?_ | refine yA ?_ | refine yW p_ld ?_ | refine yW p_lda ?_ | refine yW p_gtr ?_ | refine yW p_nil ?_ | refine yW p_nilf ?_ | refine yW p_ext ?_ | refine yW p_pt ?_ | refine yW p_pf ?_ | refine yW p_nott ?_ | refine yW p_notf ?_ | refine yW p_not ?_ | refine yW p_neg ?_ | refine yW p_mif ?_ | refine yW p_mifp ?_ | refine yW p_mifs ?_ | (refine yX ?_; first | refine w_st ?_ | refine w_str ?_ | refine w_stra ?_ | (refine w_al ?_; intro q) | refine w_md ?_ | fail) | refine yN ?_ | refine yO ?_ | fail) | (show KQ (CD _ _ _ _ _) _ _ _ _; first | refine yT ?_ | refine yF ?_ | fail) | ((first | refine yG ?_ ?_ | refine yC ?_ ?_) <;> (intro hc; (try simp only [hcS] at hc); try exact dD)) | refine yE ?_ | fail))
    all_goals (refine y_fin ?_; exact ⟨_, ⟨rfl, ⟨m, a, c, R2, kdel kv x.item, ok.take hQ h3 h4⟩, rfl⟩, Ent.auto⟩)
theorem zput_arg (at_ : Int) (h : at_ < 0 ∨ 4611686018427387904 < at_) : Sp Try.prog 12 [ptr p, .int .i64 at_, .int .i64 y] F fun r M => r = .int .i64 1 ∧ M = F := by
  rcases h with h | h
  · refine y_of Try.func12 rfl Try.ntmps12 rfl fun w0 => ?_
    (repeat' (first | (show KQ (WL _ _ _ _ _) _ _ _ _; first | refine yW p_move ?_ | refine yW p_asg ?_ | refine yA ?_ | refine yW p_ld ?_ | refine yW p_lda ?_ | refine yB ?_ | refine yW p_nil ?_ | refine yW p_nilf ?_ | refine yW p_ext ?_ | refine yW p_pt ?_ | refine yW p_pf ?_ | refine yW p_len ?_ | refine yW p_lens ?_ | refine yW p_lenm ?_ | refine yW p_bld ?_ | refine yW p_lookt ?_ | refine yW p_lookf ?_ | refine yW p_look1 ?_ | refine yW p_look0 ?_ | refine yW p_mif ?_ | refine yW p_mifp ?_ | refine yW p_mifs ?_ | (refine yX ?_; first | refine w_st ?_ | refine w_str ?_ | refine w_stra ?_ | (refine w_al ?_; intro q) | refine w_mu ?_ | fail) | refine yN ?_ | refine yO ?_ | fail) | (show KQ (CD _ _ _ _ _) _ _ _ _; first | refine yT ?_ | refine yF ?_ | fail) | ((first | refine yG ?_ ?_ | refine yC ?_ ?_) <;> (intro hc; (try simp only [hcS] at hc); try exact dD)) | refine yE ?_ | fail))
    all_goals (refine y_fin ?_; exact ⟨_, ⟨rfl, rfl⟩, Ent.auto⟩)
  · have h2 : ¬ at_ < 0 := by omega
    refine y_of Try.func12 rfl Try.ntmps12 rfl fun w0 => ?_
    (repeat' (first | (show KQ (WL _ _ _ _ _) _ _ _ _; first | refine yW p_move ?_ | refine yW p_asg ?_ | refine yA ?_ | refine yW p_ld ?_ | refine yW p_lda ?_ | refine yB ?_ | refine yW p_nil ?_ | refine yW p_nilf ?_ | refine yW p_ext ?_ | refine yW p_pt ?_ | refine yW p_pf ?_ | refine yW p_len ?_ | refine yW p_lens ?_ | refine yW p_lenm ?_ | refine yW p_bld ?_ | refine yW p_lookt ?_ | refine yW p_lookf ?_ | refine yW p_look1 ?_ | refine yW p_look0 ?_ | refine yW p_mif ?_ | refine yW p_mifp ?_ | refine yW p_mifs ?_ | (refine yX ?_; first | refine w_st ?_ | refine w_str ?_ | refine w_stra ?_ | (refine w_al ?_; intro q) | refine w_mu ?_ | fail) | refine yN ?_ | refine yO ?_ | fail) | (show KQ (CD _ _ _ _ _) _ _ _ _; first | refine yT ?_ | refine yF ?_ | fail) | ((first | refine yG ?_ ?_ | refine yC ?_ ?_) <;> (intro hc; (try simp only [hcS] at hc); try exact dD)) | refine yE ?_ | fail))
    all_goals (refine y_fin ?_; exact ⟨_, ⟨rfl, rfl⟩, Ent.auto⟩)
theorem zput_there (hQ : QOk Q t) (at_ : Int) (h : 0 ≤ at_ ∧ at_ ≤ 4611686018427387904) (hx : x ∈ Q) : Sp Try.prog 12 [ptr p, .int .i64 at_, .int .i64 x.item] (TIM p Q t b :: F) fun r M => r = .int .i64 40 ∧ M = TIM p Q t b :: F := by
  refine Sp.post (Post := fun v M => v = .int .i64 40 ∧ ∃ w : TW Q t b, M = tmw p Q t w F) (tsp fun w => ?_) (by rintro v L ⟨rfl, w, rfl⟩; exact ⟨_, ⟨rfl, rfl⟩, tshut w F⟩)
  obtain ⟨m, a, c, R, kv, ok⟩ := w
  dsimp only [tmw]
  have hg := ok.yes hQ hx
  have h2 : ¬ at_ < 0 := by omega
  have h3 : ¬ 4611686018427387904 < at_ := by omega
  refine y_of Try.func12 rfl Try.ntmps12 rfl fun w0 => ?_
  (repeat' (first | (show KQ (WL _ _ _ _ _) _ _ _ _; first | refine yW p_move ?_ | refine yW p_asg ?_ | refine yA ?_ | refine yW p_ld ?_ | refine yW p_lda ?_ | refine yB ?_ | refine yW p_nil ?_ | refine yW p_nilf ?_ | refine yW p_ext ?_ | refine yW p_pt ?_ | refine yW p_pf ?_ | refine yW p_len ?_ | refine yW p_lens ?_ | refine yW p_lenm ?_ | refine yW p_bld ?_ | refine yW p_lookt ?_ | refine yW p_lookf ?_ | refine yW p_look1 ?_ | refine yW p_look0 ?_ | refine yW p_mif ?_ | refine yW p_mifp ?_ | refine yW p_mifs ?_ | (refine yX ?_; first | refine w_st ?_ | refine w_str ?_ | refine w_stra ?_ | (refine w_al ?_; intro q) | refine w_mu ?_ | fail) | refine yN ?_ | refine yO ?_ | fail) | (show KQ (CD _ _ _ _ _) _ _ _ _; first | refine yT ?_ | refine yF ?_ | fail) | ((first | refine yG ?_ ?_ | refine yC ?_ ?_) <;> (intro hc; (try simp only [hcS] at hc); try exact dD)) | refine yE ?_ | fail))
  all_goals (refine y_fin ?_; exact ⟨_, ⟨rfl, ⟨m, a, c, R, kv, ok⟩, rfl⟩, Ent.auto⟩)
theorem zput_many (at_ : Int) (h : 0 ≤ at_ ∧ at_ ≤ 4611686018427387904) (hx : y ∉ Q.map TM.item) (hl : 65536 ≤ Q.length) : Sp Try.prog 12 [ptr p, .int .i64 at_, .int .i64 y] (TIM p Q t b :: F) fun r M => r = .int .i64 3 ∧ M = TIM p Q t b :: F := by
  refine Sp.post (Post := fun v M => v = .int .i64 3 ∧ ∃ w : TW Q t b, M = tmw p Q t w F) (tsp fun w => ?_) (by rintro v L ⟨rfl, w, rfl⟩; exact ⟨_, ⟨rfl, rfl⟩, tshut w F⟩)
  obtain ⟨m, a, c, R, kv, ok⟩ := w
  dsimp only [tmw]
  have hg := ok.no hx
  have hkl := ok.len
  have h2 : ¬ at_ < 0 := by omega
  have h3 : ¬ 4611686018427387904 < at_ := by omega
  refine y_of Try.func12 rfl Try.ntmps12 rfl fun w0 => ?_
  (repeat' (first | (show KQ (WL _ _ _ _ _) _ _ _ _; first | refine yW p_move ?_ | refine yW p_asg ?_ | refine yA ?_ | refine yW p_ld ?_ | refine yW p_lda ?_ | refine yB ?_ | refine yW p_nil ?_ | refine yW p_nilf ?_ | refine yW p_ext ?_ | refine yW p_pt ?_ | refine yW p_pf ?_ | refine yW p_len ?_ | refine yW p_lens ?_ | refine yW p_lenm ?_ | refine yW p_bld ?_ | refine yW p_lookt ?_ | refine yW p_lookf ?_ | refine yW p_look1 ?_ | refine yW p_look0 ?_ | refine yW p_mif ?_ | refine yW p_mifp ?_ | refine yW p_mifs ?_ | (refine yX ?_; first | refine w_st ?_ | refine w_str ?_ | refine w_stra ?_ | (refine w_al ?_; intro q) | refine w_mu ?_ | fail) | refine yN ?_ | refine yO ?_ | fail) | (show KQ (CD _ _ _ _ _) _ _ _ _; first | refine yT ?_ | refine yF ?_ | fail) | ((first | refine yG ?_ ?_ | refine yC ?_ ?_) <;> (intro hc; (try simp only [hcS] at hc); try exact dD)) | refine yE ?_ | fail))
  all_goals (refine y_fin ?_; exact ⟨_, ⟨rfl, ⟨m, a, c, R, kv, ok⟩, rfl⟩, Ent.auto⟩)
set_option maxHeartbeats 4000000 in
theorem zput_yes (hQ : QOk Q t) (hb : b ≤ 5870000000000) (at_ : Int) (h : 0 ≤ at_ ∧ at_ ≤ 4611686018427387904) (hx : y ∉ Q.map TM.item) (hl : Q.length < 65536) : Sp Try.prog 12 [ptr p, .int .i64 at_, .int .i64 y] (TIM p Q t b :: F) fun r M => r = .int .i64 0 ∧ M = TIM p (insq Q ⟨at_, t, y⟩) (t + 1) (b + 1) :: F := by
  refine Sp.post (Post := fun v M => v = .int .i64 0 ∧ ∃ w : TW (insq Q ⟨at_, t, y⟩) (t + 1) (b + 1), M = tmw p (insq Q ⟨at_, t, y⟩) (t + 1) w F) (tsp fun w => ?_) (by rintro v L ⟨rfl, w, rfl⟩; exact ⟨_, ⟨rfl, rfl⟩, tshut w F⟩)
  obtain ⟨m, a, c, R, kv, ok⟩ := w
  dsimp only [tmw]
  have hg := ok.no hx
  have hkl := ok.len
  have h2 : ¬ at_ < 0 := by omega
  have h3 : ¬ 4611686018427387904 < at_ := by omega
  have ht0 := hQ.t0
  have htb := ok.tb
  have hbd := ok.bd
  have hP := fun G => hpush_spec p m a c R (kput kv y ⟨at_, t, y⟩) (t + 1) G ⟨at_, t, y⟩ (by omega) ok.hp
  refine y_of Try.func12 rfl Try.ntmps12 rfl fun w0 => ?_
  (repeat' (first | (show KQ (WL _ _ _ _ _) _ _ _ _; first | refine yW p_move ?_ | refine yW p_asg ?_ | refine yA ?_ | refine yW p_ld ?_ | refine yW p_lda ?_ | refine yB ?_ | refine yW p_nil ?_ | refine yW p_nilf ?_ | refine yW p_ext ?_ | refine yW p_pt ?_ | refine yW p_pf ?_ | refine yW p_len ?_ | refine yW p_lens ?_ | refine yW p_lenm ?_ | refine yW p_bld ?_ | refine yW p_lookt ?_ | refine yW p_lookf ?_ | refine yW p_look1 ?_ | refine yW p_look0 ?_ | refine yW p_mif ?_ | refine yW p_mifp ?_ | refine yW p_mifs ?_ | (refine yX ?_; first | refine w_st ?_ | refine w_str ?_ | refine w_stra ?_ | (refine w_al ?_; intro q) | refine w_mu ?_ | fail) | refine yN ?_ | refine yO ?_ | fail) | (show KQ (CD _ _ _ _ _) _ _ _ _; first | refine yT ?_ | refine yF ?_ | fail) | ((first | refine yG ?_ ?_ | refine yC ?_ ?_) <;> (intro hc; (try simp only [hcS] at hc); try exact dD)) | refine yE ?_ | fail))
  all_goals (refine y_cr ?_; refine kq_draw 12 (blk p (.cells (tcs a R.length c m (t + 1)).toArray 70 (0, 0)) :: blk q (.cells (tme ⟨at_, t, y⟩).toArray 72 (0, 0)) :: trow a c R :: F) 7 ?_; (all_goals refine kq_take 0 rfl p_move ?_); (all_goals (first | refine kq_take 1 rfl p_nil ?_ | refine kq_take 1 rfl p_nilf ?_)); (all_goals refine tkf 2 ?_); (all_goals refine tkl 3 ?_); (all_goals refine kq_take 4 rfl p_move ?_); (all_goals refine tkl 5 ?_); (all_goals (refine kq_each [6] ⟨?_, trivial⟩; (refine kq_op ?_; first | refine w_mu ?_))); (all_goals refine kq_done ?_))
  all_goals (repeat' (first | (show KQ (WL _ _ _ _ _) _ _ _ _; first | refine yW p_move ?_ | refine yW p_asg ?_ | refine yA ?_ | refine yW p_ld ?_ | refine yW p_lda ?_ | refine yB ?_ | refine yW p_nil ?_ | refine yW p_nilf ?_ | refine yW p_ext ?_ | refine yW p_pt ?_ | refine yW p_pf ?_ | refine yW p_len ?_ | refine yW p_lens ?_ | refine yW p_lenm ?_ | refine yW p_bld ?_ | refine yW p_lookt ?_ | refine yW p_lookf ?_ | refine yW p_look1 ?_ | refine yW p_look0 ?_ | refine yW p_mif ?_ | refine yW p_mifp ?_ | refine yW p_mifs ?_ | (refine yX ?_; first | refine w_st ?_ | refine w_str ?_ | refine w_stra ?_ | (refine w_al ?_; intro q) | refine w_mu ?_ | fail) | refine yN ?_ | refine yO ?_ | fail) | (show KQ (CD _ _ _ _ _) _ _ _ _; first | refine yT ?_ | refine yF ?_ | fail) | ((first | refine yG ?_ ?_ | refine yC ?_ ?_) <;> (intro hc; (try simp only [hcS] at hc); try exact dD)) | refine yE ?_ | fail))
  all_goals (refine y_cr ?_; refine kq_draw 13 (blk q (.cells (tme ⟨at_, t, y⟩).toArray 72 (0, 0)) :: F) 7 ?_; (all_goals refine kq_take 0 rfl p_move ?_); (all_goals (first | refine kq_take 1 rfl p_nil ?_ | refine kq_take 1 rfl p_nilf ?_)); (all_goals refine tkf 2 ?_); (all_goals (first | refine kq_take 3 rfl p_mif ?_ | refine kq_take 3 rfl p_mifp ?_ | refine kq_take 3 rfl p_mifs ?_)); (all_goals refine tkl 4 ?_); (all_goals (first | refine kq_take 5 rfl p_mif ?_ | refine kq_take 5 rfl p_mifp ?_ | refine kq_take 5 rfl p_mifs ?_)); (all_goals (refine kq_each [6] ⟨?_, trivial⟩; (refine kq_op ?_; first | (refine w_call (hP _) ?_; rintro r L ⟨a2, c2, R2, rfl, h4, h5⟩)))); (all_goals refine kq_done ?_))
  all_goals (repeat' (first | (show KQ (WL _ _ _ _ _) _ _ _ _; first | refine yW p_move ?_ | refine yW p_asg ?_ | refine yA ?_ | refine yW p_ld ?_ | refine yW p_lda ?_ | refine yB ?_ | refine yW p_nil ?_ | refine yW p_nilf ?_ | refine yW p_ext ?_ | refine yW p_pt ?_ | refine yW p_pf ?_ | refine yW p_len ?_ | refine yW p_lens ?_ | refine yW p_lenm ?_ | refine yW p_bld ?_ | refine yW p_lookt ?_ | refine yW p_lookf ?_ | refine yW p_look1 ?_ | refine yW p_look0 ?_ | refine yW p_mif ?_ | refine yW p_mifp ?_ | refine yW p_mifs ?_ | (refine yX ?_; first | refine w_st ?_ | refine w_str ?_ | refine w_stra ?_ | (refine w_al ?_; intro q) | refine w_mu ?_ | fail) | refine yN ?_ | refine yO ?_ | fail) | (show KQ (CD _ _ _ _ _) _ _ _ _; first | refine yT ?_ | refine yF ?_ | fail) | ((first | refine yG ?_ ?_ | refine yC ?_ ?_) <;> (intro hc; (try simp only [hcS] at hc); try exact dD)) | refine yE ?_ | fail))
  all_goals (refine y_fin ?_; exact ⟨_, ⟨rfl, ⟨m, a2, c2, R2, kput kv y ⟨at_, t, y⟩, ok.put hQ hx h4 h5⟩, rfl⟩, Ent.auto⟩)
end
end Go.Proofs.Yteafcajlfagbkaa
