/- DERIVED. Memos: Sweep, clones, on both sides; every act. -/
import Derived.Test.YtlhjioapbgnjfaaM1
namespace Go.Proofs.Ytlhjioapbgnjfaa
set_option linter.unusedSimpArgs false
set_option linter.unusedVariables false
open Go Sl Cv Go.RowKit
theorem nok_chk : chk (0, ByteArray.empty) = 0 := by decide +kernel
theorem sweep_ok' {S : MS} (hS : MOk S) {now : Int} (ht : mTick S now = 0) : MOk (mSweepS S now) := by
  have h := (hS.at ht).sub (K := S.K.filter (fun x => !old3 S.c now x)) List.filter_sublist
  exact h
section
variable (F : List HP) (S : MS) (p : Nat) (x : AM)
set_option maxHeartbeats 8000000 in
theorem act_sweep (hS : MOk S) (a : Option Addr) (cc : Nat) (h2 : kd7 x.kind = 5) : Sp Try.prog 19 [ptr p, mdv S a cc, amv x] (MEM p S :: rrow a cc S.K :: F) fun r M => APost p F (actS S x) r M := by
  have e : actS S x = if mTick S (atI S.now x) = 0 then mSweepS S (atI S.now x) else S := by rw [actS, if_neg (by omega), if_neg (by omega), if_neg (by omega), if_pos h2]
  have hK : S.K.length ≤ 65536 := by have := hS.len; have := hS.c.e.2; omega
  unfold kd7 at h2
  have hat := fun F => mat_spec F S.c x a S.K.length cc S.now hS.now
  have hwr := fun F => mwrong_spec F S.c (0, ByteArray.empty) (atI S.now x) a S.K.length cc S.now
  by_cases ht : mTick S (atI S.now x) = 0
  · obtain ⟨t1, t2⟩ := mTick_ok ht
    rw [if_pos ht] at e
    rw [e]
    have he : mErr S (atI S.now x) (0, ByteArray.empty) = 0 := by rw [mErr, if_pos ht]; exact nok_chk
    rw [wrg_err, he] at hwr
    have hsw := fun F => sweep_ok p S F (atI S.now x) hS ht
    have hds := fun F => dsweep_spec a cc S.K F S.c (atI S.now x) hS.c (fun y hy => ⟨(hS.at_ y hy).1, by have := (hS.at_ y hy).2; omega⟩) (fun y hy => (hS.out y hy).1) t1 (by omega)
    have hgl : (swG S.c (atI S.now x) S.K S.K.length).length ≤ 1000000 := by unfold swG kys; rw [List.length_map]; exact Nat.le_trans (List.length_filter_le _ _) (by rw [List.length_take]; omega)
    obtain ⟨T, hT⟩ : ∃ T, T = mSweepS S (atI S.now x) := ⟨_, rfl⟩
    have e1 : T = ⟨S.c, atI S.now x, S.K.filter (fun y => !old3 S.c (atI S.now x) y)⟩ := hT
    rw [← hT] at hsw ⊢
    obtain ⟨G, hG⟩ : ∃ G, G = swG S.c (atI S.now x) S.K S.K.length := ⟨_, rfl⟩
    rw [← hG] at hsw hds hgl
    obtain ⟨K2, hK2⟩ : ∃ K2, K2 = S.K.filter (fun y => !old3 S.c (atI S.now x) y) := ⟨_, rfl⟩
    rw [← hK2] at hds e1
    have hks := fun F a b c d => lkeys_same F a b c d G hgl
    obtain ⟨nw, hn⟩ : ∃ nw, nw = atI S.now x := ⟨_, rfl⟩
    rw [← hn] at hsw hds hat hwr e1
    clear hT hG hK2 e
    subst e1
    refine sp_of Try.func19 rfl Try.ntmps19 rfl fun w0 => ?_
    (repeat' (first | (show KQ _ _ _ _ _; first | refine kq_cons ?_ | refine kq_seq ?_ | refine kq_region ?_ | with_reducible refine kq_nil ?_ | with_reducible refine kq_then ?_ | with_reducible refine kq_then_ret ?_ | refine kq_block ?_ | with_reducible refine kq_ret ?_ | with_reducible refine kq_skip ?_ | with_reducible refine kq_in ?_ | with_reducible refine kq_in_ret ?_ | with_reducible refine kq_np ?_ | with_reducible refine kq_norm ?_ | refine kq_do ?_ | refine kq_not ?_ | refine kq_not0 ?_ | refine kq_cond_t ?_ | refine kq_cond_f ?_ | ((first | refine kq_guard (fun hc => ?_) (fun hc => ?_) | refine kq_cond (fun hc => ?_) (fun hc => ?_)) <;> ((try simp only [decide_eq_true_eq, decide_eq_false_iff_not, Bool.not_eq_true', Bool.not_eq_false', Int.not_lt, Int.not_le] at hc); try (exfalso; first | (simp at hc; done) | (simp [*] at hc; done) | omega | (simp at hc; omega))))) | (show WX _ _ _ _ _ _ _ _; first | refine w_pure p_move ?_ | refine w_pure p_asg ?_ | refine w_pure p_fld0 ?_ | refine w_pure p_fldk ?_ | refine w_pure p_flda ?_ | refine w_pure p_fldr ?_ | refine w_pure p_ld ?_ | refine w_pure p_lda ?_ | (show WX _ _ ⟨_, .binOp _ _ _ _ _, _, _, _, _⟩ _ _ _ _ _; first | refine w_pure p_add6 ?_ | refine w_pure p_add ?_ | refine w_pure p_adds ?_ | refine w_pure p_geq ?_ | refine w_pure p_eq ?_ | refine w_pure p_eqb ?_ | refine w_pure p_eqn0 ?_ | refine w_pure p_eqn1 ?_ | refine w_pure p_eqn ?_ | refine w_pure p_eqs0 ?_ | refine w_pure p_eqs1 ?_ | refine w_pure p_eqs ?_ | refine w_pure p_eqt ?_ | refine w_pure p_eqa ?_ | refine w_pure p_eqf ?_ | refine w_pure p_eqm ?_ | refine w_pure p_rem ?_ | refine w_pure p_ne ?_ | refine w_pure p_neb ?_ | refine w_pure p_nen0 ?_ | refine w_pure p_nen1 ?_ | refine w_pure p_nen ?_ | refine w_pure p_nes0 ?_ | refine w_pure p_nes1 ?_ | refine w_pure p_nes ?_ | refine w_pure p_net ?_ | refine w_pure p_nea ?_) | refine w_pure p_ext ?_ | refine w_pure p_pt ?_ | refine w_pure p_pf ?_ | refine w_pure p_nott ?_ | refine w_pure p_notf ?_ | refine w_pure p_not ?_ | refine w_pure p_neg ?_ | refine w_pure p_len ?_ | refine w_pure p_lens ?_ | refine w_pure p_lenm ?_ | refine w_pure p_bld ?_ | refine w_st ?_ | refine w_str ?_ | refine w_stra ?_ | (refine w_al ?_; intro q) | (refine w_bx ?_; intro q) | (refine w_call (hat _) ?_; rintro r L ⟨rfl, rfl⟩) | (refine w_call (hwr _) ?_; rintro r L ⟨rfl, rfl⟩) | (refine w_call (hsw _) ?_; rintro r L ⟨a3, c3, rfl, rfl⟩) | (refine w_call (hds _) ?_; rintro r L ⟨a2, c2, a4, c4, rfl, rfl⟩) | fail) | fail))
    all_goals (refine kq_draw1 19 10 6 ?_; (all_goals (first | refine kq_take 0 rfl p_ld ?_ | refine kq_take 0 rfl p_lda ?_)); (all_goals refine kq_take 1 rfl p_move ?_); (all_goals (first | refine kq_take 2 rfl p_eq ?_ | refine kq_take 2 rfl p_eqb ?_ | refine kq_take 2 rfl p_eqn0 ?_ | refine kq_take 2 rfl p_eqn1 ?_ | refine kq_take 2 rfl p_eqn ?_ | refine kq_take 2 rfl p_eqs0 ?_ | refine kq_take 2 rfl p_eqs1 ?_ | refine kq_take 2 rfl p_eqs ?_ | refine kq_take 2 rfl p_eqt ?_ | refine kq_take 2 rfl p_eqa ?_ | refine kq_take 2 rfl p_eqf ?_ | refine kq_take 2 rfl p_eqm ?_)); (all_goals refine kq_take 3 rfl p_move ?_); (all_goals (first | refine kq_take 4 rfl p_move ?_ | refine kq_tnot 4 ?_ | ((refine kq_split 102 (fun hc => ?_) (fun hc => ?_)) <;> ((try simp only [decide_eq_true_eq, decide_eq_false_iff_not, Bool.not_eq_true', Bool.not_eq_false', Int.not_lt, Int.not_le] at hc); try (exfalso; first | (simp at hc; done) | (simp [*] at hc; done) | omega | (simp at hc; omega))) <;> (first | refine kq_take 4 rfl p_move ?_ | refine kq_tnot 4 ?_)))); (all_goals (first | refine kq_take 5 rfl p_move ?_ | refine kq_tnot 5 ?_ | ((refine kq_split 102 (fun hc => ?_) (fun hc => ?_)) <;> ((try simp only [decide_eq_true_eq, decide_eq_false_iff_not, Bool.not_eq_true', Bool.not_eq_false', Int.not_lt, Int.not_le] at hc); try (exfalso; first | (simp at hc; done) | (simp [*] at hc; done) | omega | (simp at hc; omega))) <;> (first | refine kq_take 5 rfl p_move ?_ | refine kq_tnot 5 ?_)))); (all_goals (refine kq_each [6] ⟨?_, trivial⟩; (first | (refine kq_op ?_; first | (refine w_call (hks _ _ _ _ _) ?_; rintro r L ⟨rfl, rfl⟩)) | refine kq_onot ?_ | ((refine kq_split 102 (fun hc => ?_) (fun hc => ?_)) <;> ((try simp only [decide_eq_true_eq, decide_eq_false_iff_not, Bool.not_eq_true', Bool.not_eq_false', Int.not_lt, Int.not_le] at hc); try (exfalso; first | (simp at hc; done) | (simp [*] at hc; done) | omega | (simp at hc; omega))) <;> (first | (refine kq_op ?_; first | (refine w_call (hks _ _ _ _ _) ?_; rintro r L ⟨rfl, rfl⟩)) | refine kq_onot ?_))))); (all_goals (first | refine kq_take 7 rfl p_pt ?_ | refine kq_take 7 rfl p_pf ?_)); (all_goals (refine kq_each [8] ⟨?_, trivial⟩; (refine kq_op ?_; first | refine w_st ?_ | refine w_str ?_ | refine w_stra ?_ | (refine w_call (hks _ _ _ _ _) ?_; rintro r L ⟨rfl, rfl⟩)))); (all_goals refine kq_take 9 rfl p_asg ?_); (all_goals refine kq_done ?_))
    all_goals (repeat' (first | (show KQ _ _ _ _ _; first | refine kq_cons ?_ | refine kq_seq ?_ | refine kq_region ?_ | with_reducible refine kq_nil ?_ | with_reducible refine kq_then ?_ | with_reducible refine kq_then_ret ?_ | refine kq_block ?_ | with_reducible refine kq_ret ?_ | with_reducible refine kq_skip ?_ | with_reducible refine kq_in ?_ | with_reducible refine kq_in_ret ?_ | with_reducible refine kq_np ?_ | with_reducible refine kq_norm ?_ | refine kq_do ?_ | refine kq_not ?_ | refine kq_not0 ?_ | refine kq_cond_t ?_ | refine kq_cond_f ?_ | ((first | refine kq_guard (fun hc => ?_) (fun hc => ?_) | refine kq_cond (fun hc => ?_) (fun hc => ?_)) <;> ((try simp only [decide_eq_true_eq, decide_eq_false_iff_not, Bool.not_eq_true', Bool.not_eq_false', Int.not_lt, Int.not_le] at hc); try (exfalso; first | (simp at hc; done) | (simp [*] at hc; done) | omega | (simp at hc; omega))))) | (show WX _ _ _ _ _ _ _ _; first | refine w_pure p_move ?_ | refine w_pure p_asg ?_ | refine w_pure p_fld0 ?_ | refine w_pure p_fldk ?_ | refine w_pure p_flda ?_ | refine w_pure p_fldr ?_ | refine w_pure p_ld ?_ | refine w_pure p_lda ?_ | (show WX _ _ ⟨_, .binOp _ _ _ _ _, _, _, _, _⟩ _ _ _ _ _; first | refine w_pure p_add6 ?_ | refine w_pure p_add ?_ | refine w_pure p_adds ?_ | refine w_pure p_geq ?_ | refine w_pure p_eq ?_ | refine w_pure p_eqb ?_ | refine w_pure p_eqn0 ?_ | refine w_pure p_eqn1 ?_ | refine w_pure p_eqn ?_ | refine w_pure p_eqs0 ?_ | refine w_pure p_eqs1 ?_ | refine w_pure p_eqs ?_ | refine w_pure p_eqt ?_ | refine w_pure p_eqa ?_ | refine w_pure p_eqf ?_ | refine w_pure p_eqm ?_ | refine w_pure p_rem ?_ | refine w_pure p_ne ?_ | refine w_pure p_neb ?_ | refine w_pure p_nen0 ?_ | refine w_pure p_nen1 ?_ | refine w_pure p_nen ?_ | refine w_pure p_nes0 ?_ | refine w_pure p_nes1 ?_ | refine w_pure p_nes ?_ | refine w_pure p_net ?_ | refine w_pure p_nea ?_) | refine w_pure p_ext ?_ | refine w_pure p_pt ?_ | refine w_pure p_pf ?_ | refine w_pure p_nott ?_ | refine w_pure p_notf ?_ | refine w_pure p_not ?_ | refine w_pure p_neg ?_ | refine w_pure p_len ?_ | refine w_pure p_lens ?_ | refine w_pure p_lenm ?_ | refine w_pure p_bld ?_ | refine w_st ?_ | refine w_str ?_ | refine w_stra ?_ | (refine w_al ?_; intro q) | (refine w_bx ?_; intro q) | fail) | fail))
    all_goals (refine kq_fin ?_; exact ⟨_, ⟨a2, c2, by simp [tup, mdl, cfl], rfl⟩, Ent.auto⟩)
  · rw [if_neg ht] at e
    rw [e]
    have he : mErr S (atI S.now x) (0, ByteArray.empty) = mTick S (atI S.now x) := by rw [mErr, if_neg ht]
    rw [wrg_err, he] at hwr
    have hsw := fun F => sweep_err p S F (atI S.now x) ht
    obtain ⟨e, hE⟩ : ∃ e, e = mTick S (atI S.now x) := ⟨_, rfl⟩
    rw [← hE] at hsw hwr ht
    clear he hE
    refine sp_of Try.func19 rfl Try.ntmps19 rfl fun w0 => ?_
    (repeat' (first | (show KQ _ _ _ _ _; first | refine kq_cons ?_ | refine kq_seq ?_ | refine kq_region ?_ | with_reducible refine kq_nil ?_ | with_reducible refine kq_then ?_ | with_reducible refine kq_then_ret ?_ | refine kq_block ?_ | with_reducible refine kq_ret ?_ | with_reducible refine kq_skip ?_ | with_reducible refine kq_in ?_ | with_reducible refine kq_in_ret ?_ | with_reducible refine kq_np ?_ | with_reducible refine kq_norm ?_ | refine kq_do ?_ | refine kq_not ?_ | refine kq_not0 ?_ | refine kq_cond_t ?_ | refine kq_cond_f ?_ | ((first | refine kq_guard (fun hc => ?_) (fun hc => ?_) | refine kq_cond (fun hc => ?_) (fun hc => ?_)) <;> ((try simp only [decide_eq_true_eq, decide_eq_false_iff_not, Bool.not_eq_true', Bool.not_eq_false', Int.not_lt, Int.not_le] at hc); try (exfalso; first | (simp at hc; done) | (simp [*] at hc; done) | omega | (simp at hc; omega))))) | (show WX _ _ _ _ _ _ _ _; first | refine w_pure p_move ?_ | refine w_pure p_asg ?_ | refine w_pure p_fld0 ?_ | refine w_pure p_fldk ?_ | refine w_pure p_flda ?_ | refine w_pure p_fldr ?_ | refine w_pure p_ld ?_ | refine w_pure p_lda ?_ | (show WX _ _ ⟨_, .binOp _ _ _ _ _, _, _, _, _⟩ _ _ _ _ _; first | refine w_pure p_add6 ?_ | refine w_pure p_add ?_ | refine w_pure p_adds ?_ | refine w_pure p_geq ?_ | refine w_pure p_eq ?_ | refine w_pure p_eqb ?_ | refine w_pure p_eqn0 ?_ | refine w_pure p_eqn1 ?_ | refine w_pure p_eqn ?_ | refine w_pure p_eqs0 ?_ | refine w_pure p_eqs1 ?_ | refine w_pure p_eqs ?_ | refine w_pure p_eqt ?_ | refine w_pure p_eqa ?_ | refine w_pure p_eqf ?_ | refine w_pure p_eqm ?_ | refine w_pure p_rem ?_ | refine w_pure p_ne ?_ | refine w_pure p_neb ?_ | refine w_pure p_nen0 ?_ | refine w_pure p_nen1 ?_ | refine w_pure p_nen ?_ | refine w_pure p_nes0 ?_ | refine w_pure p_nes1 ?_ | refine w_pure p_nes ?_ | refine w_pure p_net ?_ | refine w_pure p_nea ?_) | refine w_pure p_ext ?_ | refine w_pure p_pt ?_ | refine w_pure p_pf ?_ | refine w_pure p_nott ?_ | refine w_pure p_notf ?_ | refine w_pure p_not ?_ | refine w_pure p_neg ?_ | refine w_pure p_len ?_ | refine w_pure p_lens ?_ | refine w_pure p_lenm ?_ | refine w_pure p_bld ?_ | refine w_st ?_ | refine w_str ?_ | refine w_stra ?_ | (refine w_al ?_; intro q) | (refine w_bx ?_; intro q) | (refine w_call (hat _) ?_; rintro r L ⟨rfl, rfl⟩) | (refine w_call (hwr _) ?_; rintro r L ⟨rfl, rfl⟩) | (refine w_call (hsw _) ?_; rintro r L ⟨rfl, rfl⟩) | fail) | fail))
    all_goals (refine kq_fin ?_; exact ⟨_, ⟨a, cc, by simp [tup, mdl, cfl], rfl⟩, Ent.auto⟩)
set_option maxHeartbeats 8000000 in
theorem act_clone (hS : MOk S) (a : Option Addr) (cc : Nat) (h2 : kd7 x.kind = 6) : Sp Try.prog 19 [ptr p, mdv S a cc, amv x] (MEM p S :: rrow a cc S.K :: F) fun r M => APost p F (actS S x) r M := by
  have e : actS S x = S := by rw [actS, if_neg (by omega), if_neg (by omega), if_neg (by omega), if_neg (by omega), if_pos h2]
  rw [e]
  unfold kd7 at h2
  have hcl := fun F => clone_ok p S F hS
  have hst := fun F p2 => stands_spec F x.key p2 S a cc hS
  have hnw := fun F p2 => now_spec p2 S F
  have hka := fun F p2 => keep_any F S p2 hS S.now x.key x.out
  have hda := fun F p2 S' hS' => drop_spec' p2 S' F x.key hS'
  refine sp_of Try.func19 rfl Try.ntmps19 rfl fun w0 => ?_
  (repeat' (first | (show KQ _ _ _ _ _; first | refine kq_cons ?_ | refine kq_seq ?_ | refine kq_region ?_ | with_reducible refine kq_nil ?_ | with_reducible refine kq_then ?_ | with_reducible refine kq_then_ret ?_ | refine kq_block ?_ | with_reducible refine kq_ret ?_ | with_reducible refine kq_skip ?_ | with_reducible refine kq_in ?_ | with_reducible refine kq_in_ret ?_ | with_reducible refine kq_np ?_ | with_reducible refine kq_norm ?_ | refine kq_do ?_ | refine kq_not ?_ | refine kq_not0 ?_ | refine kq_cond_t ?_ | refine kq_cond_f ?_ | ((first | refine kq_guard (fun hc => ?_) (fun hc => ?_) | refine kq_cond (fun hc => ?_) (fun hc => ?_)) <;> ((try simp only [decide_eq_true_eq, decide_eq_false_iff_not, Bool.not_eq_true', Bool.not_eq_false', Int.not_lt, Int.not_le] at hc); try (exfalso; first | (simp at hc; done) | (simp [*] at hc; done) | omega | (simp at hc; omega))))) | (show WX _ _ _ _ _ _ _ _; first | refine w_pure p_move ?_ | refine w_pure p_asg ?_ | refine w_pure p_fld0 ?_ | refine w_pure p_fldk ?_ | refine w_pure p_flda ?_ | refine w_pure p_fldr ?_ | refine w_pure p_ld ?_ | refine w_pure p_lda ?_ | (show WX _ _ ⟨_, .binOp _ _ _ _ _, _, _, _, _⟩ _ _ _ _ _; first | refine w_pure p_add6 ?_ | refine w_pure p_add ?_ | refine w_pure p_adds ?_ | refine w_pure p_geq ?_ | refine w_pure p_eq ?_ | refine w_pure p_eqb ?_ | refine w_pure p_eqn0 ?_ | refine w_pure p_eqn1 ?_ | refine w_pure p_eqn ?_ | refine w_pure p_eqs0 ?_ | refine w_pure p_eqs1 ?_ | refine w_pure p_eqs ?_ | refine w_pure p_eqt ?_ | refine w_pure p_eqa ?_ | refine w_pure p_eqf ?_ | refine w_pure p_eqm ?_ | refine w_pure p_rem ?_ | refine w_pure p_ne ?_ | refine w_pure p_neb ?_ | refine w_pure p_nen0 ?_ | refine w_pure p_nen1 ?_ | refine w_pure p_nen ?_ | refine w_pure p_nes0 ?_ | refine w_pure p_nes1 ?_ | refine w_pure p_nes ?_ | refine w_pure p_net ?_ | refine w_pure p_nea ?_) | refine w_pure p_ext ?_ | refine w_pure p_pt ?_ | refine w_pure p_pf ?_ | refine w_pure p_nott ?_ | refine w_pure p_notf ?_ | refine w_pure p_not ?_ | refine w_pure p_neg ?_ | refine w_pure p_len ?_ | refine w_pure p_lens ?_ | refine w_pure p_lenm ?_ | refine w_pure p_bld ?_ | refine w_st ?_ | refine w_str ?_ | refine w_stra ?_ | (refine w_al ?_; intro q) | (refine w_bx ?_; intro q) | (refine w_call (hcl _) ?_; rintro r L ⟨p2, rfl, rfl⟩) | (refine w_call (hst _ _) ?_; rintro r L ⟨rfl, rfl⟩) | fail) | fail))
  rename_i q4 q5 _ _ _ _
  all_goals (refine kq_draw 24 (blk q5 (.cells (aml x).toArray 39 (0, 0)) :: F) 8 ?_; (all_goals refine kq_take 0 rfl p_move ?_); (all_goals refine kq_take 1 rfl p_move ?_); (all_goals (first | refine kq_take 3 rfl p_fld0 ?_ | refine kq_take 3 rfl p_fldk ?_ | refine kq_take 3 rfl p_flda ?_ | refine kq_take 3 rfl p_fldr ?_)); (all_goals (first | refine kq_take 4 rfl p_ld ?_ | refine kq_take 4 rfl p_lda ?_)); (all_goals (first | refine kq_take 5 rfl p_fld0 ?_ | refine kq_take 5 rfl p_fldk ?_ | refine kq_take 5 rfl p_flda ?_ | refine kq_take 5 rfl p_fldr ?_)); (all_goals (first | refine kq_take 6 rfl p_ld ?_ | refine kq_take 6 rfl p_lda ?_)); (all_goals (refine kq_each [2] ⟨?_, trivial⟩; (refine kq_op ?_; first | (refine w_call (hnw _ _) ?_; rintro r L ⟨rfl, rfl⟩) | (refine w_call (hka _ _) ?_; rintro r L ⟨S', hS', rfl⟩)))); (all_goals (refine kq_each [7] ⟨?_, trivial⟩; (refine kq_op ?_; first | (refine w_call (hnw _ _) ?_; rintro r L ⟨rfl, rfl⟩) | (refine w_call (hka _ _) ?_; rintro r L ⟨S', hS', rfl⟩)))); (all_goals refine kq_done ?_))
  all_goals (repeat' (first | (show KQ _ _ _ _ _; first | refine kq_cons ?_ | refine kq_seq ?_ | refine kq_region ?_ | with_reducible refine kq_nil ?_ | with_reducible refine kq_then ?_ | with_reducible refine kq_then_ret ?_ | refine kq_block ?_ | with_reducible refine kq_ret ?_ | with_reducible refine kq_skip ?_ | with_reducible refine kq_in ?_ | with_reducible refine kq_in_ret ?_ | with_reducible refine kq_np ?_ | with_reducible refine kq_norm ?_ | refine kq_do ?_ | refine kq_not ?_ | refine kq_not0 ?_ | refine kq_cond_t ?_ | refine kq_cond_f ?_ | ((first | refine kq_guard (fun hc => ?_) (fun hc => ?_) | refine kq_cond (fun hc => ?_) (fun hc => ?_)) <;> ((try simp only [decide_eq_true_eq, decide_eq_false_iff_not, Bool.not_eq_true', Bool.not_eq_false', Int.not_lt, Int.not_le] at hc); try (exfalso; first | (simp at hc; done) | (simp [*] at hc; done) | omega | (simp at hc; omega))))) | (show WX _ _ _ _ _ _ _ _; first | refine w_pure p_move ?_ | refine w_pure p_asg ?_ | refine w_pure p_fld0 ?_ | refine w_pure p_fldk ?_ | refine w_pure p_flda ?_ | refine w_pure p_fldr ?_ | refine w_pure p_ld ?_ | refine w_pure p_lda ?_ | (show WX _ _ ⟨_, .binOp _ _ _ _ _, _, _, _, _⟩ _ _ _ _ _; first | refine w_pure p_add6 ?_ | refine w_pure p_add ?_ | refine w_pure p_adds ?_ | refine w_pure p_geq ?_ | refine w_pure p_eq ?_ | refine w_pure p_eqb ?_ | refine w_pure p_eqn0 ?_ | refine w_pure p_eqn1 ?_ | refine w_pure p_eqn ?_ | refine w_pure p_eqs0 ?_ | refine w_pure p_eqs1 ?_ | refine w_pure p_eqs ?_ | refine w_pure p_eqt ?_ | refine w_pure p_eqa ?_ | refine w_pure p_eqf ?_ | refine w_pure p_eqm ?_ | refine w_pure p_rem ?_ | refine w_pure p_ne ?_ | refine w_pure p_neb ?_ | refine w_pure p_nen0 ?_ | refine w_pure p_nen1 ?_ | refine w_pure p_nen ?_ | refine w_pure p_nes0 ?_ | refine w_pure p_nes1 ?_ | refine w_pure p_nes ?_ | refine w_pure p_net ?_ | refine w_pure p_nea ?_) | refine w_pure p_ext ?_ | refine w_pure p_pt ?_ | refine w_pure p_pf ?_ | refine w_pure p_nott ?_ | refine w_pure p_notf ?_ | refine w_pure p_not ?_ | refine w_pure p_neg ?_ | refine w_pure p_len ?_ | refine w_pure p_lens ?_ | refine w_pure p_lenm ?_ | refine w_pure p_bld ?_ | refine w_st ?_ | refine w_str ?_ | refine w_stra ?_ | (refine w_al ?_; intro q) | (refine w_bx ?_; intro q) | (refine w_call (hda _ _ _ hS') ?_; rintro r L ⟨rfl, rfl⟩) | fail) | fail))
  all_goals (refine kq_fin ?_; exact ⟨_, ⟨a, cc, by simp [tup, mdl, cfl], rfl⟩, Ent.auto⟩)
theorem act_ok (hS : MOk S) : MOk (actS S x) := by
  unfold actS keepS
  split
  · split
    · rename_i h; exact hS.at (mErr_ok h).1
    · exact hS
  split
  · split
    · rename_i h; exact hS.tell (mErr_ok h).1 _
    · exact hS
  split
  · exact hS.drop _
  split
  · split
    · rename_i h; exact sweep_ok' hS h
    · exact hS
  split
  · exact hS
  split
  · rename_i h
    split
    · rename_i hp; exact hS.keep (mErr_ok h.1).1 (mErr_ok h.1).2 h.2 hp
    · exact hS.at (mErr_ok h.1).1
  · exact hS
theorem act_spec (hS : MOk S) (a : Option Addr) (cc : Nat) : Sp Try.prog 19 [ptr p, mdv S a cc, amv x] (MEM p S :: rrow a cc S.K :: F) fun r M => APost p F (actS S x) r M := by
  by_cases h2 : kd7 x.kind = 2
  · exact act_look F S p x hS a cc h2
  by_cases h3 : kd7 x.kind = 3
  · exact act_tell F S p x hS a cc h3
  by_cases h4 : kd7 x.kind = 4
  · exact act_drop F S p x hS a cc h4
  by_cases h5 : kd7 x.kind = 5
  · exact act_sweep F S p x hS a cc h5
  by_cases h6 : kd7 x.kind = 6
  · exact act_clone F S p x hS a cc h6
  exact act_keep F S p x hS a cc h2 h3 h4 h5 h6
end
end Go.Proofs.Ytlhjioapbgnjfaa
