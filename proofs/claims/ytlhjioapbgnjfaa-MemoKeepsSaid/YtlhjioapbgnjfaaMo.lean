/- DERIVED. Memos, as lists of entries: what is told, kept, dropped. -/
import Derived.Test.YtlhjioapbgnjfaaMn
namespace Go.Proofs.Ytlhjioapbgnjfaa
set_option linter.unusedSimpArgs false
set_option linter.unusedVariables false
open Go Sl Cv Go.RowKit
section
variable (p : Nat) (S : MS) (F : List HP)
theorem mshut {S : MS} (w : MW S) : Ent (mem p w.m w.o w.mo S.c S.now w.kv w.kvo w.L F) (MEM p S :: F) := Ent.exI (A := MEM p S) (B := mem p w.m w.o w.mo S.c S.now w.kv w.kvo w.L []) fun _ s => ⟨⟨w, s⟩⟩
theorem msp {f : FuncId} {args : List Value} {Post : Value → List HP → Prop} (H : ∀ w : MW S, Sp Try.prog f args (mem p w.m w.o w.mo S.c S.now w.kv w.kvo w.L F) Post) : Sp Try.prog f args (MEM p S :: F) Post := Sp.exI (fun _ a => a.is) H
variable (now : Int) (k : SK) (u : OT)
theorem is_no (t : Int) (h : t < 0 ∨ 4611686018427387904 < t) : Sp Try.prog 50 [.int .i64 t] F fun r M => r = .bool false ∧ M = F := by
  rcases h with h | h
  · refine sp_of Try.func50 rfl Try.ntmps50 rfl fun w0 => ?_
    (repeat' (first | (show KQ _ _ _ _ _; first | refine kq_cons ?_ | refine kq_seq ?_ | refine kq_region ?_ | with_reducible refine kq_nil ?_ | with_reducible refine kq_then ?_ | with_reducible refine kq_then_ret ?_ | with_reducible refine kq_ret ?_ | with_reducible refine kq_np ?_ | with_reducible refine kq_norm ?_ | refine kq_do ?_ | refine kq_not ?_ | refine kq_not0 ?_ | ((first | refine kq_guard (fun hc => ?_) (fun hc => ?_)) <;> ((try simp only [decide_eq_true_eq, decide_eq_false_iff_not, Bool.not_eq_true', Bool.not_eq_false', Int.not_lt, Int.not_le] at hc); try (exfalso; first | (simp at hc; done) | (simp [*] at hc; done) | omega | (simp at hc; omega))))) | (show WX _ _ _ _ _ _ _ _; first | refine w_pure p_move ?_ | refine w_pure p_asg ?_ | (show WX _ _ ⟨_, .binOp _ _ _ _ _, _, _, _, _⟩ _ _ _ _ _; first | refine w_pure p_leq ?_ | refine w_pure p_geq ?_) | refine w_pure p_pt ?_ | refine w_pure p_pf ?_ | fail) | fail))
    all_goals (refine kq_fin ?_; exact ⟨_, ⟨rfl, rfl⟩, Ent.auto⟩)
  · refine sp_of Try.func50 rfl Try.ntmps50 rfl fun w0 => ?_
    (repeat' (first | (show KQ _ _ _ _ _; first | refine kq_cons ?_ | refine kq_seq ?_ | refine kq_region ?_ | with_reducible refine kq_nil ?_ | with_reducible refine kq_then ?_ | with_reducible refine kq_then_ret ?_ | with_reducible refine kq_ret ?_ | with_reducible refine kq_np ?_ | with_reducible refine kq_norm ?_ | refine kq_do ?_ | refine kq_not ?_ | refine kq_not0 ?_ | ((first | refine kq_guard (fun hc => ?_) (fun hc => ?_)) <;> ((try simp only [decide_eq_true_eq, decide_eq_false_iff_not, Bool.not_eq_true', Bool.not_eq_false', Int.not_lt, Int.not_le] at hc); try (exfalso; first | (simp at hc; done) | (simp [*] at hc; done) | omega | (simp at hc; omega))))) | (show WX _ _ _ _ _ _ _ _; first | refine w_pure p_move ?_ | refine w_pure p_asg ?_ | (show WX _ _ ⟨_, .binOp _ _ _ _ _, _, _, _, _⟩ _ _ _ _ _; first | refine w_pure p_leq ?_ | refine w_pure p_geq ?_) | refine w_pure p_pt ?_ | refine w_pure p_pf ?_ | fail) | fail))
    all_goals (refine kq_fin ?_; apply Exists.intro; apply And.intro; (focus (refine ⟨?_, rfl⟩; simp [tup]; omega)); exact Ent.auto)
theorem mmay_spec (m o mo : Nat) (c : CF) (cur : Int) (kv : List (SK × KP)) (kvo L : LL) : Sp Try.prog 31 [ptr p, .int .i64 now] (mem p m o mo c cur kv kvo L F) fun r M => r = .int .i64 (mTick ⟨c, cur, []⟩ now) ∧ M = mem p m o mo c cur kv kvo L F := by
  by_cases h : 0 ≤ now ∧ now ≤ 4611686018427387904
  · have hi := fun F => is_yes F now h
    rw [mTick, if_pos h]
    by_cases h2 : now < cur
    · rw [if_pos h2]
      refine sp_of Try.func31 rfl Try.ntmps31 rfl fun w0 => ?_
      (repeat' (first | (show KQ _ _ _ _ _; first | refine kq_cons ?_ | refine kq_seq ?_ | refine kq_region ?_ | with_reducible refine kq_nil ?_ | with_reducible refine kq_then ?_ | with_reducible refine kq_then_ret ?_ | refine kq_block ?_ | with_reducible refine kq_ret ?_ | with_reducible refine kq_skip ?_ | with_reducible refine kq_in ?_ | with_reducible refine kq_in_ret ?_ | with_reducible refine kq_np ?_ | with_reducible refine kq_norm ?_ | refine kq_cond_t ?_ | refine kq_cond_f ?_ | ((first | refine kq_cond (fun hc => ?_) (fun hc => ?_)) <;> ((try simp only [decide_eq_true_eq, decide_eq_false_iff_not, Bool.not_eq_true', Bool.not_eq_false', Int.not_lt, Int.not_le] at hc); try (exfalso; first | (simp at hc; done) | (simp [*] at hc; done) | omega | (simp at hc; omega))))) | (show WX _ _ _ _ _ _ _ _; first | refine w_pure p_move ?_ | refine w_pure p_asg ?_ | refine w_pure p_fld0 ?_ | refine w_pure p_fldk ?_ | refine w_pure p_flda ?_ | refine w_pure p_fldr ?_ | refine w_pure p_ld ?_ | refine w_pure p_lda ?_ | (show WX _ _ ⟨_, .binOp _ _ _ _ _, _, _, _, _⟩ _ _ _ _ _; first | refine w_pure p_lss ?_ | refine w_pure p_eq ?_ | refine w_pure p_eqb ?_ | refine w_pure p_eqn0 ?_ | refine w_pure p_eqn1 ?_ | refine w_pure p_eqn ?_ | refine w_pure p_eqs0 ?_ | refine w_pure p_eqs1 ?_ | refine w_pure p_eqs ?_ | refine w_pure p_eqt ?_ | refine w_pure p_eqa ?_ | refine w_pure p_eqf ?_ | refine w_pure p_eqm ?_) | refine w_pure p_nil ?_ | refine w_pure p_nilf ?_ | refine w_pure p_nott ?_ | refine w_pure p_notf ?_ | refine w_pure p_not ?_ | refine w_pure p_neg ?_ | (refine w_call (hi _) ?_; rintro r L ⟨rfl, rfl⟩) | fail) | fail))
      all_goals (refine kq_fin ?_; exact ⟨_, ⟨rfl, rfl⟩, Ent.auto⟩)
    · rw [if_neg h2]
      refine sp_of Try.func31 rfl Try.ntmps31 rfl fun w0 => ?_
      (repeat' (first | (show KQ _ _ _ _ _; first | refine kq_cons ?_ | refine kq_seq ?_ | refine kq_region ?_ | with_reducible refine kq_nil ?_ | with_reducible refine kq_then ?_ | with_reducible refine kq_then_ret ?_ | refine kq_block ?_ | with_reducible refine kq_ret ?_ | with_reducible refine kq_skip ?_ | with_reducible refine kq_in ?_ | with_reducible refine kq_in_ret ?_ | with_reducible refine kq_np ?_ | with_reducible refine kq_norm ?_ | refine kq_cond_t ?_ | refine kq_cond_f ?_ | ((first | refine kq_cond (fun hc => ?_) (fun hc => ?_)) <;> ((try simp only [decide_eq_true_eq, decide_eq_false_iff_not, Bool.not_eq_true', Bool.not_eq_false', Int.not_lt, Int.not_le] at hc); try (exfalso; first | (simp at hc; done) | (simp [*] at hc; done) | omega | (simp at hc; omega))))) | (show WX _ _ _ _ _ _ _ _; first | refine w_pure p_move ?_ | refine w_pure p_asg ?_ | refine w_pure p_fld0 ?_ | refine w_pure p_fldk ?_ | refine w_pure p_flda ?_ | refine w_pure p_fldr ?_ | refine w_pure p_ld ?_ | refine w_pure p_lda ?_ | (show WX _ _ ⟨_, .binOp _ _ _ _ _, _, _, _, _⟩ _ _ _ _ _; first | refine w_pure p_lss ?_ | refine w_pure p_eq ?_ | refine w_pure p_eqb ?_ | refine w_pure p_eqn0 ?_ | refine w_pure p_eqn1 ?_ | refine w_pure p_eqn ?_ | refine w_pure p_eqs0 ?_ | refine w_pure p_eqs1 ?_ | refine w_pure p_eqs ?_ | refine w_pure p_eqt ?_ | refine w_pure p_eqa ?_ | refine w_pure p_eqf ?_ | refine w_pure p_eqm ?_) | refine w_pure p_nil ?_ | refine w_pure p_nilf ?_ | refine w_pure p_nott ?_ | refine w_pure p_notf ?_ | refine w_pure p_not ?_ | refine w_pure p_neg ?_ | (refine w_call (hi _) ?_; rintro r L ⟨rfl, rfl⟩) | fail) | fail))
      all_goals (refine kq_fin ?_; exact ⟨_, ⟨rfl, rfl⟩, Ent.auto⟩)
  · have hi := fun F => is_no F now (by omega)
    rw [mTick, if_neg h]
    refine sp_of Try.func31 rfl Try.ntmps31 rfl fun w0 => ?_
    (repeat' (first | (show KQ _ _ _ _ _; first | refine kq_cons ?_ | refine kq_seq ?_ | refine kq_region ?_ | with_reducible refine kq_nil ?_ | with_reducible refine kq_then ?_ | with_reducible refine kq_then_ret ?_ | refine kq_block ?_ | with_reducible refine kq_ret ?_ | with_reducible refine kq_skip ?_ | with_reducible refine kq_in ?_ | with_reducible refine kq_in_ret ?_ | with_reducible refine kq_np ?_ | with_reducible refine kq_norm ?_ | refine kq_cond_t ?_ | refine kq_cond_f ?_ | ((first | refine kq_cond (fun hc => ?_) (fun hc => ?_)) <;> ((try simp only [decide_eq_true_eq, decide_eq_false_iff_not, Bool.not_eq_true', Bool.not_eq_false', Int.not_lt, Int.not_le] at hc); try (exfalso; first | (simp at hc; done) | (simp [*] at hc; done) | omega | (simp at hc; omega))))) | (show WX _ _ _ _ _ _ _ _; first | refine w_pure p_move ?_ | refine w_pure p_asg ?_ | refine w_pure p_fld0 ?_ | refine w_pure p_fldk ?_ | refine w_pure p_flda ?_ | refine w_pure p_fldr ?_ | refine w_pure p_ld ?_ | refine w_pure p_lda ?_ | (show WX _ _ ⟨_, .binOp _ _ _ _ _, _, _, _, _⟩ _ _ _ _ _; first | refine w_pure p_lss ?_ | refine w_pure p_eq ?_ | refine w_pure p_eqb ?_ | refine w_pure p_eqn0 ?_ | refine w_pure p_eqn1 ?_ | refine w_pure p_eqn ?_ | refine w_pure p_eqs0 ?_ | refine w_pure p_eqs1 ?_ | refine w_pure p_eqs ?_ | refine w_pure p_eqt ?_ | refine w_pure p_eqa ?_ | refine w_pure p_eqf ?_ | refine w_pure p_eqm ?_) | refine w_pure p_nil ?_ | refine w_pure p_nilf ?_ | refine w_pure p_nott ?_ | refine w_pure p_notf ?_ | refine w_pure p_not ?_ | refine w_pure p_neg ?_ | (refine w_call (hi _) ?_; rintro r L ⟨rfl, rfl⟩) | fail) | fail))
    all_goals (refine kq_fin ?_; exact ⟨_, ⟨rfl, rfl⟩, Ent.auto⟩)
theorem chk_cases (k : SK) : chk k = 0 ∨ chk k = 20 := by unfold chk; split <;> simp
/-! ### Look -/
theorem look_ok (hS : MOk S) (ht : mTick S now = 0) (hk : chk k = 0) : Sp Try.prog 15 [ptr p, .int .i64 now, skv k] (MEM p S :: F) fun r M => r = .tuple #[snv (seenO S.c now (fnd S.K k)), .int .i64 0] ∧ M = MEM p (mAt S now) :: F := by
  obtain ⟨t1, t2⟩ := mTick_ok ht
  refine msp p S F fun w => ?_
  have hg := w.get hS k
  cases hf : fnd S.K k with
  | some x =>
    rw [hf] at hg
    have ha := hS.at_ x (fnd_some hf).1
    refine Sp.post (mlook_there p w.m w.o w.mo S.c now S.now w.kv w.kvo w.L F x k hS.c hk hg ha.1 (by omega) t1.2 t2) ?_
    rintro r L ⟨rfl, rfl⟩
    exact ⟨_, ⟨rfl, rfl⟩, mshut p F (S := mAt S now) ⟨w.m, w.o, w.mo, w.kv, w.kvo, w.L, w.oi, w.ks, w.pm⟩⟩
  | none =>
    rw [hf] at hg
    refine Sp.post (mlook_no p w.m w.o w.mo S.c now S.now w.kv w.kvo w.L F k hk hg t1 t2) ?_
    rintro r L ⟨rfl, rfl⟩
    exact ⟨_, ⟨rfl, rfl⟩, mshut p F (S := mAt S now) ⟨w.m, w.o, w.mo, w.kv, w.kvo, w.L, w.oi, w.ks, w.pm⟩⟩
theorem look_err (he : ¬ mErr S now k = 0) : Sp Try.prog 15 [ptr p, .int .i64 now, skv k] (MEM p S :: F) fun r M => r = .tuple #[sn0, .int .i64 (mErr S now k)] ∧ M = MEM p S :: F := by
  refine Sp.post (Post := fun r M => r = .tuple #[sn0, .int .i64 (mErr S now k)] ∧ ∃ w : MW S, M = mem p w.m w.o w.mo S.c S.now w.kv w.kvo w.L F) (msp p S F fun w => ?_) (by rintro r L ⟨rfl, w, rfl⟩; exact ⟨_, ⟨rfl, rfl⟩, mshut p F w⟩)
  have hm := fun F => mmay_spec p F now w.m w.o w.mo S.c S.now w.kv w.kvo w.L
  have e : mTick ⟨S.c, S.now, []⟩ now = mTick S now := rfl
  rw [e] at hm
  unfold mErr at he ⊢
  by_cases ht : mTick S now = 0
  · rw [if_pos ht] at he ⊢
    rw [ht] at hm
    have hch := fun F => check_spec F k
    have h20 : chk k = 20 := by rcases chk_cases k with h | h; exact absurd h he; exact h
    rw [h20] at hch ⊢
    refine sp_of Try.func15 rfl Try.ntmps15 rfl fun w0 => ?_
    (repeat' (first | (show KQ _ _ _ _ _; first | refine kq_cons ?_ | refine kq_seq ?_ | refine kq_region ?_ | with_reducible refine kq_nil ?_ | with_reducible refine kq_then ?_ | with_reducible refine kq_then_ret ?_ | with_reducible refine kq_ret ?_ | with_reducible refine kq_skip ?_ | with_reducible refine kq_np ?_ | with_reducible refine kq_norm ?_ | refine kq_cond_t ?_ | refine kq_cond_f ?_ | ((first | refine kq_cond (fun hc => ?_) (fun hc => ?_)) <;> ((try simp only [decide_eq_true_eq, decide_eq_false_iff_not, Bool.not_eq_true', Bool.not_eq_false', Int.not_lt, Int.not_le] at hc); try (exfalso; first | (simp at hc; done) | (simp [*] at hc; done) | omega | (simp at hc; omega))))) | (show WX _ _ _ _ _ _ _ _; first | refine w_pure p_move ?_ | refine w_pure p_asg ?_ | refine w_pure p_fld0 ?_ | refine w_pure p_fldk ?_ | refine w_pure p_flda ?_ | refine w_pure p_fldr ?_ | refine w_pure p_ld ?_ | refine w_pure p_lda ?_ | (show WX _ _ ⟨_, .binOp _ _ _ _ _, _, _, _, _⟩ _ _ _ _ _; first | refine w_pure p_ne ?_ | refine w_pure p_neb ?_ | refine w_pure p_nen0 ?_ | refine w_pure p_nen1 ?_ | refine w_pure p_nen ?_ | refine w_pure p_nes0 ?_ | refine w_pure p_nes1 ?_ | refine w_pure p_nes ?_ | refine w_pure p_net ?_ | refine w_pure p_nea ?_) | refine w_pure p_nil ?_ | refine w_pure p_nilf ?_ | refine w_pure p_ext ?_ | refine w_pure p_nott ?_ | refine w_pure p_notf ?_ | refine w_pure p_not ?_ | refine w_pure p_neg ?_ | refine w_pure p_bld ?_ | refine w_pure p_lookt ?_ | refine w_pure p_lookf ?_ | refine w_pure p_look1 ?_ | refine w_pure p_look0 ?_ | refine w_st ?_ | refine w_str ?_ | refine w_stra ?_ | (refine w_al ?_; intro q) | (refine w_bx ?_; intro q) | (refine w_call (hm _) ?_; rintro r L ⟨rfl, rfl⟩) | (refine w_call (hch _) ?_; rintro r L ⟨rfl, rfl⟩) | fail) | fail))
    all_goals (refine kq_fin ?_; exact ⟨_, ⟨rfl, w, rfl⟩, Ent.auto⟩)
  · rw [if_neg ht] at he ⊢
    obtain ⟨e, hE⟩ : ∃ e, e = mTick S now := ⟨_, rfl⟩
    rw [← hE] at hm he ⊢
    refine sp_of Try.func15 rfl Try.ntmps15 rfl fun w0 => ?_
    (repeat' (first | (show KQ _ _ _ _ _; first | refine kq_cons ?_ | refine kq_seq ?_ | refine kq_region ?_ | with_reducible refine kq_nil ?_ | with_reducible refine kq_then ?_ | with_reducible refine kq_then_ret ?_ | with_reducible refine kq_ret ?_ | with_reducible refine kq_skip ?_ | with_reducible refine kq_np ?_ | with_reducible refine kq_norm ?_ | refine kq_cond_t ?_ | refine kq_cond_f ?_ | ((first | refine kq_cond (fun hc => ?_) (fun hc => ?_)) <;> ((try simp only [decide_eq_true_eq, decide_eq_false_iff_not, Bool.not_eq_true', Bool.not_eq_false', Int.not_lt, Int.not_le] at hc); try (exfalso; first | (simp at hc; done) | (simp [*] at hc; done) | omega | (simp at hc; omega))))) | (show WX _ _ _ _ _ _ _ _; first | refine w_pure p_move ?_ | refine w_pure p_asg ?_ | refine w_pure p_fld0 ?_ | refine w_pure p_fldk ?_ | refine w_pure p_flda ?_ | refine w_pure p_fldr ?_ | refine w_pure p_ld ?_ | refine w_pure p_lda ?_ | (show WX _ _ ⟨_, .binOp _ _ _ _ _, _, _, _, _⟩ _ _ _ _ _; first | refine w_pure p_ne ?_ | refine w_pure p_neb ?_ | refine w_pure p_nen0 ?_ | refine w_pure p_nen1 ?_ | refine w_pure p_nen ?_ | refine w_pure p_nes0 ?_ | refine w_pure p_nes1 ?_ | refine w_pure p_nes ?_ | refine w_pure p_net ?_ | refine w_pure p_nea ?_) | refine w_pure p_nil ?_ | refine w_pure p_nilf ?_ | refine w_pure p_ext ?_ | refine w_pure p_nott ?_ | refine w_pure p_notf ?_ | refine w_pure p_not ?_ | refine w_pure p_neg ?_ | refine w_pure p_bld ?_ | refine w_pure p_lookt ?_ | refine w_pure p_lookf ?_ | refine w_pure p_look1 ?_ | refine w_pure p_look0 ?_ | refine w_st ?_ | refine w_str ?_ | refine w_stra ?_ | (refine w_al ?_; intro q) | (refine w_bx ?_; intro q) | (refine w_call (hm _) ?_; rintro r L ⟨rfl, rfl⟩) | fail) | fail))
    all_goals (refine kq_fin ?_; exact ⟨_, ⟨rfl, w, rfl⟩, Ent.auto⟩)
/-! ### Tell -/
theorem tell_err (he : ¬ mErr S now k = 0) : Sp Try.prog 10 [ptr p, .int .i64 now, skv k] (MEM p S :: F) fun r M => r = .tuple #[sn0, .int .i64 (mErr S now k)] ∧ M = MEM p S :: F := by
  have hl := fun F => look_err p S F now k he
  refine sp_of Try.func10 rfl Try.ntmps10 rfl fun w0 => ?_
  (repeat' (first | (show KQ _ _ _ _ _; first | refine kq_cons ?_ | refine kq_seq ?_ | refine kq_region ?_ | with_reducible refine kq_nil ?_ | with_reducible refine kq_then ?_ | with_reducible refine kq_then_ret ?_ | with_reducible refine kq_ret ?_ | with_reducible refine kq_skip ?_ | with_reducible refine kq_np ?_ | with_reducible refine kq_norm ?_ | refine kq_do ?_ | refine kq_not ?_ | refine kq_not0 ?_ | refine kq_cond_t ?_ | refine kq_cond_f ?_ | ((first | refine kq_guard (fun hc => ?_) (fun hc => ?_) | refine kq_cond (fun hc => ?_) (fun hc => ?_)) <;> ((try simp only [decide_eq_true_eq, decide_eq_false_iff_not, Bool.not_eq_true', Bool.not_eq_false', Int.not_lt, Int.not_le] at hc); try (exfalso; first | (simp at hc; done) | (simp [*] at hc; done) | omega | (simp at hc; omega))))) | (show WX _ _ _ _ _ _ _ _; first | refine w_pure p_move ?_ | refine w_pure p_asg ?_ | refine w_pure p_fld0 ?_ | refine w_pure p_fldk ?_ | refine w_pure p_flda ?_ | refine w_pure p_fldr ?_ | refine w_pure p_ld ?_ | refine w_pure p_lda ?_ | (show WX _ _ ⟨_, .binOp _ _ _ _ _, _, _, _, _⟩ _ _ _ _ _; first | refine w_pure p_eq ?_ | refine w_pure p_eqb ?_ | refine w_pure p_eqn0 ?_ | refine w_pure p_eqn1 ?_ | refine w_pure p_eqn ?_ | refine w_pure p_eqs0 ?_ | refine w_pure p_eqs1 ?_ | refine w_pure p_eqs ?_ | refine w_pure p_eqt ?_ | refine w_pure p_eqa ?_ | refine w_pure p_eqf ?_ | refine w_pure p_eqm ?_) | refine w_pure p_nil ?_ | refine w_pure p_nilf ?_ | refine w_pure p_ext ?_ | refine w_pure p_pt ?_ | refine w_pure p_pf ?_ | refine w_st ?_ | refine w_str ?_ | refine w_stra ?_ | (refine w_al ?_; intro q) | (refine w_bx ?_; intro q) | (refine w_call (hl _) ?_; rintro r L ⟨rfl, rfl⟩) | fail) | fail))
  all_goals (refine kq_fin ?_; exact ⟨_, ⟨rfl, rfl⟩, Ent.auto⟩)
theorem tell_ok (hS : MOk S) (ht : mTick S now = 0) (hk : chk k = 0) : Sp Try.prog 10 [ptr p, .int .i64 now, skv k] (MEM p S :: F) fun r M => r = .tuple #[snv (seenO S.c now (fnd S.K k)), .int .i64 0] ∧ M = MEM p (mTell S now k) :: F := by
  obtain ⟨t1, t2⟩ := mTick_ok ht
  by_cases hh : (seenO S.c now (fnd S.K k)).how = 1 ∨ (seenO S.c now (fnd S.K k)).how = 2
  · rw [mTell, if_pos hh]
    refine msp p S F fun w => ?_
    have hg := w.get hS k
    cases hf : fnd S.K k with
    | none => rw [hf] at hh; rcases hh with h | h <;> cases h
    | some x =>
      rw [hf] at hg hh
      have ha := hS.at_ x (fnd_some hf).1
      refine Sp.post (mtell_used p w.m w.o w.mo S.c now S.now w.kv w.kvo w.L F x k hS.c w.oi hk hg ha.1 (by omega) t1.2 t2 hh) ?_
      rintro r L ⟨L', g1, g2, rfl, rfl⟩
      exact ⟨_, ⟨rfl, rfl⟩, mshut p F (S := ⟨S.c, now, useM S.K k⟩) ⟨w.m, w.o, w.mo, w.kv, w.kvo, L', g1, by rw [g2, w.ks, useM_keys], w.pm.trans ((useM_perm hS.nd).map _)⟩⟩
  · rw [mTell, if_neg hh]
    have hl := fun F => look_ok p S F now k hS ht hk
    obtain ⟨s, hs⟩ : ∃ s, s = seenO S.c now (fnd S.K k) := ⟨_, rfl⟩
    rw [← hs] at hl hh ⊢
    have h1 : ¬ s.how = 1 := fun h => hh (.inl h)
    have h2 : ¬ s.how = 2 := fun h => hh (.inr h)
    refine sp_of Try.func10 rfl Try.ntmps10 rfl fun w0 => ?_
    (repeat' (first | (show KQ _ _ _ _ _; first | refine kq_cons ?_ | refine kq_seq ?_ | refine kq_region ?_ | with_reducible refine kq_nil ?_ | with_reducible refine kq_then ?_ | with_reducible refine kq_then_ret ?_ | with_reducible refine kq_ret ?_ | with_reducible refine kq_skip ?_ | with_reducible refine kq_np ?_ | with_reducible refine kq_norm ?_ | refine kq_do ?_ | refine kq_not ?_ | refine kq_not0 ?_ | refine kq_cond_t ?_ | refine kq_cond_f ?_ | ((first | refine kq_guard (fun hc => ?_) (fun hc => ?_) | refine kq_cond (fun hc => ?_) (fun hc => ?_)) <;> ((try simp only [decide_eq_true_eq, decide_eq_false_iff_not, Bool.not_eq_true', Bool.not_eq_false', Int.not_lt, Int.not_le] at hc); try (exfalso; first | (simp at hc; done) | (simp [*] at hc; done) | omega | (simp at hc; omega))))) | (show WX _ _ _ _ _ _ _ _; first | refine w_pure p_move ?_ | refine w_pure p_asg ?_ | refine w_pure p_fld0 ?_ | refine w_pure p_fldk ?_ | refine w_pure p_flda ?_ | refine w_pure p_fldr ?_ | refine w_pure p_ld ?_ | refine w_pure p_lda ?_ | (show WX _ _ ⟨_, .binOp _ _ _ _ _, _, _, _, _⟩ _ _ _ _ _; first | refine w_pure p_eq ?_ | refine w_pure p_eqb ?_ | refine w_pure p_eqn0 ?_ | refine w_pure p_eqn1 ?_ | refine w_pure p_eqn ?_ | refine w_pure p_eqs0 ?_ | refine w_pure p_eqs1 ?_ | refine w_pure p_eqs ?_ | refine w_pure p_eqt ?_ | refine w_pure p_eqa ?_ | refine w_pure p_eqf ?_ | refine w_pure p_eqm ?_) | refine w_pure p_nil ?_ | refine w_pure p_nilf ?_ | refine w_pure p_ext ?_ | refine w_pure p_pt ?_ | refine w_pure p_pf ?_ | refine w_st ?_ | refine w_str ?_ | refine w_stra ?_ | (refine w_al ?_; intro q) | (refine w_bx ?_; intro q) | (refine w_call (hl _) ?_; rintro r L ⟨rfl, rfl⟩) | fail) | fail))
    all_goals (refine kq_fin ?_; exact ⟨_, ⟨rfl, rfl⟩, Ent.auto⟩)
/-! ### Get, Len, Now, Config -/
def kpo : Option KP → Value
  | none => kp0
  | some x => kpv x
theorem get_spec (hS : MOk S) : Sp Try.prog 12 [ptr p, skv k] (MEM p S :: F) fun r M => r = .tuple #[kpo (fnd S.K k), .bool (fnd S.K k).isSome] ∧ M = MEM p S :: F := by
  refine msp p S F fun w => ?_
  have hg := w.get hS k
  cases hf : fnd S.K k with
  | some x =>
    rw [hf] at hg
    refine Sp.post (mget_there p w.m w.o w.mo S.c S.now w.kv w.kvo w.L F x k hg) ?_
    rintro r L ⟨rfl, rfl⟩
    exact ⟨_, ⟨rfl, rfl⟩, mshut p F w⟩
  | none =>
    rw [hf] at hg
    refine Sp.post (mget_no p w.m w.o w.mo S.c S.now w.kv w.kvo w.L F k hg) ?_
    rintro r L ⟨rfl, rfl⟩
    exact ⟨_, ⟨rfl, rfl⟩, mshut p F w⟩
theorem len_spec : Sp Try.prog 13 [ptr p] (MEM p S :: F) fun r M => r = .int .i64 S.K.length ∧ M = MEM p S :: F := by
  refine msp p S F fun w => ?_
  refine Sp.post (mlen_spec p w.m w.o w.mo S.c S.now w.kv w.kvo w.L F (by rw [w.len.1, w.len.2])) ?_
  rintro r L ⟨rfl, rfl⟩
  exact ⟨_, ⟨by rw [w.len.2], rfl⟩, mshut p F w⟩
theorem now_spec : Sp Try.prog 23 [ptr p] (MEM p S :: F) fun r M => r = .int .i64 S.now ∧ M = MEM p S :: F := by
  refine Sp.post (Post := fun r M => r = .int .i64 S.now ∧ ∃ w : MW S, M = mem p w.m w.o w.mo S.c S.now w.kv w.kvo w.L F) (msp p S F fun w => ?_) (by rintro r L ⟨rfl, w, rfl⟩; exact ⟨_, ⟨rfl, rfl⟩, mshut p F w⟩)
  refine sp_of Try.func23 rfl Try.ntmps23 rfl fun w0 => ?_
  (repeat' (first | (show KQ _ _ _ _ _; first | refine kq_cons ?_ | refine kq_seq ?_ | refine kq_region ?_ | with_reducible refine kq_nil ?_ | with_reducible refine kq_then ?_ | with_reducible refine kq_then_ret ?_ | with_reducible refine kq_ret ?_ | with_reducible refine kq_skip ?_ | with_reducible refine kq_np ?_ | with_reducible refine kq_norm ?_ | refine kq_cond_t ?_ | refine kq_cond_f ?_ | ((first | refine kq_cond (fun hc => ?_) (fun hc => ?_)) <;> ((try simp only [decide_eq_true_eq, decide_eq_false_iff_not, Bool.not_eq_true', Bool.not_eq_false', Int.not_lt, Int.not_le] at hc); try (exfalso; first | (simp at hc; done) | (simp [*] at hc; done) | omega | (simp at hc; omega))))) | (show WX _ _ _ _ _ _ _ _; first | refine w_pure p_move ?_ | refine w_pure p_asg ?_ | refine w_pure p_fld0 ?_ | refine w_pure p_fldk ?_ | refine w_pure p_flda ?_ | refine w_pure p_fldr ?_ | refine w_pure p_ld ?_ | refine w_pure p_lda ?_ | (show WX _ _ ⟨_, .binOp _ _ _ _ _, _, _, _, _⟩ _ _ _ _ _; first | refine w_pure p_eq ?_ | refine w_pure p_eqb ?_ | refine w_pure p_eqn0 ?_ | refine w_pure p_eqn1 ?_ | refine w_pure p_eqn ?_ | refine w_pure p_eqs0 ?_ | refine w_pure p_eqs1 ?_ | refine w_pure p_eqs ?_ | refine w_pure p_eqt ?_ | refine w_pure p_eqa ?_ | refine w_pure p_eqf ?_ | refine w_pure p_eqm ?_) | refine w_pure p_nil ?_ | refine w_pure p_nilf ?_ | fail) | fail))
  all_goals (refine kq_fin ?_; exact ⟨_, ⟨rfl, w, rfl⟩, Ent.auto⟩)
theorem config_spec : Sp Try.prog 24 [ptr p] (MEM p S :: F) fun r M => r = .agg (cfl S.c).toArray ∧ M = MEM p S :: F := by
  refine Sp.post (Post := fun r M => r = .agg (cfl S.c).toArray ∧ ∃ w : MW S, M = mem p w.m w.o w.mo S.c S.now w.kv w.kvo w.L F) (msp p S F fun w => ?_) (by rintro r L ⟨rfl, w, rfl⟩; exact ⟨_, ⟨rfl, rfl⟩, mshut p F w⟩)
  refine sp_of Try.func24 rfl Try.ntmps24 rfl fun w0 => ?_
  (repeat' (first | (show KQ _ _ _ _ _; first | refine kq_cons ?_ | refine kq_seq ?_ | refine kq_region ?_ | with_reducible refine kq_nil ?_ | with_reducible refine kq_then ?_ | with_reducible refine kq_then_ret ?_ | with_reducible refine kq_ret ?_ | with_reducible refine kq_skip ?_ | with_reducible refine kq_np ?_ | with_reducible refine kq_norm ?_ | refine kq_cond_t ?_ | refine kq_cond_f ?_ | ((first | refine kq_cond (fun hc => ?_) (fun hc => ?_)) <;> ((try simp only [decide_eq_true_eq, decide_eq_false_iff_not, Bool.not_eq_true', Bool.not_eq_false', Int.not_lt, Int.not_le] at hc); try (exfalso; first | (simp at hc; done) | (simp [*] at hc; done) | omega | (simp at hc; omega))))) | (show WX _ _ _ _ _ _ _ _; first | refine w_pure p_move ?_ | refine w_pure p_fld0 ?_ | refine w_pure p_fldk ?_ | refine w_pure p_flda ?_ | refine w_pure p_fldr ?_ | refine w_pure p_ld ?_ | refine w_pure p_lda ?_ | (show WX _ _ ⟨_, .binOp _ _ _ _ _, _, _, _, _⟩ _ _ _ _ _; first | refine w_pure p_eq ?_ | refine w_pure p_eqb ?_ | refine w_pure p_eqn0 ?_ | refine w_pure p_eqn1 ?_ | refine w_pure p_eqn ?_ | refine w_pure p_eqs0 ?_ | refine w_pure p_eqs1 ?_ | refine w_pure p_eqs ?_ | refine w_pure p_eqt ?_ | refine w_pure p_eqa ?_ | refine w_pure p_eqf ?_ | refine w_pure p_eqm ?_) | refine w_pure p_nil ?_ | refine w_pure p_nilf ?_ | refine w_pure p_bld ?_ | refine w_st ?_ | refine w_str ?_ | refine w_stra ?_ | (refine w_al ?_; intro q) | fail) | fail))
  all_goals (refine kq_fin ?_; exact ⟨_, ⟨rfl, w, rfl⟩, Ent.auto⟩)
/-! ### New -/
def mNew0 (c : CF) : MS := ⟨c, 0, []⟩
theorem mNew_ok {c : CF} (h : CfOk c) : MOk (mNew0 c) := ⟨h, ⟨Int.le_refl 0, by show (0 : Int) ≤ _; decide⟩, List.nodup_nil, h.e.1, by simp [mNew0], by simp [mNew0], by simp [mNew0]⟩
theorem new_ok (c : CF) (h : CfOk c) : Sp Try.prog 8 [.agg (cfl c).toArray] F fun r M => ∃ p, r = .tuple #[ptr p, .int .i64 0] ∧ M = MEM p (mNew0 c) :: F := by
  refine Sp.post (mnew_ok c F h) ?_
  rintro r L ⟨p, m, o, mo, rfl, rfl⟩
  exact ⟨_, ⟨p, rfl, rfl⟩, mshut p F (S := mNew0 c) ⟨m, o, mo, [], [], [], OI.nil, rfl, .nil⟩⟩
/-! ### Drop -/
theorem drop_spec' (hS : MOk S) : Sp Try.prog 22 [ptr p, skv k] (MEM p S :: F) fun r M => r = .bool (fnd S.K k).isSome ∧ M = MEM p (mDrop S k) :: F := by
  refine Sp.post (Post := fun r M => r = .bool (fnd S.K k).isSome ∧ ∃ w : MW (mDrop S k), M = mem p w.m w.o w.mo S.c S.now w.kv w.kvo w.L F) (msp p S F fun w => ?_) (by rintro r L ⟨rfl, w, rfl⟩; exact ⟨_, ⟨rfl, rfl⟩, mshut p F w⟩)
  have hd := fun F => drop_spec w.o w.mo S.c.ent w.kvo w.L F k w.oi
  have hdd : decide (k ∈ Ks w.L) = (fnd S.K k).isSome := by rw [w.ks, fnd_dec]
  have hp : (kdel w.kv k).Perm (prs (wo S.K k)) := by
    rw [kdel_filter k (w.nd hS), ← prs_wo]; exact w.pm.filter _
  refine sp_of Try.func22 rfl Try.ntmps22 rfl fun w0 => ?_
  (repeat' (first | (show KQ _ _ _ _ _; first | refine kq_cons ?_ | refine kq_seq ?_ | refine kq_region ?_ | with_reducible refine kq_nil ?_ | with_reducible refine kq_then ?_ | with_reducible refine kq_then_ret ?_ | with_reducible refine kq_ret ?_ | with_reducible refine kq_skip ?_ | with_reducible refine kq_np ?_ | with_reducible refine kq_norm ?_ | refine kq_cond_t ?_ | refine kq_cond_f ?_ | ((first | refine kq_cond (fun hc => ?_) (fun hc => ?_)) <;> ((try simp only [decide_eq_true_eq, decide_eq_false_iff_not, Bool.not_eq_true', Bool.not_eq_false', Int.not_lt, Int.not_le] at hc); try (exfalso; first | (simp at hc; done) | (simp [*] at hc; done) | omega | (simp at hc; omega))))) | (show WX _ _ _ _ _ _ _ _; first | refine w_pure p_move ?_ | refine w_pure p_asg ?_ | refine w_pure p_fld0 ?_ | refine w_pure p_fldk ?_ | refine w_pure p_flda ?_ | refine w_pure p_fldr ?_ | refine w_pure p_ld ?_ | refine w_pure p_lda ?_ | (show WX _ _ ⟨_, .binOp _ _ _ _ _, _, _, _, _⟩ _ _ _ _ _; first | refine w_pure p_eq ?_ | refine w_pure p_eqb ?_ | refine w_pure p_eqn0 ?_ | refine w_pure p_eqn1 ?_ | refine w_pure p_eqn ?_ | refine w_pure p_eqs0 ?_ | refine w_pure p_eqs1 ?_ | refine w_pure p_eqs ?_ | refine w_pure p_eqt ?_ | refine w_pure p_eqa ?_ | refine w_pure p_eqf ?_ | refine w_pure p_eqm ?_) | refine w_pure p_nil ?_ | refine w_pure p_nilf ?_ | (refine w_bx ?_; intro q) | refine w_md ?_ | fail) | fail))
  all_goals (refine kq_draw 3 (blk p (.cells (mcl S.c w.m w.o S.now).toArray 93 (0, 0)) :: blk q (.cells (skl k).toArray 33 (0, 0)) :: ord w.o w.mo S.c.ent w.kvo w.L F) 6 ?_; (all_goals refine kq_take 0 rfl p_move ?_); (all_goals (first | refine kq_take 1 rfl p_nil ?_ | refine kq_take 1 rfl p_nilf ?_)); (all_goals (first | refine kq_take 2 rfl p_fld0 ?_ | refine kq_take 2 rfl p_fldk ?_ | refine kq_take 2 rfl p_flda ?_ | refine kq_take 2 rfl p_fldr ?_)); (all_goals (first | refine kq_take 3 rfl p_ld ?_ | refine kq_take 3 rfl p_lda ?_)); (all_goals (first | refine kq_take 4 rfl p_ld ?_ | refine kq_take 4 rfl p_lda ?_)); (all_goals (refine kq_each [5] ⟨?_, trivial⟩; (refine kq_op ?_; first | refine w_md ?_))); (all_goals refine kq_done ?_))
  all_goals (repeat' (first | (show KQ _ _ _ _ _; first | refine kq_cons ?_ | refine kq_seq ?_ | refine kq_region ?_ | with_reducible refine kq_nil ?_ | with_reducible refine kq_then ?_ | with_reducible refine kq_then_ret ?_ | with_reducible refine kq_ret ?_ | with_reducible refine kq_skip ?_ | with_reducible refine kq_np ?_ | with_reducible refine kq_norm ?_ | refine kq_cond_t ?_ | refine kq_cond_f ?_ | ((first | refine kq_cond (fun hc => ?_) (fun hc => ?_)) <;> ((try simp only [decide_eq_true_eq, decide_eq_false_iff_not, Bool.not_eq_true', Bool.not_eq_false', Int.not_lt, Int.not_le] at hc); try (exfalso; first | (simp at hc; done) | (simp [*] at hc; done) | omega | (simp at hc; omega))))) | (show WX _ _ _ _ _ _ _ _; first | refine w_pure p_move ?_ | refine w_pure p_asg ?_ | refine w_pure p_fld0 ?_ | refine w_pure p_fldk ?_ | refine w_pure p_flda ?_ | refine w_pure p_fldr ?_ | refine w_pure p_ld ?_ | refine w_pure p_lda ?_ | (show WX _ _ ⟨_, .binOp _ _ _ _ _, _, _, _, _⟩ _ _ _ _ _; first | refine w_pure p_eq ?_ | refine w_pure p_eqb ?_ | refine w_pure p_eqn0 ?_ | refine w_pure p_eqn1 ?_ | refine w_pure p_eqn ?_ | refine w_pure p_eqs0 ?_ | refine w_pure p_eqs1 ?_ | refine w_pure p_eqs ?_ | refine w_pure p_eqt ?_ | refine w_pure p_eqa ?_ | refine w_pure p_eqf ?_ | refine w_pure p_eqm ?_) | refine w_pure p_nil ?_ | refine w_pure p_nilf ?_ | (refine w_bx ?_; intro q) | refine w_md ?_ | fail) | fail))
  all_goals (refine kq_draw 4 (blk p (.cells (mcl S.c w.m w.o S.now).toArray 93 (0, 0)) :: blk q (.cells (skl k).toArray 33 (0, 0)) :: mp w.m skv kpv (kdel w.kv k) :: F) 7 ?_; (all_goals refine kq_take 0 rfl p_move ?_); (all_goals (first | refine kq_take 1 rfl p_nil ?_ | refine kq_take 1 rfl p_nilf ?_)); (all_goals (first | refine kq_take 2 rfl p_fld0 ?_ | refine kq_take 2 rfl p_fldk ?_ | refine kq_take 2 rfl p_flda ?_ | refine kq_take 2 rfl p_fldr ?_)); (all_goals (first | refine kq_take 3 rfl p_ld ?_ | refine kq_take 3 rfl p_lda ?_)); (all_goals (first | refine kq_take 4 rfl p_ld ?_ | refine kq_take 4 rfl p_lda ?_)); (all_goals (refine kq_each [5] ⟨?_, trivial⟩; (refine kq_op ?_; first | (refine w_call (hd _) ?_; rintro r L ⟨kvo', L', g1, g2, rfl, rfl⟩)))); (all_goals refine kq_take 6 rfl p_asg ?_); (all_goals refine kq_done ?_))
  all_goals (repeat' (first | (show KQ _ _ _ _ _; first | refine kq_cons ?_ | refine kq_seq ?_ | refine kq_region ?_ | with_reducible refine kq_nil ?_ | with_reducible refine kq_then ?_ | with_reducible refine kq_then_ret ?_ | with_reducible refine kq_ret ?_ | with_reducible refine kq_skip ?_ | with_reducible refine kq_np ?_ | with_reducible refine kq_norm ?_ | refine kq_cond_t ?_ | refine kq_cond_f ?_ | ((first | refine kq_cond (fun hc => ?_) (fun hc => ?_)) <;> ((try simp only [decide_eq_true_eq, decide_eq_false_iff_not, Bool.not_eq_true', Bool.not_eq_false', Int.not_lt, Int.not_le] at hc); try (exfalso; first | (simp at hc; done) | (simp [*] at hc; done) | omega | (simp at hc; omega))))) | (show WX _ _ _ _ _ _ _ _; first | refine w_pure p_move ?_ | refine w_pure p_asg ?_ | refine w_pure p_fld0 ?_ | refine w_pure p_fldk ?_ | refine w_pure p_flda ?_ | refine w_pure p_fldr ?_ | refine w_pure p_ld ?_ | refine w_pure p_lda ?_ | (show WX _ _ ⟨_, .binOp _ _ _ _ _, _, _, _, _⟩ _ _ _ _ _; first | refine w_pure p_eq ?_ | refine w_pure p_eqb ?_ | refine w_pure p_eqn0 ?_ | refine w_pure p_eqn1 ?_ | refine w_pure p_eqn ?_ | refine w_pure p_eqs0 ?_ | refine w_pure p_eqs1 ?_ | refine w_pure p_eqs ?_ | refine w_pure p_eqt ?_ | refine w_pure p_eqa ?_ | refine w_pure p_eqf ?_ | refine w_pure p_eqm ?_) | refine w_pure p_nil ?_ | refine w_pure p_nilf ?_ | (refine w_bx ?_; intro q) | refine w_md ?_ | fail) | fail))
  all_goals (refine kq_fin ?_; exact ⟨_, ⟨by rw [hdd]; rfl, ⟨w.m, w.o, w.mo, kdel w.kv k, kvo', L', g1, by rw [g2, w.ks]; exact (kys_wo S.K k).symm, hp⟩, rfl⟩, Ent.auto⟩)
end
end Go.Proofs.Ytlhjioapbgnjfaa
