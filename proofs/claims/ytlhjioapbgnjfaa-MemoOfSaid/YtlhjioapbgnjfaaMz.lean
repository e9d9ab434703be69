/- DERIVED. Memos: what is done, on both sides: Drop, Sweep, clones; every act. -/
import Derived.Test.YtlhjioapbgnjfaaMx
import Derived.Test.YtlhjioapbgnjfaaMy
namespace Go.Proofs.Ytlhjioapbgnjfaa
set_option linter.unusedSimpArgs false
set_option linter.unusedVariables false
open Go Sl Cv Go.RowKit
section
variable (F : List HP) (S : MS) (p : Nat) (x : AM)
theorem keep_any (hS : MOk S) (now : Int) (k : SK) (u : OT) : Sp Try.prog 11 [ptr p, .int .i64 now, skv k, .agg (otl u).toArray] (MEM p S :: F) fun r M => ∃ S', MOk S' ∧ M = MEM p S' :: F := by
  by_cases he : mErr S now k = 0
  · obtain ⟨ht, hk⟩ := mErr_ok he
    cases hr : rightO u with
    | false =>
      refine Sp.post (keep_fail p now F k u S ht hk hr) ?_
      rintro r M ⟨-, rfl⟩
      exact ⟨_, ⟨S, hS, rfl⟩, Ent.rfl⟩
    | true =>
      cases hp : keepsM S.c u.k with
      | false =>
        refine Sp.post (keep_not p now F k u S ht hk hr hp) ?_
        rintro r M ⟨-, rfl⟩
        exact ⟨_, ⟨_, hS.at ht, rfl⟩, Ent.rfl⟩
      | true =>
        refine Sp.post (keep_ok p now F k u S hS ht hk hr hp) ?_
        rintro r M ⟨a, c, -, rfl⟩
        exact ⟨_, ⟨_, hS.keep ht hk hr hp, rfl⟩, Ent.drop'⟩
  · refine Sp.post (keep_err p now F k u S he) ?_
    rintro r M ⟨-, rfl⟩
    exact ⟨_, ⟨S, hS, rfl⟩, Ent.rfl⟩
def kd7 (k : Int) : Int := (IntKind.i64.wrap (k.tmod 7 + 7)).tmod 7
def actS (S : MS) (x : AM) : MS :=
  if kd7 x.kind = 2 then (if mErr S (atI S.now x) x.key = 0 then mAt S (atI S.now x) else S)
  else if kd7 x.kind = 3 then (if mErr S (atI S.now x) x.key = 0 then mTell S (atI S.now x) x.key else S)
  else if kd7 x.kind = 4 then mDrop S x.key
  else if kd7 x.kind = 5 then (if mTick S (atI S.now x) = 0 then mSweepS S (atI S.now x) else S)
  else if kd7 x.kind = 6 then S
  else keepS S x
abbrev APost (p : Nat) (F : List HP) (S' : MS) (r : Value) (M : List HP) : Prop := ∃ a2 c2, r = .tuple #[mdv S' a2 c2, .bool true] ∧ M = MEM p S' :: rrow a2 c2 S'.K :: F
set_option maxHeartbeats 8000000 in
theorem act_look (hS : MOk S) (a : Option Addr) (cc : Nat) (h2 : kd7 x.kind = 2) : Sp Try.prog 19 [ptr p, mdv S a cc, amv x] (MEM p S :: rrow a cc S.K :: F) fun r M => APost p F (actS S x) r M := by
  have e : actS S x = if mErr S (atI S.now x) x.key = 0 then mAt S (atI S.now x) else S := by rw [actS, if_pos h2]
  unfold kd7 at h2
  by_cases he : mErr S (atI S.now x) x.key = 0
  · rw [if_pos he] at e
    rw [e]
    have hl := fun F => look_look F S p x hS a cc he
    refine sp_of Try.func19 rfl Try.ntmps19 rfl fun w0 => ?_
    (repeat' (first | (show KQ _ _ _ _ _; first | refine kq_cons ?_ | refine kq_seq ?_ | refine kq_region ?_ | with_reducible refine kq_nil ?_ | with_reducible refine kq_then ?_ | with_reducible refine kq_then_ret ?_ | refine kq_block ?_ | with_reducible refine kq_ret ?_ | with_reducible refine kq_skip ?_ | with_reducible refine kq_in ?_ | with_reducible refine kq_in_ret ?_ | with_reducible refine kq_np ?_ | with_reducible refine kq_norm ?_ | refine kq_do ?_ | refine kq_not ?_ | refine kq_not0 ?_ | refine kq_cond_t ?_ | refine kq_cond_f ?_ | ((first | refine kq_guard (fun hc => ?_) (fun hc => ?_) | refine kq_cond (fun hc => ?_) (fun hc => ?_)) <;> ((try simp only [decide_eq_true_eq, decide_eq_false_iff_not, Bool.not_eq_true', Bool.not_eq_false', Int.not_lt, Int.not_le] at hc); try (exfalso; first | (simp at hc; done) | (simp [*] at hc; done) | omega | (simp at hc; omega))))) | (show WX _ _ _ _ _ _ _ _; first | refine w_pure p_move ?_ | refine w_pure p_asg ?_ | refine w_pure p_fld0 ?_ | refine w_pure p_fldk ?_ | refine w_pure p_flda ?_ | refine w_pure p_fldr ?_ | refine w_pure p_ld ?_ | refine w_pure p_lda ?_ | (show WX _ _ ⟨_, .binOp _ _ _ _ _, _, _, _, _⟩ _ _ _ _ _; first | refine w_pure p_add6 ?_ | refine w_pure p_add ?_ | refine w_pure p_adds ?_ | refine w_pure p_geq ?_ | refine w_pure p_eq ?_ | refine w_pure p_eqb ?_ | refine w_pure p_eqn0 ?_ | refine w_pure p_eqn1 ?_ | refine w_pure p_eqn ?_ | refine w_pure p_eqs0 ?_ | refine w_pure p_eqs1 ?_ | refine w_pure p_eqs ?_ | refine w_pure p_eqt ?_ | refine w_pure p_eqa ?_ | refine w_pure p_eqf ?_ | refine w_pure p_eqm ?_ | refine w_pure p_rem ?_ | refine w_pure p_ne ?_ | refine w_pure p_neb ?_ | refine w_pure p_nen0 ?_ | refine w_pure p_nen1 ?_ | refine w_pure p_nen ?_ | refine w_pure p_nes0 ?_ | refine w_pure p_nes1 ?_ | refine w_pure p_nes ?_ | refine w_pure p_net ?_ | refine w_pure p_nea ?_) | refine w_pure p_ext ?_ | refine w_pure p_pt ?_ | refine w_pure p_pf ?_ | refine w_pure p_nott ?_ | refine w_pure p_notf ?_ | refine w_pure p_not ?_ | refine w_pure p_neg ?_ | refine w_pure p_len ?_ | refine w_pure p_lens ?_ | refine w_pure p_lenm ?_ | refine w_pure p_bld ?_ | refine w_st ?_ | refine w_str ?_ | refine w_stra ?_ | (refine w_al ?_; intro q) | (refine w_bx ?_; intro q) | (refine w_call (hl _) ?_; rintro r L ⟨rfl, rfl⟩) | fail) | fail))
    all_goals (refine kq_fin ?_; exact ⟨_, ⟨a, cc, rfl, rfl⟩, Ent.auto⟩)
  · rw [if_neg he] at e
    rw [e]
    have hl := fun F => look_bad F S p x hS a cc false he
    refine sp_of Try.func19 rfl Try.ntmps19 rfl fun w0 => ?_
    (repeat' (first | (show KQ _ _ _ _ _; first | refine kq_cons ?_ | refine kq_seq ?_ | refine kq_region ?_ | with_reducible refine kq_nil ?_ | with_reducible refine kq_then ?_ | with_reducible refine kq_then_ret ?_ | refine kq_block ?_ | with_reducible refine kq_ret ?_ | with_reducible refine kq_skip ?_ | with_reducible refine kq_in ?_ | with_reducible refine kq_in_ret ?_ | with_reducible refine kq_np ?_ | with_reducible refine kq_norm ?_ | refine kq_do ?_ | refine kq_not ?_ | refine kq_not0 ?_ | refine kq_cond_t ?_ | refine kq_cond_f ?_ | ((first | refine kq_guard (fun hc => ?_) (fun hc => ?_) | refine kq_cond (fun hc => ?_) (fun hc => ?_)) <;> ((try simp only [decide_eq_true_eq, decide_eq_false_iff_not, Bool.not_eq_true', Bool.not_eq_false', Int.not_lt, Int.not_le] at hc); try (exfalso; first | (simp at hc; done) | (simp [*] at hc; done) | omega | (simp at hc; omega))))) | (show WX _ _ _ _ _ _ _ _; first | refine w_pure p_move ?_ | refine w_pure p_asg ?_ | refine w_pure p_fld0 ?_ | refine w_pure p_fldk ?_ | refine w_pure p_flda ?_ | refine w_pure p_fldr ?_ | refine w_pure p_ld ?_ | refine w_pure p_lda ?_ | (show WX _ _ ⟨_, .binOp _ _ _ _ _, _, _, _, _⟩ _ _ _ _ _; first | refine w_pure p_add6 ?_ | refine w_pure p_add ?_ | refine w_pure p_adds ?_ | refine w_pure p_geq ?_ | refine w_pure p_eq ?_ | refine w_pure p_eqb ?_ | refine w_pure p_eqn0 ?_ | refine w_pure p_eqn1 ?_ | refine w_pure p_eqn ?_ | refine w_pure p_eqs0 ?_ | refine w_pure p_eqs1 ?_ | refine w_pure p_eqs ?_ | refine w_pure p_eqt ?_ | refine w_pure p_eqa ?_ | refine w_pure p_eqf ?_ | refine w_pure p_eqm ?_ | refine w_pure p_rem ?_ | refine w_pure p_ne ?_ | refine w_pure p_neb ?_ | refine w_pure p_nen0 ?_ | refine w_pure p_nen1 ?_ | refine w_pure p_nen ?_ | refine w_pure p_nes0 ?_ | refine w_pure p_nes1 ?_ | refine w_pure p_nes ?_ | refine w_pure p_net ?_ | refine w_pure p_nea ?_) | refine w_pure p_ext ?_ | refine w_pure p_pt ?_ | refine w_pure p_pf ?_ | refine w_pure p_nott ?_ | refine w_pure p_notf ?_ | refine w_pure p_not ?_ | refine w_pure p_neg ?_ | refine w_pure p_len ?_ | refine w_pure p_lens ?_ | refine w_pure p_lenm ?_ | refine w_pure p_bld ?_ | refine w_st ?_ | refine w_str ?_ | refine w_stra ?_ | (refine w_al ?_; intro q) | (refine w_bx ?_; intro q) | (refine w_call (hl _) ?_; rintro r L ⟨rfl, rfl⟩) | fail) | fail))
    all_goals (refine kq_fin ?_; exact ⟨_, ⟨a, cc, rfl, rfl⟩, Ent.auto⟩)
set_option maxHeartbeats 8000000 in
theorem act_tell (hS : MOk S) (a : Option Addr) (cc : Nat) (h2 : kd7 x.kind = 3) : Sp Try.prog 19 [ptr p, mdv S a cc, amv x] (MEM p S :: rrow a cc S.K :: F) fun r M => APost p F (actS S x) r M := by
  have e : actS S x = if mErr S (atI S.now x) x.key = 0 then mTell S (atI S.now x) x.key else S := by rw [actS, if_neg (by omega), if_pos h2]
  unfold kd7 at h2
  by_cases he : mErr S (atI S.now x) x.key = 0
  · rw [if_pos he] at e
    rw [e]
    have hl := fun F => look_tell F S p x hS a cc he
    refine sp_of Try.func19 rfl Try.ntmps19 rfl fun w0 => ?_
    (repeat' (first | (show KQ _ _ _ _ _; first | refine kq_cons ?_ | refine kq_seq ?_ | refine kq_region ?_ | with_reducible refine kq_nil ?_ | with_reducible refine kq_then ?_ | with_reducible refine kq_then_ret ?_ | refine kq_block ?_ | with_reducible refine kq_ret ?_ | with_reducible refine kq_skip ?_ | with_reducible refine kq_in ?_ | with_reducible refine kq_in_ret ?_ | with_reducible refine kq_np ?_ | with_reducible refine kq_norm ?_ | refine kq_do ?_ | refine kq_not ?_ | refine kq_not0 ?_ | refine kq_cond_t ?_ | refine kq_cond_f ?_ | ((first | refine kq_guard (fun hc => ?_) (fun hc => ?_) | refine kq_cond (fun hc => ?_) (fun hc => ?_)) <;> ((try simp only [decide_eq_true_eq, decide_eq_false_iff_not, Bool.not_eq_true', Bool.not_eq_false', Int.not_lt, Int.not_le] at hc); try (exfalso; first | (simp at hc; done) | (simp [*] at hc; done) | omega | (simp at hc; omega))))) | (show WX _ _ _ _ _ _ _ _; first | refine w_pure p_move ?_ | refine w_pure p_asg ?_ | refine w_pure p_fld0 ?_ | refine w_pure p_fldk ?_ | refine w_pure p_flda ?_ | refine w_pure p_fldr ?_ | refine w_pure p_ld ?_ | refine w_pure p_lda ?_ | (show WX _ _ ⟨_, .binOp _ _ _ _ _, _, _, _, _⟩ _ _ _ _ _; first | refine w_pure p_add6 ?_ | refine w_pure p_add ?_ | refine w_pure p_adds ?_ | refine w_pure p_geq ?_ | refine w_pure p_eq ?_ | refine w_pure p_eqb ?_ | refine w_pure p_eqn0 ?_ | refine w_pure p_eqn1 ?_ | refine w_pure p_eqn ?_ | refine w_pure p_eqs0 ?_ | refine w_pure p_eqs1 ?_ | refine w_pure p_eqs ?_ | refine w_pure p_eqt ?_ | refine w_pure p_eqa ?_ | refine w_pure p_eqf ?_ | refine w_pure p_eqm ?_ | refine w_pure p_rem ?_ | refine w_pure p_ne ?_ | refine w_pure p_neb ?_ | refine w_pure p_nen0 ?_ | refine w_pure p_nen1 ?_ | refine w_pure p_nen ?_ | refine w_pure p_nes0 ?_ | refine w_pure p_nes1 ?_ | refine w_pure p_nes ?_ | refine w_pure p_net ?_ | refine w_pure p_nea ?_) | refine w_pure p_ext ?_ | refine w_pure p_pt ?_ | refine w_pure p_pf ?_ | refine w_pure p_nott ?_ | refine w_pure p_notf ?_ | refine w_pure p_not ?_ | refine w_pure p_neg ?_ | refine w_pure p_len ?_ | refine w_pure p_lens ?_ | refine w_pure p_lenm ?_ | refine w_pure p_bld ?_ | refine w_st ?_ | refine w_str ?_ | refine w_stra ?_ | (refine w_al ?_; intro q) | (refine w_bx ?_; intro q) | (refine w_call (hl _) ?_; rintro r L ⟨a2, c2, rfl, rfl⟩) | fail) | fail))
    all_goals (refine kq_fin ?_; exact ⟨_, ⟨a2, c2, rfl, rfl⟩, Ent.auto⟩)
  · rw [if_neg he] at e
    rw [e]
    have hl := fun F => look_bad F S p x hS a cc true he
    refine sp_of Try.func19 rfl Try.ntmps19 rfl fun w0 => ?_
    (repeat' (first | (show KQ _ _ _ _ _; first | refine kq_cons ?_ | refine kq_seq ?_ | refine kq_region ?_ | with_reducible refine kq_nil ?_ | with_reducible refine kq_then ?_ | with_reducible refine kq_then_ret ?_ | refine kq_block ?_ | with_reducible refine kq_ret ?_ | with_reducible refine kq_skip ?_ | with_reducible refine kq_in ?_ | with_reducible refine kq_in_ret ?_ | with_reducible refine kq_np ?_ | with_reducible refine kq_norm ?_ | refine kq_do ?_ | refine kq_not ?_ | refine kq_not0 ?_ | refine kq_cond_t ?_ | refine kq_cond_f ?_ | ((first | refine kq_guard (fun hc => ?_) (fun hc => ?_) | refine kq_cond (fun hc => ?_) (fun hc => ?_)) <;> ((try simp only [decide_eq_true_eq, decide_eq_false_iff_not, Bool.not_eq_true', Bool.not_eq_false', Int.not_lt, Int.not_le] at hc); try (exfalso; first | (simp at hc; done) | (simp [*] at hc; done) | omega | (simp at hc; omega))))) | (show WX _ _ _ _ _ _ _ _; first | refine w_pure p_move ?_ | refine w_pure p_asg ?_ | refine w_pure p_fld0 ?_ | refine w_pure p_fldk ?_ | refine w_pure p_flda ?_ | refine w_pure p_fldr ?_ | refine w_pure p_ld ?_ | refine w_pure p_lda ?_ | (show WX _ _ ⟨_, .binOp _ _ _ _ _, _, _, _, _⟩ _ _ _ _ _; first | refine w_pure p_add6 ?_ | refine w_pure p_add ?_ | refine w_pure p_adds ?_ | refine w_pure p_geq ?_ | refine w_pure p_eq ?_ | refine w_pure p_eqb ?_ | refine w_pure p_eqn0 ?_ | refine w_pure p_eqn1 ?_ | refine w_pure p_eqn ?_ | refine w_pure p_eqs0 ?_ | refine w_pure p_eqs1 ?_ | refine w_pure p_eqs ?_ | refine w_pure p_eqt ?_ | refine w_pure p_eqa ?_ | refine w_pure p_eqf ?_ | refine w_pure p_eqm ?_ | refine w_pure p_rem ?_ | refine w_pure p_ne ?_ | refine w_pure p_neb ?_ | refine w_pure p_nen0 ?_ | refine w_pure p_nen1 ?_ | refine w_pure p_nen ?_ | refine w_pure p_nes0 ?_ | refine w_pure p_nes1 ?_ | refine w_pure p_nes ?_ | refine w_pure p_net ?_ | refine w_pure p_nea ?_) | refine w_pure p_ext ?_ | refine w_pure p_pt ?_ | refine w_pure p_pf ?_ | refine w_pure p_nott ?_ | refine w_pure p_notf ?_ | refine w_pure p_not ?_ | refine w_pure p_neg ?_ | refine w_pure p_len ?_ | refine w_pure p_lens ?_ | refine w_pure p_lenm ?_ | refine w_pure p_bld ?_ | refine w_st ?_ | refine w_str ?_ | refine w_stra ?_ | (refine w_al ?_; intro q) | (refine w_bx ?_; intro q) | (refine w_call (hl _) ?_; rintro r L ⟨rfl, rfl⟩) | fail) | fail))
    all_goals (refine kq_fin ?_; exact ⟨_, ⟨a, cc, rfl, rfl⟩, Ent.auto⟩)
set_option maxHeartbeats 8000000 in
theorem act_keep (hS : MOk S) (a : Option Addr) (cc : Nat) (h2 : ¬ kd7 x.kind = 2) (h3 : ¬ kd7 x.kind = 3) (h4 : ¬ kd7 x.kind = 4) (h5 : ¬ kd7 x.kind = 5) (h6 : ¬ kd7 x.kind = 6) : Sp Try.prog 19 [ptr p, mdv S a cc, amv x] (MEM p S :: rrow a cc S.K :: F) fun r M => APost p F (actS S x) r M := by
  have e : actS S x = keepS S x := by rw [actS, if_neg h2, if_neg h3, if_neg h4, if_neg h5, if_neg h6]
  rw [e]
  have hl : ∀ F, Sp Try.prog 46 [ptr p, mdv S a cc, amv x] (MEM p S :: rrow a cc S.K :: F) fun r M => APost p F (keepS S x) r M := fun F => by
    by_cases he : mErr S (atI S.now x) x.key = 0
    · cases hr : rightO x.out with
      | false =>
        have : keepS S x = S := if_neg (by rw [hr]; simp)
        rw [this]
        exact (keep_wrong F S p x hS a cc he hr).mono fun r M h => ⟨a, cc, h.1, h.2⟩
      | true =>
        cases hp : keepsM S.c x.out.k with
        | false =>
          have : keepS S x = mAt S (atI S.now x) := by rw [keepS, if_pos ⟨he, hr⟩, if_neg (by rw [hp]; simp)]
          rw [this]
          exact (keep_nothing F S p x hS a cc he hr hp).mono fun r M h => ⟨a, cc, h.1, h.2⟩
        | true =>
          have : keepS S x = mKeep S (atI S.now x) x.key x.out := by rw [keepS, if_pos ⟨he, hr⟩, if_pos hp]
          rw [this]
          exact keep_good F S p x hS a cc he hr hp
    · have : keepS S x = S := if_neg (fun h => he h.1)
      rw [this]
      exact (keep_bad F S p x hS a cc he).mono fun r M h => ⟨a, cc, h.1, h.2⟩
  unfold kd7 at h2 h3 h4 h5 h6
  refine sp_of Try.func19 rfl Try.ntmps19 rfl fun w0 => ?_
  (repeat' (first | (show KQ _ _ _ _ _; first | refine kq_cons ?_ | refine kq_seq ?_ | refine kq_region ?_ | with_reducible refine kq_nil ?_ | with_reducible refine kq_then ?_ | with_reducible refine kq_then_ret ?_ | refine kq_block ?_ | with_reducible refine kq_ret ?_ | with_reducible refine kq_skip ?_ | with_reducible refine kq_in ?_ | with_reducible refine kq_in_ret ?_ | with_reducible refine kq_np ?_ | with_reducible refine kq_norm ?_ | refine kq_do ?_ | refine kq_not ?_ | refine kq_not0 ?_ | refine kq_cond_t ?_ | refine kq_cond_f ?_ | ((first | refine kq_guard (fun hc => ?_) (fun hc => ?_) | refine kq_cond (fun hc => ?_) (fun hc => ?_)) <;> ((try simp only [decide_eq_true_eq, decide_eq_false_iff_not, Bool.not_eq_true', Bool.not_eq_false', Int.not_lt, Int.not_le] at hc); try (exfalso; first | (simp at hc; done) | (simp [*] at hc; done) | omega | (simp at hc; omega))))) | (show WX _ _ _ _ _ _ _ _; first | refine w_pure p_move ?_ | refine w_pure p_asg ?_ | refine w_pure p_fld0 ?_ | refine w_pure p_fldk ?_ | refine w_pure p_flda ?_ | refine w_pure p_fldr ?_ | refine w_pure p_ld ?_ | refine w_pure p_lda ?_ | (show WX _ _ ⟨_, .binOp _ _ _ _ _, _, _, _, _⟩ _ _ _ _ _; first | refine w_pure p_add6 ?_ | refine w_pure p_add ?_ | refine w_pure p_adds ?_ | refine w_pure p_geq ?_ | refine w_pure p_eq ?_ | refine w_pure p_eqb ?_ | refine w_pure p_eqn0 ?_ | refine w_pure p_eqn1 ?_ | refine w_pure p_eqn ?_ | refine w_pure p_eqs0 ?_ | refine w_pure p_eqs1 ?_ | refine w_pure p_eqs ?_ | refine w_pure p_eqt ?_ | refine w_pure p_eqa ?_ | refine w_pure p_eqf ?_ | refine w_pure p_eqm ?_ | refine w_pure p_rem ?_ | refine w_pure p_ne ?_ | refine w_pure p_neb ?_ | refine w_pure p_nen0 ?_ | refine w_pure p_nen1 ?_ | refine w_pure p_nen ?_ | refine w_pure p_nes0 ?_ | refine w_pure p_nes1 ?_ | refine w_pure p_nes ?_ | refine w_pure p_net ?_ | refine w_pure p_nea ?_) | refine w_pure p_ext ?_ | refine w_pure p_pt ?_ | refine w_pure p_pf ?_ | refine w_pure p_nott ?_ | refine w_pure p_notf ?_ | refine w_pure p_not ?_ | refine w_pure p_neg ?_ | refine w_pure p_len ?_ | refine w_pure p_lens ?_ | refine w_pure p_lenm ?_ | refine w_pure p_bld ?_ | refine w_st ?_ | refine w_str ?_ | refine w_stra ?_ | (refine w_al ?_; intro q) | (refine w_bx ?_; intro q) | (refine w_call (hl _) ?_; rintro r L ⟨a2, c2, rfl, rfl⟩) | fail) | fail))
  all_goals (refine kq_fin ?_; exact ⟨_, ⟨a2, c2, rfl, rfl⟩, Ent.auto⟩)
end
end Go.Proofs.Ytlhjioapbgnjfaa
