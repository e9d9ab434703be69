/- DERIVED. Every Number, TakeNumber, Sign and Unsign: the law. -/
import Derived.Test.YtglmmljmieodaaaNw
import Derived.Test.YtglmmljmieodaaaVrd
namespace Go.Proofs.Ytglmmljmieodaaa
open Go Sl Cv Go.RowKit

theorem take_spec (s : ByteArray) (a : Int) (F : List HP) (ha : a ≤ 9223372036854775807) (hs : s.size ≤ 140737488351232) : Sp Try.prog 8 [.string s, .int .i64 a] F fun r L => r = tkV (Nm.take s a) ∧ L = F := by
  unfold Nm.take
  by_cases h : a < 0
  · rw [if_pos h]; exact take_lo s a F h
  · obtain ⟨n, rfl⟩ := Int.eq_ofNat_of_zero_le (by omega : 0 ≤ a)
    rw [if_neg h]; exact take_hi s n F (by omega) hs
theorem rtake_spec (s : ByteArray) (a : Int) (F : List HP) (ha : a ≤ 9223372036854775807) (hs : s.size ≤ 140737488351232) : Sp Try.prog 9 [.string s, .int .i64 a] F fun r L => r = tkV (Nm.take s a) ∧ L = F := by
  unfold Nm.take
  by_cases h : a < 0
  · rw [if_pos h]; exact rtake_lo s a F h
  · obtain ⟨n, rfl⟩ := Int.eq_ofNat_of_zero_le (by omega : 0 ≤ a)
    rw [if_neg h]; exact rtake_hi s n F (by omega) hs

theorem tk300 : Nm.take ⟨#[172, 2]⟩ 0 = (300, 2, true) := by decide
theorem num300 : strOf (Nm.numL 300) = ⟨#[172, 2]⟩ := by
  rw [Nm.numL_big (by decide), Nm.numL_low (by decide)]; rfl
theorem sign1 : Nm.sign (-1) = 1 := by decide

theorem take_aw (F : List HP) : Sp Try.prog 8 [.string ⟨#[172, 2]⟩, .int .i64 0] F fun r L => r = .tuple #[.int .u64 300, .int .i64 2, .bool true] ∧ L = F := by
  have := take_spec ⟨#[172, 2]⟩ 0 F (by decide) (by decide)
  rwa [tk300] at this
theorem number_aw (F : List HP) : Sp Try.prog 11 [.int .u64 300] F fun r L => r = .string ⟨#[172, 2]⟩ ∧ L = F := by
  have := number_spec 300 F (by decide)
  rwa [num300] at this
theorem sign_aw (F : List HP) : Sp Try.prog 13 [.int .i64 (-1)] F fun r L => r = .int .u64 1 ∧ L = F := by
  have := sign_spec (-1) F (by decide)
  rwa [sign1] at this
theorem awake_spec (F : List HP) : Sp Try.prog 10 [] F fun r L => r = .bool true ∧ L = F := by
  refine sp_of Try.func10 rfl Try.ntmps10 rfl fun w0 => ?_
  (repeat' (first | (show KQ _ _ _ _ _; first | refine kq_cons ?_ | refine kq_seq ?_ | refine kq_region ?_ | with_reducible refine kq_nil ?_ | with_reducible refine kq_then ?_ | with_reducible refine kq_then_ret ?_ | with_reducible refine kq_then_exit ?_ | refine kq_block ?_ | with_reducible refine kq_ret ?_ | with_reducible refine kq_skip ?_ | refine kq_exit ?_ | with_reducible refine kq_in ?_ | with_reducible refine kq_in_ret ?_ | with_reducible refine kq_in_hit ?_ | refine kq_in_miss ?_ | with_reducible refine kq_np ?_ | refine kq_do ?_ | refine kq_not ?_ | refine kq_not0 ?_ | refine kq_cond_t ?_ | refine kq_cond_f ?_ | ((first | refine kq_guard (fun hc => ?_) (fun hc => ?_) | refine kq_cond (fun hc => ?_) (fun hc => ?_)) <;> ((try simp only [decide_eq_true_eq, decide_eq_false_iff_not, Bool.not_eq_true', Bool.not_eq_false', Int.not_lt, Int.not_le] at hc); try (exfalso; first | (simp at hc; done) | (simp [*] at hc; done) | omega | (simp at hc; omega))))) | (show WX _ _ _ _ _ _ _ _; first | refine w_pure p_move ?_ | refine w_pure p_asg ?_ | refine w_pure p_fld0 ?_ | refine w_pure p_fldk ?_ | refine w_pure p_flda ?_ | refine w_pure p_ld ?_ | refine w_pure p_lda ?_ | (show WX _ _ ⟨_, .binOp _ _ _ _ _, _, _, _, _⟩ _ _ _ _ _; first | refine w_pure p_add6 ?_ | refine w_pure p_add ?_ | refine w_pure p_sub6 ?_ | refine w_pure p_sub ?_ | refine w_pure p_mul6 ?_ | refine w_pure p_mul ?_ | refine w_pure p_lss ?_ | refine w_pure p_leq ?_ | refine w_pure p_gtr ?_ | refine w_pure p_geq ?_ | refine w_pure p_eq ?_ | refine w_pure p_eqb ?_ | refine w_pure p_eqn0 ?_ | refine w_pure p_eqn1 ?_ | refine w_pure p_eqn ?_ | refine w_pure p_eqs0 ?_ | refine w_pure p_eqs1 ?_ | refine w_pure p_eqs ?_ | refine w_pure p_eqt ?_ | refine w_pure p_and ?_ | refine w_pure p_or ?_ | refine w_pure p_xor ?_ | refine w_pure p_quo ?_ | refine w_pure p_rem ?_ | refine w_pure p_shl ?_ | refine w_pure p_shr ?_ | refine w_pure p_ne ?_ | refine w_pure p_neb ?_ | refine w_pure p_nen0 ?_ | refine w_pure p_nen1 ?_ | refine w_pure p_nen ?_ | refine w_pure p_nes0 ?_ | refine w_pure p_nes1 ?_ | refine w_pure p_nes ?_ | refine w_pure p_net ?_) | refine w_pure p_nil ?_ | refine w_pure p_nilf ?_ | refine w_pure p_ext ?_ | refine w_pure p_pt ?_ | refine w_pure p_pf ?_ | refine w_pure p_nott ?_ | refine w_pure p_notf ?_ | refine w_pure p_not ?_ | refine w_pure p_neg ?_ | refine w_pure p_idx ?_ | refine w_pure p_len ?_ | refine w_pure p_lens ?_ | refine w_pure p_bld ?_ | refine w_pure p_idxs ?_ | refine w_pure p_part ?_ | refine w_pure p_parta ?_ | refine w_pure p_conv ?_ | refine w_pure p_b2s ?_ | refine w_pure p_min ?_ | refine w_st ?_ | (refine w_ap0 ?_; intro ao1 cap1) | (refine w_ap ?_; intro ao1 cap1) | (refine w_al ?_; intro q) | (refine w_bx ?_; intro q) | (refine w_bs ?_; intro q) | (refine w_call (take_aw _) ?_; rintro r L ⟨rfl, rfl⟩) | (refine w_call (number_aw _) ?_; rintro r L ⟨rfl, rfl⟩) | (refine w_call (sign_aw _) ?_; rintro r L ⟨rfl, rfl⟩))))
  all_goals (refine kq_fin ?_; exact ⟨_, ⟨rfl, rfl⟩, Ent.auto⟩)

theorem law_spec (x : Nat) (s : ByteArray) (a : Int) (F : List HP) (hx : x < 18446744073709551616) (ha : a ≤ 9223372036854775807) (hs : s.size ≤ 140737488351232) :
    Sp Try.prog 3 [.int .u64 x, .string s, .int .i64 a] F fun r L => r = .bool true ∧ L = F := by
  refine sp_of Try.func3 rfl Try.ntmps3 rfl fun w0 => ?_
  have hw : -9223372036854775808 ≤ IntKind.i64.wrap (x : Int) ∧ IntKind.i64.wrap (x : Int) ≤ 9223372036854775807 := by rw [Nm.wi]; omega
  (repeat' (first | (show KQ _ _ _ _ _; first | refine kq_cons ?_ | refine kq_seq ?_ | refine kq_region ?_ | with_reducible refine kq_nil ?_ | with_reducible refine kq_then ?_ | with_reducible refine kq_then_ret ?_ | with_reducible refine kq_then_exit ?_ | refine kq_block ?_ | with_reducible refine kq_ret ?_ | with_reducible refine kq_skip ?_ | refine kq_exit ?_ | with_reducible refine kq_in ?_ | with_reducible refine kq_in_ret ?_ | with_reducible refine kq_in_hit ?_ | refine kq_in_miss ?_ | with_reducible refine kq_np ?_ | refine kq_do ?_ | refine kq_not ?_ | refine kq_not0 ?_ | refine kq_cond_t ?_ | refine kq_cond_f ?_ | ((first | refine kq_guard (fun hc => ?_) (fun hc => ?_) | refine kq_cond (fun hc => ?_) (fun hc => ?_)) <;> ((try simp only [decide_eq_true_eq, decide_eq_false_iff_not, Bool.not_eq_true', Bool.not_eq_false', Int.not_lt, Int.not_le] at hc); try (exfalso; first | (simp at hc; done) | (simp [*] at hc; done) | omega | (simp at hc; omega))))) | (show WX _ _ _ _ _ _ _ _; first | refine w_pure p_move ?_ | refine w_pure p_asg ?_ | refine w_pure p_fld0 ?_ | refine w_pure p_fldk ?_ | refine w_pure p_flda ?_ | refine w_pure p_ld ?_ | refine w_pure p_lda ?_ | (show WX _ _ ⟨_, .binOp _ _ _ _ _, _, _, _, _⟩ _ _ _ _ _; first | refine w_pure p_add6 ?_ | refine w_pure p_add ?_ | refine w_pure p_sub6 ?_ | refine w_pure p_sub ?_ | refine w_pure p_mul6 ?_ | refine w_pure p_mul ?_ | refine w_pure p_lss ?_ | refine w_pure p_leq ?_ | refine w_pure p_gtr ?_ | refine w_pure p_geq ?_ | refine w_pure p_eq ?_ | refine w_pure p_eqb ?_ | refine w_pure p_eqn0 ?_ | refine w_pure p_eqn1 ?_ | refine w_pure p_eqn ?_ | refine w_pure p_eqs0 ?_ | refine w_pure p_eqs1 ?_ | refine w_pure p_eqs ?_ | refine w_pure p_eqt ?_ | refine w_pure p_and ?_ | refine w_pure p_or ?_ | refine w_pure p_xor ?_ | refine w_pure p_quo ?_ | refine w_pure p_rem ?_ | refine w_pure p_shl ?_ | refine w_pure p_shr ?_ | refine w_pure p_ne ?_ | refine w_pure p_neb ?_ | refine w_pure p_nen0 ?_ | refine w_pure p_nen1 ?_ | refine w_pure p_nen ?_ | refine w_pure p_nes0 ?_ | refine w_pure p_nes1 ?_ | refine w_pure p_nes ?_ | refine w_pure p_net ?_) | refine w_pure p_nil ?_ | refine w_pure p_nilf ?_ | refine w_pure p_ext ?_ | refine w_pure p_pt ?_ | refine w_pure p_pf ?_ | refine w_pure p_nott ?_ | refine w_pure p_notf ?_ | refine w_pure p_not ?_ | refine w_pure p_neg ?_ | refine w_pure p_idx ?_ | refine w_pure p_len ?_ | refine w_pure p_lens ?_ | refine w_pure p_bld ?_ | refine w_pure p_idxs ?_ | refine w_pure p_part ?_ | refine w_pure p_parta ?_ | refine w_pure p_conv ?_ | refine w_pure p_b2s ?_ | refine w_pure p_min ?_ | refine w_st ?_ | (refine w_ap0 ?_; intro ao1 cap1) | (refine w_ap ?_; intro ao1 cap1) | (refine w_al ?_; intro q) | (refine w_bx ?_; intro q) | (refine w_bs ?_; intro q) | (refine w_call (take_spec s a _ ha hs) ?_; rintro r L ⟨rfl, rfl⟩) | (refine w_call (rtake_spec s a _ ha hs) ?_; rintro r L ⟨rfl, rfl⟩) | (refine w_call (awake_spec _) ?_; rintro r L ⟨rfl, rfl⟩) | (refine w_call (number_spec x _ hx) ?_; rintro r L ⟨rfl, rfl⟩) | (refine w_call (rnumber_spec x _ hx) ?_; rintro r L ⟨rfl, rfl⟩) | (refine w_call (sign_spec _ _ hw) ?_; rintro r L ⟨rfl, rfl⟩) | (refine w_call (rsign_spec _ _ hw) ?_; rintro r L ⟨rfl, rfl⟩) | (refine w_call (unsign_spec x _ hx) ?_; rintro r L ⟨rfl, rfl⟩) | (refine w_call (runsign_spec x _ hx) ?_; rintro r L ⟨rfl, rfl⟩))))
  all_goals (refine kq_fin ?_; exact ⟨_, ⟨by simp [tup], rfl⟩, Ent.auto⟩)

theorem snapshotNumbers_walk (w : World) (x : Int) (s : ByteArray) (a : Int) (hx : (Lit.int .u64 x).wf = true) (hs : s.size ≤ 140737488351232) (ha : (Lit.int .i64 a).wf = true) :
    Calls Try.prog 3 #[.int .u64 x, .string s, .int .i64 a] w fun e w' => e = .returned (.bool true) ∧ Below w.heap.size w w' := by
  have h1 : 0 ≤ x ∧ x < 18446744073709551616 := by simp [Lit.wf, IntKind.min, IntKind.max, IntKind.bits, IntKind.signed] at hx; omega
  have h2 : a ≤ 9223372036854775807 := by simp [Lit.wf, IntKind.min, IntKind.max, IntKind.bits, IntKind.signed] at ha; omega
  obtain ⟨n, rfl⟩ := Int.eq_ofNat_of_zero_le h1.1
  exact walk_of_sp (law_spec n s a [old w] (by omega) h2 hs)
end Go.Proofs.Ytglmmljmieodaaa
