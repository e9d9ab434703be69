/- DERIVED. The law MemoPlays: for every input the law returns true. -/
import Derived.Test.YtlhjioapbgnjfaaM2
import Derived.Test.YtlhjioapbgnjfaaVrd
namespace Go.Proofs.Ytlhjioapbgnjfaa
set_option linter.unusedSimpArgs false
set_option linter.unusedVariables false
open Go Sl Cv Go.RowKit
structure RM where
  i : Nat
  S : MS
  a : Option Addr
  c : Nat
section
variable (F : List HP) (c : CF)
set_option maxHeartbeats 4000000 in
theorem plays_bad (hr : c.ttl < 9223372036854775808 ∧ c.neg < 9223372036854775808 ∧ c.stale < 9223372036854775808) (h : ¬ CfOk c) (v : Value) : Sp Try.prog 5 [.agg (cfl c).toArray, v] F fun r M => r = .bool true ∧ M = F := by
  have h1 := fun F => mnew_bad c F hr h
  have h2 := fun F => dcheck_bad F c hr h
  have h3 := fun F => mcheck_bad c F hr h
  have h4 := fun F => lconfig_spec F c
  refine sp_of Try.func5 rfl Try.ntmps5 rfl fun w0 => ?_
  (repeat' (first | (show KQ _ _ _ _ _; first | refine kq_cons ?_ | refine kq_seq ?_ | refine kq_region ?_ | with_reducible refine kq_nil ?_ | with_reducible refine kq_then ?_ | with_reducible refine kq_then_ret ?_ | with_reducible refine kq_then_exit ?_ | refine kq_block ?_ | with_reducible refine kq_ret ?_ | with_reducible refine kq_skip ?_ | refine kq_exit ?_ | with_reducible refine kq_in ?_ | with_reducible refine kq_in_ret ?_ | with_reducible refine kq_in_hit ?_ | refine kq_in_miss ?_ | with_reducible refine kq_np ?_ | with_reducible refine kq_norm ?_ | refine kq_do ?_ | refine kq_not ?_ | refine kq_not0 ?_ | refine kq_cond_t ?_ | refine kq_cond_f ?_ | ((first | refine kq_guard (fun hc => ?_) (fun hc => ?_) | refine kq_cond (fun hc => ?_) (fun hc => ?_)) <;> ((try simp only [decide_eq_true_eq, decide_eq_false_iff_not, Bool.not_eq_true', Bool.not_eq_false', Int.not_lt, Int.not_le] at hc); try (exfalso; first | (simp at hc; done) | (simp [*] at hc; done) | omega | (simp at hc; omega))))) | (show WX _ _ _ _ _ _ _ _; first | refine w_pure p_move ?_ | refine w_pure p_asg ?_ | refine w_pure p_fld0 ?_ | refine w_pure p_fldk ?_ | refine w_pure p_flda ?_ | refine w_pure p_fldr ?_ | refine w_pure p_ld ?_ | refine w_pure p_lda ?_ | (show WX _ _ ⟨_, .binOp _ _ _ _ _, _, _, _, _⟩ _ _ _ _ _; first | refine w_pure p_add6 ?_ | refine w_pure p_add ?_ | refine w_pure p_adds ?_ | refine w_pure p_lss ?_ | refine w_pure p_eq ?_ | refine w_pure p_eqb ?_ | refine w_pure p_eqn0 ?_ | refine w_pure p_eqn1 ?_ | refine w_pure p_eqn ?_ | refine w_pure p_eqs0 ?_ | refine w_pure p_eqs1 ?_ | refine w_pure p_eqs ?_ | refine w_pure p_eqt ?_ | refine w_pure p_eqa ?_ | refine w_pure p_eqf ?_ | refine w_pure p_eqm ?_ | refine w_pure p_ne ?_ | refine w_pure p_neb ?_ | refine w_pure p_nen0 ?_ | refine w_pure p_nen1 ?_ | refine w_pure p_nen ?_ | refine w_pure p_nes0 ?_ | refine w_pure p_nes1 ?_ | refine w_pure p_nes ?_ | refine w_pure p_net ?_ | refine w_pure p_nea ?_) | refine w_pure p_ext ?_ | refine w_pure p_pt ?_ | refine w_pure p_pf ?_ | refine w_pure p_nott ?_ | refine w_pure p_notf ?_ | refine w_pure p_not ?_ | refine w_pure p_neg ?_ | refine w_pure p_idx ?_ | refine w_pure p_idxl ?_ | refine w_pure p_len ?_ | refine w_pure p_lens ?_ | refine w_pure p_lenm ?_ | refine w_pure p_bld ?_ | refine w_st ?_ | refine w_str ?_ | refine w_stra ?_ | (refine w_al ?_; intro q) | (refine w_bx ?_; intro q) | (refine w_call (awake_spec _) ?_; rintro r L ⟨rfl, rfl⟩) | (refine w_call (h1 _) ?_; rintro r L ⟨rfl, rfl⟩) | (refine w_call (h2 _) ?_; rintro r L ⟨rfl, rfl⟩) | (refine w_call (h3 _) ?_; rintro r L ⟨rfl, rfl⟩) | (refine w_call (h4 _) ?_; rintro r L ⟨rfl, rfl⟩) | fail) | fail))
  all_goals (refine kq_fin ?_; exact ⟨_, ⟨rfl, rfl⟩, Ent.auto⟩)
set_option maxHeartbeats 4000000 in
theorem plays_good (h : CfOk c) (ao : Option Addr) (cap : Nat) (l : List AM) (hr : Reads F (.slice ao l.length cap) l.length (flat aml l)) (hl : l.length ≤ 2000000000000) : Sp Try.prog 5 [.agg (cfl c).toArray, .slice ao l.length cap] F fun r M => r = .bool true ∧ M = F := by
  have h1 := fun F => new_ok F c h
  have h2 := fun F => dcheck_ok F c h
  have h3 := fun F => mcheck_ok c F h
  have h4 := fun F => lconfig_spec F c
  refine sp_of Try.func5 rfl Try.ntmps5 rfl fun w0 => ?_
  (repeat' (first | (show KQ _ _ _ _ _; first | refine kq_cons ?_ | refine kq_seq ?_ | refine kq_region ?_ | with_reducible refine kq_nil ?_ | with_reducible refine kq_then ?_ | with_reducible refine kq_then_ret ?_ | with_reducible refine kq_then_exit ?_ | refine kq_block ?_ | with_reducible refine kq_ret ?_ | with_reducible refine kq_skip ?_ | refine kq_exit ?_ | with_reducible refine kq_in ?_ | with_reducible refine kq_in_ret ?_ | with_reducible refine kq_in_hit ?_ | refine kq_in_miss ?_ | with_reducible refine kq_np ?_ | with_reducible refine kq_norm ?_ | refine kq_do ?_ | refine kq_not ?_ | refine kq_not0 ?_ | refine kq_cond_t ?_ | refine kq_cond_f ?_ | ((first | refine kq_guard (fun hc => ?_) (fun hc => ?_) | refine kq_cond (fun hc => ?_) (fun hc => ?_)) <;> ((try simp only [decide_eq_true_eq, decide_eq_false_iff_not, Bool.not_eq_true', Bool.not_eq_false', Int.not_lt, Int.not_le] at hc); try (exfalso; first | (simp at hc; done) | (simp [*] at hc; done) | omega | (simp at hc; omega))))) | (show WX _ _ _ _ _ _ _ _; first | refine w_pure p_move ?_ | refine w_pure p_asg ?_ | refine w_pure p_fld0 ?_ | refine w_pure p_fldk ?_ | refine w_pure p_flda ?_ | refine w_pure p_fldr ?_ | refine w_pure p_ld ?_ | refine w_pure p_lda ?_ | (show WX _ _ ⟨_, .binOp _ _ _ _ _, _, _, _, _⟩ _ _ _ _ _; first | refine w_pure p_add6 ?_ | refine w_pure p_add ?_ | refine w_pure p_adds ?_ | refine w_pure p_lss ?_ | refine w_pure p_eq ?_ | refine w_pure p_eqb ?_ | refine w_pure p_eqn0 ?_ | refine w_pure p_eqn1 ?_ | refine w_pure p_eqn ?_ | refine w_pure p_eqs0 ?_ | refine w_pure p_eqs1 ?_ | refine w_pure p_eqs ?_ | refine w_pure p_eqt ?_ | refine w_pure p_eqa ?_ | refine w_pure p_eqf ?_ | refine w_pure p_eqm ?_ | refine w_pure p_ne ?_ | refine w_pure p_neb ?_ | refine w_pure p_nen0 ?_ | refine w_pure p_nen1 ?_ | refine w_pure p_nen ?_ | refine w_pure p_nes0 ?_ | refine w_pure p_nes1 ?_ | refine w_pure p_nes ?_ | refine w_pure p_net ?_ | refine w_pure p_nea ?_) | refine w_pure p_ext ?_ | refine w_pure p_pt ?_ | refine w_pure p_pf ?_ | refine w_pure p_nott ?_ | refine w_pure p_notf ?_ | refine w_pure p_not ?_ | refine w_pure p_neg ?_ | refine w_pure p_idx ?_ | refine w_pure p_idxl ?_ | refine w_pure p_len ?_ | refine w_pure p_lens ?_ | refine w_pure p_lenm ?_ | refine w_pure p_bld ?_ | refine w_st ?_ | refine w_str ?_ | refine w_stra ?_ | (refine w_al ?_; intro q) | (refine w_bx ?_; intro q) | (refine w_call (awake_spec _) ?_; rintro r L ⟨rfl, rfl⟩) | (refine w_call (h1 _) ?_; rintro r L ⟨p, rfl, rfl⟩) | (refine w_call (h2 _) ?_; rintro r L ⟨rfl, rfl⟩) | (refine w_call (h3 _) ?_; rintro r L ⟨rfl, rfl⟩) | (refine w_call (h4 _) ?_; rintro r L ⟨rfl, rfl⟩) | fail) | fail))
  refine KQ.ent (M := MEM p (mNew0 c) :: rrow none 0 [] :: blk q (.cells (mdl c none 0 0 0).toArray 63 (0, 0)) :: F) ?_ (ent_nil 83 7 none (by ((repeat (first | with_reducible exact Ent.rfl | with_reducible exact Ent.nil | ((with_reducible apply Ent.cons); focus ((repeat (first | exact Sel.here | apply Sel.there)); done)) | with_reducible refine Ent.drop ?_)); done)))
  refine kq_loop (X := RM) ⟨0, mNew0 c, none, 0⟩ (fun y => y.i ≤ l.length ∧ MOk y.S) (fun y => [(5, ptr p), (8, ptr q), (44, .slice ao l.length cap), (45, .int .i64 l.length), (46, .int .i64 y.i)]) (fun y => MEM p y.S :: rrow y.a y.c y.S.K :: blk q (.cells (mdl y.S.c y.a y.S.K.length y.c y.S.now).toArray 63 (0, 0)) :: F) (fun y => l.length - y.i) ⟨Nat.zero_le _, mNew_ok h⟩ ⟨rfl, rfl, rfl, rfl, rfl, trivial⟩ Ent.rfl ?_
  rintro K' ⟨i, S, a, cc⟩ ⟨hi, hS⟩ hnext
  dsimp only at hi hS hnext ⊢
  by_cases hlt : i < l.length
  · have htk := tk_flat (enc := aml) (sz := 9) (l := l) (fun _ => rfl) i hlt
    have hpos : 0 < (flat aml l).length := by rw [length_flat (k := 9) (fun _ => rfl)]; omega
    have hac := fun F => act_spec F S p l[i] hS a cc
    have hS2 := act_ok S l[i] hS
    obtain ⟨T, hT⟩ : ∃ T, T = actS S l[i] := ⟨_, rfl⟩
    rw [← hT] at hac hS2
    have hst := fun F a cc => stands_spec F l[i].key p T a cc hS2
    (repeat' (first | (show KQ _ _ _ _ _; first | refine kq_cons ?_ | refine kq_seq ?_ | refine kq_region ?_ | with_reducible refine kq_nil ?_ | with_reducible refine kq_then ?_ | with_reducible refine kq_then_ret ?_ | with_reducible refine kq_then_exit ?_ | refine kq_block ?_ | with_reducible refine kq_ret ?_ | with_reducible refine kq_skip ?_ | refine kq_exit ?_ | with_reducible refine kq_in ?_ | with_reducible refine kq_in_ret ?_ | with_reducible refine kq_in_hit ?_ | refine kq_in_miss ?_ | with_reducible refine kq_np ?_ | with_reducible refine kq_norm ?_ | refine kq_do ?_ | refine kq_not ?_ | refine kq_not0 ?_ | refine kq_cond_t ?_ | refine kq_cond_f ?_ | ((first | refine kq_guard (fun hc => ?_) (fun hc => ?_) | refine kq_cond (fun hc => ?_) (fun hc => ?_)) <;> ((try simp only [decide_eq_true_eq, decide_eq_false_iff_not, Bool.not_eq_true', Bool.not_eq_false', Int.not_lt, Int.not_le] at hc); try (exfalso; first | (simp at hc; done) | (simp [*] at hc; done) | omega | (simp at hc; omega))))) | (show WX _ _ _ _ _ _ _ _; first | refine w_pure p_move ?_ | refine w_pure p_asg ?_ | refine w_pure p_fld0 ?_ | refine w_pure p_fldk ?_ | refine w_pure p_flda ?_ | refine w_pure p_fldr ?_ | refine w_pure p_ld ?_ | refine w_pure p_lda ?_ | (show WX _ _ ⟨_, .binOp _ _ _ _ _, _, _, _, _⟩ _ _ _ _ _; first | refine w_pure p_add6 ?_ | refine w_pure p_add ?_ | refine w_pure p_adds ?_ | refine w_pure p_lss ?_ | refine w_pure p_eq ?_ | refine w_pure p_eqb ?_ | refine w_pure p_eqn0 ?_ | refine w_pure p_eqn1 ?_ | refine w_pure p_eqn ?_ | refine w_pure p_eqs0 ?_ | refine w_pure p_eqs1 ?_ | refine w_pure p_eqs ?_ | refine w_pure p_eqt ?_ | refine w_pure p_eqa ?_ | refine w_pure p_eqf ?_ | refine w_pure p_eqm ?_ | refine w_pure p_ne ?_ | refine w_pure p_neb ?_ | refine w_pure p_nen0 ?_ | refine w_pure p_nen1 ?_ | refine w_pure p_nen ?_ | refine w_pure p_nes0 ?_ | refine w_pure p_nes1 ?_ | refine w_pure p_nes ?_ | refine w_pure p_net ?_ | refine w_pure p_nea ?_) | refine w_pure p_ext ?_ | refine w_pure p_pt ?_ | refine w_pure p_pf ?_ | refine w_pure p_nott ?_ | refine w_pure p_notf ?_ | refine w_pure p_not ?_ | refine w_pure p_neg ?_ | refine w_pure p_idx ?_ | refine w_pure p_idxl ?_ | refine w_pure p_len ?_ | refine w_pure p_lens ?_ | refine w_pure p_lenm ?_ | refine w_pure p_bld ?_ | refine w_st ?_ | refine w_str ?_ | refine w_stra ?_ | (refine w_al ?_; intro q) | (refine w_bx ?_; intro q) | (refine w_call (hac _) ?_; rintro r L ⟨a2, c2, rfl, rfl⟩) | (refine w_call (hst _ _ _) ?_; rintro r L ⟨rfl, rfl⟩) | fail) | fail))
    all_goals exact hnext ⟨i + 1, T, a2, c2⟩ _ _ ⟨hlt, hS2⟩ (by show l.length - (i + 1) < l.length - i; omega) ⟨rfl, rfl, rfl, rfl, rfl, trivial⟩ (by ((repeat (first | with_reducible exact Ent.rfl | with_reducible exact Ent.nil | ((with_reducible apply Ent.cons); focus ((repeat (first | exact Sel.here | apply Sel.there)); done)) | with_reducible refine Ent.drop ?_)); done))
  · obtain rfl : i = l.length := by omega
    clear hnext
    (repeat' (first | (show KQ _ _ _ _ _; first | refine kq_cons ?_ | refine kq_seq ?_ | refine kq_region ?_ | with_reducible refine kq_nil ?_ | with_reducible refine kq_then ?_ | with_reducible refine kq_then_ret ?_ | with_reducible refine kq_then_exit ?_ | refine kq_block ?_ | with_reducible refine kq_ret ?_ | with_reducible refine kq_skip ?_ | refine kq_exit ?_ | with_reducible refine kq_in ?_ | with_reducible refine kq_in_ret ?_ | with_reducible refine kq_in_hit ?_ | refine kq_in_miss ?_ | with_reducible refine kq_np ?_ | with_reducible refine kq_norm ?_ | refine kq_do ?_ | refine kq_not ?_ | refine kq_not0 ?_ | refine kq_cond_t ?_ | refine kq_cond_f ?_ | ((first | refine kq_guard (fun hc => ?_) (fun hc => ?_) | refine kq_cond (fun hc => ?_) (fun hc => ?_)) <;> ((try simp only [decide_eq_true_eq, decide_eq_false_iff_not, Bool.not_eq_true', Bool.not_eq_false', Int.not_lt, Int.not_le] at hc); try (exfalso; first | (simp at hc; done) | (simp [*] at hc; done) | omega | (simp at hc; omega))))) | (show WX _ _ _ _ _ _ _ _; first | refine w_pure p_move ?_ | refine w_pure p_asg ?_ | refine w_pure p_fld0 ?_ | refine w_pure p_fldk ?_ | refine w_pure p_flda ?_ | refine w_pure p_fldr ?_ | refine w_pure p_ld ?_ | refine w_pure p_lda ?_ | (show WX _ _ ⟨_, .binOp _ _ _ _ _, _, _, _, _⟩ _ _ _ _ _; first | refine w_pure p_add6 ?_ | refine w_pure p_add ?_ | refine w_pure p_adds ?_ | refine w_pure p_lss ?_ | refine w_pure p_eq ?_ | refine w_pure p_eqb ?_ | refine w_pure p_eqn0 ?_ | refine w_pure p_eqn1 ?_ | refine w_pure p_eqn ?_ | refine w_pure p_eqs0 ?_ | refine w_pure p_eqs1 ?_ | refine w_pure p_eqs ?_ | refine w_pure p_eqt ?_ | refine w_pure p_eqa ?_ | refine w_pure p_eqf ?_ | refine w_pure p_eqm ?_ | refine w_pure p_ne ?_ | refine w_pure p_neb ?_ | refine w_pure p_nen0 ?_ | refine w_pure p_nen1 ?_ | refine w_pure p_nen ?_ | refine w_pure p_nes0 ?_ | refine w_pure p_nes1 ?_ | refine w_pure p_nes ?_ | refine w_pure p_net ?_ | refine w_pure p_nea ?_) | refine w_pure p_ext ?_ | refine w_pure p_pt ?_ | refine w_pure p_pf ?_ | refine w_pure p_nott ?_ | refine w_pure p_notf ?_ | refine w_pure p_not ?_ | refine w_pure p_neg ?_ | refine w_pure p_idx ?_ | refine w_pure p_idxl ?_ | refine w_pure p_len ?_ | refine w_pure p_lens ?_ | refine w_pure p_lenm ?_ | refine w_pure p_bld ?_ | refine w_st ?_ | refine w_str ?_ | refine w_stra ?_ | (refine w_al ?_; intro q) | (refine w_bx ?_; intro q) | fail) | fail))
    all_goals (refine kq_fin ?_; exact ⟨_, ⟨rfl, rfl⟩, Ent.auto⟩)
end
abbrev fT := Int × Int × Int × Unit
abbrev oT := Int × fT × Unit
abbrev kT := Int × ByteArray × Unit
abbrev cT := Int × Int × Int × Int × Int × Int × Int × Unit
abbrev aT := Int × Int × Int × kT × oT × Unit
abbrev iR := Rd.int Try.underlying3 (by kernel_rfl)
abbrev jR := Rd.int Try.underlying2 (by kernel_rfl)
def keyR : Rd Try.prog 33 kT := Rd.struct Try.underlying33 (.cons (Rd.int Try.underlying31 (by kernel_rfl)) rfl (.cons (Rd.str Try.underlying9 (by kernel_rfl)) (by kernel_rfl) .nil)) (by kernel_rfl)
def fR : Rd Try.prog 35 fT := Rd.struct Try.underlying35 (.cons iR rfl (.cons iR (by kernel_rfl) (.cons iR (by kernel_rfl) .nil))) (by kernel_rfl)
def outR : Rd Try.prog 37 oT := Rd.struct Try.underlying37 (.cons jR rfl (.cons fR (by kernel_rfl) .nil)) (by kernel_rfl)
def cfgR : Rd Try.prog 23 cT := Rd.struct Try.underlying23 (.cons jR rfl (.cons jR (by kernel_rfl) (.cons jR (by kernel_rfl) (.cons iR (by kernel_rfl) (.cons iR (by kernel_rfl) (.cons iR (by kernel_rfl) (.cons jR (by kernel_rfl) .nil))))))) (by kernel_rfl)
def actR : Rd Try.prog 39 aT := Rd.struct Try.underlying39 (.cons iR rfl (.cons jR (by kernel_rfl) (.cons jR (by kernel_rfl) (.cons keyR (by kernel_rfl) (.cons outR (by kernel_rfl) .nil))))) (by kernel_rfl)
abbrev actsR : Rd Try.prog 24 (List aT) := Rd.sl Try.underlying24 (by kernel_rfl) actR
def cS (x : cT) : CF := ⟨x.1, x.2.1, x.2.2.1, x.2.2.2.1, x.2.2.2.2.1, x.2.2.2.2.2.1, x.2.2.2.2.2.2.1⟩
def aS (x : aT) : AM := ⟨x.1, x.2.1, x.2.2.1, (x.2.2.2.1.1, x.2.2.2.1.2.1), ⟨x.2.2.2.2.1.1, x.2.2.2.2.1.2.1.1, x.2.2.2.2.1.2.1.2.1, x.2.2.2.2.1.2.1.2.2.1⟩⟩
theorem cfgR_ok {w : World} {cs : List Value} {x : cT} (h : cfgR.rel w cs x) : cs = cfl (cS x) ∧ ((cS x).ttl < 9223372036854775808 ∧ (cS x).neg < 9223372036854775808 ∧ (cS x).stale < 9223372036854775808) := by
  obtain ⟨c1, c2, rfl, ⟨rfl, h0⟩, c3, c4, rfl, ⟨rfl, h1⟩, c5, c6, rfl, ⟨rfl, h2⟩, c7, c8, rfl, ⟨rfl, _⟩, c9, c10, rfl, ⟨rfl, _⟩, c11, c12, rfl, ⟨rfl, _⟩, c13, c14, rfl, ⟨rfl, _⟩, rfl⟩ := h
  refine ⟨rfl, ?_, ?_, ?_⟩
  · have : -9223372036854775808 ≤ x.1 ∧ x.1 ≤ 9223372036854775807 := by simpa [Lit.wf, IntKind.min, IntKind.max, IntKind.signed, IntKind.bits] using h0
    show x.1 < _; omega
  · have : -9223372036854775808 ≤ x.2.1 ∧ x.2.1 ≤ 9223372036854775807 := by simpa [Lit.wf, IntKind.min, IntKind.max, IntKind.signed, IntKind.bits] using h1
    show x.2.1 < _; omega
  · have : -9223372036854775808 ≤ x.2.2.1 ∧ x.2.2.1 ≤ 9223372036854775807 := by simpa [Lit.wf, IntKind.min, IntKind.max, IntKind.signed, IntKind.bits] using h2
    show x.2.2.1 < _; omega
theorem actR_enc {w : World} {cs : List Value} {x : aT} (h : actR.rel w cs x) : cs = aml (aS x) := by
  obtain ⟨c1, c2, rfl, ⟨rfl, _⟩, c3, c4, rfl, ⟨rfl, _⟩, c5, c6, rfl, ⟨rfl, _⟩, c7, c8, rfl, ⟨k1, k2, rfl, ⟨rfl, _⟩, k3, k4, rfl, ⟨rfl, _⟩, rfl⟩, c9, c10, rfl, ⟨d1, d2, rfl, ⟨rfl, _⟩, d3, d4, rfl, ⟨e1, e2, rfl, ⟨rfl, _⟩, e3, e4, rfl, ⟨rfl, _⟩, e5, e6, rfl, ⟨rfl, _⟩, rfl⟩, rfl⟩, rfl⟩ := h
  rfl
theorem plays_spec (c : CF) (F : List HP) (hr : c.ttl < 9223372036854775808 ∧ c.neg < 9223372036854775808 ∧ c.stale < 9223372036854775808) (ao : Option Addr) (cap : Nat) (l : List AM) (h : Reads F (.slice ao l.length cap) l.length (flat aml l)) (hl : l.length ≤ 2000000000000) : Sp Try.prog 5 [.agg (cfl c).toArray, .slice ao l.length cap] F fun r M => r = .bool true ∧ M = F := by
  by_cases hc : CfOk c
  · exact plays_good F c hc ao cap l h hl
  · exact plays_bad F c hr hc _
theorem memoPlays_walk (w : World) (cs : Array Value) (x : cT) (ao : Option Addr) (cap : Nat) (l : List aT) (h : cfgR.rel w cs.toList x) (h2 : actsR.rel w [.slice ao l.length cap] l) :
    Calls Try.prog 5 #[.agg cs, .slice ao l.length cap] w fun e w' => e = .returned (.bool true) ∧ Below w.heap.size w w' := by
  obtain ⟨e1, hr⟩ := cfgR_ok h
  obtain rfl : cs = (cfl (cS x)).toArray := Array.toList_inj.1 (by simpa using e1)
  obtain ⟨ao', cap', e, hlc, hcm, -, hb, hat⟩ := h2
  simp only [List.cons.injEq, Value.slice.injEq, true_and, and_true] at e
  obtain ⟨rfl, rfl⟩ := e
  have hby : Try.prog.bytesOf 39 = 80 := by kernel_rfl
  rw [hby] at hb
  have hce : Try.prog.cellsOf 39 = 9 := by kernel_rfl
  rw [hce] at hat
  have hll : l.length ≤ 2000000000000 := by omega
  have hrd := Reads.of_row (L := [old w]) (cap := cap) (enc := fun a : aT => aml (aS a)) (sz := 9) .here hat (fun _ _ hh => actR_enc hh) (fun _ => rfl) (by decide)
  have hm : flat (fun a : aT => aml (aS a)) l = flat aml (l.map aS) := by simp [flat, List.flatMap_map]
  have hrd2 : Reads [old w] (.slice ao (l.map aS).length cap) (l.map aS).length (flat aml (l.map aS)) := by rw [List.length_map, ← hm]; exact hrd
  have h3 := plays_spec (cS x) [old w] hr ao cap (l.map aS) hrd2 (by rw [List.length_map]; exact hll)
  rw [List.length_map] at h3
  exact walk_of_sp h3
end Go.Proofs.Ytlhjioapbgnjfaa
