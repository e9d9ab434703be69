/- DERIVED. Queues, as the document has them: Without. -/
import Derived.Test.YteafcajlfagbkaaQe
namespace Go.Proofs.Yteafcajlfagbkaa
set_option linter.unusedSimpArgs false
set_option linter.unusedVariables false
open Go Sl Cv Go.RowKit
theorem te_app (A B : List DT) : flat te (A ++ B) = flat te A ++ flat te B := flat_append _ _ _
theorem te_take (D : List DT) (i : Nat) (h : i ≤ D.length) : (flat te D).take (i * 2) = flat te (D.take i) := by
  have e : flat te D = flat te (D.take i) ++ flat te (D.drop i) := by rw [← te_app, List.take_append_drop]
  have hl : (flat te (D.take i)).length = i * 2 := by rw [te_len, List.length_take, Nat.min_eq_left h]
  rw [e, ← hl, List.take_left]
theorem te_drop (D : List DT) (i : Nat) (h : i ≤ D.length) : (flat te D).drop (i * 2) = flat te (D.drop i) := by
  have e : flat te D = flat te (D.take i) ++ flat te (D.drop i) := by rw [← te_app, List.take_append_drop]
  have hl : (flat te (D.take i)).length = i * 2 := by rw [te_len, List.length_take, Nat.min_eq_left h]
  rw [e, ← hl, List.drop_left]
theorem te_one (D : List DT) : (flat te D).all (·.oneCell') = true := by
  rw [List.all_eq_true]
  intro u hu
  simp only [flat, List.mem_flatMap] at hu
  obtain ⟨x, _, hx⟩ := hu
  simp only [te, List.mem_cons, List.not_mem_nil, or_false] at hx
  rcases hx with rfl | rfl <;> rfl
section
variable (a : Option Addr) (c : Nat) (D : List DT) (F : List HP)
set_option maxHeartbeats 4000000 in
theorem dwithout (k : Nat) (hk : k < D.length) (hl : D.length ≤ 1000000000) : Sp Try.prog 19 [.slice a D.length c, .int .i64 k] (drow a c D :: F) fun r M => ∃ a2 c2, r = .slice a2 (k + (D.length - (k + 1))) c2 ∧ M = row 47 2 (.slice a2 (k + (D.length - (k + 1))) c2) (k + (D.length - (k + 1))) (flat te (D.take k) ++ flat te (D.drop (k + 1))) :: F := by
  refine sp_of Try.func19 rfl Try.ntmps19 rfl fun w0 => ?_
  refine kq_open (m := D.length) (by omega) ?_
  rintro gb cur rfl h1 h2 h3 h4
  have e1 : ((k : Nat) : Int).toNat = k := Int.toNat_natCast k
  have e2 : ((k : Int) + 1).toNat = k + 1 := by omega
  have hx1 : (cur.drop 0).take (k * 2) = flat te (D.take k) := by rw [pre_cells (by omega) h4, te_take D _ (by omega)]
  have hx2 : (cur.drop (begin_ 0 c ((k : Int) + 1).toNat 2)).take ((D.length - ((k : Int) + 1).toNat) * 2) = flat te (D.drop (k + 1)) := by rw [e2, sub_cells (by omega) h1 h3 h4, te_drop D _ (by omega)]
  have hy1 : ((cur.drop 0).take (k * 2)).length = k * 2 := by rw [hx1, te_len, List.length_take]; omega
  have hy2 : ((cur.drop (begin_ 0 c ((k : Int) + 1).toNat 2)).take ((D.length - ((k : Int) + 1).toNat) * 2)).length = (D.length - ((k : Int) + 1).toNat) * 2 := by rw [hx2, te_len, List.length_drop, e2]
  have ho1 : ((cur.drop 0).take (k * 2)).all (·.oneCell') = true := by rw [hx1]; exact te_one _
  have ho2 : ((cur.drop (begin_ 0 c ((k : Int) + 1).toNat 2)).take ((D.length - ((k : Int) + 1).toNat) * 2)).all (·.oneCell') = true := by rw [hx2]; exact te_one _
  (repeat' (first | (show KQ _ _ _ _ _; first | refine kq_cons ?_ | refine kq_seq ?_ | refine kq_region ?_ | with_reducible refine kq_nil ?_ | with_reducible refine kq_then ?_ | with_reducible refine kq_then_ret ?_ | with_reducible refine kq_then_exit ?_ | refine kq_block ?_ | with_reducible refine kq_ret ?_ | with_reducible refine kq_skip ?_ | refine kq_exit ?_ | with_reducible refine kq_in ?_ | with_reducible refine kq_in_ret ?_ | with_reducible refine kq_in_hit ?_ | refine kq_in_miss ?_ | with_reducible refine kq_np ?_ | with_reducible refine kq_norm ?_ | refine kq_do ?_ | refine kq_not ?_ | refine kq_not0 ?_ | refine kq_cond_t ?_ | refine kq_cond_f ?_ | ((first | refine kq_guard (fun hc => ?_) (fun hc => ?_) | refine kq_cond (fun hc => ?_) (fun hc => ?_)) <;> ((try simp only [decide_eq_true_eq, decide_eq_false_iff_not, Bool.not_eq_true', Bool.not_eq_false', Int.not_lt, Int.not_le] at hc); try (exfalso; first | (simp at hc; done) | (simp [*] at hc; done) | omega | (simp at hc; omega))))) | (show WX _ _ _ _ _ _ _ _; first | refine w_pure p_move ?_ | refine w_pure p_asg ?_ | refine w_pure p_fld0 ?_ | refine w_pure p_fldk ?_ | refine w_pure p_flda ?_ | refine w_pure p_fldr ?_ | refine w_pure p_ld ?_ | refine w_pure p_lda ?_ | (show WX _ _ ⟨_, .binOp _ _ _ _ _, _, _, _, _⟩ _ _ _ _ _; first | refine w_pure p_add6 ?_ | refine w_pure p_add ?_ | refine w_pure p_adds ?_ | refine w_pure p_sub6 ?_ | refine w_pure p_sub ?_ | refine w_pure p_mul6 ?_ | refine w_pure p_mul ?_ | refine w_pure p_lss ?_ | refine w_pure p_leq ?_ | refine w_pure p_gtr ?_ | refine w_pure p_geq ?_ | refine w_pure p_eq ?_ | refine w_pure p_eqb ?_ | refine w_pure p_eqn0 ?_ | refine w_pure p_eqn1 ?_ | refine w_pure p_eqn ?_ | refine w_pure p_eqs0 ?_ | refine w_pure p_eqs1 ?_ | refine w_pure p_eqs ?_ | refine w_pure p_eqt ?_ | refine w_pure p_eqa ?_ | refine w_pure p_eqf ?_ | refine w_pure p_eqm ?_ | refine w_pure p_and ?_ | refine w_pure p_or ?_ | refine w_pure p_xor ?_ | refine w_pure p_quo ?_ | refine w_pure p_rem ?_ | refine w_pure p_shl ?_ | refine w_pure p_shr ?_ | refine w_pure p_ne ?_ | refine w_pure p_neb ?_ | refine w_pure p_nen0 ?_ | refine w_pure p_nen1 ?_ | refine w_pure p_nen ?_ | refine w_pure p_nes0 ?_ | refine w_pure p_nes1 ?_ | refine w_pure p_nes ?_ | refine w_pure p_net ?_ | refine w_pure p_nea ?_) | refine w_pure p_nil ?_ | refine w_pure p_nilf ?_ | refine w_pure p_ext ?_ | refine w_pure p_pt ?_ | refine w_pure p_pf ?_ | refine w_pure p_nott ?_ | refine w_pure p_notf ?_ | refine w_pure p_not ?_ | refine w_pure p_neg ?_ | refine w_pure p_idx ?_ | refine w_pure p_idxl ?_ | refine w_pure p_len ?_ | refine w_pure p_lens ?_ | refine w_pure p_lenm ?_ | refine w_pure p_bld ?_ | refine w_pure p_idxs ?_ | refine w_pure p_part ?_ | refine w_pure p_parta ?_ | refine w_pure p_conv ?_ | refine w_pure p_b2s ?_ | refine w_pure p_min ?_ | refine w_pure p_lookt ?_ | refine w_pure p_lookf ?_ | refine w_pure p_look1 ?_ | refine w_pure p_look0 ?_ | refine w_pure p_mf ?_ | refine w_pure p_sls ?_ | refine w_pure p_slsl ?_ | refine w_pure p_slsh ?_ | refine w_pure p_sle1 ?_ | refine w_pure p_sle2 ?_ | refine w_pure p_slhn ?_ | refine w_pure p_slln ?_ | refine w_pure p_slbn ?_ | refine w_pure p_slmn ?_ | refine w_pure p_slh ?_ | refine w_pure p_sll ?_ | refine w_pure p_slb ?_ | refine w_pure p_slm ?_ | refine w_pure p_mif ?_ | refine w_pure p_mifp ?_ | refine w_pure p_mifs ?_ | refine w_pure p_tam ?_ | refine w_pure p_tas ?_ | refine w_pure p_entry ?_ | refine w_st ?_ | refine w_str ?_ | refine w_stra ?_ | (refine w_mk ?_; intro q) | (refine w_ap0 ?_; intro ao1 cap1) | (refine w_ap ?_; intro ao1 cap1) | (refine w_al ?_; intro q) | (refine w_bx ?_; intro q) | (refine w_bs ?_; intro q) | refine w_mu ?_ | refine w_ins ?_ | refine w_md ?_ | (refine w_me ?_; intro v0 born) | refine w_es ?_ | (refine w_rg ?_; intro it) | fail) | (refine w_ap0 (ys := (cur.drop 0).take (k * 2)) ?_; intro ao1 cap1) | (refine w_ap (ys := (cur.drop (begin_ 0 c ((k : Int) + 1).toNat 2)).take ((D.length - ((k : Int) + 1).toNat) * 2)) ?_; intro ao3 cap3) | fail))
  all_goals (rw [hx1, hx2, e2]; (refine kq_fin ?_; exact ⟨_, ⟨ao3, cap3, rfl, rfl⟩, Ent.auto⟩))
theorem dwithout_at (k : Nat) (hk : k < D.length) (hl : D.length ≤ 1000000000) : Sp Try.prog 19 [.slice a D.length c, .int .i64 k] (drow a c D :: F) fun r M => ∃ a2 c2, r = .slice a2 (D.eraseIdx k).length c2 ∧ M = drow a2 c2 (D.eraseIdx k) :: F := by
  have e : (D.eraseIdx k).length = k + (D.length - (k + 1)) := by rw [List.length_eraseIdx_of_lt hk]; omega
  have e2 : flat te (D.eraseIdx k) = flat te (D.take k) ++ flat te (D.drop (k + 1)) := by rw [List.eraseIdx_eq_take_drop_succ, te_app]
  unfold drow
  rw [e, e2]
  exact dwithout a c D F k hk hl
end
end Go.Proofs.Yteafcajlfagbkaa
