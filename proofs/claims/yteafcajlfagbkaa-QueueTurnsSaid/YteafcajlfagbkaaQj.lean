/- DERIVED. Queues by turn: what is taken out of a list. -/
import Derived.Test.YteafcajlfagbkaaQi
import Derived.Test.YteafcajlfagbkaaQv
namespace Go.Proofs.Yteafcajlfagbkaa
set_option linter.unusedSimpArgs false
set_option linter.unusedVariables false
open Go Sl Cv Go.RowKit
def kd (k : Int) : Int := (IntKind.i64.wrap (k.tmod 6 + 6)).tmod 6
theorem kind_spec (k : Int) (F : List HP) : Sp Try.prog 18 [.int .i64 k, .int .i64 6] F fun r M => r = .int .i64 (kd k) ∧ M = F := by
  refine sp_of Try.func18 rfl Try.ntmps18 rfl fun w0 => ?_
  (repeat' (first | (show KQ _ _ _ _ _; first | refine kq_cons ?_ | refine kq_seq ?_ | refine kq_region ?_ | with_reducible refine kq_nil ?_ | with_reducible refine kq_then ?_ | with_reducible refine kq_then_ret ?_ | with_reducible refine kq_then_exit ?_ | refine kq_block ?_ | with_reducible refine kq_ret ?_ | with_reducible refine kq_skip ?_ | refine kq_exit ?_ | with_reducible refine kq_in ?_ | with_reducible refine kq_in_ret ?_ | with_reducible refine kq_in_hit ?_ | refine kq_in_miss ?_ | with_reducible refine kq_np ?_ | with_reducible refine kq_norm ?_ | refine kq_do ?_ | refine kq_not ?_ | refine kq_not0 ?_ | refine kq_cond_t ?_ | refine kq_cond_f ?_ | ((first | refine kq_guard (fun hc => ?_) (fun hc => ?_) | refine kq_cond (fun hc => ?_) (fun hc => ?_)) <;> ((try simp only [decide_eq_true_eq, decide_eq_false_iff_not, Bool.not_eq_true', Bool.not_eq_false', Int.not_lt, Int.not_le] at hc); try (exfalso; first | (simp at hc; done) | (simp [*] at hc; done) | omega | (simp at hc; omega))))) | (show WX _ _ _ _ _ _ _ _; first | refine w_pure p_move ?_ | refine w_pure p_asg ?_ | refine w_pure p_fld0 ?_ | refine w_pure p_fldk ?_ | refine w_pure p_flda ?_ | refine w_pure p_fldr ?_ | refine w_pure p_ld ?_ | refine w_pure p_lda ?_ | (show WX _ _ ⟨_, .binOp _ _ _ _ _, _, _, _, _⟩ _ _ _ _ _; first | refine w_pure p_add6 ?_ | refine w_pure p_add ?_ | refine w_pure p_adds ?_ | refine w_pure p_sub6 ?_ | refine w_pure p_sub ?_ | refine w_pure p_mul6 ?_ | refine w_pure p_mul ?_ | refine w_pure p_lss ?_ | refine w_pure p_leq ?_ | refine w_pure p_gtr ?_ | refine w_pure p_geq ?_ | refine w_pure p_eq ?_ | refine w_pure p_eqb ?_ | refine w_pure p_eqn0 ?_ | refine w_pure p_eqn1 ?_ | refine w_pure p_eqn ?_ | refine w_pure p_eqs0 ?_ | refine w_pure p_eqs1 ?_ | refine w_pure p_eqs ?_ | refine w_pure p_eqt ?_ | refine w_pure p_eqa ?_ | refine w_pure p_eqf ?_ | refine w_pure p_eqm ?_ | refine w_pure p_and ?_ | refine w_pure p_or ?_ | refine w_pure p_xor ?_ | refine w_pure p_quo ?_ | refine w_pure p_rem ?_ | refine w_pure p_shl ?_ | refine w_pure p_shr ?_ | refine w_pure p_ne ?_ | refine w_pure p_neb ?_ | refine w_pure p_nen0 ?_ | refine w_pure p_nen1 ?_ | refine w_pure p_nen ?_ | refine w_pure p_nes0 ?_ | refine w_pure p_nes1 ?_ | refine w_pure p_nes ?_ | refine w_pure p_net ?_ | refine w_pure p_nea ?_) | refine w_pure p_nil ?_ | refine w_pure p_nilf ?_ | refine w_pure p_ext ?_ | refine w_pure p_pt ?_ | refine w_pure p_pf ?_ | refine w_pure p_nott ?_ | refine w_pure p_notf ?_ | refine w_pure p_not ?_ | refine w_pure p_neg ?_ | refine w_pure p_idx ?_ | refine w_pure p_idxl ?_ | refine w_pure p_len ?_ | refine w_pure p_lens ?_ | refine w_pure p_lenm ?_ | refine w_pure p_bld ?_ | refine w_pure p_idxs ?_ | refine w_pure p_part ?_ | refine w_pure p_parta ?_ | refine w_pure p_conv ?_ | refine w_pure p_b2s ?_ | refine w_pure p_min ?_ | refine w_pure p_lookt ?_ | refine w_pure p_lookf ?_ | refine w_pure p_look1 ?_ | refine w_pure p_look0 ?_ | refine w_pure p_mf ?_ | refine w_pure p_sls ?_ | refine w_pure p_slsl ?_ | refine w_pure p_slsh ?_ | refine w_pure p_sle1 ?_ | refine w_pure p_sle2 ?_ | refine w_pure p_slhn ?_ | refine w_pure p_slln ?_ | refine w_pure p_slbn ?_ | refine w_pure p_slmn ?_ | refine w_pure p_slh ?_ | refine w_pure p_sll ?_ | refine w_pure p_slb ?_ | refine w_pure p_slm ?_ | refine w_pure p_mif ?_ | refine w_pure p_mifp ?_ | refine w_pure p_mifs ?_ | refine w_pure p_tam ?_ | refine w_pure p_tas ?_ | refine w_pure p_entry ?_ | refine w_st ?_ | refine w_str ?_ | refine w_stra ?_ | (refine w_mk ?_; intro q) | (refine w_ap0 ?_; intro ao1 cap1) | (refine w_ap ?_; intro ao1 cap1) | (refine w_al ?_; intro q) | (refine w_bx ?_; intro q) | (refine w_bs ?_; intro q) | refine w_mu ?_ | refine w_ins ?_ | refine w_md ?_ | (refine w_me ?_; intro v0 born) | refine w_es ?_ | (refine w_rg ?_; intro it) | fail) | fail))
  all_goals (refine kq_fin ?_; exact ⟨_, ⟨rfl, rfl⟩, Ent.auto⟩)
theorem its_rem (L : LL) (x : Int) : its (rem L x) = (its L).filter (fun y => decide (y ≠ x)) := by
  simp only [its, rem, List.filter_map]; rfl
theorem erase_filter : ∀ (l : List Int) (k : Nat) (hk : k < l.length), l.Nodup → l.eraseIdx k = l.filter (fun y => decide (y ≠ l[k]))
  | [], k, hk, _ => by simp at hk
  | y :: l, 0, _, hd => by
    have hd' := List.nodup_cons.1 hd
    simp only [List.eraseIdx_cons_zero, List.getElem_cons_zero]
    rw [List.filter_cons]
    simp only [ne_eq, not_true_eq_false, decide_false, Bool.false_eq_true, if_false]
    exact (List.filter_eq_self.2 fun z hz => by simp; rintro rfl; exact hd'.1 hz).symm
  | y :: l, k + 1, hk, hd => by
    have hd' := List.nodup_cons.1 hd
    have hk' : k < l.length := by simp at hk; omega
    have hne : y ≠ l[k] := fun e => hd'.1 (e ▸ List.getElem_mem hk')
    simp only [List.eraseIdx_cons_succ, List.getElem_cons_succ]
    rw [List.filter_cons, erase_filter l k hk' hd'.2]
    simp [hne]
theorem erase_rem {L : LL} {D : List DT} (hd : (L.map Prod.snd).Nodup) (hD : D.map Prod.snd = its L) (k : Nat) (hk : k < D.length) : (D.eraseIdx k).map Prod.snd = its (rem L D[k].2) := by
  have h1 : (D.map Prod.snd).eraseIdx k = (D.eraseIdx k).map Prod.snd := by rw [List.eraseIdx_eq_take_drop_succ, List.eraseIdx_eq_take_drop_succ, List.map_append, List.map_take, List.map_drop]
  have hk2 : k < (its L).length := by rw [← hD]; simpa using hk
  have h2 : (its L)[k] = D[k].2 := by simp only [← hD, List.getElem_map]
  rw [← h1, hD, its_rem, erase_filter _ k hk2 hd, h2]
end Go.Proofs.Yteafcajlfagbkaa
