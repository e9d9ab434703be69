/- DERIVED. Nil seats answer as the document says: the law. -/
import Derived.Test.YtjmlebajiclfmaaLe
import Derived.Test.YtjmlebajiclfmaaVrd
namespace Go.Proofs.Ytjmlebajiclfmaa
open Go Sl Cv Go.RowKit

theorem flat_ints (l : List Int) : flat (fun n : Int => [Value.int .i64 n]) l = ints l := by
  induction l with
  | nil => rfl
  | cons a l ih => simp only [flat, ints, List.flatMap_cons, List.map_cons] at ih ⊢; rw [ih]; rfl

set_option maxHeartbeats 4000000 in
theorem law_spec (x : ST) (ao : Option Addr) (cap : Nat) (l : List Int) (F : List HP) (hr : Reads F (.slice ao l.length cap) l.length (ints l)) (hl : l.length ≤ 17592186044415) :
    Sp Try.prog 4 [.agg (sl x).toArray, .slice ao l.length cap] F fun r M => r = .bool true ∧ M = F := by
  have hdl : (dd l).length ≤ 17592186044416 := by have := dd_len l l.length (Nat.le_refl _); rw [List.take_length] at this; omega
  refine sp_of Try.func4 rfl Try.ntmps4 rfl fun w0 => ?_
  (repeat' (first | (show KQ _ _ _ _ _; first | refine kq_cons ?_ | refine kq_seq ?_ | refine kq_region ?_ | with_reducible refine kq_nil ?_ | with_reducible refine kq_then ?_ | with_reducible refine kq_then_ret ?_ | with_reducible refine kq_then_exit ?_ | refine kq_block ?_ | with_reducible refine kq_ret ?_ | with_reducible refine kq_skip ?_ | refine kq_exit ?_ | with_reducible refine kq_in ?_ | with_reducible refine kq_in_ret ?_ | with_reducible refine kq_in_hit ?_ | refine kq_in_miss ?_ | with_reducible refine kq_np ?_ | with_reducible refine kq_norm ?_ | refine kq_do ?_ | refine kq_not ?_ | refine kq_not0 ?_ | refine kq_cond_t ?_ | refine kq_cond_f ?_ | ((first | refine kq_guard (fun hc => ?_) (fun hc => ?_) | refine kq_cond (fun hc => ?_) (fun hc => ?_)) <;> ((try simp only [decide_eq_true_eq, decide_eq_false_iff_not, Bool.not_eq_true', Bool.not_eq_false', Int.not_lt, Int.not_le] at hc); try (exfalso; first | (simp at hc; done) | (simp [*] at hc; done) | omega | (simp at hc; omega))))) | (show WX _ _ _ _ _ _ _ _; first | refine w_pure p_move ?_ | refine w_pure p_asg ?_ | refine w_pure p_fld0 ?_ | refine w_pure p_fldk ?_ | refine w_pure p_flda ?_ | refine w_pure p_ld ?_ | refine w_pure p_lda ?_ | (show WX _ _ ⟨_, .binOp _ _ _ _ _, _, _, _, _⟩ _ _ _ _ _; first | refine w_pure p_add6 ?_ | refine w_pure p_add ?_ | refine w_pure p_sub6 ?_ | refine w_pure p_sub ?_ | refine w_pure p_mul6 ?_ | refine w_pure p_mul ?_ | refine w_pure p_lss ?_ | refine w_pure p_leq ?_ | refine w_pure p_gtr ?_ | refine w_pure p_geq ?_ | refine w_pure p_eq ?_ | refine w_pure p_eqb ?_ | refine w_pure p_eqn0 ?_ | refine w_pure p_eqn1 ?_ | refine w_pure p_eqn ?_ | refine w_pure p_eqs0 ?_ | refine w_pure p_eqs1 ?_ | refine w_pure p_eqs ?_ | refine w_pure p_eqt ?_ | refine w_pure p_eqa ?_ | refine w_pure p_eqf ?_ | refine w_pure p_eqm ?_ | refine w_pure p_and ?_ | refine w_pure p_or ?_ | refine w_pure p_xor ?_ | refine w_pure p_quo ?_ | refine w_pure p_rem ?_ | refine w_pure p_shl ?_ | refine w_pure p_shr ?_ | refine w_pure p_ne ?_ | refine w_pure p_neb ?_ | refine w_pure p_nen0 ?_ | refine w_pure p_nen1 ?_ | refine w_pure p_nen ?_ | refine w_pure p_nes0 ?_ | refine w_pure p_nes1 ?_ | refine w_pure p_nes ?_ | refine w_pure p_net ?_ | refine w_pure p_nea ?_) | refine w_pure p_nil ?_ | refine w_pure p_nilf ?_ | refine w_pure p_ext ?_ | refine w_pure p_pt ?_ | refine w_pure p_pf ?_ | refine w_pure p_nott ?_ | refine w_pure p_notf ?_ | refine w_pure p_not ?_ | refine w_pure p_neg ?_ | refine w_pure p_idx ?_ | refine w_pure p_len ?_ | refine w_pure p_lens ?_ | refine w_pure p_lenm ?_ | refine w_pure p_bld ?_ | refine w_pure p_idxs ?_ | refine w_pure p_part ?_ | refine w_pure p_parta ?_ | refine w_pure p_conv ?_ | refine w_pure p_b2s ?_ | refine w_pure p_min ?_ | refine w_pure p_lookt ?_ | refine w_pure p_lookf ?_ | refine w_pure p_look1 ?_ | refine w_pure p_look0 ?_ | refine w_pure p_mf ?_ | refine w_pure p_slhn ?_ | refine w_pure p_slln ?_ | refine w_pure p_slbn ?_ | refine w_pure p_slmn ?_ | refine w_pure p_slh ?_ | refine w_pure p_sll ?_ | refine w_pure p_slb ?_ | refine w_pure p_slm ?_ | refine w_pure p_mif ?_ | refine w_pure p_tam ?_ | refine w_st ?_ | (refine w_ap0 ?_; intro ao1 cap1) | (refine w_ap ?_; intro ao1 cap1) | (refine w_al ?_; intro q) | (refine w_bx ?_; intro q) | (refine w_bs ?_; intro q) | refine w_mu ?_ | refine w_md ?_ | (refine w_call (stand_nil x.c _) ?_; rintro r L ⟨rfl, rfl⟩) | (refine w_call (where_nil x.c _) ?_; rintro r L ⟨rfl, rfl⟩) | (refine w_call (awake_spec _) ?_; rintro r L ⟨rfl, rfl⟩) | (refine w_call (sit_nil x _) ?_; rintro r L ⟨rfl, rfl⟩) | (refine w_call (cancelled_nil x.t _) ?_; rintro r L ⟨rfl, rfl⟩) | (refine w_call (of_nil x.r _) ?_; rintro r L ⟨rfl, rfl⟩) | (refine w_call (by_nil x.t _) ?_; rintro r L ⟨rfl, rfl⟩) | (refine w_call (end_nil x.r _) ?_; rintro r L ⟨rfl, rfl⟩) | (refine w_call (cancel_nil x.t _) ?_; rintro r L ⟨rfl, rfl⟩) | (refine w_call (all_nil _) ?_; rintro r L ⟨rfl, rfl⟩) | (refine w_call (empty_nil ao cap l _ hr hl) ?_; rintro r L ⟨a1, c1, rfl, rfl⟩) | (refine w_call (rempty_none ao cap l _ ?_ hl) ?_; (all_goals (try (focus (first | (first | (apply Reads.row; focus ((repeat (first | exact Sel.here | apply Sel.there)); done)) | ((refine Reads.ent (by assumption) ?_); ((repeat (first | with_reducible exact Ent.rfl | with_reducible exact Ent.nil | ((with_reducible apply Ent.cons); focus ((repeat (first | exact Sel.here | apply Sel.there)); done)) | with_reducible refine Ent.drop ?_)); done))) | assumption | omega)))); rintro r L ⟨a2, c2, rfl, rfl⟩) | (refine w_call (ints_same a1 a2 c1 c2 (dd l) _ ?_ ?_ hdl) ?_; (all_goals (try (focus (first | (first | (apply Reads.row; focus ((repeat (first | exact Sel.here | apply Sel.there)); done)) | ((refine Reads.ent (by assumption) ?_); ((repeat (first | with_reducible exact Ent.rfl | with_reducible exact Ent.nil | ((with_reducible apply Ent.cons); focus ((repeat (first | exact Sel.here | apply Sel.there)); done)) | with_reducible refine Ent.drop ?_)); done))) | assumption | omega)))); rintro r L ⟨rfl, rfl⟩) | (refine w_call (len_nil _) ?_; rintro r L ⟨rfl, rfl⟩) | (refine w_call (clone_nil _) ?_; rintro r L ⟨rfl, rfl⟩))))
  all_goals (refine kq_fin ?_; exact ⟨_, ⟨by simp [tup], rfl⟩, Ent.auto⟩)

abbrev sT := Int × Int × Int × Unit
abbrev iR := Rd.int Try.underlying3 (by kernel_rfl)
def sR : Rd Try.prog 33 sT := Rd.struct Try.underlying33 (.cons iR rfl (.cons iR (by kernel_rfl) (.cons iR (by kernel_rfl) .nil))) (by kernel_rfl)
theorem sR_enc {w : World} {cs : List Value} {x : sT} (h : sR.rel w cs x) : cs = sl ⟨x.1, x.2.1, x.2.2.1⟩ := by
  obtain ⟨c1, c2, rfl, ⟨rfl, _⟩, c3, c4, rfl, ⟨rfl, _⟩, c5, c6, rfl, ⟨rfl, _⟩, rfl⟩ := h
  rfl
abbrev nR : Rd Try.prog 23 (List Int) := Rd.sl Try.underlying23 (by kernel_rfl) iR

theorem leaveNil_walk (w : World) (cs : Array Value) (x : sT) (ao : Option Addr) (cap : Nat) (l : List Int) (h : sR.rel w cs.toList x) (h2 : nR.rel w [.slice ao l.length cap] l) :
    Calls Try.prog 4 #[.agg cs, .slice ao l.length cap] w fun e w' => e = .returned (.bool true) ∧ Below w.heap.size w w' := by
  have e : cs = (sl ⟨x.1, x.2.1, x.2.2.1⟩).toArray := by rw [← sR_enc h]
  subst e
  obtain ⟨ao', cap', e, hlc, hcm, -, hb, hat⟩ := h2
  simp only [List.cons.injEq, Value.slice.injEq, true_and, and_true] at e
  obtain ⟨rfl, rfl⟩ := e
  have hb' : l.length * 8 ≤ 140737488351232 := hb
  have hr := Reads.of_row (L := [old w]) (cap := cap) (enc := fun n : Int => [Value.int .i64 n]) (sz := 1) .here hat (fun ces a hh => by obtain ⟨rfl, _⟩ := hh; rfl) (fun _ => rfl) (by decide)
  rw [flat_ints] at hr
  exact walk_of_sp (law_spec ⟨x.1, x.2.1, x.2.2.1⟩ ao cap l [old w] hr (by omega))
end Go.Proofs.Ytjmlebajiclfmaa
