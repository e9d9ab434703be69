/- DERIVED. Sketches: the law SketchPlays. -/
import Derived.Test.YtfeceahffkbjnaaKq
import Derived.Test.YtfeceahffkbjnaaKh
import Derived.Test.YtfeceahffkbjnaaVz
namespace Go.Proofs.Ytfeceahffkbjnaa
set_option linter.unusedSimpArgs false
set_option linter.unusedVariables false
open Go Sl Cv Go.RowKit
section
variable (x y : Int) (ao : Option Addr) (cap : Nat) (l : List aK) (ak : Option Addr) (ck : Nat) (ks : List SK) (F : List HP)
theorem plays_spec (hK : ∀ x ∈ l, KO x.2) (hK2 : ∀ x ∈ ks, KO x) (hr : Reads F (.slice ao l.length cap) l.length (flat aenc l)) (hl : l.length ≤ 4480000000000) (hr2 : Reads F (.slice ak ks.length ck) ks.length (flat skl ks)) (hl2 : ks.length ≤ 6000000000000) :
    Sp Try.prog 4 [.agg #[.int .i64 x, .int .i64 y], .slice ao l.length cap, .slice ak ks.length ck] F fun r M => r = .bool true ∧ M = F := by
  by_cases hy : 1 ≤ x ∧ x ≤ 8 ∧ 0 ≤ y ∧ y ≤ 16
  · obtain ⟨n, rfl⟩ := Int.eq_ofNat_of_zero_le (show 0 ≤ x by omega)
    obtain ⟨b, rfl⟩ := Int.eq_ofNat_of_zero_le (show 0 ≤ y by omega)
    refine sp_of Try.func4 rfl Try.ntmps4 rfl fun w0 => ?_
    (repeat' (first | (show KQ _ _ _ _ _; first | refine kq_cons ?_ | refine kq_seq ?_ | refine kq_region ?_ | with_reducible refine kq_nil ?_ | with_reducible refine kq_then ?_ | with_reducible refine kq_then_ret ?_ | with_reducible refine kq_then_exit ?_ | refine kq_block ?_ | with_reducible refine kq_ret ?_ | with_reducible refine kq_skip ?_ | refine kq_exit ?_ | with_reducible refine kq_in ?_ | with_reducible refine kq_in_ret ?_ | with_reducible refine kq_in_hit ?_ | refine kq_in_miss ?_ | with_reducible refine kq_np ?_ | with_reducible refine kq_norm ?_ | refine kq_do ?_ | refine kq_not ?_ | refine kq_not0 ?_ | refine kq_cond_t ?_ | refine kq_cond_f ?_ | ((first | refine kq_guard (fun hc => ?_) (fun hc => ?_) | refine kq_cond (fun hc => ?_) (fun hc => ?_)) <;> ((try simp only [decide_eq_true_eq, decide_eq_false_iff_not, Bool.not_eq_true', Bool.not_eq_false', Int.not_lt, Int.not_le] at hc); try (exfalso; first | (simp at hc; done) | (simp [*] at hc; done) | omega | (simp at hc; omega))))) | (show WX _ _ _ _ _ _ _ _; first | refine w_pure p_move ?_ | refine w_pure p_asg ?_ | refine w_pure p_fld0 ?_ | refine w_pure p_fldk ?_ | refine w_pure p_flda ?_ | refine w_pure p_fldr ?_ | refine w_pure p_ld ?_ | refine w_pure p_lda ?_ | (show WX _ _ ⟨_, .binOp _ _ _ _ _, _, _, _, _⟩ _ _ _ _ _; first | refine w_pure p_add6 ?_ | refine w_pure p_add ?_ | refine w_pure p_adds ?_ | refine w_pure p_sub6 ?_ | refine w_pure p_sub ?_ | refine w_pure p_mul6 ?_ | refine w_pure p_mul ?_ | refine w_pure p_lss ?_ | refine w_pure p_leq ?_ | refine w_pure p_gtr ?_ | refine w_pure p_geq ?_ | refine w_pure p_eq ?_ | refine w_pure p_eqb ?_ | refine w_pure p_eqn0 ?_ | refine w_pure p_eqn1 ?_ | refine w_pure p_eqn ?_ | refine w_pure p_eqs0 ?_ | refine w_pure p_eqs1 ?_ | refine w_pure p_eqs ?_ | refine w_pure p_eqt ?_ | refine w_pure p_eqa ?_ | refine w_pure p_eqf ?_ | refine w_pure p_eqm ?_ | refine w_pure p_and ?_ | refine w_pure p_or ?_ | refine w_pure p_xor ?_ | refine w_pure p_quo ?_ | refine w_pure p_rem ?_ | refine w_pure p_shl ?_ | refine w_pure p_shr ?_ | refine w_pure p_ne ?_ | refine w_pure p_neb ?_ | refine w_pure p_nen0 ?_ | refine w_pure p_nen1 ?_ | refine w_pure p_nen ?_ | refine w_pure p_nes0 ?_ | refine w_pure p_nes1 ?_ | refine w_pure p_nes ?_ | refine w_pure p_net ?_ | refine w_pure p_nea ?_) | refine w_pure p_nil ?_ | refine w_pure p_nilf ?_ | refine w_pure p_ext ?_ | refine w_pure p_pt ?_ | refine w_pure p_pf ?_ | refine w_pure p_nott ?_ | refine w_pure p_notf ?_ | refine w_pure p_not ?_ | refine w_pure p_neg ?_ | refine w_pure p_idx ?_ | refine w_pure p_idxl ?_ | refine w_pure p_len ?_ | refine w_pure p_lens ?_ | refine w_pure p_lenm ?_ | refine w_pure p_bld ?_ | refine w_pure p_idxs ?_ | refine w_pure p_part ?_ | refine w_pure p_parta ?_ | refine w_pure p_conv ?_ | refine w_pure p_b2s ?_ | refine w_pure p_min ?_ | refine w_pure p_lookt ?_ | refine w_pure p_lookf ?_ | refine w_pure p_look1 ?_ | refine w_pure p_look0 ?_ | refine w_pure p_mf ?_ | refine w_pure p_sle1 ?_ | refine w_pure p_sle2 ?_ | refine w_pure p_slhn ?_ | refine w_pure p_slln ?_ | refine w_pure p_slbn ?_ | refine w_pure p_slmn ?_ | refine w_pure p_slh ?_ | refine w_pure p_sll ?_ | refine w_pure p_slb ?_ | refine w_pure p_slm ?_ | refine w_pure p_mif ?_ | refine w_pure p_tam ?_ | refine w_pure p_entry ?_ | refine w_st ?_ | refine w_str ?_ | refine w_stra ?_ | (refine w_mk ?_; intro q) | (refine w_ap0 ?_; intro ao1 cap1) | (refine w_ap ?_; intro ao1 cap1) | (refine w_al ?_; intro q) | (refine w_bx ?_; intro q) | (refine w_bs ?_; intro q) | refine w_mu ?_ | refine w_ins ?_ | refine w_md ?_ | (refine w_me ?_; intro v0 born) | refine w_es ?_ | (refine w_rg ?_; intro it) | (refine w_call (played_yes _ n b ao cap l (by omega) (by omega) (by omega) hK ?_ hl) ?_; (all_goals (try (focus (first | (first | (apply Reads.row; focus ((repeat (first | exact Sel.here | apply Sel.there)); done)) | (apply reads_blk; focus ((repeat (first | exact Sel.here | apply Sel.there)); done)) | ((refine Reads.ent (by assumption) ?_); ((repeat (first | with_reducible exact Ent.rfl | with_reducible exact Ent.nil | ((with_reducible apply Ent.cons); focus ((repeat (first | exact Sel.here | apply Sel.there)); done)) | with_reducible refine Ent.drop ?_)); done))) | assumption | omega)))); rintro r L ⟨p, a1, c1, tot, R, a2, c2, D, hB, rfl, rfl⟩) | (refine w_call (awake_spec _) ?_; rintro r L ⟨rfl, rfl⟩) | (refine w_call (says_spec p b n a1 c1 tot R a2 c2 D _ ak ck ks hB (by omega) (by omega) (by omega) hK2 ?_ hl2) ?_; (all_goals (try (focus (first | (first | (apply Reads.row; focus ((repeat (first | exact Sel.here | apply Sel.there)); done)) | (apply reads_blk; focus ((repeat (first | exact Sel.here | apply Sel.there)); done)) | ((refine Reads.ent (by assumption) ?_); ((repeat (first | with_reducible exact Ent.rfl | with_reducible exact Ent.nil | ((with_reducible apply Ent.cons); focus ((repeat (first | exact Sel.here | apply Sel.there)); done)) | with_reducible refine Ent.drop ?_)); done))) | assumption | omega)))); rintro r L ⟨rfl, rfl⟩) | fail) | fail))
    all_goals (refine kq_fin ?_; exact ⟨_, ⟨rfl, rfl⟩, Ent.auto⟩)
  · refine sp_of Try.func4 rfl Try.ntmps4 rfl fun w0 => ?_
    (repeat' (first | (show KQ _ _ _ _ _; first | refine kq_cons ?_ | refine kq_seq ?_ | refine kq_region ?_ | with_reducible refine kq_nil ?_ | with_reducible refine kq_then ?_ | with_reducible refine kq_then_ret ?_ | with_reducible refine kq_then_exit ?_ | refine kq_block ?_ | with_reducible refine kq_ret ?_ | with_reducible refine kq_skip ?_ | refine kq_exit ?_ | with_reducible refine kq_in ?_ | with_reducible refine kq_in_ret ?_ | with_reducible refine kq_in_hit ?_ | refine kq_in_miss ?_ | with_reducible refine kq_np ?_ | with_reducible refine kq_norm ?_ | refine kq_do ?_ | refine kq_not ?_ | refine kq_not0 ?_ | refine kq_cond_t ?_ | refine kq_cond_f ?_ | ((first | refine kq_guard (fun hc => ?_) (fun hc => ?_) | refine kq_cond (fun hc => ?_) (fun hc => ?_)) <;> ((try simp only [decide_eq_true_eq, decide_eq_false_iff_not, Bool.not_eq_true', Bool.not_eq_false', Int.not_lt, Int.not_le] at hc); try (exfalso; first | (simp at hc; done) | (simp [*] at hc; done) | omega | (simp at hc; omega))))) | (show WX _ _ _ _ _ _ _ _; first | refine w_pure p_move ?_ | refine w_pure p_asg ?_ | refine w_pure p_fld0 ?_ | refine w_pure p_fldk ?_ | refine w_pure p_flda ?_ | refine w_pure p_fldr ?_ | refine w_pure p_ld ?_ | refine w_pure p_lda ?_ | (show WX _ _ ⟨_, .binOp _ _ _ _ _, _, _, _, _⟩ _ _ _ _ _; first | refine w_pure p_add6 ?_ | refine w_pure p_add ?_ | refine w_pure p_adds ?_ | refine w_pure p_sub6 ?_ | refine w_pure p_sub ?_ | refine w_pure p_mul6 ?_ | refine w_pure p_mul ?_ | refine w_pure p_lss ?_ | refine w_pure p_leq ?_ | refine w_pure p_gtr ?_ | refine w_pure p_geq ?_ | refine w_pure p_eq ?_ | refine w_pure p_eqb ?_ | refine w_pure p_eqn0 ?_ | refine w_pure p_eqn1 ?_ | refine w_pure p_eqn ?_ | refine w_pure p_eqs0 ?_ | refine w_pure p_eqs1 ?_ | refine w_pure p_eqs ?_ | refine w_pure p_eqt ?_ | refine w_pure p_eqa ?_ | refine w_pure p_eqf ?_ | refine w_pure p_eqm ?_ | refine w_pure p_and ?_ | refine w_pure p_or ?_ | refine w_pure p_xor ?_ | refine w_pure p_quo ?_ | refine w_pure p_rem ?_ | refine w_pure p_shl ?_ | refine w_pure p_shr ?_ | refine w_pure p_ne ?_ | refine w_pure p_neb ?_ | refine w_pure p_nen0 ?_ | refine w_pure p_nen1 ?_ | refine w_pure p_nen ?_ | refine w_pure p_nes0 ?_ | refine w_pure p_nes1 ?_ | refine w_pure p_nes ?_ | refine w_pure p_net ?_ | refine w_pure p_nea ?_) | refine w_pure p_nil ?_ | refine w_pure p_nilf ?_ | refine w_pure p_ext ?_ | refine w_pure p_pt ?_ | refine w_pure p_pf ?_ | refine w_pure p_nott ?_ | refine w_pure p_notf ?_ | refine w_pure p_not ?_ | refine w_pure p_neg ?_ | refine w_pure p_idx ?_ | refine w_pure p_idxl ?_ | refine w_pure p_len ?_ | refine w_pure p_lens ?_ | refine w_pure p_lenm ?_ | refine w_pure p_bld ?_ | refine w_pure p_idxs ?_ | refine w_pure p_part ?_ | refine w_pure p_parta ?_ | refine w_pure p_conv ?_ | refine w_pure p_b2s ?_ | refine w_pure p_min ?_ | refine w_pure p_lookt ?_ | refine w_pure p_lookf ?_ | refine w_pure p_look1 ?_ | refine w_pure p_look0 ?_ | refine w_pure p_mf ?_ | refine w_pure p_sle1 ?_ | refine w_pure p_sle2 ?_ | refine w_pure p_slhn ?_ | refine w_pure p_slln ?_ | refine w_pure p_slbn ?_ | refine w_pure p_slmn ?_ | refine w_pure p_slh ?_ | refine w_pure p_sll ?_ | refine w_pure p_slb ?_ | refine w_pure p_slm ?_ | refine w_pure p_mif ?_ | refine w_pure p_tam ?_ | refine w_pure p_entry ?_ | refine w_st ?_ | refine w_str ?_ | refine w_stra ?_ | (refine w_mk ?_; intro q) | (refine w_ap0 ?_; intro ao1 cap1) | (refine w_ap ?_; intro ao1 cap1) | (refine w_al ?_; intro q) | (refine w_bx ?_; intro q) | (refine w_bs ?_; intro q) | refine w_mu ?_ | refine w_ins ?_ | refine w_md ?_ | (refine w_me ?_; intro v0 born) | refine w_es ?_ | (refine w_rg ?_; intro it) | (refine w_call (played_no _ ao cap l x y (by omega)) ?_; rintro r L ⟨rfl, rfl⟩) | (refine w_call (awake_spec _) ?_; rintro r L ⟨rfl, rfl⟩) | fail) | fail))
    all_goals (refine kq_fin ?_; exact ⟨_, ⟨rfl, rfl⟩, Ent.auto⟩)
end
abbrev actT := Int × kT × Unit
def actR : Rd Try.prog 51 actT := Rd.struct Try.underlying51 (.cons (Rd.int Try.underlying3 (by kernel_rfl)) rfl (.cons keyR (by kernel_rfl) .nil)) (by kernel_rfl)
def aS (x : actT) : aK := (x.1, kS x.2.1)
theorem keyR_ok {w : World} {cs : List Value} {x : kT} (h : keyR.rel w cs x) : cs = skl (kS x) ∧ KO (kS x) := by
  have h' := h
  obtain ⟨c1, c2, rfl, ⟨rfl, hw⟩, c3, c4, rfl, hs, rfl⟩ := h
  refine ⟨keyR_enc h', ?_⟩
  have : 0 ≤ x.1 ∧ x.1 ≤ 65535 := by simpa [Lit.wf, IntKind.min, IntKind.max, IntKind.signed, IntKind.bits] using hw
  exact ⟨this.1, by show x.1 < 65536; omega⟩
theorem actR_ok {w : World} {cs : List Value} {x : actT} (h : actR.rel w cs x) : cs = aenc (aS x) ∧ KO (aS x).2 := by
  obtain ⟨c1, c2, rfl, ⟨rfl, _⟩, c3, c4, rfl, hs, rfl⟩ := h
  have := keyR_ok hs
  obtain ⟨rfl, h2⟩ := this
  exact ⟨rfl, h2⟩
abbrev actsR : Rd Try.prog 37 (List actT) := Rd.sl Try.underlying37 (by kernel_rfl) actR
abbrev sizeR : Rd Try.prog 36 (List Int) := Rd.arr Try.underlying36 (Rd.int Try.underlying3 (by kernel_rfl))
theorem AtRow.mem {α : Type} {rel : World → List Value → α → Prop} {s : Nat} {w : World} {ao : Option Addr} {l : List α} (h : AtRow rel s w ao l) : ∀ x ∈ l, ∃ cs, rel w cs x := by
  intro x hx
  obtain ⟨i, hi, rfl⟩ := List.getElem_of_mem hx
  obtain ⟨_, ces, _, _, h2⟩ := h i hi
  exact ⟨ces, h2⟩
theorem acts_read {w : World} {ao : Option Addr} {cap : Nat} {l : List actT} (h : actsR.rel w [.slice ao l.length cap] l) : Reads [old w] (.slice ao (l.map aS).length cap) (l.map aS).length (flat aenc (l.map aS)) ∧ (∀ x ∈ l.map aS, KO x.2) ∧ (l.map aS).length ≤ 4480000000000 := by
  obtain ⟨ao', cap', e, hlc, hcm, -, hb, hat⟩ := h
  simp only [List.cons.injEq, Value.slice.injEq, true_and, and_true] at e
  obtain ⟨rfl, rfl⟩ := e
  rw [show Try.prog.bytesOf 51 = 32 by kernel_rfl] at hb
  rw [show Try.prog.cellsOf 51 = 3 by kernel_rfl] at hat
  have hr : Reads [old w] (.slice ao l.length cap) l.length (flat (fun x => aenc (aS x)) l) := Reads.of_row .here hat (fun _ _ h => (actR_ok h).1) (fun _ => rfl) (by decide)
  have e1 : flat (fun x => aenc (aS x)) l = flat aenc (l.map aS) := by simp [flat, List.flatMap_map]
  rw [e1] at hr
  refine ⟨by rw [List.length_map]; exact hr, fun x hx => ?_, by simp; omega⟩
  obtain ⟨y, hy, rfl⟩ := List.mem_map.1 hx
  obtain ⟨cs, hcs⟩ := AtRow.mem hat y hy
  exact (actR_ok hcs).2
theorem keys_read {w : World} {ao : Option Addr} {cap : Nat} {l : List kT} (h : keysR.rel w [.slice ao l.length cap] l) : Reads [old w] (.slice ao (l.map kS).length cap) (l.map kS).length (flat skl (l.map kS)) ∧ (∀ x ∈ l.map kS, KO x) ∧ (l.map kS).length ≤ 6000000000000 := by
  obtain ⟨ao', cap', e, hlc, hcm, -, hb, hat⟩ := h
  simp only [List.cons.injEq, Value.slice.injEq, true_and, and_true] at e
  obtain ⟨rfl, rfl⟩ := e
  rw [show Try.prog.bytesOf 31 = 24 by kernel_rfl] at hb
  rw [show Try.prog.cellsOf 31 = 2 by kernel_rfl] at hat
  have hr : Reads [old w] (.slice ao l.length cap) l.length (flat (fun x => skl (kS x)) l) := Reads.of_row .here hat (fun _ _ h => (keyR_ok h).1) (fun _ => rfl) (by decide)
  have e1 : flat (fun x => skl (kS x)) l = flat skl (l.map kS) := by simp [flat, List.flatMap_map]
  rw [e1] at hr
  refine ⟨by rw [List.length_map]; exact hr, fun x hx => ?_, by simp; omega⟩
  obtain ⟨y, hy, rfl⟩ := List.mem_map.1 hx
  obtain ⟨cs, hcs⟩ := AtRow.mem hat y hy
  exact (keyR_ok hcs).2
theorem ints_one_arr {cs : List Value} {l : List Int} (hl : cs.length = l.length) (hx : ∀ i (hi : i < l.length), (cs.drop i).take 1 = [.int .i64 l[i]]) : cs = ints l := by
  apply List.ext_getElem (by simp [ints, hl])
  intro i h1 h2
  have h3 : i < l.length := by omega
  have h4 := hx i h3
  have h5 : ((cs.drop i).take 1)[0]? = some cs[i] := by simp [h1]
  rw [h4] at h5
  simp only [ints, List.getElem_map]
  simpa using h5.symm
theorem sketchPlays_walk (w : World) (cs : Array Value) (sz : List Int) (ao : Option Addr) (cap : Nat) (l : List actT) (ak : Option Addr) (ck : Nat) (ks : List kT) (h0 : sizeR.rel w cs.toList sz) (h : actsR.rel w [.slice ao l.length cap] l) (h2 : keysR.rel w [.slice ak ks.length ck] ks) :
    Calls Try.prog 4 #[.agg cs, .slice ao l.length cap, .slice ak ks.length ck] w fun e w' => e = .returned (.bool true) ∧ Below w.heap.size w w' := by
  obtain ⟨e1, e2, e3⟩ := h0
  rw [show Try.prog.cellsOf 36 = 2 by kernel_rfl] at e2
  have e4 : cs.toList = ints sz := ints_one_arr (by rw [e2, e1]) fun i hi => by
    have := (e3 i hi).1
    rw [show Try.prog.cellsOf 3 = 1 by kernel_rfl, Nat.mul_one] at this
    exact this
  obtain ⟨x, y, rfl⟩ : ∃ x y, sz = [x, y] := by
    rcases sz with _ | ⟨x, _ | ⟨y, _ | ⟨z, r⟩⟩⟩
    · simp at e1
    · simp at e1
    · exact ⟨x, y, rfl⟩
    · simp at e1
  obtain rfl : cs = #[.int .i64 x, .int .i64 y] := Array.toList_inj.1 e4
  obtain ⟨r1, r2, r3⟩ := acts_read h
  obtain ⟨s1, s2, s3⟩ := keys_read h2
  have := walk_of_sp (plays_spec x y ao cap (l.map aS) ak ck (ks.map kS) [old w] r2 s2 r1 r3 s1 s3)
  simpa using this
end Go.Proofs.Ytfeceahffkbjnaa
