/- DERIVED. The law ReadyPlays: what comes in. -/
import Derived.Test.YtfkamdahfmlgmaaYj
import Derived.Test.YtfkamdahfmlgmaaVcc
namespace Go.Proofs.Ytfkamdahfmlgmaa
set_option linter.unusedSimpArgs false
set_option linter.unusedVariables false
open Go Sl Cv Go.RowKit
section
variable (F : List HP) (pol seed : Int) (po : Option Addr) (pc : Nat) (P : List Int) (ao : Option Addr) (cap : Nat) (l : List (Int × Int))
set_option maxHeartbeats 16000000 in
theorem plays_err (e : Int) (he : ¬ e = 0) (hn2 : ∀ F a c, Sp Try.prog 7 [.int .i64 pol, .int .u64 seed, .slice a P.length c] F fun v M => v = .tuple #[nilp, .int .i64 e] ∧ M = F)
    (hdn : ∀ F, Sp Try.prog 17 [.int .i64 pol, .int .u64 seed, .slice po P.length pc] F fun v M => v = .tuple #[dfv 0 0 none 0 0 none 0 0 none 0 0, .int .i64 e] ∧ M = F)
    (hr : Reads F (.slice po P.length pc) P.length (ints P)) (hP : P.length ≤ 17592186044416) (hla : Reads F (.slice ao l.length cap) l.length (flat ayl l)) : Sp Try.prog 5 [.agg (schl pol seed po P.length pc).toArray, .slice ao l.length cap] F fun v M => v = .bool true ∧ M = F := by
  have hsm := fun F a c ha hb => same_spec F P a po c pc (by omega) ha hb
  refine y_of Try.func5 rfl Try.ntmps5 rfl fun w0 => ?_
  (repeat' (first | (show KQ (WL _ _ _ _ _) _ _ _ _; first | refine yW p_move ?_ | refine yW p_asg ?_ | refine yA ?_ | refine yW p_ld ?_ | refine yW p_lda ?_ | refine yB ?_ | refine yW p_ext ?_ | refine yW p_pt ?_ | refine yW p_pf ?_ | refine yW p_nott ?_ | refine yW p_notf ?_ | refine yW p_not ?_ | refine yW p_neg ?_ | refine yW p_idx ?_ | refine yW p_idxl ?_ | refine yW p_len ?_ | refine yW p_lens ?_ | refine yW p_lenm ?_ | (refine yX ?_; first | refine w_st ?_ | refine w_str ?_ | refine w_stra ?_ | (refine w_ap0 ?_; intro ao1 cap1) | (refine w_ap ?_; intro ao1 cap1) | (refine w_al ?_; intro q) | (refine w_bx ?_; intro q) | (refine w_bs ?_; intro q) | (refine w_call (hn2 _ _ _) ?_; rintro r L ⟨rfl, rfl⟩) | (refine w_call (hdn _) ?_; rintro r L ⟨rfl, rfl⟩) | (refine w_call (awake_spec _) ?_; rintro r L ⟨rfl, rfl⟩) | (refine w_call (hsm _ _ _ ?_ ?_) ?_; (all_goals (try (focus (first | (first | (apply Reads.row; focus ((repeat (first | exact Sel.here | apply Sel.there)); done)) | (apply reads_blk; focus ((repeat (first | exact Sel.here | apply Sel.there)); done)) | ((refine Reads.ent (by assumption) ?_); ((repeat (first | with_reducible exact Ent.rfl | with_reducible exact Ent.nil | ((with_reducible apply Ent.cons); focus ((repeat (first | exact Sel.here | apply Sel.there)); done)) | with_reducible refine Ent.drop ?_)); done))) | assumption | omega)))); rintro r L ⟨rfl, rfl⟩) | fail) | refine yN ?_ | refine yO ?_ | fail) | (show KQ (CD _ _ _ _ _) _ _ _ _; first | refine yT ?_ | refine yF ?_ | fail) | ((first | refine yG ?_ ?_ | refine yC ?_ ?_) <;> (intro hc; (try simp only [hcS] at hc); try exact dD)) | refine yE ?_ | fail))
  clear hn2 hdn hsm
  refine y_loop (X := Nat × List Int) (0, P) (fun y => y.1 ≤ P.length ∧ y.2.length = P.length) (fun y => [(1, .slice ao l.length cap), (5, .slice ao1 P.length cap1), (6, nilp), (67, .int .i64 P.length), (68, .int .i64 y.1)]) (fun y => prw ao1 P.length cap1 y.2 :: F) (fun y => P.length - y.1) ⟨Nat.zero_le _, rfl⟩ ⟨rfl, rfl, rfl, rfl, rfl, trivial⟩ (by ((repeat (first | with_reducible exact Ent.rfl | with_reducible exact Ent.nil | ((with_reducible apply Ent.cons); focus ((repeat (first | exact Sel.here | apply Sel.there)); done)) | with_reducible refine Ent.drop ?_)); done)) ?_
  rintro K' ⟨i, P2⟩ ⟨hi, hP2⟩ hnext
  dsimp only at hi hP2 hnext ⊢
  by_cases hlt : i < P.length
  · have hx := ints_at P2 i (by omega)
    have hpos : 0 < (ints P2).length := by simp [ints]; omega
    have hkl : i < (ints P2).length := by simp [ints]; omega
    (repeat' (first | (show KQ (WL _ _ _ _ _) _ _ _ _; first | refine yW p_move ?_ | refine yW p_asg ?_ | refine yA ?_ | refine yW p_ld ?_ | refine yW p_lda ?_ | refine yB ?_ | refine yW p_ext ?_ | refine yW p_pt ?_ | refine yW p_pf ?_ | refine yW p_nott ?_ | refine yW p_notf ?_ | refine yW p_not ?_ | refine yW p_neg ?_ | refine yW p_idx ?_ | refine yW p_idxl ?_ | refine yW p_len ?_ | refine yW p_lens ?_ | refine yW p_lenm ?_ | (refine yX ?_; first | refine w_st ?_ | refine w_str ?_ | refine w_stra ?_ | (refine w_ap0 ?_; intro ao1 cap1) | (refine w_ap ?_; intro ao1 cap1) | (refine w_al ?_; intro q) | (refine w_bx ?_; intro q) | (refine w_bs ?_; intro q) | fail) | refine yN ?_ | refine yO ?_ | fail) | (show KQ (CD _ _ _ _ _) _ _ _ _; first | refine yT ?_ | refine yF ?_ | fail) | ((first | refine yG ?_ ?_ | refine yC ?_ ?_) <;> (intro hc; (try simp only [hcS] at hc); try exact dD)) | refine yE ?_ | fail))
    all_goals (rw [Int.toNat_natCast, Nat.mul_one, set_ints])
    all_goals exact hnext (i + 1, P2.set i 99) _ _ ⟨hlt, by rw [List.length_set]; exact hP2⟩ (by show P.length - (i + 1) < P.length - i; omega) ⟨rfl, rfl, rfl, rfl, rfl, trivial⟩ (by ((repeat (first | with_reducible exact Ent.rfl | with_reducible exact Ent.nil | ((with_reducible apply Ent.cons); focus ((repeat (first | exact Sel.here | apply Sel.there)); done)) | with_reducible refine Ent.drop ?_)); done))
  · obtain rfl : i = P.length := by omega
    clear hnext
    (repeat' (first | (show KQ (WL _ _ _ _ _) _ _ _ _; first | refine yW p_move ?_ | refine yW p_asg ?_ | refine yA ?_ | refine yW p_ld ?_ | refine yW p_lda ?_ | refine yB ?_ | refine yW p_ext ?_ | refine yW p_pt ?_ | refine yW p_pf ?_ | refine yW p_nott ?_ | refine yW p_notf ?_ | refine yW p_not ?_ | refine yW p_neg ?_ | refine yW p_idx ?_ | refine yW p_idxl ?_ | refine yW p_len ?_ | refine yW p_lens ?_ | refine yW p_lenm ?_ | (refine yX ?_; first | refine w_st ?_ | refine w_str ?_ | refine w_stra ?_ | (refine w_ap0 ?_; intro ao1 cap1) | (refine w_ap ?_; intro ao1 cap1) | (refine w_al ?_; intro q) | (refine w_bx ?_; intro q) | (refine w_bs ?_; intro q) | fail) | refine yN ?_ | refine yO ?_ | fail) | (show KQ (CD _ _ _ _ _) _ _ _ _; first | refine yT ?_ | refine yF ?_ | fail) | ((first | refine yG ?_ ?_ | refine yC ?_ ?_) <;> (intro hc; (try simp only [hcS] at hc); try exact dD)) | refine yE ?_ | fail))
    refine y_loop (X := Unit) () (fun _ => True) (fun _ => [(6, nilp), (75, .slice ao l.length cap), (76, .int .i64 l.length), (77, .int .i64 0)]) (fun _ => F) (fun _ => 0) trivial ⟨rfl, rfl, rfl, rfl, trivial⟩ (by ((repeat (first | with_reducible exact Ent.rfl | with_reducible exact Ent.nil | ((with_reducible apply Ent.cons); focus ((repeat (first | exact Sel.here | apply Sel.there)); done)) | with_reducible refine Ent.drop ?_)); done)) ?_
    rintro K2 ⟨⟩ - hnext
    clear hnext
    by_cases h0 : 0 < l.length
    · have htk := tk_flat (enc := ayl) (sz := 2) (l := l) (fun _ => rfl) 0 h0
      have hpos : 0 < (flat ayl l).length := by rw [length_flat (k := 2) (fun _ => rfl)]; omega
      obtain ⟨⟨kd, n⟩, hx⟩ : ∃ x, x = l[0] := ⟨_, rfl⟩
      rw [← hx] at htk
      (repeat' (first | (show KQ (WL _ _ _ _ _) _ _ _ _; first | refine yW p_move ?_ | refine yW p_asg ?_ | refine yA ?_ | refine yW p_ld ?_ | refine yW p_lda ?_ | refine yB ?_ | refine yW p_ext ?_ | refine yW p_pt ?_ | refine yW p_pf ?_ | refine yW p_nott ?_ | refine yW p_notf ?_ | refine yW p_not ?_ | refine yW p_neg ?_ | refine yW p_idx ?_ | refine yW p_idxl ?_ | refine yW p_len ?_ | refine yW p_lens ?_ | refine yW p_lenm ?_ | (refine yX ?_; first | refine w_st ?_ | refine w_str ?_ | refine w_stra ?_ | (refine w_ap0 ?_; intro ao1 cap1) | (refine w_ap ?_; intro ao1 cap1) | (refine w_al ?_; intro q) | (refine w_bx ?_; intro q) | (refine w_bs ?_; intro q) | fail) | refine yN ?_ | refine yO ?_ | fail) | (show KQ (CD _ _ _ _ _) _ _ _ _; first | refine yT ?_ | refine yF ?_ | fail) | ((first | refine yG ?_ ?_ | refine yC ?_ ?_) <;> (intro hc; (try simp only [hcS] at hc); try exact dD)) | refine yE ?_ | fail))
      all_goals (refine y_fin ?_; exact ⟨_, ⟨rfl, rfl⟩, Ent.auto⟩)
    · (repeat' (first | (show KQ (WL _ _ _ _ _) _ _ _ _; first | refine yW p_move ?_ | refine yW p_asg ?_ | refine yA ?_ | refine yW p_ld ?_ | refine yW p_lda ?_ | refine yB ?_ | refine yW p_ext ?_ | refine yW p_pt ?_ | refine yW p_pf ?_ | refine yW p_nott ?_ | refine yW p_notf ?_ | refine yW p_not ?_ | refine yW p_neg ?_ | refine yW p_idx ?_ | refine yW p_idxl ?_ | refine yW p_len ?_ | refine yW p_lens ?_ | refine yW p_lenm ?_ | (refine yX ?_; first | refine w_st ?_ | refine w_str ?_ | refine w_stra ?_ | (refine w_ap0 ?_; intro ao1 cap1) | (refine w_ap ?_; intro ao1 cap1) | (refine w_al ?_; intro q) | (refine w_bx ?_; intro q) | (refine w_bs ?_; intro q) | fail) | refine yN ?_ | refine yO ?_ | fail) | (show KQ (CD _ _ _ _ _) _ _ _ _; first | refine yT ?_ | refine yF ?_ | fail) | ((first | refine yG ?_ ?_ | refine yC ?_ ?_) <;> (intro hc; (try simp only [hcS] at hc); try exact dD)) | refine yE ?_ | fail))
      all_goals (refine y_fin ?_; exact ⟨_, ⟨rfl, rfl⟩, Ent.auto⟩)
theorem plays_spec (hs : 0 ≤ seed ∧ seed < 18446744073709551616) (hP : P.length ≤ 17592186044416) (hr : Reads F (.slice po P.length pc) P.length (ints P)) (hc' : P.length ≤ pc) (hla : Reads F (.slice ao l.length cap) l.length (flat ayl l)) (hll : l.length ≤ 8800000000000) : Sp Try.prog 5 [.agg (schl pol seed po P.length pc).toArray, .slice ao l.length cap] F fun v M => v = .bool true ∧ M = F := by
  by_cases hp : 0 ≤ pol ∧ pol ≤ 4
  · by_cases hn : P.length ≤ 65536
    · exact plays_ok F pol seed po pc P ao cap l hp hs hn hr hc' hla hll
    · exact plays_err F pol seed po pc P ao cap l 3 (by decide) (fun F a c => new_many F pol seed a c P.length hp (by omega)) (fun F => dnew_many F pol seed hp po P.length pc (by omega)) hr hP hla
  · exact plays_err F pol seed po pc P ao cap l 220 (by decide) (fun F a c => new_pol F pol seed _ (by omega)) (fun F => dnew_pol F pol seed (.bool true) (by omega) po P.length pc) hr hP hla
end
abbrev yT := Int × Int × List Int × Unit
abbrev yaT := Int × Int × Unit
def schR : Rd Try.prog 36 yT := Rd.struct Try.underlying36 (.cons iR rfl (.cons (Rd.int Try.underlying27 (by kernel_rfl)) (by kernel_rfl) (.cons nR (by kernel_rfl) .nil))) (by kernel_rfl)
def yactR : Rd Try.prog 39 yaT := Rd.struct Try.underlying39 (.cons iR rfl (.cons iR (by kernel_rfl) .nil)) (by kernel_rfl)
abbrev yactsR : Rd Try.prog 37 (List yaT) := Rd.sl Try.underlying37 (by kernel_rfl) yactR
theorem yactR_enc {w : World} {cs : List Value} {x : yaT} (h : yactR.rel w cs x) : cs = ayl (x.1, x.2.1) := by
  obtain ⟨c1, c2, rfl, ⟨rfl, _⟩, c3, c4, rfl, ⟨rfl, _⟩, rfl⟩ := h
  rfl
theorem acts_reads {w : World} {ao : Option Addr} {cap : Nat} {l : List yaT} (h2 : yactsR.rel w [.slice ao l.length cap] l) : l.length ≤ 8800000000000 ∧ Reads [old w] (.slice ao (l.map fun x => (x.1, x.2.1)).length cap) (l.map fun x => (x.1, x.2.1)).length (flat ayl (l.map fun x => (x.1, x.2.1))) := by
  obtain ⟨ao', cap', e, hlc, hcm, -, hb, hat⟩ := h2
  simp only [List.cons.injEq, Value.slice.injEq, true_and, and_true] at e
  obtain ⟨rfl, rfl⟩ := e
  have hby : Try.prog.bytesOf 39 = 16 := by kernel_rfl
  rw [hby] at hb
  have hce : Try.prog.cellsOf 39 = 2 := by kernel_rfl
  rw [hce] at hat
  have hrd := Reads.of_row (L := [old w]) (cap := cap) (enc := fun a : yaT => ayl (a.1, a.2.1)) (sz := 2) .here hat (fun _ _ hh => yactR_enc hh) (fun _ => rfl) (by decide)
  have hm : flat (fun a : yaT => ayl (a.1, a.2.1)) l = flat ayl (l.map fun x => (x.1, x.2.1)) := by simp [flat, List.flatMap_map]
  exact ⟨by omega, by rw [List.length_map, ← hm]; exact hrd⟩
theorem sch_reads {w : World} {cs : List Value} {x : yT} (h : schR.rel w cs x) : ∃ po pc, cs = schl x.1 x.2.1 po x.2.2.1.length pc ∧ (0 ≤ x.2.1 ∧ x.2.1 < 18446744073709551616) ∧ x.2.2.1.length ≤ 17592186044416 ∧ x.2.2.1.length ≤ pc ∧ Reads [old w] (.slice po x.2.2.1.length pc) x.2.2.1.length (ints x.2.2.1) := by
  obtain ⟨c1, c2, rfl, ⟨rfl, _⟩, c3, c4, rfl, ⟨rfl, h1⟩, c5, c6, rfl, ⟨po, pc, rfl, hlc, hcm, _, hb, hat⟩, rfl⟩ := h
  have hby : Try.prog.bytesOf 3 = 8 := by kernel_rfl
  rw [hby] at hb
  have hce : Try.prog.cellsOf 3 = 1 := by kernel_rfl
  rw [hce] at hat
  have hr := Reads.of_row (L := [old w]) (cap := pc) (enc := fun n : Int => [Value.int .i64 n]) (sz := 1) .here hat (fun ces a hh => by obtain ⟨rfl, _⟩ := hh; rfl) (fun _ => rfl) (by decide)
  rw [flat_ints] at hr
  refine ⟨po, pc, rfl, ?_, by omega, ?_, hr⟩
  · have : 0 ≤ x.2.1 ∧ x.2.1 ≤ 18446744073709551615 := by simpa [Lit.wf, IntKind.min, IntKind.max, IntKind.signed, IntKind.bits] using h1
    omega
  · exact hlc
theorem readyPlays_walk (w : World) (cs : Array Value) (x : yT) (ao : Option Addr) (cap : Nat) (l : List yaT) (h : schR.rel w cs.toList x) (h2 : yactsR.rel w [.slice ao l.length cap] l) :
    Calls Try.prog 5 #[.agg cs, .slice ao l.length cap] w fun e w' => e = .returned (.bool true) ∧ Below w.heap.size w w' := by
  obtain ⟨po, pc, e1, hs, hP, hc, hr⟩ := sch_reads h
  obtain ⟨hll, hla⟩ := acts_reads h2
  obtain rfl : cs = (schl x.1 x.2.1 po x.2.2.1.length pc).toArray := Array.toList_inj.1 (by simpa using e1)
  have h3 := plays_spec [old w] x.1 x.2.1 po pc x.2.2.1 ao cap (l.map fun x => (x.1, x.2.1)) hs hP hr hc hla (by rw [List.length_map]; exact hll)
  rw [List.length_map] at h3
  exact walk_of_sp h3
end Go.Proofs.Ytfkamdahfmlgmaa
