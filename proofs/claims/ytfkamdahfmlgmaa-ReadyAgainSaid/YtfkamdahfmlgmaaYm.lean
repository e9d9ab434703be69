/- DERIVED. The law ReadyAgain: for every input the law returns true. -/
import Derived.Test.YtfkamdahfmlgmaaYl
import Derived.Test.YtfkamdahfmlgmaaVcc
namespace Go.Proofs.Ytfkamdahfmlgmaa
set_option linter.unusedSimpArgs false
set_option linter.unusedVariables false
open Go Sl Cv Go.RowKit
structure AW where
  i : Nat
  a : Option Addr
  c : Nat
section
variable (F : List HP) (pol seed : Int) (po : Option Addr) (pc : Nat) (P : List Int) (pol2 : Int) (ao : Option Addr) (cap : Nat) (l : List (Int × Int))
set_option maxHeartbeats 16000000 in
theorem again_err (e : Int) (he : ¬ e = 0) (hn2 : ∀ F a c, Sp Try.prog 7 [.int .i64 pol, .int .u64 seed, .slice a P.length c] F fun v M => v = .tuple #[nilp, .int .i64 e] ∧ M = F) (v2 v3 : Value) : Sp Try.prog 4 [.agg (schl pol seed po P.length pc).toArray, v2, v3] F fun v M => v = .bool true ∧ M = F := by
  refine y_of Try.func4 rfl Try.ntmps4 rfl fun w0 => ?_
  (repeat' (first | (show KQ (WL _ _ _ _ _) _ _ _ _; first | refine yW p_move ?_ | refine yW p_asg ?_ | refine yA ?_ | refine yW p_ld ?_ | refine yW p_lda ?_ | refine yB ?_ | refine yW p_ext ?_ | refine yW p_pt ?_ | refine yW p_pf ?_ | refine yW p_nott ?_ | refine yW p_notf ?_ | refine yW p_not ?_ | refine yW p_neg ?_ | refine yW p_idx ?_ | refine yW p_idxl ?_ | refine yW p_len ?_ | refine yW p_lens ?_ | refine yW p_lenm ?_ | (refine yX ?_; first | refine w_st ?_ | refine w_str ?_ | refine w_stra ?_ | (refine w_ap0 ?_; intro ao1 cap1) | (refine w_ap ?_; intro ao1 cap1) | (refine w_al ?_; intro q) | (refine w_bx ?_; intro q) | (refine w_bs ?_; intro q) | (refine w_call (hn2 _ _ _) ?_; rintro r L ⟨rfl, rfl⟩) | (refine w_call (awake_spec _) ?_; rintro r L ⟨rfl, rfl⟩) | fail) | refine yN ?_ | refine yO ?_ | fail) | (show KQ (CD _ _ _ _ _) _ _ _ _; first | refine yT ?_ | refine yF ?_ | fail) | ((first | refine yG ?_ ?_ | refine yC ?_ ?_) <;> (intro hc; (try simp only [hcS] at hc); try exact dD)) | refine yE ?_ | fail))
  all_goals (refine y_fin ?_; exact ⟨_, ⟨rfl, rfl⟩, Ent.auto⟩)
set_option maxHeartbeats 16000000 in
theorem again_ok (hp : 0 ≤ pol ∧ pol ≤ 4) (hs : 0 ≤ seed ∧ seed < 18446744073709551616) (hP : P.length ≤ 65536) (hr : Reads F (.slice po P.length pc) P.length (ints P)) (hla : Reads F (.slice ao l.length cap) l.length (flat ayl l)) (hll : l.length ≤ 8800000000000) : Sp Try.prog 4 [.agg (schl pol seed po P.length pc).toArray, .int .i64 pol2, .slice ao l.length cap] F fun v M => v = .bool true ∧ M = F := by
  have hn2 := fun F hr => new_ok F pol seed po pc P hp hP hr
  refine y_of Try.func4 rfl Try.ntmps4 rfl fun w0 => ?_
  (repeat' (first | (show KQ (WL _ _ _ _ _) _ _ _ _; first | refine yW p_move ?_ | refine yW p_asg ?_ | refine yA ?_ | refine yW p_ld ?_ | refine yW p_lda ?_ | refine yB ?_ | refine yW p_ext ?_ | refine yW p_pt ?_ | refine yW p_pf ?_ | refine yW p_nott ?_ | refine yW p_notf ?_ | refine yW p_not ?_ | refine yW p_neg ?_ | refine yW p_idx ?_ | refine yW p_idxl ?_ | refine yW p_len ?_ | refine yW p_lens ?_ | refine yW p_lenm ?_ | (refine yX ?_; first | refine w_st ?_ | refine w_str ?_ | refine w_stra ?_ | (refine w_ap0 ?_; intro ao1 cap1) | (refine w_ap ?_; intro ao1 cap1) | (refine w_al ?_; intro q) | (refine w_bx ?_; intro q) | (refine w_bs ?_; intro q) | (refine w_call (hn2 _ ?_) ?_; (all_goals (try (focus (first | (first | (apply Reads.row; focus ((repeat (first | exact Sel.here | apply Sel.there)); done)) | (apply reads_blk; focus ((repeat (first | exact Sel.here | apply Sel.there)); done)) | ((refine Reads.ent (by assumption) ?_); ((repeat (first | with_reducible exact Ent.rfl | with_reducible exact Ent.nil | ((with_reducible apply Ent.cons); focus ((repeat (first | exact Sel.here | apply Sel.there)); done)) | with_reducible refine Ent.drop ?_)); done))) | assumption | omega)))); rintro r L ⟨r, rfl, rfl⟩) | (refine w_call (awake_spec _) ?_; rintro r L ⟨rfl, rfl⟩) | fail) | refine yN ?_ | refine yO ?_ | fail) | (show KQ (CD _ _ _ _ _) _ _ _ _; first | refine yT ?_ | refine yF ?_ | fail) | ((first | refine yG ?_ ?_ | refine yC ?_ ?_) <;> (intro hc; (try simp only [hcS] at hc); try exact dD)) | refine yE ?_ | fail))
  clear hn2
  rename_i q0
  have hS0 := rs0_ok (P := P) hp hs hP
  have hst := fun i hi => stS_ok (rs0 pol seed P) l hS0 rfl i hi
  refine y_loop (X := AW) ⟨0, some ⟨q, 0, none⟩, 0⟩ (fun y => y.i ≤ l.length) (fun y => [(1, .int .i64 pol2), (2, .slice ao l.length cap), (3, ptr q0), (7, ptr r), (9, .slice y.a y.i y.c), (38, .slice ao l.length cap), (39, .int .i64 l.length), (40, .int .i64 y.i)]) (fun y => prw y.a y.i y.c (sdS (rs0 pol seed P) l y.i) :: RDY r (stS (rs0 pol seed P) l y.i) y.i :: blk q0 (.cells (schl pol seed po P.length pc).toArray 36 (0, 0)) :: F) (fun y => l.length - y.i) (Nat.zero_le _) ⟨rfl, rfl, rfl, rfl, rfl, rfl, rfl, rfl, trivial⟩ (by ((repeat (first | with_reducible exact Ent.rfl | with_reducible exact Ent.nil | ((with_reducible apply Ent.cons); focus ((repeat (first | exact Sel.here | apply Sel.there)); done)) | with_reducible refine Ent.drop ?_)); done)) ?_
  rintro K' ⟨i, a, c⟩ hi hnext
  dsimp only at hi hnext ⊢
  by_cases hlt : i < l.length
  · have htk := tk_flat (enc := ayl) (sz := 2) (l := l) (fun _ => rfl) i hlt
    have hpos : 0 < (flat ayl l).length := by rw [length_flat (k := 2) (fun _ => rfl)]; omega
    have hgd : l.getD i (0, 0) = l[i] := by simp [List.getD, hlt]
    have hvl : vlS (rs0 pol seed P) l i = (doneS (stS (rs0 pol seed P) l i) l[i]).1 := by unfold vlS; rw [hgd]
    have hstn : stS (rs0 pol seed P) l (i + 1) = (doneS (stS (rs0 pol seed P) l i) l[i]).2 := by rw [stS, hgd]
    obtain ⟨g1, g2, -⟩ := hst i (by omega)
    obtain ⟨⟨kd, n⟩, hx⟩ : ∃ x, x = l[i] := ⟨_, rfl⟩
    rw [← hx] at htk hvl hstn
    have hdo := fun F => done_spec F r _ i g1 (by omega) (by omega) kd n
    rw [← hvl, ← hstn] at hdo
    have hsd := sdS_succ (rs0 pol seed P) l i
    (repeat' (first | (show KQ (WL _ _ _ _ _) _ _ _ _; first | refine yW p_move ?_ | refine yW p_asg ?_ | refine yA ?_ | refine yW p_ld ?_ | refine yW p_lda ?_ | refine yB ?_ | refine yW p_ext ?_ | refine yW p_pt ?_ | refine yW p_pf ?_ | refine yW p_nott ?_ | refine yW p_notf ?_ | refine yW p_not ?_ | refine yW p_neg ?_ | refine yW p_idx ?_ | refine yW p_idxl ?_ | refine yW p_len ?_ | refine yW p_lens ?_ | refine yW p_lenm ?_ | (refine yX ?_; first | refine w_st ?_ | refine w_str ?_ | refine w_stra ?_ | (refine w_ap0 ?_; intro ao1 cap1) | (refine w_ap ?_; intro ao1 cap1) | (refine w_al ?_; intro q) | (refine w_bx ?_; intro q) | (refine w_bs ?_; intro q) | (refine w_call (hdo _) ?_; rintro r L ⟨rfl, rfl⟩) | fail) | refine yN ?_ | refine yO ?_ | fail) | (show KQ (CD _ _ _ _ _) _ _ _ _; first | refine yT ?_ | refine yF ?_ | fail) | ((first | refine yG ?_ ?_ | refine yC ?_ ?_) <;> (intro hc; (try simp only [hcS] at hc); try exact dD)) | refine yE ?_ | fail))
    all_goals exact hnext ⟨i + 1, ao1, cap1⟩ _ _ hlt (by show l.length - (i + 1) < l.length - i; omega) ⟨rfl, rfl, rfl, rfl, rfl, rfl, rfl, rfl, trivial⟩ (by dsimp only; rw [hsd]; unfold prw; rw [ints_append]; ((repeat (first | with_reducible exact Ent.rfl | with_reducible exact Ent.nil | ((with_reducible apply Ent.cons); focus ((repeat (first | exact Sel.here | apply Sel.there)); done)) | with_reducible refine Ent.drop ?_)); done))
  · obtain rfl : i = l.length := by omega
    clear hnext
    obtain ⟨g1, g2, g3⟩ := hst l.length hll
    have hto := fun F => told_spec F r _ l.length g1
    have hal := fun F => all_spec F r _ l.length g1
    have htu := fun F => turns_spec' F r (stS (rs0 pol seed P) l l.length) l.length
    obtain ⟨TD, hTD⟩ : ∃ TD, TD = (stS (rs0 pol seed P) l l.length).TD := ⟨_, rfl⟩
    rw [← hTD] at hto htu g2
    have h5 := tm_rng pol2 (n := 5) (by decide)
    have hp2 : 0 ≤ (pol2.tmod 5 + 5).tmod 5 ∧ (pol2.tmod 5 + 5).tmod 5 ≤ 4 := by
      have e := h5.2.2
      change (pol2.tmod 5 + 5).tmod 5 = _ at e
      rw [e]
      have h1 : -5 < pol2.tmod 5 := h5.1
      have h2 : pol2.tmod 5 < 5 := h5.2.1
      change 0 ≤ (if pol2.tmod 5 < 0 then pol2.tmod 5 + 5 else pol2.tmod 5) ∧ (if pol2.tmod 5 < 0 then pol2.tmod 5 + 5 else pol2.tmod 5) ≤ 4
      split <;> omega
    have h51 : -5 < pol2.tmod 5 := h5.1
    have h52 : pol2.tmod 5 < 5 := h5.2.1
    clear h5
    have hs2 := wr64 (seed + 1)
    by_cases hm : TD.length ≤ 65536
    · have hn3 := fun F a c hr => new_ok F ((pol2.tmod 5 + 5).tmod 5) (w64 (seed + 1)) a c TD hp2 hm hr
      have hT0 := rs0_ok (P := TD) hp2 hs2 hm
      (repeat' (first | (show KQ (WL _ _ _ _ _) _ _ _ _; first | refine yW p_move ?_ | refine yW p_asg ?_ | refine yA ?_ | refine yW p_ld ?_ | refine yW p_lda ?_ | refine yB ?_ | refine yW p_ext ?_ | refine yW p_pt ?_ | refine yW p_pf ?_ | refine yW p_nott ?_ | refine yW p_notf ?_ | refine yW p_not ?_ | refine yW p_neg ?_ | refine yW p_idx ?_ | refine yW p_idxl ?_ | refine yW p_len ?_ | refine yW p_lens ?_ | refine yW p_lenm ?_ | (refine yX ?_; first | refine w_st ?_ | refine w_str ?_ | refine w_stra ?_ | (refine w_ap0 ?_; intro ao1 cap1) | (refine w_ap ?_; intro ao1 cap1) | (refine w_al ?_; intro q) | (refine w_bx ?_; intro q) | (refine w_bs ?_; intro q) | (refine w_call (hto _) ?_; rintro r L ⟨a2, c2, rfl, rfl⟩) | (refine w_call (hn3 _ _ _ ?_) ?_; (all_goals (try (focus (first | (first | (apply Reads.row; focus ((repeat (first | exact Sel.here | apply Sel.there)); done)) | (apply reads_blk; focus ((repeat (first | exact Sel.here | apply Sel.there)); done)) | ((refine Reads.ent (by assumption) ?_); ((repeat (first | with_reducible exact Ent.rfl | with_reducible exact Ent.nil | ((with_reducible apply Ent.cons); focus ((repeat (first | exact Sel.here | apply Sel.there)); done)) | with_reducible refine Ent.drop ?_)); done))) | assumption | omega)))); rintro r L ⟨r2, rfl, rfl⟩) | fail) | refine yN ?_ | refine yO ?_ | fail) | (show KQ (CD _ _ _ _ _) _ _ _ _; first | refine yT ?_ | refine yF ?_ | fail) | ((first | refine yG ?_ ?_ | refine yC ?_ ?_) <;> (intro hc; (try simp only [hcS] at hc); try exact dD)) | refine yE ?_ | fail))
      refine y_loop (X := Nat × RS) (0, rs0 ((pol2.tmod 5 + 5).tmod 5) (w64 (seed + 1)) TD) (fun y => y.1 ≤ l.length ∧ ROk y.2 ∧ y.2.P = TD ∧ Same (stS (rs0 pol seed P) l y.1) y.2) (fun y => [(7, ptr r), (9, .slice a l.length c), (12, .slice a2 TD.length c2), (13, ptr r2), (70, .slice ao l.length cap), (71, .int .i64 l.length), (72, .int .i64 y.1)]) (fun y => RDY r2 y.2 y.1 :: irow a2 c2 TD :: prw a l.length c (sdS (rs0 pol seed P) l l.length) :: RDY r (stS (rs0 pol seed P) l l.length) l.length :: F) (fun y => l.length - y.1) ⟨Nat.zero_le _, hT0, rfl, ⟨rfl, rfl⟩⟩ ⟨rfl, rfl, rfl, rfl, rfl, rfl, rfl, trivial⟩ (by ((repeat (first | with_reducible exact Ent.rfl | with_reducible exact Ent.nil | ((with_reducible apply Ent.cons); focus ((repeat (first | exact Sel.here | apply Sel.there)); done)) | with_reducible refine Ent.drop ?_)); done)) ?_
      rintro K2 ⟨i, T⟩ ⟨hi2, hT, hTP, hsm⟩ hnext
      dsimp only at hi2 hT hTP hsm hnext ⊢
      by_cases hlt2 : i < l.length
      · have htk := tk_flat (enc := ayl) (sz := 2) (l := l) (fun _ => rfl) i hlt2
        have hpos : 0 < (flat ayl l).length := by rw [length_flat (k := 2) (fun _ => rfl)]; omega
        have hgd : l.getD i (0, 0) = l[i] := by simp [List.getD, hlt2]
        obtain ⟨f1, f2, -⟩ := hst i (by omega)
        have htd : T.TD.length ≤ i := by rw [hsm.TD]; exact f2
        have hpre := stS_pre (rs0 pol seed P) l (i + 1) (l.length - (i + 1))
        rw [show i + 1 + (l.length - (i + 1)) = l.length by omega, ← hTD] at hpre
        have hvl : vlS (rs0 pol seed P) l i = (doneS (stS (rs0 pol seed P) l i) l[i]).1 := by unfold vlS; rw [hgd]
        have hstn : stS (rs0 pol seed P) l (i + 1) = (doneS (stS (rs0 pol seed P) l i) l[i]).2 := by rw [stS, hgd]
        have hsv : (ints (sdS (rs0 pol seed P) l l.length))[i]? = some (.int .i64 (vlS (rs0 pol seed P) l i)) := by
          rw [ints_at _ i (by rw [sdS_len]; exact hlt2)]; simp [sdS]
        have hspos : 0 < (ints (sdS (rs0 pol seed P) l l.length)).length := by simp [ints, sdS]; omega
        obtain ⟨⟨kd, n⟩, hx⟩ : ∃ x, x = l[i] := ⟨_, rfl⟩
        rw [← hx] at htk hvl hstn
        rw [hstn] at hpre
        obtain ⟨e1, e2⟩ := done_same f1 (kd, n) hsm (by rw [hTP]; exact hpre)
        obtain ⟨k1, k2, k3⟩ := doneS_ok hT (kd, n) (by omega)
        have hdo := fun F => done_spec F r2 T i hT (by omega) (by omega) kd n
        rw [e1, ← hvl] at hdo
        rw [← hstn] at e2
        obtain ⟨T2, hT2⟩ : ∃ T2, T2 = (doneS T (kd, n)).2 := ⟨_, rfl⟩
        rw [← hT2] at hdo e2 k1 k3
        generalize vlS (rs0 pol seed P) l i = v at hdo hsv
        clear hst hto hal htu hn3 hvl hstn hpre e1 hT2
        (repeat' (first | (show KQ (WL _ _ _ _ _) _ _ _ _; first | refine yW p_move ?_ | refine yW p_asg ?_ | refine yA ?_ | refine yW p_ld ?_ | refine yW p_lda ?_ | refine yB ?_ | refine yW p_ext ?_ | refine yW p_pt ?_ | refine yW p_pf ?_ | refine yW p_nott ?_ | refine yW p_notf ?_ | refine yW p_not ?_ | refine yW p_neg ?_ | refine yW p_idx ?_ | refine yW p_idxl ?_ | refine yW p_len ?_ | refine yW p_lens ?_ | refine yW p_lenm ?_ | (refine yX ?_; first | refine w_st ?_ | refine w_str ?_ | refine w_stra ?_ | (refine w_ap0 ?_; intro ao1 cap1) | (refine w_ap ?_; intro ao1 cap1) | (refine w_al ?_; intro q) | (refine w_bx ?_; intro q) | (refine w_bs ?_; intro q) | fail) | refine yN ?_ | refine yO ?_ | fail) | (show KQ (CD _ _ _ _ _) _ _ _ _; first | refine yT ?_ | refine yF ?_ | fail) | ((first | refine yG ?_ ?_ | refine yC ?_ ?_) <;> (intro hc; (try simp only [hcS] at hc); try exact dD)) | refine yE ?_ | fail))
        rename_i q4
        all_goals (refine y_cr ?_; refine kq_draw 17 (irow a2 c2 TD :: prw a l.length c (sdS (rs0 pol seed P) l l.length) :: RDY r (stS (rs0 pol seed P) l l.length) l.length :: blk q (.cells (ayl (kd, n)).toArray 39 (0, 0)) :: F) 8 ?_; (all_goals refine kq_take 0 rfl p_move ?_); (all_goals refine tkl 1 ?_); (all_goals refine kq_take 3 rfl p_move ?_); (all_goals refine kq_take 4 rfl p_move ?_); (all_goals (first | refine kq_take 5 rfl p_idx ?_ | refine kq_take 5 rfl p_idxl ?_)); (all_goals refine tkl 6 ?_); (all_goals (refine kq_each [2] ⟨?_, trivial⟩; (refine kq_op ?_; first | (refine w_call (hdo _) ?_; rintro r L ⟨rfl, rfl⟩)))); (all_goals refine tkb 7 ?_); (all_goals refine kq_done ?_))
        all_goals (repeat' (first | (show KQ (WL _ _ _ _ _) _ _ _ _; first | refine yW p_move ?_ | refine yW p_asg ?_ | refine yA ?_ | refine yW p_ld ?_ | refine yW p_lda ?_ | refine yB ?_ | refine yW p_ext ?_ | refine yW p_pt ?_ | refine yW p_pf ?_ | refine yW p_nott ?_ | refine yW p_notf ?_ | refine yW p_not ?_ | refine yW p_neg ?_ | refine yW p_idx ?_ | refine yW p_idxl ?_ | refine yW p_len ?_ | refine yW p_lens ?_ | refine yW p_lenm ?_ | (refine yX ?_; first | refine w_st ?_ | refine w_str ?_ | refine w_stra ?_ | (refine w_ap0 ?_; intro ao1 cap1) | (refine w_ap ?_; intro ao1 cap1) | (refine w_al ?_; intro q) | (refine w_bx ?_; intro q) | (refine w_bs ?_; intro q) | fail) | refine yN ?_ | refine yO ?_ | fail) | (show KQ (CD _ _ _ _ _) _ _ _ _; first | refine yT ?_ | refine yF ?_ | fail) | ((first | refine yG ?_ ?_ | refine yC ?_ ?_) <;> (intro hc; (try simp only [hcS] at hc); try exact dD)) | refine yE ?_ | fail))
        all_goals exact hnext (i + 1, T2) _ _ ⟨hlt2, k1, by rw [k3, hTP], e2⟩ (by show l.length - (i + 1) < l.length - i; omega) ⟨rfl, rfl, rfl, rfl, rfl, rfl, rfl, trivial⟩ (by ((repeat (first | with_reducible exact Ent.rfl | with_reducible exact Ent.nil | ((with_reducible apply Ent.cons); focus ((repeat (first | exact Sel.here | apply Sel.there)); done)) | with_reducible refine Ent.drop ?_)); done))
      · obtain rfl : i = l.length := by omega
        clear hnext
        have hto2 := fun F => told_spec F r2 T l.length hT
        have hal2 := fun F => all_spec F r2 T l.length hT
        rw [hsm.L] at hal2
        have hTD2 : T.TD = TD := by rw [hsm.TD, hTD]
        rw [hTD2] at hto2
        have hlen := g1.len
        have hs1 := fun F a b c d ha hb => same_spec F (stS (rs0 pol seed P) l l.length).L a b c d (by omega) ha hb
        have hs3 := fun F a b c d ha hb => same_spec F TD a b c d (by omega) ha hb
        generalize (stS (rs0 pol seed P) l l.length).L = LL at hal hal2 hs1
        (repeat' (first | (show KQ (WL _ _ _ _ _) _ _ _ _; first | refine yW p_move ?_ | refine yW p_asg ?_ | refine yA ?_ | refine yW p_ld ?_ | refine yW p_lda ?_ | refine yB ?_ | refine yW p_ext ?_ | refine yW p_pt ?_ | refine yW p_pf ?_ | refine yW p_nott ?_ | refine yW p_notf ?_ | refine yW p_not ?_ | refine yW p_neg ?_ | refine yW p_idx ?_ | refine yW p_idxl ?_ | refine yW p_len ?_ | refine yW p_lens ?_ | refine yW p_lenm ?_ | (refine yX ?_; first | refine w_st ?_ | refine w_str ?_ | refine w_stra ?_ | (refine w_ap0 ?_; intro ao1 cap1) | (refine w_ap ?_; intro ao1 cap1) | (refine w_al ?_; intro q) | (refine w_bx ?_; intro q) | (refine w_bs ?_; intro q) | (refine w_call (hal _) ?_; rintro r L ⟨a3, c3, rfl, rfl⟩) | (refine w_call (hal2 _) ?_; rintro r L ⟨a4, c4, rfl, rfl⟩) | (refine w_call (hto2 _) ?_; rintro r L ⟨a5, c5, rfl, rfl⟩) | (refine w_call (htu _) ?_; rintro r L ⟨rfl, rfl⟩) | (refine w_call (hs1 _ _ _ _ _ ?_ ?_) ?_; (all_goals (try (focus (first | (first | (apply Reads.row; focus ((repeat (first | exact Sel.here | apply Sel.there)); done)) | (apply reads_blk; focus ((repeat (first | exact Sel.here | apply Sel.there)); done)) | ((refine Reads.ent (by assumption) ?_); ((repeat (first | with_reducible exact Ent.rfl | with_reducible exact Ent.nil | ((with_reducible apply Ent.cons); focus ((repeat (first | exact Sel.here | apply Sel.there)); done)) | with_reducible refine Ent.drop ?_)); done))) | assumption | omega)))); rintro r L ⟨rfl, rfl⟩) | (refine w_call (hs3 _ _ _ _ _ ?_ ?_) ?_; (all_goals (try (focus (first | (first | (apply Reads.row; focus ((repeat (first | exact Sel.here | apply Sel.there)); done)) | (apply reads_blk; focus ((repeat (first | exact Sel.here | apply Sel.there)); done)) | ((refine Reads.ent (by assumption) ?_); ((repeat (first | with_reducible exact Ent.rfl | with_reducible exact Ent.nil | ((with_reducible apply Ent.cons); focus ((repeat (first | exact Sel.here | apply Sel.there)); done)) | with_reducible refine Ent.drop ?_)); done))) | assumption | omega)))); rintro r L ⟨rfl, rfl⟩) | fail) | refine yN ?_ | refine yO ?_ | fail) | (show KQ (CD _ _ _ _ _) _ _ _ _; first | refine yT ?_ | refine yF ?_ | fail) | ((first | refine yG ?_ ?_ | refine yC ?_ ?_) <;> (intro hc; (try simp only [hcS] at hc); try exact dD)) | refine yE ?_ | fail))
        all_goals (refine y_fin ?_; apply Exists.intro; apply And.intro; (focus (refine ⟨?_, rfl⟩; simp [tup])); exact Ent.auto)
    · have hn3 := fun F a c => new_many F ((pol2.tmod 5 + 5).tmod 5) (w64 (seed + 1)) a c TD.length hp2 (by omega)
      (repeat' (first | (show KQ (WL _ _ _ _ _) _ _ _ _; first | refine yW p_move ?_ | refine yW p_asg ?_ | refine yA ?_ | refine yW p_ld ?_ | refine yW p_lda ?_ | refine yB ?_ | refine yW p_ext ?_ | refine yW p_pt ?_ | refine yW p_pf ?_ | refine yW p_nott ?_ | refine yW p_notf ?_ | refine yW p_not ?_ | refine yW p_neg ?_ | refine yW p_idx ?_ | refine yW p_idxl ?_ | refine yW p_len ?_ | refine yW p_lens ?_ | refine yW p_lenm ?_ | (refine yX ?_; first | refine w_st ?_ | refine w_str ?_ | refine w_stra ?_ | (refine w_ap0 ?_; intro ao1 cap1) | (refine w_ap ?_; intro ao1 cap1) | (refine w_al ?_; intro q) | (refine w_bx ?_; intro q) | (refine w_bs ?_; intro q) | (refine w_call (hto _) ?_; rintro r L ⟨a2, c2, rfl, rfl⟩) | (refine w_call (hn3 _ _ _) ?_; rintro r L ⟨rfl, rfl⟩) | fail) | refine yN ?_ | refine yO ?_ | fail) | (show KQ (CD _ _ _ _ _) _ _ _ _; first | refine yT ?_ | refine yF ?_ | fail) | ((first | refine yG ?_ ?_ | refine yC ?_ ?_) <;> (intro hc; (try simp only [hcS] at hc); try exact dD)) | refine yE ?_ | fail))
      all_goals (refine y_fin ?_; apply Exists.intro; apply And.intro; (focus (refine ⟨?_, rfl⟩; simp [tup]; omega)); exact Ent.auto)
theorem again_spec (hs : 0 ≤ seed ∧ seed < 18446744073709551616) (hr : Reads F (.slice po P.length pc) P.length (ints P)) (hla : Reads F (.slice ao l.length cap) l.length (flat ayl l)) (hll : l.length ≤ 8800000000000) : Sp Try.prog 4 [.agg (schl pol seed po P.length pc).toArray, .int .i64 pol2, .slice ao l.length cap] F fun v M => v = .bool true ∧ M = F := by
  by_cases hp : 0 ≤ pol ∧ pol ≤ 4
  · by_cases hn : P.length ≤ 65536
    · exact again_ok F pol seed po pc P pol2 ao cap l hp hs hn hr hla hll
    · exact again_err F pol seed po pc P 3 (by decide) (fun F a c => new_many F pol seed a c P.length hp (by omega)) _ _
  · exact again_err F pol seed po pc P 220 (by decide) (fun F a c => new_pol F pol seed _ (by omega)) _ _
end
theorem readyAgain_walk (w : World) (cs : Array Value) (x : yT) (pol2 : Int) (ao : Option Addr) (cap : Nat) (l : List yaT) (h : schR.rel w cs.toList x) (_ : (Lit.int .i64 pol2).wf = true) (h2 : yactsR.rel w [.slice ao l.length cap] l) :
    Calls Try.prog 4 #[.agg cs, .int .i64 pol2, .slice ao l.length cap] w fun e w' => e = .returned (.bool true) ∧ Below w.heap.size w w' := by
  obtain ⟨po, pc, e1, hs, hP, hc, hr⟩ := sch_reads h
  obtain ⟨hll, hla⟩ := acts_reads h2
  obtain rfl : cs = (schl x.1 x.2.1 po x.2.2.1.length pc).toArray := Array.toList_inj.1 (by simpa using e1)
  have h3 := again_spec [old w] x.1 x.2.1 po pc x.2.2.1 pol2 ao cap (l.map fun x => (x.1, x.2.1)) hs hr hla (by rw [List.length_map]; exact hll)
  rw [List.length_map] at h3
  exact walk_of_sp h3
end Go.Proofs.Ytfkamdahfmlgmaa
