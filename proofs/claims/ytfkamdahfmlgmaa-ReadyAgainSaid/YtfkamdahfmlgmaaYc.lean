/- DERIVED. Ready ones by turn: the law ReadyTurns. -/
import Derived.Test.YtfkamdahfmlgmaaYb
import Derived.Test.YtfkamdahfmlgmaaVcc
namespace Go.Proofs.Ytfkamdahfmlgmaa
set_option linter.unusedSimpArgs false
set_option linter.unusedVariables false
open Go Sl Cv Go.RowKit
structure MR where
  i : Nat
  a : Option Addr
  c : Nat
  L : LL
structure MP where
  k : Nat
  a : Option Addr
  c : Nat
theorem its_len (L : LL) : (its L).length = L.length := List.length_map _
theorem its_snoc (L : LL) (t x : Int) : its (L ++ [(t, x)]) = its L ++ [x] := by simp [its]
theorem TI.drop {fr ut : Int} {L : LL} (h : TI fr ut L) (k : Nat) : TI fr ut (L.drop k) :=
  ⟨h.lo, h.hi, h.asc.sublist ((List.drop_sublist k L).map _), fun p hp => h.rng p (List.mem_of_mem_drop hp), h.nd.sublist ((List.drop_sublist k L).map _)⟩
section
variable (F : List HP)
set_option maxHeartbeats 4000000 in
theorem turns_spec (ao : Option Addr) (cap : Nat) (l : List Int) (hr : Reads F (.slice ao l.length cap) l.length (ints l)) (hl : l.length ≤ 17592186044416) : Sp Try.prog 3 [.slice ao l.length cap] F fun v M => v = .bool true ∧ M = F := by
  refine y_of Try.func3 rfl Try.ntmps3 rfl fun w0 => ?_
  (repeat' (first | (show KQ (WL _ _ _ _ _) _ _ _ _; first | refine yW p_move ?_ | refine yW p_asg ?_ | refine yW p_ld ?_ | refine yW p_lda ?_ | refine yB ?_ | refine yW p_ext ?_ | refine yW p_pt ?_ | refine yW p_pf ?_ | refine yW p_nott ?_ | refine yW p_notf ?_ | refine yW p_not ?_ | refine yW p_neg ?_ | refine yW p_idx ?_ | refine yW p_idxl ?_ | refine yW p_len ?_ | refine yW p_lens ?_ | refine yW p_lenm ?_ | (refine yX ?_; first | (refine w_ap0 ?_; intro ao1 cap1) | (refine w_ap ?_; intro ao1 cap1) | (refine w_bs ?_; intro q) | (refine w_call (rnew0 _) ?_; rintro r L ⟨r, z, m1, m2, rfl, rfl⟩) | (refine w_call (awake_spec _) ?_; rintro r L ⟨rfl, rfl⟩) | fail) | refine yN ?_ | refine yO ?_ | fail) | (show KQ (CD _ _ _ _ _) _ _ _ _; first | refine yT ?_ | refine yF ?_ | fail) | ((first | refine yG ?_ ?_ | refine yC ?_ ?_) <;> (intro hc; (try simp only [hcS] at hc); try exact dD)) | refine yE ?_ | fail))
  refine y_loop (X := MR) ⟨0, some ⟨q, 0, none⟩, 0, []⟩ (fun y => y.i ≤ l.length ∧ TI 0 (y.L.length : Nat) y.L ∧ y.L.length ≤ 65536) (fun y => [(3, ptr r), (5, .slice y.a y.L.length y.c), (25, .slice ao l.length cap), (26, .int .i64 l.length), (27, .int .i64 y.i)]) (fun y => lrow y.a y.c y.L :: rdn r z m1 m2 0 none 0 [] 0 (y.L.length : Nat) y.L F) (fun y => l.length - y.i) ⟨Nat.zero_le _, ti0, Nat.zero_le _⟩ ⟨rfl, rfl, rfl, rfl, rfl, trivial⟩ (by ((repeat (first | with_reducible exact Ent.rfl | with_reducible exact Ent.nil | ((with_reducible apply Ent.cons); focus ((repeat (first | exact Sel.here | apply Sel.there)); done)) | with_reducible refine Ent.drop ?_)); done)) ?_
  rintro K' ⟨i, a, c, L⟩ ⟨hi, hT, hL⟩ hnext
  dsimp only at hi hT hL hnext ⊢
  by_cases hlt : i < l.length
  · have hx := ints_at l i hlt
    have hpos : 0 < (ints l).length := by simp [ints]; omega
    by_cases h : l[i] ∈ its L
    · have hw := fun F => rwake_there r z m1 m2 0 none 0 [] 0 (L.length : Nat) L F l[i] hT h
      (repeat' (first | (show KQ (WL _ _ _ _ _) _ _ _ _; first | refine yW p_move ?_ | refine yW p_asg ?_ | refine yW p_ld ?_ | refine yW p_lda ?_ | refine yB ?_ | refine yW p_ext ?_ | refine yW p_pt ?_ | refine yW p_pf ?_ | refine yW p_nott ?_ | refine yW p_notf ?_ | refine yW p_not ?_ | refine yW p_neg ?_ | refine yW p_idx ?_ | refine yW p_idxl ?_ | refine yW p_len ?_ | refine yW p_lens ?_ | refine yW p_lenm ?_ | (refine yX ?_; first | (refine w_ap0 ?_; intro ao1 cap1) | (refine w_ap ?_; intro ao1 cap1) | (refine w_bs ?_; intro q) | (refine w_call (hw _) ?_; rintro r L ⟨rfl, rfl⟩) | fail) | refine yN ?_ | refine yO ?_ | fail) | (show KQ (CD _ _ _ _ _) _ _ _ _; first | refine yT ?_ | refine yF ?_ | fail) | ((first | refine yG ?_ ?_ | refine yC ?_ ?_) <;> (intro hc; (try simp only [hcS] at hc); try exact dD)) | refine yE ?_ | fail))
      all_goals exact hnext ⟨i + 1, a, c, L⟩ _ _ ⟨hlt, hT, hL⟩ (by show l.length - (i + 1) < l.length - i; omega) ⟨rfl, rfl, rfl, rfl, rfl, trivial⟩ (by ((repeat (first | with_reducible exact Ent.rfl | with_reducible exact Ent.nil | ((with_reducible apply Ent.cons); focus ((repeat (first | exact Sel.here | apply Sel.there)); done)) | with_reducible refine Ent.drop ?_)); done))
    · by_cases h2 : L.length < 65536
      · have hw := fun F => rwake_new r z m1 m2 0 none 0 [] 0 (L.length : Nat) L F l[i] hT h h2 (by omega)
        have hn : (((L ++ [((L.length : Int), l[i])]).length : Nat) : Int) = (L.length : Int) + 1 := by simp
        have hln : (L ++ [((L.length : Int), l[i])]).length = L.length + 1 := by simp
        have hT2 : TI 0 (((L ++ [((L.length : Int), l[i])]).length : Nat) : Int) (L ++ [((L.length : Int), l[i])]) := by rw [hn]; exact hT.more (by omega) h (by omega)
        (repeat' (first | (show KQ (WL _ _ _ _ _) _ _ _ _; first | refine yW p_move ?_ | refine yW p_asg ?_ | refine yW p_ld ?_ | refine yW p_lda ?_ | refine yB ?_ | refine yW p_ext ?_ | refine yW p_pt ?_ | refine yW p_pf ?_ | refine yW p_nott ?_ | refine yW p_notf ?_ | refine yW p_not ?_ | refine yW p_neg ?_ | refine yW p_idx ?_ | refine yW p_idxl ?_ | refine yW p_len ?_ | refine yW p_lens ?_ | refine yW p_lenm ?_ | (refine yX ?_; first | (refine w_ap0 ?_; intro ao1 cap1) | (refine w_ap ?_; intro ao1 cap1) | (refine w_bs ?_; intro q) | (refine w_call (hw _) ?_; rintro r L ⟨rfl, rfl⟩) | fail) | refine yN ?_ | refine yO ?_ | fail) | (show KQ (CD _ _ _ _ _) _ _ _ _; first | refine yT ?_ | refine yF ?_ | fail) | ((first | refine yG ?_ ?_ | refine yC ?_ ?_) <;> (intro hc; (try simp only [hcS] at hc); try exact dD)) | refine yE ?_ | fail))
        all_goals exact hnext ⟨i + 1, ao1, cap1, L ++ [((L.length : Int), l[i])]⟩ _ _ ⟨hlt, hT2, by dsimp only; omega⟩ (by show l.length - (i + 1) < l.length - i; omega) (by dsimp only; rw [hln]; exact ⟨rfl, rfl, rfl, rfl, rfl, trivial⟩) (by dsimp only; unfold lrow; rw [hn, hln, its_snoc, ints_append]; ((repeat (first | with_reducible exact Ent.rfl | with_reducible exact Ent.nil | ((with_reducible apply Ent.cons); focus ((repeat (first | exact Sel.here | apply Sel.there)); done)) | with_reducible refine Ent.drop ?_)); done))
      · have hw := fun F => rwake_many r z m1 m2 0 none 0 [] 0 (L.length : Nat) L F l[i] hT h (by omega)
        (repeat' (first | (show KQ (WL _ _ _ _ _) _ _ _ _; first | refine yW p_move ?_ | refine yW p_asg ?_ | refine yW p_ld ?_ | refine yW p_lda ?_ | refine yB ?_ | refine yW p_ext ?_ | refine yW p_pt ?_ | refine yW p_pf ?_ | refine yW p_nott ?_ | refine yW p_notf ?_ | refine yW p_not ?_ | refine yW p_neg ?_ | refine yW p_idx ?_ | refine yW p_idxl ?_ | refine yW p_len ?_ | refine yW p_lens ?_ | refine yW p_lenm ?_ | (refine yX ?_; first | (refine w_ap0 ?_; intro ao1 cap1) | (refine w_ap ?_; intro ao1 cap1) | (refine w_bs ?_; intro q) | (refine w_call (hw _) ?_; rintro r L ⟨rfl, rfl⟩) | fail) | refine yN ?_ | refine yO ?_ | fail) | (show KQ (CD _ _ _ _ _) _ _ _ _; first | refine yT ?_ | refine yF ?_ | fail) | ((first | refine yG ?_ ?_ | refine yC ?_ ?_) <;> (intro hc; (try simp only [hcS] at hc); try exact dD)) | refine yE ?_ | fail))
        all_goals exact hnext ⟨i + 1, a, c, L⟩ _ _ ⟨hlt, hT, hL⟩ (by show l.length - (i + 1) < l.length - i; omega) ⟨rfl, rfl, rfl, rfl, rfl, trivial⟩ (by ((repeat (first | with_reducible exact Ent.rfl | with_reducible exact Ent.nil | ((with_reducible apply Ent.cons); focus ((repeat (first | exact Sel.here | apply Sel.there)); done)) | with_reducible refine Ent.drop ?_)); done))
  · obtain rfl : i = l.length := by omega
    clear hnext
    (repeat' (first | (show KQ (WL _ _ _ _ _) _ _ _ _; first | refine yW p_move ?_ | refine yW p_asg ?_ | refine yW p_ld ?_ | refine yW p_lda ?_ | refine yB ?_ | refine yW p_ext ?_ | refine yW p_pt ?_ | refine yW p_pf ?_ | refine yW p_nott ?_ | refine yW p_notf ?_ | refine yW p_not ?_ | refine yW p_neg ?_ | refine yW p_idx ?_ | refine yW p_idxl ?_ | refine yW p_len ?_ | refine yW p_lens ?_ | refine yW p_lenm ?_ | (refine yX ?_; first | (refine w_ap0 ?_; intro ao1 cap1) | (refine w_ap ?_; intro ao1 cap1) | (refine w_bs ?_; intro q) | fail) | refine yN ?_ | refine yO ?_ | fail) | (show KQ (CD _ _ _ _ _) _ _ _ _; first | refine yT ?_ | refine yF ?_ | fail) | ((first | refine yG ?_ ?_ | refine yC ?_ ?_) <;> (intro hc; (try simp only [hcS] at hc); try exact dD)) | refine yE ?_ | fail))
    refine y_loop (X := MP) ⟨0, none, 0⟩ (fun y => y.k ≤ L.length) (fun y => [(3, ptr r), (5, .slice a L.length c), (40, .slice a L.length c), (41, .int .i64 L.length), (42, .int .i64 y.k)]) (fun y => lrow a c L :: rdn r z m1 m2 0 y.a y.c (List.replicate y.k 0) 0 (L.length : Nat) (L.drop y.k) F) (fun y => L.length - y.k) (Nat.zero_le _) ⟨rfl, rfl, rfl, rfl, rfl, trivial⟩ (by dsimp only; rw [List.drop_zero, List.replicate_zero]; ((repeat (first | with_reducible exact Ent.rfl | with_reducible exact Ent.nil | ((with_reducible apply Ent.cons); focus ((repeat (first | exact Sel.here | apply Sel.there)); done)) | with_reducible refine Ent.drop ?_)); done)) ?_
    rintro K2 ⟨k, a2, c2⟩ hk hnext2
    dsimp only at hk hnext2 ⊢
    by_cases hkl : k < L.length
    · have hdr : L.drop k = (L[k].1, L[k].2) :: L.drop (k + 1) := List.drop_eq_getElem_cons hkl
      have hTk := hT.drop k
      rw [hdr] at hTk ⊢
      have hp := fun F => rpick_some r z m1 m2 0 a2 c2 (List.replicate k 0) 0 (L.length : Nat) (L.drop (k + 1)) F L[k].2 L[k].1 hTk (by rw [List.length_drop]; omega) (by rw [List.length_replicate]; omega)
      have hnin : L[k].2 ∉ its (L.drop (k + 1)) := (List.nodup_cons.1 hTk.nd).1
      have hh := fun F a3 c3 => rhas_spec r z m1 m2 0 a3 c3 (List.replicate k 0 ++ [0]) 0 (L.length : Nat) (L.drop (k + 1)) F L[k].2 (hT.drop (k + 1))
      rw [decide_eq_false hnin] at hh
      have hx2 : (ints (its L))[k]? = some (.int .i64 L[k].2) := by rw [ints_at _ k (by rw [its_len]; exact hkl)]; simp [its]
      have hpos2 : 0 < (ints (its L)).length := by simp [ints, its]; omega
      (repeat' (first | (show KQ (WL _ _ _ _ _) _ _ _ _; first | refine yW p_move ?_ | refine yW p_asg ?_ | refine yW p_ld ?_ | refine yW p_lda ?_ | refine yB ?_ | refine yW p_ext ?_ | refine yW p_pt ?_ | refine yW p_pf ?_ | refine yW p_nott ?_ | refine yW p_notf ?_ | refine yW p_not ?_ | refine yW p_neg ?_ | refine yW p_idx ?_ | refine yW p_idxl ?_ | refine yW p_len ?_ | refine yW p_lens ?_ | refine yW p_lenm ?_ | (refine yX ?_; first | (refine w_ap0 ?_; intro ao1 cap1) | (refine w_ap ?_; intro ao1 cap1) | (refine w_bs ?_; intro q) | (refine w_call (hp _) ?_; rintro r L ⟨a3, c3, rfl, rfl⟩) | (refine w_call (hh _ a3 c3) ?_; rintro r L ⟨rfl, rfl⟩) | fail) | refine yN ?_ | refine yO ?_ | fail) | (show KQ (CD _ _ _ _ _) _ _ _ _; first | refine yT ?_ | refine yF ?_ | fail) | ((first | refine yG ?_ ?_ | refine yC ?_ ?_) <;> (intro hc; (try simp only [hcS] at hc); try exact dD)) | refine yE ?_ | fail))
      all_goals exact hnext2 ⟨k + 1, a3, c3⟩ _ _ hkl (by show L.length - (k + 1) < L.length - k; omega) ⟨rfl, rfl, rfl, rfl, rfl, trivial⟩ (by dsimp only; rw [List.replicate_succ']; ((repeat (first | with_reducible exact Ent.rfl | with_reducible exact Ent.nil | ((with_reducible apply Ent.cons); focus ((repeat (first | exact Sel.here | apply Sel.there)); done)) | with_reducible refine Ent.drop ?_)); done))
    · obtain rfl : k = L.length := by omega
      have hTk := hT.drop L.length
      rw [List.drop_length] at hTk ⊢
      have hp := fun F => rpick_none r z m1 m2 0 a2 c2 (List.replicate L.length 0) 0 (L.length : Nat) F hTk
      have ht := fun F => rturns_spec r z m1 m2 0 a2 c2 (List.replicate L.length 0) 0 (L.length : Nat) [] F
      rw [List.length_replicate] at ht
      (repeat' (first | (show KQ (WL _ _ _ _ _) _ _ _ _; first | refine yW p_move ?_ | refine yW p_asg ?_ | refine yW p_ld ?_ | refine yW p_lda ?_ | refine yB ?_ | refine yW p_ext ?_ | refine yW p_pt ?_ | refine yW p_pf ?_ | refine yW p_nott ?_ | refine yW p_notf ?_ | refine yW p_not ?_ | refine yW p_neg ?_ | refine yW p_idx ?_ | refine yW p_idxl ?_ | refine yW p_len ?_ | refine yW p_lens ?_ | refine yW p_lenm ?_ | (refine yX ?_; first | (refine w_ap0 ?_; intro ao1 cap1) | (refine w_ap ?_; intro ao1 cap1) | (refine w_bs ?_; intro q) | (refine w_call (hp _) ?_; rintro r L ⟨rfl, rfl⟩) | (refine w_call (ht _) ?_; rintro r L ⟨rfl, rfl⟩) | fail) | refine yN ?_ | refine yO ?_ | fail) | (show KQ (CD _ _ _ _ _) _ _ _ _; first | refine yT ?_ | refine yF ?_ | fail) | ((first | refine yG ?_ ?_ | refine yC ?_ ?_) <;> (intro hc; (try simp only [hcS] at hc); try exact dD)) | refine yE ?_ | fail))
      all_goals (refine y_fin ?_; exact ⟨_, ⟨by first | rfl | (rw [decide_eq_true (rfl : (L.length : Int) = L.length)]; rfl), rfl⟩, Ent.auto⟩)
end
theorem flat_ints (l : List Int) : flat (fun n : Int => [Value.int .i64 n]) l = ints l := by
  induction l with
  | nil => rfl
  | cons a l ih => simp only [flat, ints, List.flatMap_cons, List.map_cons] at ih ⊢; rw [ih]; rfl
abbrev iR := Rd.int Try.underlying3 (by kernel_rfl)
abbrev nR : Rd Try.prog 22 (List Int) := Rd.sl Try.underlying22 (by kernel_rfl) iR
theorem readyTurns_walk (w : World) (ao : Option Addr) (cap : Nat) (l : List Int) (h : nR.rel w [.slice ao l.length cap] l) :
    Calls Try.prog 3 #[.slice ao l.length cap] w fun e w' => e = .returned (.bool true) ∧ Below w.heap.size w w' := by
  obtain ⟨ao', cap', e, hlc, hcm, -, hb, hat⟩ := h
  simp only [List.cons.injEq, Value.slice.injEq, true_and, and_true] at e
  obtain ⟨rfl, rfl⟩ := e
  have hby : Try.prog.bytesOf 3 = 8 := by kernel_rfl
  rw [hby] at hb
  have hll : l.length ≤ 17592186044416 := by omega
  have hr := Reads.of_row (L := [old w]) (cap := cap) (enc := fun n : Int => [Value.int .i64 n]) (sz := 1) .here hat (fun ces a hh => by obtain ⟨rfl, _⟩ := hh; rfl) (fun _ => rfl) (by decide)
  rw [flat_ints] at hr
  exact walk_of_sp (turns_spec [old w] ao cap l hr hll)
end Go.Proofs.Ytfkamdahfmlgmaa
