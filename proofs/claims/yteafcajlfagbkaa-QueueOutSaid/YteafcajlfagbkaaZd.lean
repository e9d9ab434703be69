/- DERIVED. Queues by time: the heap's code. -/
import Derived.Test.YteafcajlfagbkaaZc
import Derived.Test.YteafcajlfagbkaaVcc
namespace Go.Proofs.Yteafcajlfagbkaa
set_option linter.unusedSimpArgs false
set_option linter.unusedVariables false
open Go Sl Cv Go.RowKit
section
variable (p m : Nat) (a : Option Addr) (c : Nat) (R : List TM) (kv : List (Int × TM)) (turn : Int) (F : List HP) (x : TM)
theorem less_int (i k : Int) (hi : 0 ≤ i ∧ i < R.length) (hk : 0 ≤ k ∧ k < R.length) (hl : R.length ≤ 6000000000000) : Sp Try.prog 97 [.slice a R.length c, .int .i64 i, .int .i64 k] (trow a c R :: F) fun r M => r = .bool (ltT (R.getD i.toNat d0) (R.getD k.toNat d0)) ∧ M = trow a c R :: F := by
  obtain ⟨i, rfl⟩ := Int.eq_ofNat_of_zero_le hi.1
  obtain ⟨k, rfl⟩ := Int.eq_ofNat_of_zero_le hk.1
  rw [Int.toNat_natCast, Int.toNat_natCast, gt (by omega), gt (by omega)]
  exact less_spec (trow a c R :: F) a c R (Reads.row .here) i k (by omega) (by omega) hl
theorem swap_int (i k : Int) (hi : 0 ≤ i ∧ i < R.length) (hk : 0 ≤ k ∧ k < R.length) (hl : R.length ≤ 6000000000000) : Sp Try.prog 98 [.slice a R.length c, .int .i64 i, .int .i64 k] (trow a c R :: F) fun r M => M = row 72 3 (.slice a R.length c) R.length (flat tme (sw R i.toNat k.toNat)) :: F := by
  obtain ⟨i, rfl⟩ := Int.eq_ofNat_of_zero_le hi.1
  obtain ⟨k, rfl⟩ := Int.eq_ofNat_of_zero_le hk.1
  rw [Int.toNat_natCast, Int.toNat_natCast]
  have := swap_spec F a c R i k (by omega) (by omega) hl
  rw [trow, trow, sw_len] at this
  exact this
set_option maxHeartbeats 4000000 in
theorem up_spec (j : Nat) (hj : j < R.length) (hu : UpI R j) (hl : R.length ≤ 6000000000000) : Sp Try.prog 41 [hif p, .int .i64 j] (tms p m a c R kv turn F) fun r M => ∃ R2, M = tms p m a c R2 kv turn F ∧ R2.Perm R ∧ Hn R2 R2.length := by
  refine y_of Try.func41 rfl Try.ntmps41 rfl fun w0 => ?_
  (repeat' (first | (show KQ (WL _ _ _ _ _) _ _ _ _; first | refine yW p_move ?_ | refine yW p_asg ?_ | refine yB ?_ | refine yW p_pt ?_ | refine yW p_pf ?_ | refine yW p_nott ?_ | refine yW p_notf ?_ | refine yW p_not ?_ | refine yW p_neg ?_ | refine yN ?_ | refine yO ?_ | fail) | (show KQ (CD _ _ _ _ _) _ _ _ _; first | refine yT ?_ | refine yF ?_ | fail) | ((first | refine yG ?_ ?_ | refine yC ?_ ?_) <;> (intro hc; (try simp only [hcS] at hc); try exact dD)) | refine yE ?_ | fail))
  refine y_loop (X := List TM × Nat) (R, j) (fun s => s.1.length = R.length ∧ s.2 < R.length ∧ UpI s.1 s.2 ∧ s.1.Perm R) (fun s => [(0, hif p), (1, .int .i64 s.2)]) (fun s => tms p m a c s.1 kv turn F) (fun s => s.2) ⟨rfl, hj, hu, .refl _⟩ ⟨rfl, rfl, trivial⟩ Ent.rfl ?_
  rintro K' ⟨R', i⟩ ⟨hlen, hi, hI, hP⟩ hnext
  simp only at hlen hi hI hP hnext
  clear hu hj j
  rw [← hlen] at hi hl
  dsimp only
  have hq : IntKind.i64.wrap (((i : Int) - 1).tdiv 2) = (((i - 1) / 2 : Nat) : Int) := by
    by_cases h0 : i = 0
    · subst h0; decide
    · rw [Int.tdiv_eq_ediv_of_nonneg (by omega), wrap_i64 (by omega)]
      try omega
  by_cases h0 : i = 0
  · have h00 : IntKind.i64.wrap (((i : Int) - 1).tdiv 2) = (i : Int) := by rw [hq, h0]
    clear hq
    have hU : Hn R' R'.length := by rw [h0] at hI; exact up_stop0 hI
    (repeat' (first | (show KQ (WL _ _ _ _ _) _ _ _ _; first | refine yW p_move ?_ | refine yW p_asg ?_ | refine yB ?_ | refine yW p_pt ?_ | refine yW p_pf ?_ | refine yW p_nott ?_ | refine yW p_notf ?_ | refine yW p_not ?_ | refine yW p_neg ?_ | refine yN ?_ | refine yO ?_ | fail) | (show KQ (CD _ _ _ _ _) _ _ _ _; first | refine yT ?_ | refine yF ?_ | fail) | ((first | refine yG ?_ ?_ | refine yC ?_ ?_) <;> (intro hc; (try simp only [hcS] at hc); try exact dD)) | refine yE ?_ | fail))
    all_goals (refine y_fin ?_; exact ⟨_, ⟨R', rfl, hP, hU⟩, Ent.auto⟩)
  · have hb : 0 ≤ IntKind.i64.wrap (((i : Int) - 1).tdiv 2) ∧ IntKind.i64.wrap (((i : Int) - 1).tdiv 2) < i := by rw [hq]; omega
    have hk : (IntKind.i64.wrap (((i : Int) - 1).tdiv 2)).toNat = (i - 1) / 2 := by rw [hq]; omega
    have hne : ¬ IntKind.i64.wrap (((i : Int) - 1).tdiv 2) = i := by omega
    have hL := fun F => less_int a c R' F (i : Int) (IntKind.i64.wrap (((i : Int) - 1).tdiv 2)) (by omega) (by omega) hl
    have hS := fun F => swap_int a c R' F (IntKind.i64.wrap (((i : Int) - 1).tdiv 2)) (i : Int) (by omega) (by omega) hl
    simp only [hk, Int.toNat_natCast] at hL hS
    have ee : (sw R' ((i - 1) / 2) i).length = R'.length := sw_len _ _ _
    by_cases hs : ltT (R'.getD i d0) (R'.getD ((i - 1) / 2) d0) = true
    · have hN := hnext (sw R' ((i - 1) / 2) i, (i - 1) / 2)
      have h3 := up_step hI hi (by omega) (lt_true.1 hs)
      simp only [hs] at hL
      clear hI hnext
      (repeat' (first | (show KQ (WL _ _ _ _ _) _ _ _ _; first | refine yW p_move ?_ | refine yW p_asg ?_ | refine yB ?_ | refine yW p_pt ?_ | refine yW p_pf ?_ | refine yW p_nott ?_ | refine yW p_notf ?_ | refine yW p_not ?_ | refine yW p_neg ?_ | (refine yX ?_; first | (refine w_invv (hL _) ?_; rintro r L ⟨rfl, rfl⟩) | (refine w_invv (hS _) ?_; rintro r L rfl) | fail) | refine yN ?_ | refine yO ?_ | fail) | (show KQ (CD _ _ _ _ _) _ _ _ _; first | refine yT ?_ | refine yF ?_ | fail) | ((first | refine yG ?_ ?_ | refine yC ?_ ?_) <;> (intro hc; (try simp only [hcS] at hc); try exact dD)) | refine yE ?_ | fail))
      all_goals rw [hq]
      all_goals exact hN _ _ ⟨ee.trans hlen, by dsimp only; omega, h3, (sw_perm (by omega) hi).trans hP⟩ (by dsimp only; omega) ⟨rfl, rfl, trivial⟩ (by dsimp only; rw [tms, trow, ee]; ((repeat (first | with_reducible exact Ent.rfl | with_reducible exact Ent.nil | ((with_reducible apply Ent.cons); focus ((repeat (first | exact Sel.here | apply Sel.there)); done)) | with_reducible refine Ent.drop ?_)); done))
    · have hI2 := up_stop hI (by rw [← lt_false]; simpa using hs)
      simp only [Bool.not_eq_true _ |>.mp hs] at hL
      (repeat' (first | (show KQ (WL _ _ _ _ _) _ _ _ _; first | refine yW p_move ?_ | refine yW p_asg ?_ | refine yB ?_ | refine yW p_pt ?_ | refine yW p_pf ?_ | refine yW p_nott ?_ | refine yW p_notf ?_ | refine yW p_not ?_ | refine yW p_neg ?_ | (refine yX ?_; first | (refine w_invv (hL _) ?_; rintro r L ⟨rfl, rfl⟩) | fail) | refine yN ?_ | refine yO ?_ | fail) | (show KQ (CD _ _ _ _ _) _ _ _ _; first | refine yT ?_ | refine yF ?_ | fail) | ((first | refine yG ?_ ?_ | refine yC ?_ ?_) <;> (intro hc; (try simp only [hcS] at hc); try exact dD)) | refine yE ?_ | fail))
      all_goals (refine y_fin ?_; exact ⟨_, ⟨R', rfl, hP, hI2⟩, Ent.auto⟩)
set_option maxHeartbeats 8000000 in
theorem down_spec (n : Nat) (hn : n < R.length) (hu : DnI R n 0) (hl : R.length ≤ 6000000000000) : Sp Try.prog 42 [hif p, .int .i64 0, .int .i64 n] (tms p m a c R kv turn F) fun r M => ∃ R2, M = tms p m a c R2 kv turn F ∧ R2.Perm R ∧ Hn R2 n ∧ R2.getD n d0 = R.getD n d0 ∧ R2.length = R.length := by
  refine y_of Try.func42 rfl Try.ntmps42 rfl fun w0 => ?_
  (repeat' (first | (show KQ (WL _ _ _ _ _) _ _ _ _; first | refine yW p_move ?_ | refine yW p_asg ?_ | refine yB ?_ | refine yW p_pt ?_ | refine yW p_pf ?_ | refine yW p_nott ?_ | refine yW p_notf ?_ | refine yW p_not ?_ | refine yW p_neg ?_ | refine yN ?_ | refine yO ?_ | fail) | (show KQ (CD _ _ _ _ _) _ _ _ _; first | refine yT ?_ | refine yF ?_ | fail) | ((first | refine yG ?_ ?_ | refine yC ?_ ?_) <;> (intro hc; (try simp only [hcS] at hc); try exact dD)) | refine yE ?_ | fail))
  refine y_loop (X := List TM × Nat) (R, 0) (fun s => s.1.length = R.length ∧ s.2 < R.length ∧ DnI s.1 n s.2 ∧ s.1.Perm R ∧ s.1.getD n d0 = R.getD n d0) (fun s => [(0, hif p), (1, .int .i64 0), (2, .int .i64 n), (7, .int .i64 s.2)]) (fun s => tms p m a c s.1 kv turn F) (fun s => R.length - s.2) ⟨rfl, by omega, hu, .refl _, rfl⟩ ⟨rfl, rfl, rfl, rfl, trivial⟩ Ent.rfl ?_
  rintro K' ⟨R', i⟩ ⟨hlen, hi, hI, hP, hg⟩ hnext
  dsimp only at hlen hi hI hP hg hnext ⊢
  clear hu
  have hn' : n < R'.length := by omega
  have hl' : R'.length ≤ 6000000000000 := by omega
  have hi' : i < R'.length := by omega
  by_cases h1 : n ≤ 2 * i + 1
  · have hU := dn_none hI h1
    (repeat' (first | (show KQ (WL _ _ _ _ _) _ _ _ _; first | refine yW p_move ?_ | refine yW p_asg ?_ | refine yB ?_ | refine yW p_pt ?_ | refine yW p_pf ?_ | refine yW p_nott ?_ | refine yW p_notf ?_ | refine yW p_not ?_ | refine yW p_neg ?_ | refine yN ?_ | refine yO ?_ | fail) | (show KQ (CD _ _ _ _ _) _ _ _ _; first | refine yT ?_ | refine yF ?_ | fail) | ((first | refine yG ?_ ?_ | refine yC ?_ ?_) <;> (intro hc; (try simp only [hcS] at hc); try exact dD)) | refine yE ?_ | fail))
    all_goals (refine y_fin ?_; exact ⟨_, ⟨R', rfl, hP, hU, hg, hlen⟩, Ent.auto⟩)
  · by_cases h2 : n ≤ 2 * i + 2
    · have hL := fun F => less_int a c R' F (2 * (i : Int) + 1) (i : Int) (by omega) (by omega) hl'
      have hS := fun F => swap_int a c R' F (i : Int) (2 * (i : Int) + 1) (by omega) (by omega) hl'
      have hj : (2 * (i : Int) + 1).toNat = 2 * i + 1 := by omega
      simp only [hj, Int.toNat_natCast] at hL hS
      clear hj
      have ee : (sw R' i (2 * i + 1)).length = R'.length := sw_len _ _ _
      have hm : ∀ k, 0 < k → k < n → (k - 1) / 2 = i → Le (R'.getD (2 * i + 1) d0) (R'.getD k d0) := fun k _ _ _ => by
        have : k = 2 * i + 1 := by omega
        subst this; exact Le.refl _
      by_cases hs : ltT (R'.getD (2 * i + 1) d0) (R'.getD i d0) = true
      · have hN := hnext (sw R' i (2 * i + 1), 2 * i + 1)
        have h3 := dn_step hI (by omega) hm (by omega) (by omega) (by omega) (lt_true.1 hs)
        have h4 : (sw R' i (2 * i + 1)).getD n d0 = R.getD n d0 := by rw [sw_get (by omega) (by omega), if_neg (by omega), if_neg (by omega), hg]
        have h5 := (sw_perm (R := R') (i := i) (k := 2 * i + 1) (by omega) (by omega)).trans hP
        have h6 : ((2 * i + 1 : Nat) : Int) = 2 * (i : Int) + 1 := by omega
        simp only [hs] at hL
        clear hI hP hnext hm hg
        (repeat' (first | (show KQ (WL _ _ _ _ _) _ _ _ _; first | refine yW p_move ?_ | refine yW p_asg ?_ | refine yB ?_ | refine yW p_pt ?_ | refine yW p_pf ?_ | refine yW p_nott ?_ | refine yW p_notf ?_ | refine yW p_not ?_ | refine yW p_neg ?_ | (refine yX ?_; first | (refine w_invv (hL _) ?_; rintro r L ⟨rfl, rfl⟩) | (refine w_invv (hS _) ?_; rintro r L rfl) | fail) | refine yN ?_ | refine yO ?_ | fail) | (show KQ (CD _ _ _ _ _) _ _ _ _; first | refine yT ?_ | refine yF ?_ | fail) | ((first | refine yG ?_ ?_ | refine yC ?_ ?_) <;> (intro hc; (try simp only [hcS] at hc); try exact dD)) | refine yE ?_ | fail))
        all_goals rw [← h6]
        all_goals exact hN _ _ ⟨ee.trans hlen, by dsimp only; omega, h3, h5, h4⟩ (by dsimp only; omega) ⟨rfl, rfl, rfl, rfl, trivial⟩ (by dsimp only; rw [tms, trow, ee]; ((repeat (first | with_reducible exact Ent.rfl | with_reducible exact Ent.nil | ((with_reducible apply Ent.cons); focus ((repeat (first | exact Sel.here | apply Sel.there)); done)) | with_reducible refine Ent.drop ?_)); done))
      · have hU := dn_stop hI hm (by rw [← lt_false]; simpa using hs)
        simp only [Bool.not_eq_true _ |>.mp hs] at hL
        clear hI hm hnext
        (repeat' (first | (show KQ (WL _ _ _ _ _) _ _ _ _; first | refine yW p_move ?_ | refine yW p_asg ?_ | refine yB ?_ | refine yW p_pt ?_ | refine yW p_pf ?_ | refine yW p_nott ?_ | refine yW p_notf ?_ | refine yW p_not ?_ | refine yW p_neg ?_ | (refine yX ?_; first | (refine w_invv (hL _) ?_; rintro r L ⟨rfl, rfl⟩) | fail) | refine yN ?_ | refine yO ?_ | fail) | (show KQ (CD _ _ _ _ _) _ _ _ _; first | refine yT ?_ | refine yF ?_ | fail) | ((first | refine yG ?_ ?_ | refine yC ?_ ?_) <;> (intro hc; (try simp only [hcS] at hc); try exact dD)) | refine yE ?_ | fail))
        all_goals (refine y_fin ?_; exact ⟨_, ⟨R', rfl, hP, hU, hg, hlen⟩, Ent.auto⟩)
    · cases ht : ltT (R'.getD (2 * i + 2) d0) (R'.getD (2 * i + 1) d0)
      · have h0L := fun F => less_int a c R' F (2 * (i : Int) + 1 + 1) (2 * (i : Int) + 1) (by omega) (by omega) hl'
        have hj0 : (2 * (i : Int) + 1 + 1).toNat = 2 * i + 2 := by omega
        have hj1 : (2 * (i : Int) + 1).toNat = 2 * i + 1 := by omega
        simp only [hj0, hj1, ht] at h0L
        clear hj0 hj1
        have hL := fun F => less_int a c R' F (2 * (i : Int) + 1) (i : Int) (by omega) (by omega) hl'
        have hS := fun F => swap_int a c R' F (i : Int) (2 * (i : Int) + 1) (by omega) (by omega) hl'
        have hj : (2 * (i : Int) + 1).toNat = 2 * i + 1 := by omega
        simp only [hj, Int.toNat_natCast] at hL hS
        clear hj
        have ee : (sw R' i (2 * i + 1)).length = R'.length := sw_len _ _ _
        have hm : ∀ k, 0 < k → k < n → (k - 1) / 2 = i → Le (R'.getD (2 * i + 1) d0) (R'.getD k d0) := fun k _ _ _ => by
          by_cases e : k = 2 * i + 1
          · subst e; exact Le.refl _
          · have : k = 2 * i + 2 := by omega
            subst this; exact lt_false.1 ht
        by_cases hs : ltT (R'.getD (2 * i + 1) d0) (R'.getD i d0) = true
        · have hN := hnext (sw R' i (2 * i + 1), 2 * i + 1)
          have h3 := dn_step hI (by omega) hm (by omega) (by omega) (by omega) (lt_true.1 hs)
          have h4 : (sw R' i (2 * i + 1)).getD n d0 = R.getD n d0 := by rw [sw_get (by omega) (by omega), if_neg (by omega), if_neg (by omega), hg]
          have h5 := (sw_perm (R := R') (i := i) (k := 2 * i + 1) (by omega) (by omega)).trans hP
          have h6 : ((2 * i + 1 : Nat) : Int) = 2 * (i : Int) + 1 := by omega
          simp only [hs] at hL
          clear hI hP hnext hm hg
          (repeat' (first | (show KQ (WL _ _ _ _ _) _ _ _ _; first | refine yW p_move ?_ | refine yW p_asg ?_ | refine yB ?_ | refine yW p_pt ?_ | refine yW p_pf ?_ | refine yW p_nott ?_ | refine yW p_notf ?_ | refine yW p_not ?_ | refine yW p_neg ?_ | (refine yX ?_; first | (refine w_invv (h0L _) ?_; rintro r L ⟨rfl, rfl⟩) | (refine w_invv (hL _) ?_; rintro r L ⟨rfl, rfl⟩) | (refine w_invv (hS _) ?_; rintro r L rfl) | fail) | refine yN ?_ | refine yO ?_ | fail) | (show KQ (CD _ _ _ _ _) _ _ _ _; first | refine yT ?_ | refine yF ?_ | fail) | ((first | refine yG ?_ ?_ | refine yC ?_ ?_) <;> (intro hc; (try simp only [hcS] at hc); try exact dD)) | refine yE ?_ | fail))
          all_goals rw [← h6]
          all_goals exact hN _ _ ⟨ee.trans hlen, by dsimp only; omega, h3, h5, h4⟩ (by dsimp only; omega) ⟨rfl, rfl, rfl, rfl, trivial⟩ (by dsimp only; rw [tms, trow, ee]; ((repeat (first | with_reducible exact Ent.rfl | with_reducible exact Ent.nil | ((with_reducible apply Ent.cons); focus ((repeat (first | exact Sel.here | apply Sel.there)); done)) | with_reducible refine Ent.drop ?_)); done))
        · have hU := dn_stop hI hm (by rw [← lt_false]; simpa using hs)
          simp only [Bool.not_eq_true _ |>.mp hs] at hL
          clear hI hm hnext
          (repeat' (first | (show KQ (WL _ _ _ _ _) _ _ _ _; first | refine yW p_move ?_ | refine yW p_asg ?_ | refine yB ?_ | refine yW p_pt ?_ | refine yW p_pf ?_ | refine yW p_nott ?_ | refine yW p_notf ?_ | refine yW p_not ?_ | refine yW p_neg ?_ | (refine yX ?_; first | (refine w_invv (h0L _) ?_; rintro r L ⟨rfl, rfl⟩) | (refine w_invv (hL _) ?_; rintro r L ⟨rfl, rfl⟩) | fail) | refine yN ?_ | refine yO ?_ | fail) | (show KQ (CD _ _ _ _ _) _ _ _ _; first | refine yT ?_ | refine yF ?_ | fail) | ((first | refine yG ?_ ?_ | refine yC ?_ ?_) <;> (intro hc; (try simp only [hcS] at hc); try exact dD)) | refine yE ?_ | fail))
          all_goals (refine y_fin ?_; exact ⟨_, ⟨R', rfl, hP, hU, hg, hlen⟩, Ent.auto⟩)
      · have h0L := fun F => less_int a c R' F (2 * (i : Int) + 1 + 1) (2 * (i : Int) + 1) (by omega) (by omega) hl'
        have hj0 : (2 * (i : Int) + 1 + 1).toNat = 2 * i + 2 := by omega
        have hj1 : (2 * (i : Int) + 1).toNat = 2 * i + 1 := by omega
        simp only [hj0, hj1, ht] at h0L
        clear hj0 hj1
        have hL := fun F => less_int a c R' F (2 * (i : Int) + 1 + 1) (i : Int) (by omega) (by omega) hl'
        have hS := fun F => swap_int a c R' F (i : Int) (2 * (i : Int) + 1 + 1) (by omega) (by omega) hl'
        have hj : (2 * (i : Int) + 1 + 1).toNat = 2 * i + 2 := by omega
        simp only [hj, Int.toNat_natCast] at hL hS
        clear hj
        have ee : (sw R' i (2 * i + 2)).length = R'.length := sw_len _ _ _
        have hm : ∀ k, 0 < k → k < n → (k - 1) / 2 = i → Le (R'.getD (2 * i + 2) d0) (R'.getD k d0) := fun k _ _ _ => by
          by_cases e : k = 2 * i + 2
          · subst e; exact Le.refl _
          · have : k = 2 * i + 1 := by omega
            subst this; exact Le.of_not (lt_true.1 ht)
        by_cases hs : ltT (R'.getD (2 * i + 2) d0) (R'.getD i d0) = true
        · have hN := hnext (sw R' i (2 * i + 2), 2 * i + 2)
          have h3 := dn_step hI (by omega) hm (by omega) (by omega) (by omega) (lt_true.1 hs)
          have h4 : (sw R' i (2 * i + 2)).getD n d0 = R.getD n d0 := by rw [sw_get (by omega) (by omega), if_neg (by omega), if_neg (by omega), hg]
          have h5 := (sw_perm (R := R') (i := i) (k := 2 * i + 2) (by omega) (by omega)).trans hP
          have h6 : ((2 * i + 2 : Nat) : Int) = 2 * (i : Int) + 1 + 1 := by omega
          simp only [hs] at hL
          clear hI hP hnext hm hg
          (repeat' (first | (show KQ (WL _ _ _ _ _) _ _ _ _; first | refine yW p_move ?_ | refine yW p_asg ?_ | refine yB ?_ | refine yW p_pt ?_ | refine yW p_pf ?_ | refine yW p_nott ?_ | refine yW p_notf ?_ | refine yW p_not ?_ | refine yW p_neg ?_ | (refine yX ?_; first | (refine w_invv (h0L _) ?_; rintro r L ⟨rfl, rfl⟩) | (refine w_invv (hL _) ?_; rintro r L ⟨rfl, rfl⟩) | (refine w_invv (hS _) ?_; rintro r L rfl) | fail) | refine yN ?_ | refine yO ?_ | fail) | (show KQ (CD _ _ _ _ _) _ _ _ _; first | refine yT ?_ | refine yF ?_ | fail) | ((first | refine yG ?_ ?_ | refine yC ?_ ?_) <;> (intro hc; (try simp only [hcS] at hc); try exact dD)) | refine yE ?_ | fail))
          all_goals rw [← h6]
          all_goals exact hN _ _ ⟨ee.trans hlen, by dsimp only; omega, h3, h5, h4⟩ (by dsimp only; omega) ⟨rfl, rfl, rfl, rfl, trivial⟩ (by dsimp only; rw [tms, trow, ee]; ((repeat (first | with_reducible exact Ent.rfl | with_reducible exact Ent.nil | ((with_reducible apply Ent.cons); focus ((repeat (first | exact Sel.here | apply Sel.there)); done)) | with_reducible refine Ent.drop ?_)); done))
        · have hU := dn_stop hI hm (by rw [← lt_false]; simpa using hs)
          simp only [Bool.not_eq_true _ |>.mp hs] at hL
          clear hI hm hnext
          (repeat' (first | (show KQ (WL _ _ _ _ _) _ _ _ _; first | refine yW p_move ?_ | refine yW p_asg ?_ | refine yB ?_ | refine yW p_pt ?_ | refine yW p_pf ?_ | refine yW p_nott ?_ | refine yW p_notf ?_ | refine yW p_not ?_ | refine yW p_neg ?_ | (refine yX ?_; first | (refine w_invv (h0L _) ?_; rintro r L ⟨rfl, rfl⟩) | (refine w_invv (hL _) ?_; rintro r L ⟨rfl, rfl⟩) | fail) | refine yN ?_ | refine yO ?_ | fail) | (show KQ (CD _ _ _ _ _) _ _ _ _; first | refine yT ?_ | refine yF ?_ | fail) | ((first | refine yG ?_ ?_ | refine yC ?_ ?_) <;> (intro hc; (try simp only [hcS] at hc); try exact dD)) | refine yE ?_ | fail))
          all_goals (refine y_fin ?_; exact ⟨_, ⟨R', rfl, hP, hU, hg, hlen⟩, Ent.auto⟩)
theorem hpush_spec (hl : R.length ≤ 5860000000000) (hh : Hn R R.length) : Sp Try.prog 34 [hif p, .iface 72 (tmv x)] (tms p m a c R kv turn F) fun r M => ∃ a2 c2 R2, M = tms p m a2 c2 R2 kv turn F ∧ R2.Perm (R ++ [x]) ∧ Hn R2 R2.length := by
  have hl2 : (R ++ [x]).length = R.length + 1 := by simp
  have hu := hh.snoc x
  have hP := rpush_spec p m a c R kv turn F x (by omega)
  have hU := fun a2 c2 => up_spec p m a2 c2 (R ++ [x]) kv turn F R.length (by omega) hu (by omega)
  have e : ((R.length : Nat) : Int) = (((R ++ [x]).length : Nat) : Int) - 1 := by omega
  simp only [e] at hU
  refine y_of Try.func34 rfl Try.ntmps34 rfl fun w0 => ?_
  (repeat' (first | (show KQ (WL _ _ _ _ _) _ _ _ _; first | refine yW p_move ?_ | refine yW p_sub6 ?_ | refine yW p_sub ?_ | (refine yX ?_; first | (refine w_invp (hP) ?_; rintro r L ⟨a2, c2, rfl, rfl⟩) | (refine w_invv (rlen_spec a2 c2 (R ++ [x]) _) ?_; rintro r L ⟨rfl, rfl⟩) | (refine w_call (hU a2 c2) ?_; rintro r L ⟨R2, rfl, h3, h4⟩) | fail) | fail) | refine yE ?_ | fail))
  all_goals (refine y_fin ?_; exact ⟨_, ⟨a2, c2, R2, rfl, h3, h4⟩, Ent.auto⟩)
theorem pop_end {p m : Nat} {a : Option Addr} {c : Nat} {R : List TM} {kv : List (Int × TM)} {turn : Int} {F : List HP} {R2 : List TM} {v : Value} (hn : 0 < R.length) (h3 : R2.Perm (sw R 0 (R.length - 1))) (h4 : Hn R2 (R.length - 1)) (h5 : R2.getD (R.length - 1) d0 = R.getD 0 d0) (h6 : R2.length = R.length) (hsp : (sw R 0 (R.length - 1)).Perm R) (hv : v = tmv (R2.getD (R2.length - 1) d0)) :
    ∃ v' R3, Value.iface 72 v = .iface 72 v' ∧ v' = tmv (R.getD 0 d0) ∧ tms p m a c (R2.take (R2.length - 1)) kv turn F = tms p m a c R3 kv turn F ∧ R.Perm (R.getD 0 d0 :: R3) ∧ Hn R3 R3.length := by
  refine ⟨v, R2.take (R2.length - 1), rfl, by rw [hv, h6, h5], rfl, ?_, ?_⟩
  · refine (h3.trans hsp).symm.trans ?_
    have e : R2 = R2.take (R2.length - 1) ++ [R2.getD (R.length - 1) d0] := by
      rw [gt (by omega)]
      conv => lhs; rw [← List.take_append_drop (R2.length - 1) R2, List.drop_eq_getElem_cons (by omega : R2.length - 1 < R2.length), List.drop_of_length_le (by omega)]
      simp only [h6]
    rw [h5] at e
    conv => lhs; rw [e]
    exact List.perm_append_comm
  · have ht : (R2.take (R2.length - 1)).length = R.length - 1 := by rw [List.length_take]; omega
    have e : ∀ k, k < R.length - 1 → (R2.take (R2.length - 1)).getD k d0 = R2.getD k d0 := fun k hk => by simp only [List.getD_eq_getElem?_getD, List.getElem?_take]; rw [if_pos (by omega)]
    intro k k0 kl
    rw [ht] at kl
    rw [e _ (by omega), e _ kl]
    exact h4 k k0 kl
theorem hpop_spec (hn : 0 < R.length) (hl : R.length ≤ 5860000000000) (hh : Hn R R.length) : Sp Try.prog 36 [hif p] (tms p m a c R kv turn F) fun r M => ∃ v R2, r = .iface 72 v ∧ v = tmv (R.getD 0 d0) ∧ M = tms p m a c R2 kv turn F ∧ R.Perm (R.getD 0 d0 :: R2) ∧ Hn R2 R2.length := by
  have hlen : (sw R 0 (R.length - 1)).length = R.length := sw_len _ _ _
  have hst := dn_start hh hn
  have hS := fun F => swap_int a c R F 0 ((R.length : Int) - 1) (by omega) (by omega) (by omega)
  have hD := down_spec p m a c (sw R 0 (R.length - 1)) kv turn F (R.length - 1) (by omega) hst (by omega)
  have hsp := sw_perm (R := R) (i := 0) (k := R.length - 1) (by omega) (by omega)
  have hsg : (sw R 0 (R.length - 1)).getD (R.length - 1) d0 = R.getD 0 d0 := by rw [sw_get (by omega) (by omega), if_pos rfl]
  have e0 : (0 : Int).toNat = 0 := rfl
  have e1 : ((R.length : Int) - 1).toNat = R.length - 1 := by omega
  have e2 : (((R.length - 1 : Nat)) : Int) = (R.length : Int) - 1 := by omega
  simp only [e0, e1] at hS
  simp only [hsg, e2] at hD
  rw [tms, trow, hlen] at hD
  clear e0 e1 e2
  have hQ := fun R2 (h : R2.length = R.length) => rpop_spec F p m a c R2 kv turn (by omega) (by omega)
  refine y_of Try.func36 rfl Try.ntmps36 rfl fun w0 => ?_
  (repeat' (first | (show KQ (WL _ _ _ _ _) _ _ _ _; first | refine yW p_move ?_ | refine yW p_asg ?_ | refine yW p_sub6 ?_ | refine yW p_sub ?_ | (refine yX ?_; first | (refine w_invv (rlen_spec a c R _) ?_; rintro r L ⟨rfl, rfl⟩) | (refine w_invv (hS _) ?_; rintro r L rfl) | (refine w_call (hD) ?_; rintro r L ⟨R2, rfl, h3, h4, h5, h6⟩) | (refine w_invp (hQ _ h6) ?_; rintro r L ⟨v, rfl, hv, rfl⟩) | fail) | fail) | refine yE ?_ | fail))
  all_goals (refine y_fin ?_; exact ⟨_, (pop_end (R := R) (R2 := R2) hn h3 h4 h5 h6 hsp hv), Ent.auto⟩)
end
end Go.Proofs.Yteafcajlfagbkaa
