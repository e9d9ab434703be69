/- DERIVED. Queues by time: a heap, plainly; what is put goes up, what is taken leaves a hole that goes down. -/
import Derived.Test.YteafcajlfagbkaaZb
namespace Go.Proofs.Yteafcajlfagbkaa
set_option linter.unusedSimpArgs false
set_option linter.unusedVariables false
open Go Sl Cv Go.RowKit
def Le (x y : TM) : Prop := x.at_ < y.at_ ∨ x.at_ = y.at_ ∧ x.turn ≤ y.turn
theorem lt_false {x y : TM} : ltT x y = false ↔ Le y x := by unfold ltT Le; simp only [decide_eq_false_iff_not]; omega
theorem lt_true {x y : TM} : ltT x y = true ↔ ¬ Le y x := by unfold ltT Le; simp only [decide_eq_true_eq]; omega
theorem Le.trans {x y z : TM} (h : Le x y) (k : Le y z) : Le x z := by unfold Le at *; omega
theorem Le.refl (x : TM) : Le x x := by unfold Le; omega
theorem Le.of_not {x y : TM} (h : ¬ Le x y) : Le y x := by unfold Le at *; omega
theorem sw_get {R : List TM} {i k : Nat} (hi : i < R.length) (hk : k < R.length) (x : Nat) : (sw R i k).getD x d0 = if x = k then R.getD i d0 else if x = i then R.getD k d0 else R.getD x d0 := by
  unfold sw
  simp only [List.getD_eq_getElem?_getD, List.getElem?_set, List.length_set]
  by_cases h1 : x = k
  · subst h1; simp [hk]
  · by_cases h2 : x = i
    · subst h2; simp [hi, h1, Ne.symm h1]
    · simp [h1, h2, Ne.symm h1, Ne.symm h2]
theorem sw_perm {R : List TM} {i k : Nat} (hi : i < R.length) (hk : k < R.length) : (sw R i k).Perm R := by
  unfold sw
  rw [gt hi, gt hk]
  exact List.set_set_perm hi hk
/-- Whose first n stand in heap order. -/
def Hn (R : List TM) (n : Nat) : Prop := ∀ k, 0 < k → k < n → Le (R.getD ((k - 1) / 2) d0) (R.getD k d0)
def UpI (R : List TM) (j : Nat) : Prop := (∀ k, 0 < k → k < R.length → k ≠ j → Le (R.getD ((k - 1) / 2) d0) (R.getD k d0)) ∧ (∀ k, 0 < j → 0 < k → k < R.length → (k - 1) / 2 = j → Le (R.getD ((j - 1) / 2) d0) (R.getD k d0))
def DnI (R : List TM) (n i : Nat) : Prop := (∀ k, 0 < k → k < n → (k - 1) / 2 ≠ i → Le (R.getD ((k - 1) / 2) d0) (R.getD k d0)) ∧ (∀ k, 0 < i → 0 < k → k < n → (k - 1) / 2 = i → Le (R.getD ((i - 1) / 2) d0) (R.getD k d0))
theorem up_stop0 {R : List TM} (h : UpI R 0) : Hn R R.length := fun k h0 hk => h.1 k h0 hk (by omega)
theorem up_stop {R : List TM} {j : Nat} (h : UpI R j) (e : Le (R.getD ((j - 1) / 2) d0) (R.getD j d0)) : Hn R R.length := fun k h0 hk => by
  by_cases hj : k = j
  · subst hj; exact e
  · exact h.1 k h0 hk hj
theorem up_step {R : List TM} {j : Nat} (h : UpI R j) (hj : j < R.length) (h0 : 0 < j) (e : ¬ Le (R.getD ((j - 1) / 2) d0) (R.getD j d0)) : UpI (sw R ((j - 1) / 2) j) ((j - 1) / 2) := by
  have hi : (j - 1) / 2 < j := by omega
  refine ⟨fun k k0 kl kn => ?_, fun k i0 k0 kl kp => ?_⟩ <;> rw [sw_len] at kl <;> rw [sw_get (by omega) hj, sw_get (by omega) hj]
  · by_cases hk : k = j
    · subst hk
      rw [if_neg (by omega), if_pos rfl, if_pos rfl]
      exact Le.of_not e
    · rw [if_neg hk, if_neg kn]
      by_cases hp : (k - 1) / 2 = j
      · rw [if_pos hp]
        exact h.2 k h0 k0 kl hp
      · rw [if_neg hp]
        by_cases hq : (k - 1) / 2 = (j - 1) / 2
        · rw [if_pos hq]
          have := h.1 k k0 kl hk
          rw [hq] at this
          exact (Le.of_not e).trans this
        · rw [if_neg hq]
          exact h.1 k k0 kl hk
  · rw [if_neg (by omega), if_neg (by omega)]
    have h1 := h.1 ((j - 1) / 2) i0 (by omega) (by omega)
    by_cases hk : k = j
    · rw [if_pos hk]
      exact h1
    · rw [if_neg hk, if_neg (by omega)]
      have := h.1 k k0 kl hk
      rw [kp] at this
      exact h1.trans this
theorem dn_none {R : List TM} {n i : Nat} (h : DnI R n i) (e : n ≤ 2 * i + 1) : Hn R n := fun k h0 hk => h.1 k h0 hk (by omega)
theorem dn_stop {R : List TM} {n i j : Nat} (h : DnI R n i) (hm : ∀ k, 0 < k → k < n → (k - 1) / 2 = i → Le (R.getD j d0) (R.getD k d0)) (e : Le (R.getD i d0) (R.getD j d0)) : Hn R n := fun k h0 hk => by
  by_cases hj : (k - 1) / 2 = i
  · rw [hj]; exact e.trans (hm k h0 hk hj)
  · exact h.1 k h0 hk hj
theorem dn_step {R : List TM} {n i j : Nat} (h : DnI R n i) (hn : n ≤ R.length) (hm : ∀ k, 0 < k → k < n → (k - 1) / 2 = i → Le (R.getD j d0) (R.getD k d0)) (h0 : 0 < j) (hj : j < n) (hp : (j - 1) / 2 = i) (e : ¬ Le (R.getD i d0) (R.getD j d0)) : DnI (sw R i j) n j := by
  refine ⟨fun k k0 kl kn => ?_, fun k i0 k0 kl kp => ?_⟩ <;> rw [sw_get (by omega) (by omega), sw_get (by omega) (by omega)]
  · rw [if_neg kn]
    by_cases hk : (k - 1) / 2 = i
    · rw [if_pos hk]
      by_cases hkj : k = j
      · rw [if_pos hkj]; exact Le.of_not e
      · rw [if_neg hkj, if_neg (by omega)]
        exact hm k k0 kl hk
    · rw [if_neg hk, if_neg (by intro e; subst e; omega)]
      by_cases hki : k = i
      · subst hki
        rw [if_pos rfl]
        exact h.2 j k0 h0 hj hp
      · rw [if_neg hki]
        exact h.1 k k0 kl hk
  · rw [if_neg (by omega), if_pos hp, if_neg (by omega), if_neg (by omega)]
    have := h.1 k k0 kl (by omega)
    rw [kp] at this
    exact this
theorem dn_start {R : List TM} (h : Hn R R.length) (h0 : 0 < R.length) : DnI (sw R 0 (R.length - 1)) (R.length - 1) 0 := by
  refine ⟨fun k k0 kl kn => ?_, fun k i0 => absurd i0 (by omega)⟩
  rw [sw_get (by omega) (by omega), sw_get (by omega) (by omega), if_neg (by omega), if_neg (by omega), if_neg (by omega), if_neg (by omega)]
  exact h k k0 (by omega)
theorem Hn.least {R : List TM} (h : Hn R R.length) : ∀ k, k < R.length → Le (R.getD 0 d0) (R.getD k d0) := fun k => by
  induction k using Nat.strongRecOn with
  | ind k ih =>
    intro hk
    by_cases k0 : k = 0
    · subst k0; exact Le.refl _
    · exact (ih ((k - 1) / 2) (by omega) (by omega)).trans (h k (by omega) hk)
theorem Hn.snoc {R : List TM} (h : Hn R R.length) (x : TM) : UpI (R ++ [x]) R.length := by
  have e : ∀ k, k < R.length → (R ++ [x]).getD k d0 = R.getD k d0 := fun k hk => by simp [List.getD, List.getElem?_append_left hk]
  refine ⟨fun k k0 kl kn => ?_, fun k h0 k0 kl kp => ?_⟩ <;> simp at kl
  · rw [e _ (by omega), e _ (by omega)]
    exact h k k0 (by omega)
  · omega
end Go.Proofs.Yteafcajlfagbkaa
