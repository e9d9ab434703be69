/- DERIVED. Sketches: what is counted (no program in sight). -/
import Derived.Test.YtfeceahffkbjnaaKe
namespace Go.Proofs.Ytfeceahffkbjnaa
set_option linter.unusedSimpArgs false
set_option linter.unusedVariables false
open Go Sl Cv Go.RowKit
section
variable {b : Nat} {k k' : SK} {R : List RR} {n : Int} {i j : Nat}
theorem cnt_le : ∀ {i : Nat}, j < i → cnt b k R i ≤ val b k R j
  | i + 1, h => by
    simp only [cnt]
    rcases Nat.lt_or_eq_of_le (Nat.le_of_lt_succ h) with h | rfl
    · have := cnt_le h
      split <;> omega
    · split <;> omega
theorem cnt_ge {c : Int} (hc : c ≤ 255) : ∀ {i : Nat}, (∀ j < i, c ≤ val b k R j) → c ≤ cnt b k R i
  | 0, _ => hc
  | i + 1, h => by
    have h1 := cnt_ge hc (i := i) fun j hj => h j (by omega)
    have h2 := h i (by omega)
    simp only [cnt]
    split <;> omega
theorem cnt_att : ∀ (i : Nat), cnt b k R i = 255 ∨ ∃ j < i, cnt b k R i = val b k R j
  | 0 => .inl rfl
  | i + 1 => by
    simp only [cnt]
    split
    · exact .inr ⟨i, by omega, rfl⟩
    · rcases cnt_att i with h | ⟨j, hj, h⟩
      · exact .inl h
      · exact .inr ⟨j, by omega, h⟩
theorem val_eq (h : j < R.length) : val b k R j = R[j].xs[placeN b k j]?.getD 0 := by unfold val; simp [h]
theorem val_bmp (hR : WR b R) (h : j < R.length) : val b k' (bmp b k n R.length R) j = if val b k R j = n ∧ placeN b k' j = placeN b k j then n + 1 else val b k' R j := by
  have h' : j < (bmp b k n R.length R).length := by rw [bmp_len]; exact h
  have e : (bmp b k n R.length R)[j] = bump b k n j R[j] := by simp [bmp, h]
  have hl : placeN b k j < R[j].xs.length := by rw [hR.l _ (List.getElem_mem h)]; exact placeN_lt b k j
  rw [val_eq h', e, val_eq h, val_eq h, bump]
  by_cases hv : R[j].xs[placeN b k j]?.getD 0 = n
  · rw [if_pos hv]
    by_cases hp : placeN b k' j = placeN b k j
    · rw [if_pos ⟨hv, hp⟩, hp]
      simp [hl]
    · rw [if_neg (fun e => hp e.2)]
      dsimp only
      rw [List.getElem?_set_ne (fun e => hp e.symm)]
  · rw [if_neg hv, if_neg (fun e => hv e.1)]
theorem addR_len : (addR b k R).length = R.length := by
  unfold addR; split
  · rfl
  · exact bmp_len b k _ _ R
theorem WR.add (hR : WR b R) (k : SK) : WR b (addR b k R) := by
  have := cnt_rng (k := k) hR R.length (Nat.le_refl _)
  unfold addR; split
  · exact hR
  · exact hR.bump k _ (by omega) _
/-- No number falls. -/
theorem val_add (hR : WR b R) (h : j < R.length) : val b k' R j ≤ val b k' (addR b k R) j := by
  unfold addR; split
  · exact Int.le_refl _
  · rw [val_bmp hR h]
    split
    · rename_i e
      have h1 : val b k' R j = val b k R j := by rw [val_eq h, val_eq h, e.2]
      omega
    · exact Int.le_refl _
/-- The key's own numbers are above what its count was. -/
theorem val_own (hR : WR b R) (h : j < R.length) : addN b k R ≤ val b k (addR b k R) j := by
  have h1 := cnt_le (b := b) (k := k) (R := R) h
  unfold addR addN; split
  · omega
  · rw [val_bmp hR h]
    split
    · omega
    · rename_i e
      have : val b k R j ≠ cnt b k R R.length := fun e1 => e ⟨e1, rfl⟩
      omega
theorem addN_rng (hR : WR b R) : 0 ≤ addN b k R ∧ addN b k R ≤ 255 := by
  have := cnt_rng (k := k) hR R.length (Nat.le_refl _)
  unfold addN; split <;> omega
theorem cnt_own (hR : WR b R) : cnt b k (addR b k R) (addR b k R).length = addN b k R := by
  have hr := addN_rng (k := k) hR
  have h1 : addN b k R ≤ cnt b k (addR b k R) (addR b k R).length := cnt_ge hr.2 fun j hj => val_own hR (by rw [addR_len] at hj; exact hj)
  refine Int.le_antisymm ?_ h1
  rw [addR_len]
  rcases cnt_att (b := b) (k := k) (R := R) R.length with h | ⟨j, hj, h⟩
  · have := (cnt_rng (k := k) (hR.add k) R.length (by rw [addR_len]; exact Nat.le_refl _)).2
    unfold addN
    rw [if_pos h]
    exact this
  · have h2 := cnt_le (b := b) (k := k) (R := addR b k R) hj
    refine Int.le_trans h2 ?_
    unfold addN addR
    split
    · rename_i e; rw [e] at h; omega
    · rw [val_bmp hR hj, if_pos ⟨h.symm, rfl⟩]; omega
theorem Zr.cnt {m : Nat} (h : Zr b m R) (k : SK) (hm : 1 ≤ m) : Proofs.Ytfeceahffkbjnaa.cnt b k R R.length = 0 := by
  have hw := h.wr
  have h0 : 0 < R.length := by rw [h.len]; omega
  have h1 := cnt_le (b := b) (k := k) (R := R) h0
  have h2 := (cnt_rng (k := k) hw R.length (Nat.le_refl _)).1
  have h3 : val b k R 0 = 0 := by
    have hl : placeN b k 0 < 2 ^ b := placeN_lt b k 0
    rw [val_eq h0, h.z _ (List.getElem_mem h0)]
    simp [hl]
  omega

/-! ### what was counted -/
def nvl (l : List SK) : Nat → Nat
  | 0 => 0
  | i + 1 => if ((l[i]?.getD (0, .empty)).2.size ≤ 64) then nvl l i + 1 else nvl l i
def mny (l : List SK) (x : SK) : Nat → Nat
  | 0 => 0
  | i + 1 => if l[i]?.getD (0, .empty) = x ∧ x.2.size ≤ 64 then mny l x i + 1 else mny l x i
theorem mny_no {l : List SK} {x : SK} (h : ¬ x.2.size ≤ 64) : ∀ i, mny l x i = 0
  | 0 => rfl
  | i + 1 => by rw [mny, if_neg (fun e => h e.2), mny_no h i]
theorem mny_le (l : List SK) (x : SK) : ∀ i, mny l x i ≤ i
  | 0 => Nat.le_refl _
  | i + 1 => by have := mny_le l x i; rw [mny]; split <;> omega
theorem nvl_le (l : List SK) : ∀ i, nvl l i ≤ i
  | 0 => Nat.le_refl _
  | i + 1 => by have := nvl_le l i; rw [nvl]; split <;> omega
structure Inv (b m : Nat) (R : List RR) (l : List SK) (i : Nat) : Prop where
  wr : WR b R
  len : R.length = m
  up : ∀ r ∈ R, ∀ x ∈ r.xs, x ≤ nvl l i
  low : ∀ k : SK, ∀ j < R.length, min (mny l k i : Int) 255 ≤ val b k R j
theorem Inv.zero {m : Nat} (h : Zr b m R) (l : List SK) : Inv b m R l 0 := ⟨h.wr, h.len, fun r hr x hx => by rw [h.z r hr] at hx; have := List.eq_of_mem_replicate hx; simp [nvl]; omega, fun k j hj => by
  have := (val_at (k := k) h.wr hj).2.1
  simp only [mny]
  omega⟩
theorem Inv.skip {m : Nat} {l : List SK} (h : Inv b m R l i) (hs : ¬ (l[i]?.getD (0, .empty)).2.size ≤ 64) : Inv b m R l (i + 1) :=
  ⟨h.wr, h.len, fun r hr x hx => by rw [nvl, if_neg hs]; exact h.up r hr x hx, fun k j hj => by
    have : mny l k (i + 1) = mny l k i := by rw [mny, if_neg (fun e => hs (by rw [e.1]; exact e.2))]
    rw [this]; exact h.low k j hj⟩
theorem Inv.cnt_up {m : Nat} {l : List SK} (h : Inv b m R l i) (hm : 1 ≤ m) (k : SK) : cnt b k R R.length ≤ nvl l i := by
  have h0 : 0 < R.length := by rw [h.len]; omega
  have h1 := cnt_le (b := b) (k := k) (R := R) h0
  obtain ⟨hv, _⟩ := val_at (k := k) h.wr h0
  have := h.up _ (List.getElem_mem h0) _ (List.mem_of_getElem? hv)
  omega
theorem Inv.add {m : Nat} {l : List SK} (h : Inv b m R l i) (hm : 1 ≤ m) (k : SK) (hk : l[i]?.getD (0, .empty) = k) (hs : k.2.size ≤ 64) : Inv b m (addR b k R) l (i + 1) := by
  have hcu := h.cnt_up hm k
  have hnv : nvl l (i + 1) = nvl l i + 1 := by rw [nvl, if_pos (by rw [hk]; exact hs)]
  refine ⟨h.wr.add k, by rw [addR_len, h.len], fun r hr x hx => ?_, fun k' j hj => ?_⟩
  · rw [hnv]
    have hold : ∀ r ∈ R, ∀ x ∈ r.xs, x ≤ ((nvl l i + 1 : Nat) : Int) := fun r hr x hx => by have := h.up r hr x hx; omega
    unfold addR at hr
    split at hr
    · exact hold r hr x hx
    · unfold bmp at hr
      rw [List.mem_mapIdx] at hr
      obtain ⟨q, hq, e⟩ := hr
      rw [if_pos hq] at e
      subst e
      unfold bump at hx
      split at hx
      · rcases List.mem_or_eq_of_mem_set hx with hx | rfl
        · exact hold _ (List.getElem_mem hq) x hx
        · omega
      · exact hold _ (List.getElem_mem hq) x hx
  · rw [addR_len] at hj
    have h1 := h.low k' j hj
    have h2 := val_add (k := k) (k' := k') h.wr hj
    by_cases he : k = k'
    · subst he
      have hm1 : mny l k (i + 1) = mny l k i + 1 := by rw [mny, if_pos ⟨hk, hs⟩]
      rw [hm1]
      have h3 := val_own (k := k) h.wr hj
      have h4 : min (mny l k i : Int) 255 ≤ cnt b k R R.length := cnt_ge (by omega) fun j hj => h.low k j hj
      unfold addN at h3
      split at h3 <;> omega
    · have : mny l k' (i + 1) = mny l k' i := by rw [mny, if_neg (fun e => he (hk.symm.trans e.1))]
      rw [this]; omega
end
end Go.Proofs.Ytfeceahffkbjnaa
