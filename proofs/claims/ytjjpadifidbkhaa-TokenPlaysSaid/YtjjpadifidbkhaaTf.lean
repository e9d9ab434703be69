/- DERIVED. Tokens: the document's Is, Hangs, Cancel. -/
import Derived.Test.YtjjpadifidbkhaaTe
namespace Go.Proofs.Ytjjpadifidbkhaa
open Go Sl Cv Go.RowKit
/-- The numbers of which P is true, in order. -/
def seqF (P : Int → Bool) : Nat → List Int
  | 0 => []
  | i + 1 => if P ((i : Int) + 1) = true then seqF P i ++ [(i : Int) + 1] else seqF P i
theorem seqF_len (P : Int → Bool) : ∀ i, (seqF P i).length ≤ i
  | 0 => Nat.le_refl _
  | i + 1 => by have := seqF_len P i; rw [seqF]; split <;> simp <;> omega
theorem seqF_congr {P Q : Int → Bool} : ∀ i : Nat, (∀ k : Int, 1 ≤ k → k ≤ i → P k = Q k) → seqF P i = seqF Q i
  | 0, _ => rfl
  | i + 1, h => by rw [seqF, seqF, seqF_congr i (fun k h1 h2 => h k h1 (by omega)), h _ (by omega) (by omega)]
theorem seqF_filter (P Q : Int → Bool) : ∀ i, seqF (fun k => P k && Q k) i = (seqF P i).filter Q
  | 0 => rfl
  | i + 1 => by
    rw [seqF, seqF, seqF_filter P Q i]
    cases hP : P ((i : Int) + 1) <;> cases hQ : Q ((i : Int) + 1) <;> simp [hQ]
namespace Tk
theorem underN_back (l : List T3) (n : Int) (i j : Nat) (k : Int) (hk : k ≤ n + i) : k ∈ underN l n (i + j) → k ∈ underN l n i := by
  induction j with
  | zero => exact id
  | succ j ih =>
    intro h
    rw [← Nat.add_assoc, underN] at h
    split at h
    · rcases List.mem_append.1 h with h | h
      · exact ih h
      · simp at h; omega
    · exact ih h
theorem mem_step {l : List T3} {n : Int} {i : Nat} (hi : i + 1 ≤ (l.length - n).toNat) : (n + (i : Int) + 1 ∈ n :: under l n) ↔ (at_ l (n + (i : Int) + 1)).parent ∈ n :: underN l n i := by
  have h0 : n + (i : Int) + 1 ∉ underN l n i := fun h => by have := underN_lt l n i _ h; omega
  have e : (n + (i : Int) + 1 ∈ n :: under l n) ↔ n + (i : Int) + 1 ∈ underN l n (i + 1) := by
    constructor
    · intro h
      rcases List.mem_cons.1 h with h | h
      · omega
      · unfold under at h
        obtain ⟨j, hj⟩ : ∃ j, (l.length - n).toNat = i + 1 + j := ⟨(l.length - n).toNat - (i + 1), by omega⟩
        rw [hj] at h
        exact underN_back l n (i + 1) j _ (by omega) h
    · intro h
      refine List.mem_cons_of_mem _ ?_
      unfold under
      obtain ⟨j, hj⟩ : ∃ j, (l.length - n).toNat = i + 1 + j := ⟨(l.length - n).toNat - (i + 1), by omega⟩
      rw [hj]
      exact underN_sub l n (i + 1) j _ h
  rw [e, underN]
  split
  · simp [*]
  · simp [*]
theorem seq_below {l : List T3} {n : Int} : ∀ i : Nat, (i : Int) < n → seqF (fun k => decide (k ∈ n :: under l n)) i = []
  | 0, _ => rfl
  | i + 1, h => by
    rw [seqF, seq_below i (by omega), if_neg]
    simp only [decide_eq_true_eq]
    intro hm
    rcases List.mem_cons.1 hm with e | e
    · omega
    · have := underN_lt l n _ _ e; omega
theorem seq_underN {l : List T3} {n : Int} (hn : ok l n) : ∀ i : Nat, i ≤ (l.length - n).toNat → seqF (fun k => decide (k ∈ n :: under l n)) (n.toNat + i) = n :: underN l n i
  | 0, _ => by
    have h1 := hn.1
    obtain ⟨j, hj⟩ : ∃ j, n.toNat = j + 1 := ⟨n.toNat - 1, by omega⟩
    have hjn : (j : Int) + 1 = n := by omega
    rw [Nat.add_zero, hj, seqF, seq_below j (by omega), hjn, if_pos (by simp)]
    rfl
  | i + 1, h => by
    have ih := seq_underN hn i (by omega)
    have h1 := hn.1
    have e : ((n.toNat + i : Nat) : Int) + 1 = n + (i : Int) + 1 := by omega
    rw [← Nat.add_assoc, seqF, ih, e, underN]
    by_cases hm : (at_ l (n + (i : Int) + 1)).parent ∈ n :: underN l n i
    · rw [if_pos hm, if_pos (by simpa using (mem_step h).2 hm)]; rfl
    · rw [if_neg hm, if_neg (by simpa using fun e => hm ((mem_step h).1 e))]
/-- All that hang on n, and n, are in order. -/
theorem seq_under {l : List T3} {n : Int} (hn : ok l n) : seqF (fun k => decide (k ∈ n :: under l n)) l.length = n :: under l n := by
  have := seq_underN hn (l.length - n).toNat (Nat.le_refl _)
  have h1 := hn.1; have h2 := hn.2
  rwa [show n.toNat + (l.length - n).toNat = l.length by omega] at this
theorem under_gt {l : List T3} {n : Int} : ∀ k ∈ under l n, n < k := fun k h => (underN_lt l n _ k h).1
theorem seq_under' {l : List T3} {n : Int} (hn : ok l n) : seqF (fun k => decide (k ∈ under l n)) l.length = under l n := by
  have e : seqF (fun k => decide (k ∈ under l n)) l.length = seqF (fun k => decide (k ∈ n :: under l n) && decide (k ≠ n)) l.length := seqF_congr _ fun k _ _ => by
    show decide _ = (decide _ && decide _)
    by_cases h : k ∈ under l n
    · have := under_gt k h
      rw [decide_eq_true h, decide_eq_true (List.mem_cons_of_mem n h), decide_eq_true (show k ≠ n by omega)]; rfl
    · rw [decide_eq_false h]
      by_cases e : k = n
      · rw [decide_eq_false (not_not_intro e), Bool.and_false]
      · rw [decide_eq_false (fun hm => by rcases List.mem_cons.1 hm with q | q; exact e q; exact h q), Bool.false_and]
  rw [e, seqF_filter, seq_under hn]
  simp only [List.filter_cons, ne_eq, not_true_eq_false, decide_false, Bool.false_eq_true, if_false]
  exact List.filter_eq_self.2 fun k hk => by have := under_gt k hk; simp; omega
/-- A number hangs on n just when its parent does, or is n. -/
theorem hang_step {l : List T3} (hp : ∀ n, ok l n → 0 ≤ par l n ∧ par l n < n) {n k : Int} (hn : ok l n) (hk : ok l k) : k ∈ under l n ↔ par l k ∈ n :: under l n := by
  constructor
  · intro h; exact (mem_underN l n _ k h).2.2
  · intro h
    rcases List.mem_cons.1 (under_mem hp hn hk h) with e | e
    · subst e
      have h1 := hp k hk
      rcases List.mem_cons.1 h with e | e
      · omega
      · have := under_gt _ e; omega
    · exact e
theorem at_succ {l : List T3} {i : Nat} (h : i < l.length) : at_ l ((i : Int) + 1) = l[i] ∧ ok l ((i : Int) + 1) := by
  have hok : ok l ((i : Int) + 1) := ⟨by omega, by omega⟩
  obtain ⟨h2, e⟩ := tok_at hok
  have : ix ((i : Int) + 1) = i := by unfold ix; omega
  exact ⟨by rw [e]; simp [this], hok⟩
/-- What the document's Cancel has done so far. -/
def hitB (l : List T3) (n k : Int) : Bool := decide (k ∈ n :: under l n) && decide ((at_ l k).why = 0)
def dcL (l : List T3) (n : Int) (i : Nat) : List T3 := l.mapIdx fun j x => if j < i ∧ hitB l n ((j : Int) + 1) = true then { x with why := n } else x
theorem dcL_len (l : List T3) (n : Int) (i : Nat) : (dcL l n i).length = l.length := by simp [dcL]
theorem dcL_zero (l : List T3) (n : Int) : dcL l n 0 = l := by
  apply List.ext_getElem (by simp [dcL])
  intro j h1 h2
  simp [dcL]
theorem dcL_at (l : List T3) (n : Int) (i : Nat) (h : i < l.length) : (dcL l n i)[i]'(by rw [dcL_len]; exact h) = l[i] := by simp [dcL]
theorem dcL_no {l : List T3} {n : Int} {i : Nat} (h : hitB l n ((i : Int) + 1) = false) : dcL l n (i + 1) = dcL l n i := by
  apply List.ext_getElem (by simp [dcL])
  intro j h1 h2
  simp only [dcL, List.getElem_mapIdx]
  by_cases hj : j = i
  · subst hj; rw [if_neg (by simp [h]), if_neg (by simp)]
  · by_cases hh : hitB l n ((j : Int) + 1) = true
    · by_cases hl : j < i
      · rw [if_pos ⟨by omega, hh⟩, if_pos ⟨hl, hh⟩]
      · rw [if_neg (by omega), if_neg (by omega)]
    · rw [if_neg (fun e => hh e.2), if_neg (fun e => hh e.2)]
theorem dcL_yes {l : List T3} {n : Int} {i : Nat} (hl : i < l.length) (h : hitB l n ((i : Int) + 1) = true) : (dcL l n i).set i { l[i] with why := n } = dcL l n (i + 1) := by
  apply List.ext_getElem (by simp [dcL])
  intro j h1 h2
  rw [List.getElem_set]
  simp only [dcL, List.getElem_mapIdx]
  split
  · rename_i e; subst e; rw [if_pos ⟨by omega, h⟩]
  · by_cases hh : hitB l n ((j : Int) + 1) = true
    · by_cases hl : j < i
      · rw [if_pos ⟨hl, hh⟩, if_pos ⟨by omega, hh⟩]
      · rw [if_neg (by omega), if_neg (by omega)]
    · rw [if_neg (fun e => hh e.2), if_neg (fun e => hh e.2)]
theorem dc_gone {l : List T3} {n : Int} (hn : ok l n) : seqF (hitB l n) l.length = (cancel l n).2 := by
  rw [cancel_out hn, ← seq_under hn, ← seqF_filter]
  rfl
theorem dc_list {l : List T3} {n : Int} (hn : ok l n) : dcL l n l.length = (cancel l n).1 := by
  apply List.ext_getElem (by rw [dcL_len, cancel_len])
  intro j h1 h2
  rw [dcL_len] at h1
  have ha := cancel_at hn ((j : Int) + 1)
  rw [(at_succ h2).1, (at_succ h1).1] at ha
  rw [ha]
  simp only [dcL, List.getElem_mapIdx, hitB, Bool.and_eq_true, decide_eq_true_eq]
  by_cases hh : (j : Int) + 1 ∈ n :: under l n ∧ why l ((j : Int) + 1) = 0
  · rw [if_pos hh]; exact if_pos ⟨h1, hh⟩
  · rw [if_neg hh]; exact if_neg (fun e => hh e.2)
/-- A Cancel of what is cancelled does nothing. -/
theorem cancel_twice {l : List T3} (hI : Inv l) {n : Int} (hn : ok l n) (hw : why l n ≠ 0) : cancel l n = (l, []) := by
  have hall : ∀ k ∈ n :: under l n, why l k ≠ 0 := by
    have key : ∀ i : Nat, ∀ k ∈ n :: underN l n i, i ≤ (l.length - n).toNat → why l k ≠ 0 := by
      intro i
      induction i with
      | zero => intro k hk _; simp [underN] at hk; subst hk; exact hw
      | succ i ih =>
        intro k hk hi
        rw [underN] at hk
        split at hk
        · rename_i hp
          rcases List.mem_cons.1 hk with e | hk
          · subst e; exact hw
          · rcases List.mem_append.1 hk with hk | hk
            · exact ih k (List.mem_cons_of_mem _ hk) (by omega)
            · simp at hk
              subst hk
              have hok : ok l (n + (i : Int) + 1) := ⟨by have := hn.1; omega, by omega⟩
              have hpw := ih _ hp (by omega)
              refine hI.down _ hok ?_ hpw
              intro e
              have h1 := hn.1
              rcases List.mem_cons.1 hp with q | q
              · unfold par at e; omega
              · have := (underN_lt l n i _ q).1; unfold par at e; omega
        · exact ih k hk (by omega)
    exact fun k hk => key _ k hk (Nat.le_refl _)
  have h2 : (cancel l n).2 = [] := by
    rw [cancel_out hn, List.filter_eq_nil_iff]
    intro k hk
    simpa using hall k hk
  have h1 : (cancel l n).1 = l := by
    apply List.ext_getElem cancel_len
    intro j h1 h2
    have ha := cancel_at hn ((j : Int) + 1)
    rw [(at_succ h1).1, (at_succ h2).1] at ha
    rw [ha, if_neg]
    rintro ⟨a, b⟩
    exact hall _ a b
  rw [← h1, ← h2]
  show _ = ((cancel l n).1, (cancel l n).2)
  rw [h1]
  exact Prod.ext h1 rfl
end Tk
end Go.Proofs.Ytjjpadifidbkhaa
