/- DERIVED. Sorting integers: what is known of it; what the contract says. -/
import Derived.Test.YteafcajlfagbkaaTy
import Derived.Test.YteafcajlfagbkaaVn
import Derived.Test.YteafcajlfagbkaaVs
namespace Go.Proofs.Yteafcajlfagbkaa
set_option linter.unusedSimpArgs false
set_option linter.unusedVariables false
open Go Sl Cv Go.RowKit
abbrev srt (l : List Int) : List Int := l.mergeSort fun x y => decide (x ≤ y)
theorem srt_perm {l l' : List Int} (h : l.Perm l') : srt l = srt l' := by
  have tr : ∀ a b c : Int, decide (a ≤ b) = true → decide (b ≤ c) = true → decide (a ≤ c) = true := fun a b c h1 h2 => by simp only [decide_eq_true_eq] at *; omega
  have tt : ∀ a b : Int, (decide (a ≤ b) || decide (b ≤ a)) = true := fun a b => by simp only [Bool.or_eq_true, decide_eq_true_eq]; omega
  refine List.Perm.eq_of_pairwise (le := fun a b => decide (a ≤ b) = true) (fun a b _ _ h1 h2 => ?_) (List.pairwise_mergeSort tr tt l) (List.pairwise_mergeSort tr tt l') (((List.mergeSort_perm l _).trans h).trans (List.mergeSort_perm l' _).symm)
  simp only [decide_eq_true_eq] at h1 h2
  omega
theorem srt_asc {l : List Int} (h : l.Pairwise (· < ·)) : srt l = l := List.mergeSort_of_pairwise (h.imp fun h => by simp only [decide_eq_true_eq]; omega)
theorem srt_len (l : List Int) : (srt l).length = l.length := List.length_mergeSort l
theorem nd_len {α : Type} [DecidableEq α] : ∀ {ds L : List α}, ds.Nodup → (∀ x ∈ ds, x ∈ L) → ds.length ≤ L.length
  | [], _, _, _ => Nat.zero_le _
  | d :: ds, L, hn, h => by
    have hn' := List.nodup_cons.1 hn
    have hd := h d (by simp)
    have h1 := nd_len (L := L.erase d) hn'.2 fun x hx => (List.mem_erase_of_ne (fun e => hn'.1 (by rw [← e]; exact hx))).2 (h x (by simp [hx]))
    have h2 := List.length_erase_of_mem hd
    have h3 := List.length_pos_of_mem hd
    rw [List.length_cons]; omega
abbrev SortOk : Prop := ∀ (a : Option Addr) (c : Nat) (l : List Int) (F : List HP), l.length ≤ 4000000000000 → Sp Try.prog 40 [.slice a l.length c] (row 3 1 (.slice a l.length c) l.length (ints l) :: F) fun r M => r = .tuple #[] ∧ M = row 3 1 (.slice a l.length c) l.length (ints (srt l)) :: F
end Go.Proofs.Yteafcajlfagbkaa
