/- DERIVED. Queues, as the document has them: lists; Find, Without. -/
import Derived.Test.YteafcajlfagbkaaQd
import Derived.Test.YteafcajlfagbkaaVcc
import Derived.Test.YteafcajlfagbkaaQb
import Derived.Test.YteafcajlfagbkaaVrd
namespace Go.Proofs.Yteafcajlfagbkaa
set_option linter.unusedSimpArgs false
set_option linter.unusedVariables false
open Go Sl Cv Go.RowKit
abbrev DT := Int × Int
def te (p : DT) : List Value := [.int .i64 p.1, .int .i64 p.2]
abbrev drow (a : Option Addr) (c : Nat) (D : List DT) : HP := row 47 2 (.slice a D.length c) D.length (flat te D)
theorem te_len (D : List DT) : (flat te D).length = D.length * 2 := length_flat (k := 2) (fun _ => rfl) D
section
variable (a : Option Addr) (c : Nat) (D : List DT) (F : List HP) (x : Int)
theorem dfind_no (hr : Reads F (.slice a D.length c) D.length (flat te D)) (hl : D.length ≤ 1000000000) (h : ∀ p ∈ D, p.2 ≠ x) : Sp Try.prog 17 [.slice a D.length c, .int .i64 x] F fun r M => r = .int .i64 (-1) ∧ M = F := by
  refine y_of Try.func17 rfl Try.ntmps17 rfl fun w0 => ?_
  (repeat' (first | (show KQ (WL _ _ _ _ _) _ _ _ _; first | refine yW p_move ?_ | refine yW p_asg ?_ | refine yA ?_ | refine yW p_ld ?_ | refine yW p_lda ?_ | refine yB ?_ | refine yW p_idx ?_ | refine yW p_idxl ?_ | refine yW p_len ?_ | refine yW p_lens ?_ | refine yW p_lenm ?_ | (refine yX ?_; first | refine w_st ?_ | refine w_str ?_ | refine w_stra ?_ | (refine w_al ?_; intro q) | fail) | fail) | (show KQ (CD _ _ _ _ _) _ _ _ _; first | refine yT ?_ | refine yF ?_ | fail) | ((first | refine yC ?_ ?_) <;> (intro hc; (try simp only [hcS] at hc); try exact dD)) | refine yE ?_ | fail))
  refine y_loop (X := Nat) 0 (fun i => i ≤ D.length) (fun i => [(1, .int .i64 x), (7, .slice a D.length c), (8, .int .i64 D.length), (9, .int .i64 i)]) (fun _ => F) (fun i => D.length - i) (Nat.zero_le _) ⟨rfl, rfl, rfl, rfl, trivial⟩ Ent.rfl ?_
  rintro K' i hi hnext
  by_cases hlt : i < D.length
  · have ht := tk_flat (enc := te) (sz := 2) (fun _ => rfl) i hlt
    have hpos : 0 < (flat te D).length := by rw [te_len]; omega
    have hne := h D[i] (List.getElem_mem hlt)
    (repeat' (first | (show KQ (WL _ _ _ _ _) _ _ _ _; first | refine yW p_move ?_ | refine yW p_asg ?_ | refine yA ?_ | refine yW p_ld ?_ | refine yW p_lda ?_ | refine yB ?_ | refine yW p_idx ?_ | refine yW p_idxl ?_ | refine yW p_len ?_ | refine yW p_lens ?_ | refine yW p_lenm ?_ | (refine yX ?_; first | refine w_st ?_ | refine w_str ?_ | refine w_stra ?_ | (refine w_al ?_; intro q) | fail) | fail) | (show KQ (CD _ _ _ _ _) _ _ _ _; first | refine yT ?_ | refine yF ?_ | fail) | ((first | refine yC ?_ ?_) <;> (intro hc; (try simp only [hcS] at hc); try exact dD)) | refine yE ?_ | fail))
    all_goals exact hnext (i + 1) _ _ hlt (by omega) ⟨rfl, rfl, rfl, rfl, trivial⟩ (by ((repeat (first | with_reducible exact Ent.rfl | with_reducible exact Ent.nil | ((with_reducible apply Ent.cons); focus ((repeat (first | exact Sel.here | apply Sel.there)); done)) | with_reducible refine Ent.drop ?_)); done))
  · obtain rfl : i = D.length := by omega
    (repeat' (first | (show KQ (WL _ _ _ _ _) _ _ _ _; first | refine yW p_move ?_ | refine yW p_asg ?_ | refine yA ?_ | refine yW p_ld ?_ | refine yW p_lda ?_ | refine yB ?_ | refine yW p_idx ?_ | refine yW p_idxl ?_ | refine yW p_len ?_ | refine yW p_lens ?_ | refine yW p_lenm ?_ | (refine yX ?_; first | refine w_st ?_ | refine w_str ?_ | refine w_stra ?_ | (refine w_al ?_; intro q) | fail) | fail) | (show KQ (CD _ _ _ _ _) _ _ _ _; first | refine yT ?_ | refine yF ?_ | fail) | ((first | refine yC ?_ ?_) <;> (intro hc; (try simp only [hcS] at hc); try exact dD)) | refine yE ?_ | fail))
    all_goals (refine y_fin ?_; exact ⟨_, ⟨rfl, rfl⟩, Ent.auto⟩)
theorem dfind_at (hr : Reads F (.slice a D.length c) D.length (flat te D)) (hl : D.length ≤ 1000000000) (k : Nat) (hk : k < D.length) (hx : D[k].2 = x) (h : ∀ j (hj : j < k), D[j].2 ≠ x) : Sp Try.prog 17 [.slice a D.length c, .int .i64 x] F fun r M => r = .int .i64 k ∧ M = F := by
  refine y_of Try.func17 rfl Try.ntmps17 rfl fun w0 => ?_
  (repeat' (first | (show KQ (WL _ _ _ _ _) _ _ _ _; first | refine yW p_move ?_ | refine yW p_asg ?_ | refine yA ?_ | refine yW p_ld ?_ | refine yW p_lda ?_ | refine yB ?_ | refine yW p_idx ?_ | refine yW p_idxl ?_ | refine yW p_len ?_ | refine yW p_lens ?_ | refine yW p_lenm ?_ | (refine yX ?_; first | refine w_st ?_ | refine w_str ?_ | refine w_stra ?_ | (refine w_al ?_; intro q) | fail) | fail) | (show KQ (CD _ _ _ _ _) _ _ _ _; first | refine yT ?_ | refine yF ?_ | fail) | ((first | refine yC ?_ ?_) <;> (intro hc; (try simp only [hcS] at hc); try exact dD)) | refine yE ?_ | fail))
  refine y_loop (X := Nat) 0 (fun i => i ≤ k) (fun i => [(1, .int .i64 x), (7, .slice a D.length c), (8, .int .i64 D.length), (9, .int .i64 i)]) (fun _ => F) (fun i => k - i) (Nat.zero_le _) ⟨rfl, rfl, rfl, rfl, trivial⟩ Ent.rfl ?_
  rintro K' i hi hnext
  have hlt : i < D.length := by omega
  have ht := tk_flat (enc := te) (sz := 2) (fun _ => rfl) i hlt
  have hpos : 0 < (flat te D).length := by rw [te_len]; omega
  by_cases hik : i < k
  · have hne := h i hik
    (repeat' (first | (show KQ (WL _ _ _ _ _) _ _ _ _; first | refine yW p_move ?_ | refine yW p_asg ?_ | refine yA ?_ | refine yW p_ld ?_ | refine yW p_lda ?_ | refine yB ?_ | refine yW p_idx ?_ | refine yW p_idxl ?_ | refine yW p_len ?_ | refine yW p_lens ?_ | refine yW p_lenm ?_ | (refine yX ?_; first | refine w_st ?_ | refine w_str ?_ | refine w_stra ?_ | (refine w_al ?_; intro q) | fail) | fail) | (show KQ (CD _ _ _ _ _) _ _ _ _; first | refine yT ?_ | refine yF ?_ | fail) | ((first | refine yC ?_ ?_) <;> (intro hc; (try simp only [hcS] at hc); try exact dD)) | refine yE ?_ | fail))
    all_goals exact hnext (i + 1) _ _ hik (by omega) ⟨rfl, rfl, rfl, rfl, trivial⟩ (by ((repeat (first | with_reducible exact Ent.rfl | with_reducible exact Ent.nil | ((with_reducible apply Ent.cons); focus ((repeat (first | exact Sel.here | apply Sel.there)); done)) | with_reducible refine Ent.drop ?_)); done))
  · obtain rfl : i = k := by omega
    (repeat' (first | (show KQ (WL _ _ _ _ _) _ _ _ _; first | refine yW p_move ?_ | refine yW p_asg ?_ | refine yA ?_ | refine yW p_ld ?_ | refine yW p_lda ?_ | refine yB ?_ | refine yW p_idx ?_ | refine yW p_idxl ?_ | refine yW p_len ?_ | refine yW p_lens ?_ | refine yW p_lenm ?_ | (refine yX ?_; first | refine w_st ?_ | refine w_str ?_ | refine w_stra ?_ | (refine w_al ?_; intro q) | fail) | fail) | (show KQ (CD _ _ _ _ _) _ _ _ _; first | refine yT ?_ | refine yF ?_ | fail) | ((first | refine yC ?_ ?_) <;> (intro hc; (try simp only [hcS] at hc); try exact dD)) | refine yE ?_ | fail))
    all_goals (refine y_fin ?_; exact ⟨_, ⟨rfl, rfl⟩, Ent.auto⟩)
end
end Go.Proofs.Yteafcajlfagbkaa
