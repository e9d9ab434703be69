/- DERIVED. Queues by time: which is ahead; the heap's rows. -/
import Derived.Test.YteafcajlfagbkaaQt
import Derived.Test.YteafcajlfagbkaaVcc
import Derived.Test.YteafcajlfagbkaaVs
namespace Go.Proofs.Yteafcajlfagbkaa
set_option linter.unusedSimpArgs false
set_option linter.unusedVariables false
open Go Sl Cv Go.RowKit
def ci (x y : Int) : Int := if x < y then -1 else if y < x then 1 else 0
def cT (x y : TM) : Int := if ci x.at_ y.at_ ≠ 0 then ci x.at_ y.at_ else ci x.turn y.turn
/-- Is it ahead? -/
def ltT (x y : TM) : Bool := decide (x.at_ < y.at_ ∨ x.at_ = y.at_ ∧ x.turn < y.turn)
theorem cT_lt (x y : TM) : decide (cT x y < 0) = ltT x y := by
  unfold cT ltT ci
  by_cases h1 : x.at_ < y.at_
  · simp [h1]
  · by_cases h2 : y.at_ < x.at_
    · simp [h1, h2]; omega
    · have h3 : x.at_ = y.at_ := by omega
      by_cases h4 : x.turn < y.turn
      · simp [h3, h4]
      · by_cases h5 : y.turn < x.turn <;> simp [h3, h4, h5]
section
variable (F : List HP) (x y : Int)
theorem nan8_spec : Sp Try.prog 59 [.int .i64 x] F fun r M => r = .bool false ∧ M = F := by
  refine y_of Try.func59 rfl Try.ntmps59 rfl fun w0 => ?_
  (repeat' (first | (show KQ (WL _ _ _ _ _) _ _ _ _; first | refine yW p_move ?_ | refine yW p_asg ?_ | refine yB ?_ | fail) | refine yE ?_ | fail))
  all_goals (refine y_fin ?_; apply Exists.intro; apply And.intro; (focus (refine ⟨?_, rfl⟩; simp [tup])); exact Ent.auto)
theorem nan_spec : Sp Try.prog 60 [.int .i64 x] F fun r M => r = .bool false ∧ M = F := by
  refine y_of Try.func60 rfl Try.ntmps60 rfl fun w0 => ?_
  (repeat' (first | (show KQ (WL _ _ _ _ _) _ _ _ _; first | refine yW p_move ?_ | refine yW p_asg ?_ | refine yB ?_ | fail) | refine yE ?_ | fail))
  all_goals (refine y_fin ?_; apply Exists.intro; apply And.intro; (focus (refine ⟨?_, rfl⟩; simp [tup])); exact Ent.auto)
theorem cmp8_spec : Sp Try.prog 46 [.int .i64 x, .int .i64 y] F fun r M => r = .int .i64 (ci x y) ∧ M = F := by
  unfold ci
  refine y_of Try.func46 rfl Try.ntmps46 rfl fun w0 => ?_
  by_cases h1 : x < y
  · (repeat' (first | (show KQ (WL _ _ _ _ _) _ _ _ _; first | refine yW p_move ?_ | refine yW p_asg ?_ | refine yW p_lss ?_ | refine yW p_gtr ?_ | (refine yX ?_; first | (refine w_call (nan8_spec _ _) ?_; rintro r L ⟨rfl, rfl⟩) | fail) | fail) | (show KQ (CD _ _ _ _ _) _ _ _ _; first | refine yT ?_ | refine yF ?_ | fail) | ((first | refine yC ?_ ?_) <;> (intro hc; (try simp only [hcS] at hc); try exact dD)) | refine yE ?_ | fail))
    all_goals (refine y_fin ?_; exact ⟨_, ⟨by rw [if_pos h1]; rfl, rfl⟩, Ent.auto⟩)
  · by_cases h2 : y < x
    · (repeat' (first | (show KQ (WL _ _ _ _ _) _ _ _ _; first | refine yW p_move ?_ | refine yW p_asg ?_ | refine yW p_lss ?_ | refine yW p_gtr ?_ | (refine yX ?_; first | (refine w_call (nan8_spec _ _) ?_; rintro r L ⟨rfl, rfl⟩) | fail) | fail) | (show KQ (CD _ _ _ _ _) _ _ _ _; first | refine yT ?_ | refine yF ?_ | fail) | ((first | refine yC ?_ ?_) <;> (intro hc; (try simp only [hcS] at hc); try exact dD)) | refine yE ?_ | fail))
      all_goals (refine y_fin ?_; exact ⟨_, ⟨by rw [if_neg h1, if_pos h2]; rfl, rfl⟩, Ent.auto⟩)
    · (repeat' (first | (show KQ (WL _ _ _ _ _) _ _ _ _; first | refine yW p_move ?_ | refine yW p_asg ?_ | refine yW p_lss ?_ | refine yW p_gtr ?_ | (refine yX ?_; first | (refine w_call (nan8_spec _ _) ?_; rintro r L ⟨rfl, rfl⟩) | fail) | fail) | (show KQ (CD _ _ _ _ _) _ _ _ _; first | refine yT ?_ | refine yF ?_ | fail) | ((first | refine yC ?_ ?_) <;> (intro hc; (try simp only [hcS] at hc); try exact dD)) | refine yE ?_ | fail))
      all_goals (refine y_fin ?_; exact ⟨_, ⟨by rw [if_neg h1, if_neg h2]; rfl, rfl⟩, Ent.auto⟩)
theorem cmp_spec : Sp Try.prog 47 [.int .i64 x, .int .i64 y] F fun r M => r = .int .i64 (ci x y) ∧ M = F := by
  unfold ci
  refine y_of Try.func47 rfl Try.ntmps47 rfl fun w0 => ?_
  by_cases h1 : x < y
  · (repeat' (first | (show KQ (WL _ _ _ _ _) _ _ _ _; first | refine yW p_move ?_ | refine yW p_asg ?_ | refine yW p_lss ?_ | refine yW p_gtr ?_ | (refine yX ?_; first | (refine w_call (nan_spec _ _) ?_; rintro r L ⟨rfl, rfl⟩) | fail) | fail) | (show KQ (CD _ _ _ _ _) _ _ _ _; first | refine yT ?_ | refine yF ?_ | fail) | ((first | refine yC ?_ ?_) <;> (intro hc; (try simp only [hcS] at hc); try exact dD)) | refine yE ?_ | fail))
    all_goals (refine y_fin ?_; exact ⟨_, ⟨by rw [if_pos h1]; rfl, rfl⟩, Ent.auto⟩)
  · by_cases h2 : y < x
    · (repeat' (first | (show KQ (WL _ _ _ _ _) _ _ _ _; first | refine yW p_move ?_ | refine yW p_asg ?_ | refine yW p_lss ?_ | refine yW p_gtr ?_ | (refine yX ?_; first | (refine w_call (nan_spec _ _) ?_; rintro r L ⟨rfl, rfl⟩) | fail) | fail) | (show KQ (CD _ _ _ _ _) _ _ _ _; first | refine yT ?_ | refine yF ?_ | fail) | ((first | refine yC ?_ ?_) <;> (intro hc; (try simp only [hcS] at hc); try exact dD)) | refine yE ?_ | fail))
      all_goals (refine y_fin ?_; exact ⟨_, ⟨by rw [if_neg h1, if_pos h2]; rfl, rfl⟩, Ent.auto⟩)
    · (repeat' (first | (show KQ (WL _ _ _ _ _) _ _ _ _; first | refine yW p_move ?_ | refine yW p_asg ?_ | refine yW p_lss ?_ | refine yW p_gtr ?_ | (refine yX ?_; first | (refine w_call (nan_spec _ _) ?_; rintro r L ⟨rfl, rfl⟩) | fail) | fail) | (show KQ (CD _ _ _ _ _) _ _ _ _; first | refine yT ?_ | refine yF ?_ | fail) | ((first | refine yC ?_ ?_) <;> (intro hc; (try simp only [hcS] at hc); try exact dD)) | refine yE ?_ | fail))
      all_goals (refine y_fin ?_; exact ⟨_, ⟨by rw [if_neg h1, if_neg h2]; rfl, rfl⟩, Ent.auto⟩)
theorem or_spec (q : Nat) : Sp Try.prog 45 [.slice (some ⟨q, 0, none⟩) 2 2] (row 3 1 (.slice (some ⟨q, 0, none⟩) 2 2) 2 [.int .i64 x, .int .i64 y] :: F) fun r M => r = .int .i64 (if x ≠ 0 then x else y) ∧ M = F := by
  have h0 : ([Value.int .i64 x, .int .i64 y] : List Value)[0]? = some (.int .i64 x) := rfl
  have h1 : ([Value.int .i64 x, .int .i64 y] : List Value)[1]? = some (.int .i64 y) := rfl
  refine y_of Try.func45 rfl Try.ntmps45 rfl fun w0 => ?_
  (repeat' (first | (show KQ (WL _ _ _ _ _) _ _ _ _; first | refine yW p_move ?_ | refine yW p_asg ?_ | refine yW p_ld ?_ | refine yW p_lda ?_ | refine yB ?_ | refine yW p_idx ?_ | refine yW p_idxl ?_ | refine yW p_len ?_ | refine yW p_lens ?_ | refine yW p_lenm ?_ | fail) | (show KQ (CD _ _ _ _ _) _ _ _ _; first | refine yT ?_ | refine yF ?_ | fail) | ((first | refine yC ?_ ?_) <;> (intro hc; (try simp only [hcS] at hc); try exact dD)) | refine yE ?_ | fail))
  refine y_loop (X := Nat) 0 (fun i => i ≤ 2 ∧ (i ≠ 0 → x = 0) ∧ (i = 2 → y = 0)) (fun i => [(3, .int .i64 0), (6, .slice (some ⟨q, 0, none⟩) 2 2), (7, .int .i64 2), (8, .int .i64 i)]) (fun _ => row 3 1 (.slice (some ⟨q, 0, none⟩) 2 2) 2 [.int .i64 x, .int .i64 y] :: F) (fun i => 2 - i) ⟨by omega, by simp, by simp⟩ ⟨rfl, rfl, rfl, rfl, trivial⟩ (by ((repeat (first | with_reducible exact Ent.rfl | with_reducible exact Ent.nil | ((with_reducible apply Ent.cons); focus ((repeat (first | exact Sel.here | apply Sel.there)); done)) | with_reducible refine Ent.drop ?_)); done)) ?_
  rintro K' i ⟨hi, hx, hy⟩ hnext
  rcases i with _ | _ | _ | i
  · by_cases e : x = 0
    · (repeat' (first | (show KQ (WL _ _ _ _ _) _ _ _ _; first | refine yW p_move ?_ | refine yW p_asg ?_ | refine yW p_ld ?_ | refine yW p_lda ?_ | refine yB ?_ | refine yW p_idx ?_ | refine yW p_idxl ?_ | refine yW p_len ?_ | refine yW p_lens ?_ | refine yW p_lenm ?_ | fail) | (show KQ (CD _ _ _ _ _) _ _ _ _; first | refine yT ?_ | refine yF ?_ | fail) | ((first | refine yC ?_ ?_) <;> (intro hc; (try simp only [hcS] at hc); try exact dD)) | refine yE ?_ | fail))
      all_goals exact hnext 1 _ _ ⟨by omega, fun _ => e, by simp⟩ (by omega) ⟨rfl, rfl, rfl, rfl, trivial⟩ (by ((repeat (first | with_reducible exact Ent.rfl | with_reducible exact Ent.nil | ((with_reducible apply Ent.cons); focus ((repeat (first | exact Sel.here | apply Sel.there)); done)) | with_reducible refine Ent.drop ?_)); done))
    · (repeat' (first | (show KQ (WL _ _ _ _ _) _ _ _ _; first | refine yW p_move ?_ | refine yW p_asg ?_ | refine yW p_ld ?_ | refine yW p_lda ?_ | refine yB ?_ | refine yW p_idx ?_ | refine yW p_idxl ?_ | refine yW p_len ?_ | refine yW p_lens ?_ | refine yW p_lenm ?_ | fail) | (show KQ (CD _ _ _ _ _) _ _ _ _; first | refine yT ?_ | refine yF ?_ | fail) | ((first | refine yC ?_ ?_) <;> (intro hc; (try simp only [hcS] at hc); try exact dD)) | refine yE ?_ | fail))
      all_goals (refine y_fin ?_; exact ⟨_, ⟨by rw [if_pos e]; rfl, rfl⟩, Ent.auto⟩)
  · have e := hx (by simp)
    by_cases e2 : y = 0
    · (repeat' (first | (show KQ (WL _ _ _ _ _) _ _ _ _; first | refine yW p_move ?_ | refine yW p_asg ?_ | refine yW p_ld ?_ | refine yW p_lda ?_ | refine yB ?_ | refine yW p_idx ?_ | refine yW p_idxl ?_ | refine yW p_len ?_ | refine yW p_lens ?_ | refine yW p_lenm ?_ | fail) | (show KQ (CD _ _ _ _ _) _ _ _ _; first | refine yT ?_ | refine yF ?_ | fail) | ((first | refine yC ?_ ?_) <;> (intro hc; (try simp only [hcS] at hc); try exact dD)) | refine yE ?_ | fail))
      all_goals exact hnext 2 _ _ ⟨by omega, fun _ => e, fun _ => e2⟩ (by omega) ⟨rfl, rfl, rfl, rfl, trivial⟩ (by ((repeat (first | with_reducible exact Ent.rfl | with_reducible exact Ent.nil | ((with_reducible apply Ent.cons); focus ((repeat (first | exact Sel.here | apply Sel.there)); done)) | with_reducible refine Ent.drop ?_)); done))
    · (repeat' (first | (show KQ (WL _ _ _ _ _) _ _ _ _; first | refine yW p_move ?_ | refine yW p_asg ?_ | refine yW p_ld ?_ | refine yW p_lda ?_ | refine yB ?_ | refine yW p_idx ?_ | refine yW p_idxl ?_ | refine yW p_len ?_ | refine yW p_lens ?_ | refine yW p_lenm ?_ | fail) | (show KQ (CD _ _ _ _ _) _ _ _ _; first | refine yT ?_ | refine yF ?_ | fail) | ((first | refine yC ?_ ?_) <;> (intro hc; (try simp only [hcS] at hc); try exact dD)) | refine yE ?_ | fail))
      all_goals (refine y_fin ?_; exact ⟨_, ⟨by rw [if_neg (by simpa using e)]; rfl, rfl⟩, Ent.auto⟩)
  · have e := hx (by simp)
    have e2 := hy rfl
    (repeat' (first | (show KQ (WL _ _ _ _ _) _ _ _ _; first | refine yW p_move ?_ | refine yW p_asg ?_ | refine yW p_ld ?_ | refine yW p_lda ?_ | refine yB ?_ | refine yW p_idx ?_ | refine yW p_idxl ?_ | refine yW p_len ?_ | refine yW p_lens ?_ | refine yW p_lenm ?_ | fail) | (show KQ (CD _ _ _ _ _) _ _ _ _; first | refine yT ?_ | refine yF ?_ | fail) | ((first | refine yC ?_ ?_) <;> (intro hc; (try simp only [hcS] at hc); try exact dD)) | refine yE ?_ | fail))
    all_goals (refine y_fin ?_; exact ⟨_, ⟨by rw [if_neg (by simpa using e), e2]; rfl, rfl⟩, Ent.auto⟩)
  · omega
set_option maxHeartbeats 4000000 in
theorem order_spec (x y : TM) : Sp Try.prog 38 [tmv x, tmv y] F fun r M => r = .int .i64 (cT x y) ∧ M = F := by
  have h1 := fun F => cmp8_spec F x.at_ y.at_
  have h2 := fun F => cmp_spec F x.turn y.turn
  refine y_of Try.func38 rfl Try.ntmps38 rfl fun w0 => ?_
  (repeat' (first | (show KQ (WL _ _ _ _ _) _ _ _ _; first | refine yW p_asg ?_ | refine yA ?_ | refine yW p_ld ?_ | refine yW p_lda ?_ | (refine yX ?_; first | (refine w_bx ?_; intro q) | (refine w_bs ?_; intro q) | fail) | fail) | refine yE ?_ | fail))
  all_goals (refine y_cr ?_; refine kq_draw0 1 13 ?_; (all_goals refine tkf 0 ?_); (all_goals refine tkl 1 ?_); (all_goals refine tkf 2 ?_); (all_goals refine tkl 3 ?_); (all_goals refine tkf 5 ?_); (all_goals refine tkl 6 ?_); (all_goals refine tkf 7 ?_); (all_goals refine tkl 8 ?_); (all_goals (refine kq_each [4] ⟨?_, trivial⟩; (refine kq_op ?_; first | (refine w_call (h1 _) ?_; rintro r L ⟨rfl, rfl⟩) | (refine w_call (h2 _) ?_; rintro r L ⟨rfl, rfl⟩) | (refine w_call (or_spec _ (ci x.at_ y.at_) (ci x.turn y.turn) _) ?_; rintro r L ⟨rfl, rfl⟩)))); (all_goals (refine kq_each [9] ⟨?_, trivial⟩; (refine kq_op ?_; first | (refine w_call (h1 _) ?_; rintro r L ⟨rfl, rfl⟩) | (refine w_call (h2 _) ?_; rintro r L ⟨rfl, rfl⟩) | (refine w_call (or_spec _ (ci x.at_ y.at_) (ci x.turn y.turn) _) ?_; rintro r L ⟨rfl, rfl⟩)))); (all_goals (refine kq_each [10] ⟨?_, trivial⟩; (refine kq_op ?_; first | (refine w_bs ?_; intro q) | (refine w_call (h1 _) ?_; rintro r L ⟨rfl, rfl⟩) | (refine w_call (h2 _) ?_; rintro r L ⟨rfl, rfl⟩) | (refine w_call (or_spec _ (ci x.at_ y.at_) (ci x.turn y.turn) _) ?_; rintro r L ⟨rfl, rfl⟩)))); (all_goals (refine kq_each [11] ⟨?_, trivial⟩; (refine kq_op ?_; first | (refine w_call (h1 _) ?_; rintro r L ⟨rfl, rfl⟩) | (refine w_call (h2 _) ?_; rintro r L ⟨rfl, rfl⟩) | (refine w_call (or_spec _ (ci x.at_ y.at_) (ci x.turn y.turn) _) ?_; rintro r L ⟨rfl, rfl⟩)))); (all_goals refine kq_take 12 rfl p_asg ?_); (all_goals refine kq_done ?_))
  all_goals (repeat' (first | (show KQ (WL _ _ _ _ _) _ _ _ _; first | refine yW p_asg ?_ | refine yA ?_ | refine yW p_ld ?_ | refine yW p_lda ?_ | (refine yX ?_; first | (refine w_bx ?_; intro q) | (refine w_bs ?_; intro q) | fail) | fail) | refine yE ?_ | fail))
  all_goals (refine y_fin ?_; exact ⟨_, ⟨rfl, rfl⟩, Ent.auto⟩)
/-! ### the row -/
variable (p m : Nat) (a : Option Addr) (c : Nat) (R : List TM)
theorem less_spec (hr : Reads F (.slice a R.length c) R.length (flat tme R)) (i k : Nat) (hi : i < R.length) (hk : k < R.length) (hl : R.length ≤ 6000000000000) : Sp Try.prog 97 [.slice a R.length c, .int .i64 i, .int .i64 k] F fun r M => r = .bool (ltT R[i] R[k]) ∧ M = F := by
  have hpos : 0 < (flat tme R).length := by rw [tme_len]; omega
  have ht1 := tk_flat (enc := tme) (sz := 3) (l := R) (fun _ => rfl) i hi
  have ht2 := tk_flat (enc := tme) (sz := 3) (l := R) (fun _ => rfl) k hk
  have ho := fun F => order_spec F R[i] R[k]
  have hc := cT_lt R[i] R[k]
  rw [← hc]
  clear hc
  generalize R[i] = u at ht1 ho ⊢
  generalize R[k] = v at ht2 ho ⊢
  generalize cT u v = o at ho ⊢
  refine y_of Try.func97 rfl Try.ntmps97 rfl fun w0 => ?_
  (repeat' (first | (show KQ (WL _ _ _ _ _) _ _ _ _; first | refine yW p_move ?_ | refine yW p_asg ?_ | refine yW p_ld ?_ | refine yW p_lda ?_ | refine yW p_lss ?_ | refine yW p_idx ?_ | refine yW p_idxl ?_ | fail) | refine yE ?_ | (refine y_cr ?_; refine kq_draw0 1 11 ?_; (all_goals refine kq_take 0 rfl p_move ?_); (all_goals refine kq_take 1 rfl p_move ?_); (all_goals (first | refine kq_take 2 rfl p_idx ?_ | refine kq_take 2 rfl p_idxl ?_)); (all_goals refine tkl 3 ?_); (all_goals refine kq_take 4 rfl p_move ?_); (all_goals refine kq_take 5 rfl p_move ?_); (all_goals (first | refine kq_take 6 rfl p_idx ?_ | refine kq_take 6 rfl p_idxl ?_)); (all_goals refine tkl 7 ?_); (all_goals (refine kq_each [8] ⟨?_, trivial⟩; (refine kq_op ?_; first | (refine w_call (ho _) ?_; rintro r L ⟨rfl, rfl⟩)))); (all_goals refine tkb 9 ?_); (all_goals refine kq_take 10 rfl p_asg ?_); (all_goals refine kq_done ?_)) | fail))
  all_goals (refine y_fin ?_; exact ⟨_, ⟨rfl, rfl⟩, Ent.auto⟩)
end
end Go.Proofs.Yteafcajlfagbkaa
