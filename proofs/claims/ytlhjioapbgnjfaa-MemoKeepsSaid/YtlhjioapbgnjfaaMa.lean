/- DERIVED. Ticks, ages, sums of times. -/
import Derived.Test.YtlhjioapbgnjfaaOu
import Derived.Test.YtlhjioapbgnjfaaVc
import Derived.Test.YtlhjioapbgnjfaaVk
import Derived.Test.YtlhjioapbgnjfaaVe
import Derived.Laws.Externs
namespace Go.Proofs.Ytlhjioapbgnjfaa
set_option linter.unusedSimpArgs false
set_option linter.unusedVariables false
open Go Sl Cv Go.RowKit
def sm (l : List Int) (i : Nat) : Int := (l.take i).sum
theorem sm_succ (l : List Int) (i : Nat) (h : i < l.length) : sm l (i + 1) = sm l i + l[i] := by
  rw [sm, sm, List.take_succ_eq_append_getElem h, List.sum_append]; simp
structure TimesOk (l : List Int) : Prop where
  pos : ∀ i (h : i < l.length), 0 ≤ l[i] ∧ l[i] < 9223372036854775808
  low : ∀ i ≤ l.length, 0 ≤ sm l i ∧ sm l i < 18446744073709551616
theorem timesOk1 {a : Int} (h : 0 ≤ a ∧ a < 9223372036854775808) : TimesOk [a] := by
  refine ⟨fun i hi => ?_, fun i hi => ?_⟩
  · obtain rfl : i = 0 := by simp at hi; omega
    exact h
  · have : i = 0 ∨ i = 1 := by simp at hi; omega
    rcases this with rfl | rfl <;> simp [sm] <;> omega
theorem timesOk2 {a b : Int} (h : 0 ≤ a ∧ a < 9223372036854775808) (h2 : 0 ≤ b ∧ b < 9223372036854775808) : TimesOk [a, b] := by
  refine ⟨fun i hi => ?_, fun i hi => ?_⟩
  · have : i = 0 ∨ i = 1 := by simp at hi; omega
    rcases this with rfl | rfl
    · exact h
    · exact h2
  · have : i = 0 ∨ i = 1 ∨ i = 2 := by simp at hi; omega
    rcases this with rfl | rfl | rfl <;> simp [sm] <;> omega
section
variable (F : List HP) (t now at_ : Int)
theorem is_yes (h : 0 ≤ t ∧ t ≤ 4611686018427387904) : Sp Try.prog 50 [.int .i64 t] F fun r M => r = .bool true ∧ M = F := by
  obtain ⟨h0, h1⟩ := h
  refine sp_of Try.func50 rfl Try.ntmps50 rfl fun w0 => ?_
  (repeat' (first | (show KQ _ _ _ _ _; first | refine kq_cons ?_ | refine kq_seq ?_ | refine kq_region ?_ | with_reducible refine kq_nil ?_ | with_reducible refine kq_then ?_ | with_reducible refine kq_then_ret ?_ | with_reducible refine kq_ret ?_ | with_reducible refine kq_np ?_ | with_reducible refine kq_norm ?_ | refine kq_do ?_ | refine kq_not ?_ | refine kq_not0 ?_ | ((first | refine kq_guard (fun hc => ?_) (fun hc => ?_)) <;> ((try simp only [decide_eq_true_eq, decide_eq_false_iff_not, Bool.not_eq_true', Bool.not_eq_false', Int.not_lt, Int.not_le] at hc); try (exfalso; first | (simp at hc; done) | (simp [*] at hc; done) | omega | (simp at hc; omega))))) | (show WX _ _ _ _ _ _ _ _; first | refine w_pure p_move ?_ | refine w_pure p_asg ?_ | (show WX _ _ ⟨_, .binOp _ _ _ _ _, _, _, _, _⟩ _ _ _ _ _; first | refine w_pure p_leq ?_ | refine w_pure p_geq ?_) | refine w_pure p_pt ?_ | refine w_pure p_pf ?_ | fail) | fail))
  all_goals (refine kq_fin ?_; exact ⟨_, ⟨by first | rfl | (rw [decide_eq_true h1]; rfl), rfl⟩, Ent.auto⟩)
theorem age_ok (h0 : 0 ≤ at_) (h1 : at_ ≤ now) (h2 : now ≤ 4611686018427387904) : Sp Try.prog 61 [.int .i64 now, .int .i64 at_] F fun r M => r = .tuple #[.int .i64 (now - at_), .int .i64 0] ∧ M = F := by
  have hn := fun F => is_yes F now ⟨by omega, h2⟩
  have ha := fun F => is_yes F at_ ⟨h0, by omega⟩
  refine sp_of Try.func61 rfl Try.ntmps61 rfl fun w0 => ?_
  (repeat' (first | (show KQ _ _ _ _ _; first | refine kq_cons ?_ | refine kq_seq ?_ | refine kq_region ?_ | with_reducible refine kq_nil ?_ | with_reducible refine kq_then ?_ | with_reducible refine kq_then_ret ?_ | refine kq_block ?_ | with_reducible refine kq_ret ?_ | with_reducible refine kq_skip ?_ | with_reducible refine kq_in ?_ | with_reducible refine kq_in_ret ?_ | with_reducible refine kq_np ?_ | with_reducible refine kq_norm ?_ | refine kq_do ?_ | refine kq_not ?_ | refine kq_not0 ?_ | refine kq_cond_t ?_ | refine kq_cond_f ?_ | ((first | refine kq_guard (fun hc => ?_) (fun hc => ?_) | refine kq_cond (fun hc => ?_) (fun hc => ?_)) <;> ((try simp only [decide_eq_true_eq, decide_eq_false_iff_not, Bool.not_eq_true', Bool.not_eq_false', Int.not_lt, Int.not_le] at hc); try (exfalso; first | (simp at hc; done) | (simp [*] at hc; done) | omega | (simp at hc; omega))))) | (show WX _ _ _ _ _ _ _ _; first | refine w_pure p_move ?_ | refine w_pure p_asg ?_ | (show WX _ _ ⟨_, .binOp _ _ _ _ _, _, _, _, _⟩ _ _ _ _ _; first | refine w_pure p_sub6 ?_ | refine w_pure p_sub ?_ | refine w_pure p_lss ?_) | refine w_pure p_pt ?_ | refine w_pure p_pf ?_ | refine w_pure p_nott ?_ | refine w_pure p_notf ?_ | refine w_pure p_not ?_ | refine w_pure p_neg ?_ | (refine w_call (hn _) ?_; rintro r L ⟨rfl, rfl⟩) | (refine w_call (ha _) ?_; rintro r L ⟨rfl, rfl⟩) | fail) | fail))
  all_goals (refine kq_fin ?_; exact ⟨_, ⟨rfl, rfl⟩, Ent.auto⟩)
theorem sum_spec (ao : Option Addr) (cap : Nat) (l : List Int) (hr : Reads F (.slice ao l.length cap) l.length (ints l)) (hl : l.length ≤ 1000) (ho : TimesOk l) : Sp Try.prog 69 [.slice ao l.length cap] F fun r M => r = .tuple #[.int .u64 0, .int .u64 (sm l l.length), .int .i64 0] ∧ M = F := by
  refine sp_of Try.func69 rfl Try.ntmps69 rfl fun w0 => ?_
  (repeat' (first | (show KQ _ _ _ _ _; first | refine kq_cons ?_ | refine kq_seq ?_ | refine kq_region ?_ | with_reducible refine kq_nil ?_ | with_reducible refine kq_then ?_ | with_reducible refine kq_then_ret ?_ | with_reducible refine kq_then_exit ?_ | refine kq_block ?_ | with_reducible refine kq_ret ?_ | with_reducible refine kq_skip ?_ | refine kq_exit ?_ | with_reducible refine kq_in ?_ | with_reducible refine kq_in_ret ?_ | with_reducible refine kq_in_hit ?_ | refine kq_in_miss ?_ | with_reducible refine kq_np ?_ | with_reducible refine kq_norm ?_ | refine kq_cond_t ?_ | refine kq_cond_f ?_ | ((first | refine kq_cond (fun hc => ?_) (fun hc => ?_)) <;> ((try simp only [decide_eq_true_eq, decide_eq_false_iff_not, Bool.not_eq_true', Bool.not_eq_false', Int.not_lt, Int.not_le] at hc); try (exfalso; first | (simp at hc; done) | (simp [*] at hc; done) | omega | (simp at hc; omega))))) | (show WX _ _ _ _ _ _ _ _; first | refine w_pure p_move ?_ | refine w_pure p_asg ?_ | refine w_pure p_ld ?_ | refine w_pure p_lda ?_ | (show WX _ _ ⟨_, .binOp _ _ _ _ _, _, _, _, _⟩ _ _ _ _ _; first | refine w_pure p_add6 ?_ | refine w_pure p_add ?_ | refine w_pure p_adds ?_ | refine w_pure p_lss ?_) | refine w_pure p_ext ?_ | refine w_pure p_idx ?_ | refine w_pure p_idxl ?_ | refine w_pure p_len ?_ | refine w_pure p_lens ?_ | refine w_pure p_lenm ?_ | refine w_pure p_conv ?_ | refine w_pure p_b2s ?_ | fail) | fail))
  refine kq_loop (X := Nat) 0 (fun i => i ≤ l.length) (fun i => [(5, .int .u64 0), (6, .int .u64 (sm l i)), (10, .slice ao l.length cap), (11, .int .i64 l.length), (12, .int .i64 i)]) (fun _ => F) (fun i => l.length - i) (Nat.zero_le _) ⟨rfl, rfl, rfl, rfl, rfl, trivial⟩ Ent.rfl ?_
  rintro K' i hi hnext
  by_cases hlt : i < l.length
  · have hx := ints_at l i hlt
    have hpos : 0 < (ints l).length := by simp [ints]; omega
    have hp := (ho.pos i hlt).1
    have hp2 := (ho.pos i hlt).2
    have hs := sm_succ l i hlt
    have b1 := ho.low i hi
    have b2 := ho.low (i + 1) hlt
    have e : IntKind.u64.wrap l[i] = l[i] := Sl.wrap_u64 ⟨hp, by omega⟩
    have hadd : ∀ w, (add64Entry #[.int .u64 (sm l i), .int .u64 (IntKind.u64.wrap l[i]), .int .u64 0]).run Try.prog w = .ok (.tuple #[.int .u64 (sm l (i + 1)), .int .u64 0]) w := fun w => by
      have q1 : (sm l i + l[i] + 0) % 18446744073709551616 = sm l i + l[i] := by omega
      have q2 : (sm l i + l[i] + 0) / 18446744073709551616 = 0 := by omega
      rw [e, run_add64 _ _ _ b1.1 hp (by decide) (by decide), hs, q1, q2]
    (repeat' (first | (show KQ _ _ _ _ _; first | refine kq_cons ?_ | refine kq_seq ?_ | refine kq_region ?_ | with_reducible refine kq_nil ?_ | with_reducible refine kq_then ?_ | with_reducible refine kq_then_ret ?_ | with_reducible refine kq_then_exit ?_ | refine kq_block ?_ | with_reducible refine kq_ret ?_ | with_reducible refine kq_skip ?_ | refine kq_exit ?_ | with_reducible refine kq_in ?_ | with_reducible refine kq_in_ret ?_ | with_reducible refine kq_in_hit ?_ | refine kq_in_miss ?_ | with_reducible refine kq_np ?_ | with_reducible refine kq_norm ?_ | refine kq_cond_t ?_ | refine kq_cond_f ?_ | ((first | refine kq_cond (fun hc => ?_) (fun hc => ?_)) <;> ((try simp only [decide_eq_true_eq, decide_eq_false_iff_not, Bool.not_eq_true', Bool.not_eq_false', Int.not_lt, Int.not_le] at hc); try (exfalso; first | (simp at hc; done) | (simp [*] at hc; done) | omega | (simp at hc; omega))))) | (show WX _ _ _ _ _ _ _ _; first | refine w_pure p_move ?_ | refine w_pure p_asg ?_ | refine w_pure p_ld ?_ | refine w_pure p_lda ?_ | (show WX _ _ ⟨_, .binOp _ _ _ _ _, _, _, _, _⟩ _ _ _ _ _; first | refine w_pure p_add6 ?_ | refine w_pure p_add ?_ | refine w_pure p_adds ?_ | refine w_pure p_lss ?_) | refine w_pure p_ext ?_ | refine w_pure p_idx ?_ | refine w_pure p_idxl ?_ | refine w_pure p_len ?_ | refine w_pure p_lens ?_ | refine w_pure p_lenm ?_ | refine w_pure p_conv ?_ | refine w_pure p_b2s ?_ | fail) | (refine w_ext (v := .tuple #[.int .u64 (sm l (i + 1)), .int .u64 0]) (args := [.int .u64 (sm l i), .int .u64 (IntKind.u64.wrap l[i]), .int .u64 0]) (e := add64Entry) ?_ Try.func71 (by kernel_rfl) hadd) | fail))
    all_goals exact hnext (i + 1) _ _ hlt (by omega) ⟨rfl, rfl, rfl, rfl, rfl, trivial⟩ Ent.rfl
  · obtain rfl : i = l.length := by omega
    (repeat' (first | (show KQ _ _ _ _ _; first | refine kq_cons ?_ | refine kq_seq ?_ | refine kq_region ?_ | with_reducible refine kq_nil ?_ | with_reducible refine kq_then ?_ | with_reducible refine kq_then_ret ?_ | with_reducible refine kq_then_exit ?_ | refine kq_block ?_ | with_reducible refine kq_ret ?_ | with_reducible refine kq_skip ?_ | refine kq_exit ?_ | with_reducible refine kq_in ?_ | with_reducible refine kq_in_ret ?_ | with_reducible refine kq_in_hit ?_ | refine kq_in_miss ?_ | with_reducible refine kq_np ?_ | with_reducible refine kq_norm ?_ | refine kq_cond_t ?_ | refine kq_cond_f ?_ | ((first | refine kq_cond (fun hc => ?_) (fun hc => ?_)) <;> ((try simp only [decide_eq_true_eq, decide_eq_false_iff_not, Bool.not_eq_true', Bool.not_eq_false', Int.not_lt, Int.not_le] at hc); try (exfalso; first | (simp at hc; done) | (simp [*] at hc; done) | omega | (simp at hc; omega))))) | (show WX _ _ _ _ _ _ _ _; first | refine w_pure p_move ?_ | refine w_pure p_asg ?_ | refine w_pure p_ld ?_ | refine w_pure p_lda ?_ | (show WX _ _ ⟨_, .binOp _ _ _ _ _, _, _, _, _⟩ _ _ _ _ _; first | refine w_pure p_add6 ?_ | refine w_pure p_add ?_ | refine w_pure p_adds ?_ | refine w_pure p_lss ?_) | refine w_pure p_ext ?_ | refine w_pure p_idx ?_ | refine w_pure p_idxl ?_ | refine w_pure p_len ?_ | refine w_pure p_lens ?_ | refine w_pure p_lenm ?_ | refine w_pure p_conv ?_ | refine w_pure p_b2s ?_ | fail) | fail))
    all_goals (refine kq_fin ?_; exact ⟨_, ⟨rfl, rfl⟩, Ent.auto⟩)
theorem within_ok (ao : Option Addr) (cap : Nat) (l : List Int) (hr : Reads F (.slice ao l.length cap) l.length (ints l)) (hl : l.length ≤ 1000) (ho : TimesOk l) (h0 : 0 ≤ at_) (h1 : at_ ≤ now) (h2 : now ≤ 4611686018427387904) : Sp Try.prog 63 [.int .i64 now, .int .i64 at_, .slice ao l.length cap] F fun r M => r = .tuple #[.bool (decide (now - at_ < sm l l.length)), .int .i64 0] ∧ M = F := by
  have ha := fun F => age_ok F now at_ h0 h1 h2
  have e : IntKind.u64.wrap (now - at_) = now - at_ := Sl.wrap_u64 ⟨by omega, by omega⟩
  refine sp_of Try.func63 rfl Try.ntmps63 rfl fun w0 => ?_
  (repeat' (first | (show KQ _ _ _ _ _; first | refine kq_cons ?_ | refine kq_seq ?_ | refine kq_region ?_ | with_reducible refine kq_nil ?_ | with_reducible refine kq_then ?_ | with_reducible refine kq_then_ret ?_ | with_reducible refine kq_ret ?_ | with_reducible refine kq_skip ?_ | with_reducible refine kq_np ?_ | with_reducible refine kq_norm ?_ | refine kq_do ?_ | refine kq_not ?_ | refine kq_not0 ?_ | refine kq_cond_t ?_ | refine kq_cond_f ?_ | ((first | refine kq_guard (fun hc => ?_) (fun hc => ?_) | refine kq_cond (fun hc => ?_) (fun hc => ?_)) <;> ((try simp only [decide_eq_true_eq, decide_eq_false_iff_not, Bool.not_eq_true', Bool.not_eq_false', Int.not_lt, Int.not_le] at hc); try (exfalso; first | (simp at hc; done) | (simp [*] at hc; done) | omega | (simp at hc; omega))))) | (show WX _ _ _ _ _ _ _ _; first | refine w_pure p_move ?_ | refine w_pure p_asg ?_ | (show WX _ _ ⟨_, .binOp _ _ _ _ _, _, _, _, _⟩ _ _ _ _ _; first | refine w_pure p_lss ?_ | refine w_pure p_gtr ?_ | refine w_pure p_ne ?_ | refine w_pure p_neb ?_ | refine w_pure p_nen0 ?_ | refine w_pure p_nen1 ?_ | refine w_pure p_nen ?_ | refine w_pure p_nes0 ?_ | refine w_pure p_nes1 ?_ | refine w_pure p_nes ?_ | refine w_pure p_net ?_ | refine w_pure p_nea ?_) | refine w_pure p_ext ?_ | refine w_pure p_pt ?_ | refine w_pure p_pf ?_ | refine w_pure p_conv ?_ | refine w_pure p_b2s ?_ | (refine w_call (ha _) ?_; rintro r L ⟨rfl, rfl⟩) | (refine w_call (sum_spec _ ao cap l ?_ hl ho) ?_; (all_goals (try (focus (first | (first | (apply Reads.row; focus ((repeat (first | exact Sel.here | apply Sel.there)); done)) | (apply reads_blk; focus ((repeat (first | exact Sel.here | apply Sel.there)); done)) | ((refine Reads.ent (by assumption) ?_); ((repeat (first | with_reducible exact Ent.rfl | with_reducible exact Ent.nil | ((with_reducible apply Ent.cons); focus ((repeat (first | exact Sel.here | apply Sel.there)); done)) | with_reducible refine Ent.drop ?_)); done))) | assumption | omega)))); rintro r L ⟨rfl, rfl⟩) | fail) | fail))
  all_goals (refine kq_fin ?_; apply Exists.intro; apply And.intro; (focus (rw [e]; exact ⟨rfl, rfl⟩)); exact Ent.auto)
end
end Go.Proofs.Ytlhjioapbgnjfaa
