/- DERIVED. Queues, as the document has them: Without. -/
import Derived.Test.YteafcajlfagbkaaQe
import Derived.Test.YteafcajlfagbkaaVcc
namespace Go.Proofs.Yteafcajlfagbkaa
set_option linter.unusedSimpArgs false
set_option linter.unusedVariables false
open Go Sl Cv Go.RowKit
theorem te_app (A B : List DT) : flat te (A ++ B) = flat te A ++ flat te B := flat_append _ _ _
theorem te_take (D : List DT) (i : Nat) (h : i ≤ D.length) : (flat te D).take (i * 2) = flat te (D.take i) := by
  have e : flat te D = flat te (D.take i) ++ flat te (D.drop i) := by rw [← te_app, List.take_append_drop]
  have hl : (flat te (D.take i)).length = i * 2 := by rw [te_len, List.length_take, Nat.min_eq_left h]
  rw [e, ← hl, List.take_left]
theorem te_drop (D : List DT) (i : Nat) (h : i ≤ D.length) : (flat te D).drop (i * 2) = flat te (D.drop i) := by
  have e : flat te D = flat te (D.take i) ++ flat te (D.drop i) := by rw [← te_app, List.take_append_drop]
  have hl : (flat te (D.take i)).length = i * 2 := by rw [te_len, List.length_take, Nat.min_eq_left h]
  rw [e, ← hl, List.drop_left]
theorem te_one (D : List DT) : (flat te D).all (·.oneCell') = true := by
  rw [List.all_eq_true]
  intro u hu
  simp only [flat, List.mem_flatMap] at hu
  obtain ⟨x, _, hx⟩ := hu
  simp only [te, List.mem_cons, List.not_mem_nil, or_false] at hx
  rcases hx with rfl | rfl <;> rfl
section
variable (a : Option Addr) (c : Nat) (D : List DT) (F : List HP)
set_option maxHeartbeats 4000000 in
theorem dwithout (k : Nat) (hk : k < D.length) (hl : D.length ≤ 1000000000) : Sp Try.prog 19 [.slice a D.length c, .int .i64 k] (drow a c D :: F) fun r M => ∃ a2 c2, r = .slice a2 (k + (D.length - (k + 1))) c2 ∧ M = row 47 2 (.slice a2 (k + (D.length - (k + 1))) c2) (k + (D.length - (k + 1))) (flat te (D.take k) ++ flat te (D.drop (k + 1))) :: F := by
  refine y_of Try.func19 rfl Try.ntmps19 rfl fun w0 => ?_
  refine kq_open (m := D.length) (by omega) ?_
  rintro gb cur rfl h1 h2 h3 h4
  have e1 : ((k : Nat) : Int).toNat = k := Int.toNat_natCast k
  have e2 : ((k : Int) + 1).toNat = k + 1 := by omega
  have hx1 : (cur.drop 0).take (k * 2) = flat te (D.take k) := by rw [pre_cells (by omega) h4, te_take D _ (by omega)]
  have hx2 : (cur.drop (begin_ 0 c ((k : Int) + 1).toNat 2)).take ((D.length - ((k : Int) + 1).toNat) * 2) = flat te (D.drop (k + 1)) := by rw [e2, sub_cells (by omega) h1 h3 h4, te_drop D _ (by omega)]
  have hy1 : ((cur.drop 0).take (k * 2)).length = k * 2 := by rw [hx1, te_len, List.length_take]; omega
  have hy2 : ((cur.drop (begin_ 0 c ((k : Int) + 1).toNat 2)).take ((D.length - ((k : Int) + 1).toNat) * 2)).length = (D.length - ((k : Int) + 1).toNat) * 2 := by rw [hx2, te_len, List.length_drop, e2]
  have ho1 : ((cur.drop 0).take (k * 2)).all (·.oneCell') = true := by rw [hx1]; exact te_one _
  have ho2 : ((cur.drop (begin_ 0 c ((k : Int) + 1).toNat 2)).take ((D.length - ((k : Int) + 1).toNat) * 2)).all (·.oneCell') = true := by rw [hx2]; exact te_one _
  (repeat' (first | (show KQ (WL _ _ _ _ _) _ _ _ _; first | refine yW p_move ?_ | refine yW p_asg ?_ | refine yW p_add6 ?_ | refine yW p_add ?_ | refine yW p_adds ?_ | refine yS ?_ | (refine yX ?_; first | (refine w_ap0 ?_; intro ao1 cap1) | (refine w_ap ?_; intro ao1 cap1) | (refine w_bs ?_; intro q) | (refine w_ap0 (ys := (cur.drop 0).take (k * 2)) ?_; intro ao1 cap1) | (refine w_ap (ys := (cur.drop (begin_ 0 c ((k : Int) + 1).toNat 2)).take ((D.length - ((k : Int) + 1).toNat) * 2)) ?_; intro ao3 cap3) | fail) | fail) | refine yE ?_ | fail))
  all_goals (rw [hx1, hx2, e2]; (refine y_fin ?_; exact ⟨_, ⟨ao3, cap3, rfl, rfl⟩, Ent.auto⟩))
theorem dwithout_at (k : Nat) (hk : k < D.length) (hl : D.length ≤ 1000000000) : Sp Try.prog 19 [.slice a D.length c, .int .i64 k] (drow a c D :: F) fun r M => ∃ a2 c2, r = .slice a2 (D.eraseIdx k).length c2 ∧ M = drow a2 c2 (D.eraseIdx k) :: F := by
  have e : (D.eraseIdx k).length = k + (D.length - (k + 1)) := by rw [List.length_eraseIdx_of_lt hk]; omega
  have e2 : flat te (D.eraseIdx k) = flat te (D.take k) ++ flat te (D.drop (k + 1)) := by rw [List.eraseIdx_eq_take_drop_succ, te_app]
  unfold drow
  rw [e, e2]
  exact dwithout a c D F k hk hl
end
end Go.Proofs.Yteafcajlfagbkaa
