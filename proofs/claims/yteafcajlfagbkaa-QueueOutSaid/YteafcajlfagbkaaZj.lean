/- DERIVED. Queues by time: those that are due. -/
import Derived.Test.YteafcajlfagbkaaZi
import Derived.Test.YteafcajlfagbkaaVcc
namespace Go.Proofs.Yteafcajlfagbkaa
set_option linter.unusedSimpArgs false
set_option linter.unusedVariables false
open Go Sl Cv Go.RowKit
def dueN (Q : List TM) (now : Int) : Nat := (Q.takeWhile fun z => decide (z.at_ ≤ now)).length
theorem due_le : ∀ (Q : List TM) (now : Int), dueN Q now ≤ Q.length := fun Q now => (List.takeWhile_sublist _).length_le
theorem due_lt : ∀ {Q : List TM} {now : Int} {i : Nat} (h : i < dueN Q now) (hl : i < Q.length), Q[i].at_ ≤ now
  | [], _, _, _, hl => absurd hl (by simp)
  | x :: Q, now, i, h, hl => by
    unfold dueN at h
    rw [List.takeWhile_cons] at h
    by_cases e : x.at_ ≤ now
    · rw [if_pos (by simpa using e)] at h
      match i with
      | 0 => exact e
      | i + 1 => exact due_lt (Q := Q) (i := i) (by unfold dueN; simpa using h) (by simpa using hl)
    · rw [if_neg (by simpa using e)] at h; simp at h
theorem due_at : ∀ {Q : List TM} {now : Int} (hl : dueN Q now < Q.length), now < Q[dueN Q now].at_
  | [], _, hl => absurd hl (by simp)
  | x :: Q, now, hl => by
    by_cases e : x.at_ ≤ now
    · have e2 : dueN (x :: Q) now = dueN Q now + 1 := by unfold dueN; rw [List.takeWhile_cons, if_pos (by simpa using e)]; simp
      have := due_at (Q := Q) (now := now) (by rw [e2] at hl; simpa using hl)
      simp only [e2, List.getElem_cons_succ]
      exact this
    · have e2 : dueN (x :: Q) now = 0 := by unfold dueN; rw [List.takeWhile_cons, if_neg (by simpa using e)]; simp
      simp only [e2, List.getElem_cons_zero]; omega
theorem QOk.sub {Q Q2 : List TM} {t : Int} (q : QOk Q t) (hs : Q2.Sublist Q) : QOk Q2 t :=
  ⟨q.asc.sublist hs, q.nd.sublist (hs.map _), q.t0, fun x hx => q.tq x (hs.subset hx), fun x hx => q.rng x (hs.subset hx), Nat.le_trans hs.length_le q.ql⟩
section
variable (p : Nat) (Q : List TM) (t : Int) (b : Nat) (F : List HP) (now : Int)
set_option maxHeartbeats 4000000 in
theorem tdue_ok (hQ : QOk Q t) (hb : b ≤ 5870000000000) : Sp Try.prog 26 [ptr p, .int .i64 now] (TIM p Q t b :: F) fun r M => ∃ a c, r = .slice a (dueN Q now) c ∧ M = row 3 1 (.slice a (dueN Q now) c) (dueN Q now) (ints ((Q.map TM.item).take (dueN Q now))) :: TIM p (Q.drop (dueN Q now)) t b :: F := by
  have hle := due_le Q now
  have hql := hQ.ql
  refine y_of Try.func26 rfl Try.ntmps26 rfl fun w0 => ?_
  (repeat' (first | (show KQ (WL _ _ _ _ _) _ _ _ _; first | refine yW p_move ?_ | refine yW p_asg ?_ | refine yW p_ext ?_ | refine yW p_nott ?_ | refine yW p_notf ?_ | refine yW p_not ?_ | refine yW p_neg ?_ | (refine yX ?_; first | (refine w_ap0 ?_; intro ao1 cap1) | (refine w_ap ?_; intro ao1 cap1) | (refine w_bs ?_; intro q) | fail) | fail) | (show KQ (CD _ _ _ _ _) _ _ _ _; first | refine yT ?_ | refine yF ?_ | fail) | ((first | refine yC ?_ ?_) <;> (intro hc; (try simp only [hcS] at hc); try exact dD)) | refine yE ?_ | fail))
  refine KQ.ent ?_ (ent_nil 3 1 none Ent.rfl)
  refine y_loop (X := Option Addr × Nat × Nat) (none, 0, 0) (fun y => y.2.2 ≤ dueN Q now) (fun y => [(0, ptr p), (1, .int .i64 now), (5, .slice y.1 y.2.2 y.2.1)]) (fun y => row 3 1 (.slice y.1 y.2.2 y.2.1) y.2.2 (ints ((Q.map TM.item).take y.2.2)) :: TIM p (Q.drop y.2.2) t b :: F) (fun y => dueN Q now - y.2.2) (Nat.zero_le _) ⟨rfl, rfl, rfl, trivial⟩ (by ((repeat (first | with_reducible exact Ent.rfl | with_reducible exact Ent.nil | ((with_reducible apply Ent.cons); focus ((repeat (first | exact Sel.here | apply Sel.there)); done)) | with_reducible refine Ent.drop ?_)); done)) ?_
  rintro K2 ⟨a2, c2, i⟩ hi hnext
  dsimp only at hi hnext ⊢
  have hQi := hQ.sub (List.drop_sublist i Q)
  by_cases hlt : i < dueN Q now
  · have hil : i < Q.length := by omega
    have hd := due_lt hlt hil
    have hs : (Q.map TM.item).take (i + 1) = (Q.map TM.item).take i ++ [Q[i].item] := by rw [List.take_succ_eq_append_getElem (by simpa using hil)]; simp
    have e : Q.drop i = Q[i] :: Q.drop (i + 1) := List.drop_eq_getElem_cons hil
    rw [e] at hQi ⊢
    have hT := fun F => ttake_yes p (Q.drop (i + 1)) t b F Q[i] hQi hb now hd
    have hs2 : ints ((Q.map TM.item).take i) ++ List.flatMap celv [Value.int .i64 Q[i].item] = ints ((Q.map TM.item).take (i + 1)) := by rw [hs]; simp [ints, celv]
    generalize Q[i] = x at hT hs2 ⊢
    clear hs e
    (repeat' (first | (show KQ (WL _ _ _ _ _) _ _ _ _; first | refine yW p_move ?_ | refine yW p_asg ?_ | refine yW p_ext ?_ | refine yW p_nott ?_ | refine yW p_notf ?_ | refine yW p_not ?_ | refine yW p_neg ?_ | (refine yX ?_; first | (refine w_ap0 ?_; intro ao1 cap1) | (refine w_ap ?_; intro ao1 cap1) | (refine w_bs ?_; intro q) | (refine w_call (hT _) ?_; rintro r L ⟨rfl, rfl⟩) | fail) | fail) | (show KQ (CD _ _ _ _ _) _ _ _ _; first | refine yT ?_ | refine yF ?_ | fail) | ((first | refine yC ?_ ?_) <;> (intro hc; (try simp only [hcS] at hc); try exact dD)) | refine yE ?_ | fail))
    all_goals exact hnext (ao1, cap1, i + 1) _ _ hlt (by show dueN Q now - (i + 1) < dueN Q now - i; omega) ⟨rfl, rfl, rfl, trivial⟩ (by dsimp only; rw [← hs2]; ((repeat (first | with_reducible exact Ent.rfl | with_reducible exact Ent.nil | ((with_reducible apply Ent.cons); focus ((repeat (first | exact Sel.here | apply Sel.there)); done)) | with_reducible refine Ent.drop ?_)); done))
  · obtain rfl : i = dueN Q now := by omega
    have hT := fun F => ttake_no p (Q.drop (dueN Q now)) t b F hQi hb now (fun h0 => by
      rw [List.length_drop] at h0
      have := due_at (Q := Q) (now := now) (by omega)
      rw [gt (by rw [List.length_drop]; omega), List.getElem_drop]
      simpa using this)
    (repeat' (first | (show KQ (WL _ _ _ _ _) _ _ _ _; first | refine yW p_move ?_ | refine yW p_asg ?_ | refine yW p_ext ?_ | refine yW p_nott ?_ | refine yW p_notf ?_ | refine yW p_not ?_ | refine yW p_neg ?_ | (refine yX ?_; first | (refine w_ap0 ?_; intro ao1 cap1) | (refine w_ap ?_; intro ao1 cap1) | (refine w_bs ?_; intro q) | (refine w_call (hT _) ?_; rintro r L ⟨rfl, rfl⟩) | fail) | fail) | (show KQ (CD _ _ _ _ _) _ _ _ _; first | refine yT ?_ | refine yF ?_ | fail) | ((first | refine yC ?_ ?_) <;> (intro hc; (try simp only [hcS] at hc); try exact dD)) | refine yE ?_ | fail))
    all_goals (refine y_fin ?_; exact ⟨_, ⟨a2, c2, rfl, rfl⟩, Ent.auto⟩)
end
end Go.Proofs.Yteafcajlfagbkaa
