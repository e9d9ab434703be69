/- DERIVED. Queues by time and the document's lists: what goes in and out. -/
import Derived.Test.YteafcajlfagbkaaZl
import Derived.Test.YteafcajlfagbkaaVcc
import Derived.Test.YteafcajlfagbkaaQv
namespace Go.Proofs.Yteafcajlfagbkaa
set_option linter.unusedSimpArgs false
set_option linter.unusedVariables false
open Go Sl Cv Go.RowKit
def kd6 (k : Int) : Int := (IntKind.i64.wrap (k.tmod 6 + 6)).tmod 6
theorem kind6_spec (k : Int) (F : List HP) : Sp Try.prog 18 [.int .i64 k, .int .i64 6] F fun r M => r = .int .i64 (kd6 k) ∧ M = F := by
  refine y_of Try.func18 rfl Try.ntmps18 rfl fun w0 => ?_
  (repeat' (first | (show KQ (WL _ _ _ _ _) _ _ _ _; first | refine yW p_move ?_ | refine yW p_asg ?_ | refine yW p_add6 ?_ | refine yW p_add ?_ | refine yW p_adds ?_ | refine yW p_rem ?_ | fail) | refine yE ?_ | fail))
  all_goals (refine y_fin ?_; exact ⟨_, ⟨rfl, rfl⟩, Ent.auto⟩)
structure AM where
  kind : Int
  item : Int
  at_ : Int
def aml (x : AM) : List Value := [.int .i64 x.kind, .int .i64 x.item, .int .i64 x.at_]
theorem erase_drq : ∀ (Q : List TM) (k : Nat) (hk : k < Q.length), (Q.map TM.item).Nodup → Q.eraseIdx k = drq Q Q[k].item
  | [], _, hk, _ => absurd hk (by simp)
  | x :: Q, 0, _, h => by
    have h' := List.nodup_cons.1 h
    have : Q.filter (fun z => decide (z.item ≠ x.item)) = Q := List.filter_eq_self.2 fun p hp => by
      have : p.item ≠ x.item := fun e2 => h'.1 (List.mem_map.2 ⟨p, hp, e2⟩)
      simpa using this
    show Q = drq (x :: Q) x.item
    unfold drq
    rw [List.filter_cons, if_neg (by simp), this]
  | x :: Q, k + 1, hk, h => by
    have h' := List.nodup_cons.1 h
    have hk' : k < Q.length := by simpa using hk
    have hne : x.item ≠ Q[k].item := fun e => h'.1 (List.mem_map.2 ⟨Q[k], List.getElem_mem _, e.symm⟩)
    show x :: Q.eraseIdx k = drq (x :: Q) Q[k].item
    rw [erase_drq Q k hk' h'.2]
    unfold drq
    rw [List.filter_cons, if_pos (by simpa using hne)]
theorem map_erase : ∀ (Q : List TM) (k : Nat), (Q.map dq).eraseIdx k = (Q.eraseIdx k).map dq
  | [], _ => rfl
  | _ :: _, 0 => rfl
  | x :: Q, k + 1 => by
    show dq x :: (Q.map dq).eraseIdx k = dq x :: (Q.eraseIdx k).map dq
    rw [map_erase Q k]
theorem take_due (Q : List TM) (v : Int) : Q.takeWhile (fun z => decide (z.at_ ≤ v)) = Q.take (dueN Q v) := by
  conv => rhs; rw [← List.takeWhile_append_dropWhile (p := fun z => decide (z.at_ ≤ v)) (l := Q)]
  unfold dueN
  rw [List.take_left']
  rw [List.takeWhile_append_dropWhile]
theorem drop_due (Q : List TM) (v : Int) : Q.dropWhile (fun z => decide (z.at_ ≤ v)) = Q.drop (dueN Q v) := by
  conv => rhs; rw [← List.takeWhile_append_dropWhile (p := fun z => decide (z.at_ ≤ v)) (l := Q)]
  unfold dueN
  rw [List.drop_left']
  rw [List.takeWhile_append_dropWhile]
theorem insq_map (Q : List TM) (v t y : Int) : (insq Q ⟨v, t, y⟩).map dq = (Q.map dq).take (dueN Q v) ++ (v, y) :: (Q.map dq).drop (dueN Q v) := by
  unfold insq
  dsimp only
  rw [take_due, drop_due, List.map_append, List.map_cons, List.map_take, List.map_drop]
  rfl
theorem due_out {Q : List TM} {t : Int} (q : QOk Q t) (v : Int) : ∀ j (hj : j < (Q.map dq).length), dueN Q v ≤ j → v < (Q.map dq)[j].1 := fun j hj h => by
  have hj' : j < Q.length := by simpa using hj
  have : Q[j] ∈ Q.drop (dueN Q v) := by
    rw [List.mem_drop_iff_getElem]
    exact ⟨j - dueN Q v, by omega, by congr 1; omega⟩
  rw [← drop_due] at this
  have := drop_gt q.asc _ this
  simpa [dq] using this
theorem due_in (Q : List TM) (v : Int) : ∀ j (hj : j < (Q.map dq).length), j < dueN Q v → (Q.map dq)[j].1 ≤ v := fun j hj h => by
  have hj' : j < Q.length := by simpa using hj
  have := due_lt h hj'
  simpa [dq] using this
end Go.Proofs.Yteafcajlfagbkaa
