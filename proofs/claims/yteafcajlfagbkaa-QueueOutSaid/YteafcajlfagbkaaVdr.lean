/- DERIVED. What a run has drawn grows. No translation is named here. -/
import Derived.Test.YteafcajlfagbkaaCvKit
namespace Sl
set_option linter.unusedSimpArgs false
set_option linter.unusedVariables false
open Go
theorem ask_drawn {α : Type} : ∀ (s : Ask α) (w : World), w.drawn ≤ (w.ask s).2.drawn
  | .done _, _ => Nat.le_refl _
  | .ask what range k, w => by
    unfold World.ask
    dsimp only
    split
    · exact ask_drawn _ _
    · exact Nat.le_trans (Nat.le_succ _) (ask_drawn _ { w with drawn := w.drawn + 1 })
theorem sys_drawn (c : Sys) (w : World) : w.drawn ≤ (w.sys c).2.drawn := by
  have h := ask_drawn (Kernel.perform c w.os) w
  unfold World.sys
  split
  · exact Nat.le_refl _
  · rename_i e; rw [e] at h; exact h
theorem far_drawn {P : Program} {w w' : World} {a : Addr} {v : Value} {b : Bool} {l : List Addr} (h : w.farStore P a v b = .ok (w', l)) : w'.drawn = w.drawn := by
  unfold World.farStore at h
  split at h
  · split at h
    · rename_i r hr
      injection h with h
      subst h
      unfold World.viewStore at hr
      simp only [bind, Except.bind, pure, Except.pure, MonadExcept.throw, throwThe, MonadExceptOf.throw] at hr
      repeat' (first | (split at hr) | contradiction)
      all_goals first | contradiction | (injection hr with hr; injection hr with h1 h2; rw [← h1])
    · cases h
  · cases h
theorem run_drawn {α : Type} {P : Program} : ∀ (s : Sem α) {w w' : World} {v : α}, s.run P w = .ok v w' → w.drawn ≤ w'.drawn := by
  intro s
  induction s with
  | pure a => intro w w' v h; injection h with _ h; rw [h]; exact Nat.le_refl _
  | load m a k ih =>
    intro w w' v h
    unfold Sem.run at h
    split at h
    · exact ih _ h
    · split at h
      · exact ih _ h
      · cases h
  | store m a x k ih =>
    intro w w' v h
    cases x <;> simp only [Sem.run] at h
    all_goals first
      | (cases h; done)
      | (split at h
         · split at h
           · cases h
           · have := ih h; exact this
         · split at h
           · rename_i w2 l hf
             have := ih h
             rw [far_drawn hf] at this
             exact this
           · cases h)
  | new o k ih => intro w w' v h; exact ih _ (w := { w with heap := w.heap.push o }) h
  | shape r k ih => intro w w' v h; exact ih _ h
  | freeze a n k ih => intro w w' v h; have := ih h; unfold World.freeze at this; split at this <;> exact this
  | frozen a k ih => intro w w' v h; exact ih _ h
  | getObj r k ih =>
    intro w w' v h
    unfold Sem.run at h
    split at h
    · cases h
    · exact ih _ h
    · cases h
  | setObj r o k ih =>
    intro w w' v h
    unfold Sem.run at h
    split at h
    · cases h
    · exact ih (w := { w with heap := w.heap.setIfInBounds r o }) h
    · cases h
  | choose q k ih =>
    intro w w' v h
    unfold Sem.run at h
    split at h
    · exact ih _ h
    · exact Nat.le_trans (Nat.le_succ _) (ih _ (w := { w with drawn := w.drawn + 1 }) h)
  | sys c k ih => intro w w' v h; exact Nat.le_trans (sys_drawn c w) (ih _ h)
  | program k ih => intro w w' v h; exact ih _ h
  | mark m k ih => intro w w' v h; exact ih h
  | halt x => intro w w' v h; cases h
end Sl
