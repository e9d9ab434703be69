/- DERIVED. Ticks (chapter 1): what tick.Is and tick.After come to; slices.Clone, Index, Contains of numbers. -/
import Derived.Test.YteboihdpdhnfkaaRows
import Derived.Test.YteboihdpdhnfkaaCvKit
namespace Go.Proofs.Yteboihdpdhnfkaa
open Go.RowKit Cv

/-- A tick. -/
def isT (t : Int) : Bool := decide (0 ≤ t) && decide (t ≤ 4611686018427387904)
theorem isT_iff (t : Int) : isT t = true ↔ 0 ≤ t ∧ t ≤ 4611686018427387904 := by simp [isT]

theorem tickIs_any (t : Int) (w : World) : Calls Try.prog 28 #[.int .i64 t] w fun e w' => e = .returned (.bool (isT t)) ∧ w = w' := by
  by_cases h : 0 ≤ t
  · cases h2 : decide (t ≤ 4611686018427387904) with
    | true =>
      have e : isT t = true := by simp only [isT, h, h2]; rfl
      rw [e]
      go_enter Try.func28, Try.ntmps28
      go_wp2
      go_ret
      exact ⟨rfl, rfl⟩
    | false =>
      have e : isT t = false := by simp only [isT, h2, Bool.and_false]
      rw [e]
      go_enter Try.func28, Try.ntmps28
      go_wp2
      go_ret
      exact ⟨rfl, rfl⟩
  · have e : isT t = false := by simp [isT, h]
    rw [e]
    go_enter Try.func28, Try.ntmps28
    go_wp2
    go_ret
    exact ⟨rfl, rfl⟩

/-- A tick and a time. -/
def afterT (t d : Int) : Int × Bool := if isT t = false ∨ d < 0 then (0, false) else if 4611686018427387904 - t < d then (4611686018427387904, false) else (t + d, true)

theorem after_any (t d : Int) (w : World) : Calls Try.prog 23 #[.int .i64 t, .int .i64 d] w fun e w' => e = .returned (.tuple #[.int .i64 (afterT t d).1, .bool (afterT t d).2]) ∧ w = w' := by
  cases ht : isT t with
  | false =>
    have e : afterT t d = (0, false) := by simp [afterT, ht]
    rw [e]
    go_enter Try.func23, Try.ntmps23
    go_wp2_with (go_at_call 28; refine (tickIs_any _ _).mono ?_; rintro e w' ⟨rfl, rfl⟩)
    go_ret2
    exact ⟨rfl, rfl⟩
  | true =>
    obtain ⟨h1, h2⟩ := (isT_iff t).1 ht
    by_cases hd : d < 0
    · have e : afterT t d = (0, false) := by simp [afterT, hd]
      rw [e]
      go_enter Try.func23, Try.ntmps23
      go_wp2_with (go_at_call 28; refine (tickIs_any _ _).mono ?_; rintro e w' ⟨rfl, rfl⟩)
      go_ret2
      exact ⟨rfl, rfl⟩
    · cases hg : decide (4611686018427387904 - t < d) with
      | true =>
        have e : afterT t d = (4611686018427387904, false) := by rw [afterT, if_neg (by simp [ht, hd]), if_pos (of_decide_eq_true hg)]
        rw [e]
        go_enter Try.func23, Try.ntmps23
        go_wp2_with (go_at_call 28; refine (tickIs_any _ _).mono ?_; rintro e w' ⟨rfl, rfl⟩)
        go_ret2
        exact ⟨rfl, rfl⟩
      | false =>
        have hg2 := of_decide_eq_false hg
        have e : afterT t d = (t + d, true) := by rw [afterT, if_neg (by simp [ht, hd]), if_neg hg2]
        have hs1 : t + d ≤ 4611686018427387904 := by omega
        rw [e]
        go_enter Try.func23, Try.ntmps23
        go_wp2_with (go_at_call 28; refine (tickIs_any _ _).mono ?_; rintro e w' ⟨rfl, rfl⟩)
        go_ret2
        exact ⟨rfl, rfl⟩
end Go.Proofs.Yteboihdpdhnfkaa
