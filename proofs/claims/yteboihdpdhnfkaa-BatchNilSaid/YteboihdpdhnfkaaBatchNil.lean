/- DERIVED. Batches (chapter 13): the walk of BatchNil. -/
import Derived.Test.YteboihdpdhnfkaaBatchC
import Derived.Test.YteboihdpdhnfkaaCvRd
namespace Go.Proofs.Yteboihdpdhnfkaa
open Go.RowKit Cv

set_option maxHeartbeats 1600000 in
theorem batchNil_walk (w : World) (a b c : Int) : Calls Try.prog 4 #[.agg #[.int .i64 a, .int .i64 b, .int .i64 c]] w fun e w' => e = .returned (.bool true) ∧ Below w.heap.size w w' := by
  go_enter Try.func4, Try.ntmps4
  have hA : Below w.heap.size w (w.alloc (.cells #[.int .i64 a, .int .i64 b, .int .i64 c] 35)) := (Below.refl _ _).alloc (Nat.le_refl _) _
  go_wp2_with (first
    | (go_at_call 16; refine (nbadd _ _ _).mono ?_; rintro e w' ⟨rfl, rfl⟩)
    | (go_at_call 17; refine (nbsend _ _).mono ?_; rintro e w' ⟨rfl, rfl⟩)
    | (go_at_call 9; refine (nbdue _).mono ?_; rintro e w' ⟨rfl, rfl⟩)
    | (go_at_call 7; refine (bawake_any _).mono ?_; rintro e w3 ⟨rfl, hb3⟩; have cz : w3.cell? ⟨w.heap.size, 1, none⟩ = some (.int .i64 b) := (by simp [World.cell?, (hb3.block w.heap.size (by simp)).trans (blk_new w _)]))
    | (go_at_call 13; refine (nbhas _ _).mono ?_; rintro e w' ⟨rfl, rfl⟩)
    | (go_at_call 18; refine (nbforce _).mono ?_; rintro e w' ⟨rfl, rfl⟩)
    | (go_at_call 12; refine (nbruns _).mono ?_; rintro e w' ⟨rfl, rfl⟩)
    | (go_at_call 15; refine (nbsent _).mono ?_; rintro e w' ⟨rfl, rfl⟩)
    | (go_at_call 19; refine (nbclone _).mono ?_; rintro e w' ⟨rfl, rfl⟩))
  go_ret
  exact ⟨rfl, hA.trans (hb3.mono (by simp))⟩

def actR : Rd Try.prog 35 (Int × Int × Int × Unit) :=
  Rd.struct Try.underlying35 (.cons (Rd.int Try.underlying3 (by kernel_rfl)) rfl (.cons (Rd.int Try.underlying3 (by kernel_rfl)) rfl (.cons (Rd.int Try.underlying2 (by kernel_rfl)) rfl .nil))) (by kernel_rfl)

theorem actR_cells {w : World} {cs : List Value} {x : Int × Int × Int × Unit} (h : actR.rel w cs x) : cs = [.int .i64 x.1, .int .i64 x.2.1, .int .i64 x.2.2.1] := by
  obtain ⟨c1, c2, rfl, h1, c3, c4, rfl, h2, c5, c6, rfl, h3, h4⟩ := h
  have h1 : c1 = [.int .i64 x.1] := by simpa [Rd.int] using h1.1
  have h2 : c3 = [.int .i64 x.2.1] := by simpa [Rd.int] using h2.1
  have h3 : c5 = [.int .i64 x.2.2.1] := by simpa [Rd.int] using h3.1
  have h4 : c6 = [] := h4
  rw [h1, h2, h3, h4]
  rfl

theorem batchNil_row (w : World) (cs : Array Value) (x : Int × Int × Int × Unit) (h : actR.rel w cs.toList x) : Calls Try.prog 4 #[.agg cs] w fun e w' => e = .returned (.bool true) ∧ Below w.heap.size w w' := by
  have e : cs = #[.int .i64 x.1, .int .i64 x.2.1, .int .i64 x.2.2.1] := by
    have := actR_cells h
    exact Array.ext' (by simpa using this)
  rw [e]
  exact batchNil_walk w _ _ _
end Go.Proofs.Yteboihdpdhnfkaa
