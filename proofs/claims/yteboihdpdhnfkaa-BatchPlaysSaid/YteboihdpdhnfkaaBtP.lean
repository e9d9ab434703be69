/- DERIVED. Batches (chapter 13): the plain state. -/
import Derived.Test.YteboihdpdhnfkaaSg
namespace Go.Proofs.Yteboihdpdhnfkaa
open Go Sl Cv

/-- A tick. -/
def isT (t : Int) : Bool := decide (0 ≤ t) && decide (t ≤ 4611686018427387904)
theorem isT_iff (t : Int) : isT t = true ↔ 0 ≤ t ∧ t ≤ 4611686018427387904 := by simp [isT]
/-- A tick and a time. -/
def afterT (t d : Int) : Int × Bool := if isT t = false ∨ d < 0 then (0, false) else if 4611686018427387904 - t < d then (4611686018427387904, false) else (t + d, true)

structure BS where
  count : Int
  window : Int
  L : List Int
  first : Int
  now : Int
  last : Int
  sent : Int

namespace Bt
def bad (s : BS) (now : Int) : Int := if isT now = false then 10 else if now < s.now then 50 else 0
def force (s : BS) : BS := if s.L = [] then s else { s with L := [], sent := s.sent + 1 }
def due (s : BS) : Int × Bool := if s.L = [] then (0, false) else ((afterT s.first s.window).1, true)
/-- the state with one run more -/
def more (s : BS) (now run : Int) : BS := { s with now := now, last := run, first := if s.L = [] then now else s.first, L := s.L ++ [run] }
def full (s : BS) : Bool := decide (s.count ≤ s.L.length) || decide (s.window = 0)
def add (s : BS) (now run : Int) : BS × List Int × Int :=
  if bad s now ≠ 0 then (s, [], bad s now) else if run < 1 then (s, [], 1) else if run ≤ s.last then (s, [], 130) else
  if full (more s now run) then (force (more s now run), (more s now run).L, 0) else (more s now run, [], 0)
def at_ (s : BS) (now : Int) : BS := { s with now := now }
def sends (s : BS) (now : Int) : Bool := (due s).2 && decide ((due s).1 ≤ now)
def send (s : BS) (now : Int) : BS × List Int × Int :=
  if bad s now ≠ 0 then (s, [], bad s now) else if sends (at_ s now) now then (force (at_ s now), s.L, 0) else (at_ s now, [], 0)
theorem add_bad {s : BS} {now run : Int} (h : bad s now ≠ 0) : add s now run = (s, [], bad s now) := by rw [add, if_pos h]
theorem add_low {s : BS} {now run : Int} (h : bad s now = 0) (hr : run < 1) : add s now run = (s, [], 1) := by rw [add, if_neg (by simp [h]), if_pos hr]
theorem add_old {s : BS} {now run : Int} (h : bad s now = 0) (hr : ¬ run < 1) (hl : run ≤ s.last) : add s now run = (s, [], 130) := by rw [add, if_neg (by simp [h]), if_neg hr, if_pos hl]
/-- the state with one run more, in which something waited or nothing did -/
def moreF (s : BS) (now run f : Int) : BS := { s with now := now, last := run, first := f, L := s.L ++ [run] }
def firstF (s : BS) (now : Int) : Int := if s.L = [] then now else s.first
theorem add_ok {s : BS} {now run : Int} (h : bad s now = 0) (hr : ¬ run < 1) (hl : ¬ run ≤ s.last) : add s now run = if s.count ≤ (s.L ++ [run]).length ∨ s.window = 0 then (force (moreF s now run (firstF s now)), s.L ++ [run], 0) else (moreF s now run (firstF s now), [], 0) := by
  rw [add, if_neg (by simp [h]), if_neg hr, if_neg hl]
  have : full (more s now run) = true ↔ (s.count ≤ (s.L ++ [run]).length ∨ s.window = 0) := by simp [full, more, decide_eq_true_eq]; exact ⟨fun h => h.imp id of_decide_eq_true, fun h => h.imp id decide_eq_true⟩
  by_cases hf : full (more s now run) = true
  · rw [if_pos hf, if_pos (this.1 hf)]; rfl
  · rw [if_neg hf, if_neg (fun e => hf (this.2 e))]; rfl
end Bt

abbrev bcs (v : Value) (s : BS) : List Value := [.int .i64 s.count, .int .i64 s.window, v, .int .i64 s.first, .int .i64 s.now, .int .i64 s.last, .int .i64 s.sent]
end Go.Proofs.Yteboihdpdhnfkaa
