/- DERIVED. Batches (chapter 13): what a call of each method of *batch.Batch comes to, over a plain state. -/
import Derived.Test.YteboihdpdhnfkaaTick
import Derived.Test.YteboihdpdhnfkaaSlInt
namespace Go.Proofs.Yteboihdpdhnfkaa
open Go.RowKit Cv

structure BS where
  count : Int
  window : Int
  L : List Int
  first : Int
  now : Int
  last : Int
  sent : Int

namespace Bt
def bad (s : BS) (now : Int) : Int := if isT now = false then 10 else if now < s.now then 50 else 0
def force (s : BS) : BS := if s.L = [] then s else { s with L := [], sent := s.sent + 1 }
def due (s : BS) : Int × Bool := if s.L = [] then (0, false) else ((afterT s.first s.window).1, true)
/-- the state with one run more -/
def more (s : BS) (now run : Int) : BS := { s with now := now, last := run, first := if s.L = [] then now else s.first, L := s.L ++ [run] }
def full (s : BS) : Bool := decide (s.count ≤ s.L.length) || s.window == 0
def add (s : BS) (now run : Int) : BS × List Int × Int :=
  if bad s now ≠ 0 then (s, [], bad s now) else if run < 1 then (s, [], 1) else if run ≤ s.last then (s, [], 130) else
  if full (more s now run) then (force (more s now run), (more s now run).L, 0) else (more s now run, [], 0)
def at_ (s : BS) (now : Int) : BS := { s with now := now }
def sends (s : BS) (now : Int) : Bool := (due s).2 && decide ((due s).1 ≤ now)
def send (s : BS) (now : Int) : BS × List Int × Int :=
  if bad s now ≠ 0 then (s, [], bad s now) else if sends (at_ s now) now then (force (at_ s now), s.L, 0) else (at_ s now, [], 0)
structure Ok (s : BS) : Prop where
  len : s.L.length ≤ 1024
  win : 0 ≤ s.window
  sent : -1152921504606846976 ≤ s.sent ∧ s.sent ≤ 1152921504606846976
end Bt

def bcells (v : Value) (s : BS) : Array Value := #[.int .i64 s.count, .int .i64 s.window, v, .int .i64 s.first, .int .i64 s.now, .int .i64 s.last, .int .i64 s.sent]

structure Bat (B : Nat) (w : World) (p : Nat) (v : Value) (s : BS) : Prop where
  lo : B ≤ p
  blk : w.heap[p]? = some (.cells (bcells v s) 50 (0, 0))
  row : w.ownsRow B 3 1 v s.L.length (ints s.L)

def bfoot (p : Nat) (v : Value) (k : Nat) : Prop := k = p ∨ v.ownBlock = some k

theorem row_ne_blk {w : World} {base : Nat} {e t : TypeId} {size : Nat} {v : Value} {n : Nat} {xs : List Value} {p : Nat} {cs : Array Value} {fr : Nat × Nat} (ho : w.ownsRow base e size v n xs) (hb : w.heap[p]? = some (.cells cs t fr)) (ht : t ≠ e) : ¬ v.ownBlock = some p := by
  intro h
  rcases ho.2 with ⟨rfl, _⟩ | ⟨g, cap, cur, rfl, _, hg, _⟩
  · cases h
  · have : g = p := by simpa [Value.ownBlock] using h
    rw [this, hb] at hg
    injection hg with hg
    injection hg with _ h2
    exact ht h2

section
variable {B : Nat} {w : World} {p : Nat} {v : Value} {s : BS}

theorem Bat.row_ne (h : Bat B w p v s) : ¬ v.ownBlock = some p := row_ne_blk h.row h.blk (by decide)

theorem Bat.fr {w' : World} {S : Nat → Prop} (h : Bat B w p v s) (hf : Fr S w w') (hn : ∀ k, bfoot p v k → ¬ S k) : Bat B w' p v s :=
  ⟨h.lo, hf.blk h.blk (hn p (.inl rfl)), hf.row h.row (fun k hk => hn k (.inr hk))⟩

theorem Bat.below {w' : World} (h : Bat B w p v s) (hb : Below w.heap.size w w') : Bat B w' p v s := h.fr (S := fun _ => False) (Fr.of_below hb) (fun _ _ => id)

theorem Bat.base (h : Bat B w p v s) : ∀ k, bfoot p v k → B ≤ k ∧ k < w.heap.size := by
  rintro k (rfl | hk)
  · exact ⟨h.lo, lt_of_blk h.blk⟩
  · exact h.row.lt k hk

theorem Bat.cells (h : Bat B w p v s) : w.cell? ⟨p, 0, none⟩ = some (.int .i64 s.count) ∧ w.cell? ⟨p, 1, none⟩ = some (.int .i64 s.window) ∧ w.cell? ⟨p, 2, none⟩ = some v ∧ w.cell? ⟨p, 3, none⟩ = some (.int .i64 s.first) ∧
    w.cell? ⟨p, 4, none⟩ = some (.int .i64 s.now) ∧ w.cell? ⟨p, 5, none⟩ = some (.int .i64 s.last) ∧ w.cell? ⟨p, 6, none⟩ = some (.int .i64 s.sent) := by
  refine ⟨?_, ?_, ?_, ?_, ?_, ?_, ?_⟩ <;> simp [World.cell?, h.blk, bcells]

theorem Bat.notFrozen (h : Bat B w p v s) (o : Nat) : w.frozen? ⟨p, o, none⟩ = false := by simp [World.frozen?, h.blk]

/-- One cell of a batch is written. -/
theorem set_blk {w : World} {p i : Nat} {cs : Array Value} {t : TypeId} (h : w.heap[p]? = some (.cells cs t (0, 0))) (u : Value) : (w.setCell ⟨p, i, none⟩ u).heap[p]? = some (.cells (cs.setIfInBounds i u) t (0, 0)) := heap_setCell_same w p i cs t u h

theorem row_set {w : World} {p i : Nat} {u : Value} {base : Nat} {e : TypeId} {size : Nat} {v : Value} {n : Nat} {xs : List Value} (ho : w.ownsRow base e size v n xs) (hn : ¬ v.ownBlock = some p) : (w.setCell ⟨p, i, none⟩ u).ownsRow base e size v n xs :=
  ((Fr.refl (fun k => k = p) w).setCell (p := ⟨p, i, none⟩) (.inl rfl) u).row ho (fun k hk e => hn (by rw [hk]; exact congrArg some e))

theorem bmay_any (h : Bat B w p v s) (now : Int) : Calls Try.prog 26 #[.pointer (some ⟨p, 0, none⟩), .int .i64 now] w fun e w' => e = .returned (.int .i64 (Bt.bad s now)) ∧ w = w' := by
  obtain ⟨c0, c1, c2, c3, c4, c5, c6⟩ := h.cells
  clear c0 c1 c2 c3 c5 c6 h
  cases ht : isT now with
  | false =>
    have e : Bt.bad s now = 10 := by simp [Bt.bad, ht]
    rw [e]
    go_enter Try.func26, Try.ntmps26
    go_wp2_with (go_at_call 28; refine (tickIs_any _ _).mono ?_; rintro e w' ⟨rfl, rfl⟩)
    go_ret
    exact ⟨rfl, rfl⟩
  | true =>
    by_cases hn : now < s.now
    · have e : Bt.bad s now = 50 := by simp [Bt.bad, ht, hn]
      rw [e]
      go_enter Try.func26, Try.ntmps26
      go_wp2_with (go_at_call 28; refine (tickIs_any _ _).mono ?_; rintro e w' ⟨rfl, rfl⟩)
      go_ret
      exact ⟨rfl, rfl⟩
    · have e : Bt.bad s now = 0 := by simp [Bt.bad, ht, hn]
      rw [e]
      go_enter Try.func26, Try.ntmps26
      go_wp2_with (go_at_call 28; refine (tickIs_any _ _).mono ?_; rintro e w' ⟨rfl, rfl⟩)
      go_ret
      exact ⟨rfl, rfl⟩

theorem bsent_any (h : Bat B w p v s) : Calls Try.prog 15 #[.pointer (some ⟨p, 0, none⟩)] w fun e w' => e = .returned (.int .i64 s.sent) ∧ w = w' := by
  obtain ⟨c0, c1, c2, c3, c4, c5, c6⟩ := h.cells
  go_enter Try.func15, Try.ntmps15
  go_wp2
  go_ret
  exact ⟨rfl, rfl⟩

theorem bhas_any (h : Bat B w p v s) (hO : Bt.Ok s) (run : Int) : Calls Try.prog 13 #[.pointer (some ⟨p, 0, none⟩), .int .i64 run] w fun e w' => e = .returned (.bool (decide (run ∈ s.L))) ∧ w = w' := by
  obtain ⟨c0, c1, c2, c3, c4, c5, c6⟩ := h.cells
  have hN : Nums w v s.L := ⟨B, h.row⟩
  have hl : s.L.length ≤ 1000000000 := by have := hO.len; omega
  cases hm : decide (run ∈ s.L)
  all_goals
    go_enter Try.func13, Try.ntmps13
    go_wp2_with (go_at_call 25; refine (scontains_any hN hl run).mono ?_; rw [hm]; rintro e w' ⟨rfl, rfl⟩)
    go_ret
    exact ⟨rfl, rfl⟩

theorem bruns_any (h : Bat B w p v s) (hO : Bt.Ok s) : Calls Try.prog 12 #[.pointer (some ⟨p, 0, none⟩)] w fun e w' => ∃ r, e = .returned r ∧ w'.ownsRow w.heap.size 3 1 r s.L.length (ints s.L) ∧ Below w.heap.size w w' := by
  obtain ⟨c0, c1, c2, c3, c4, c5, c6⟩ := h.cells
  have hN : Nums w v s.L := ⟨B, h.row⟩
  have hl : s.L.length ≤ 1000000000 := by have := hO.len; omega
  go_enter Try.func12, Try.ntmps12
  go_wp2_with (go_at_call 24; refine (sclone_any hN hl).mono ?_; rintro e w' ⟨r, rfl, hr, hb⟩)
  go_ret
  exact ⟨_, rfl, hr, hb⟩

/-- What a Force leaves. -/
def Forced (B : Nat) (w : World) (p : Nat) (v : Value) (s : BS) (e : Ending) (w' : World) : Prop :=
  ∃ r v', e = .returned r ∧ Bat B w' p v' (Bt.force s) ∧ w'.ownsRow B 3 1 r s.L.length (ints s.L) ∧ (∀ k, r.ownBlock = some k → v.ownBlock = some k) ∧ (∀ k, v'.ownBlock = some k → v.ownBlock = some k ∧ ¬ r.ownBlock = some k) ∧ Fr (bfoot p v) w w'

set_option maxHeartbeats 800000 in
theorem bforce_any (h : Bat B w p v s) (hO : Bt.Ok s) : Calls Try.prog 18 #[.pointer (some ⟨p, 0, none⟩)] w (Forced B w p v s) := by
  obtain ⟨c0, c1, c2, c3, c4, c5, c6⟩ := h.cells
  have f2 := h.notFrozen 2
  have f6 := h.notFrozen 6
  obtain ⟨ao, cap, rfl⟩ := slice_of_row h.row
  by_cases hl : s.L.length = 0
  · have e : s.L = [] := List.eq_nil_of_length_eq_zero hl
    have hl1 : ((s.L.length : Int) == 0) = true := by simp [hl]
    have HH := hide h
    have HE := hide e
    clear h e hl c0 c1 c3 c4 c5 c6
    go_enter Try.func18, Try.ntmps18
    go_wp2
    go_ret
    have e := HE.out
    have hF : Bt.force s = s := by simp [Bt.force, e]
    refine ⟨_, _, rfl, by rw [hF]; exact HH.out, ?_, by simp [Value.ownBlock], ?_, Fr.refl _ _⟩
    · rw [e]; exact World.ownsRow_nil _ _ _ _
    · intro k hk; exact ⟨hk, by simp [Value.ownBlock]⟩
  · have hl1 : ((s.L.length : Int) == 0) = false := by simp; exact fun h => hl (by rw [h]; rfl)
    have hs := hO.sent
    obtain ⟨hs1, hs2⟩ := hs
    have HH := hide h
    have HE := hide hl
    clear h hl c0 c1 c3 c4 c5
    go_enter Try.func18, Try.ntmps18
    go_wp2
    go_ret
    have h := HH.out
    have hne : ¬ s.L = [] := fun e => HE.out (by rw [e]; rfl)
    refine ⟨_, .slice none 0 0, rfl, ⟨h.lo, ?_, ?_⟩, ?_, fun k hk => hk, by simp [Value.ownBlock], ?_⟩
    · rw [Bt.force, if_neg hne]; exact set_blk (set_blk h.blk _) _
    · rw [Bt.force, if_neg hne]; exact World.ownsRow_nil _ _ _ _
    · exact row_set (row_set h.row h.row_ne) h.row_ne
    · exact ((Fr.refl _ _).setCell (p := ⟨p, 2, none⟩) (.inl (.inl rfl)) _).setCell (p := ⟨p, 6, none⟩) (.inl (.inl rfl)) _
end
end Go.Proofs.Yteboihdpdhnfkaa
