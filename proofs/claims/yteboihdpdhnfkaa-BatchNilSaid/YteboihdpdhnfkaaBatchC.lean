/- DERIVED. Batches (chapter 13): New, Clone, nil batches, what is asked ahead of all. -/
import Derived.Test.YteboihdpdhnfkaaBatchB
namespace Go.Proofs.Yteboihdpdhnfkaa
open Go.RowKit Cv

def Bt.zero (count window : Int) : BS := ⟨count, window, [], 0, 0, 0, 0⟩
def Bt.may (count window : Int) : Bool := decide (1 ≤ count) && decide (count ≤ 1024) && decide (0 ≤ window)

theorem blk_new (w : World) (o : Obj) : (w.alloc o).heap[w.heap.size]? = some o := by
  show (w.heap.push o)[w.heap.size]? = some o
  simp

/-- What New leaves. -/
def Newed (w : World) (count window : Int) (e : Ending) (w' : World) : Prop :=
  (Bt.may count window = false ∧ e = .returned (.tuple #[.pointer none, .int .i64 1]) ∧ w = w') ∨
  (Bt.may count window = true ∧ e = .returned (.tuple #[.pointer (some ⟨w.heap.size, 0, none⟩), .int .i64 0]) ∧ Bat w.heap.size w' w.heap.size (.slice none 0 0) (Bt.zero count window) ∧ Below w.heap.size w w')

theorem bnew_any (w : World) (count window : Int) : Calls Try.prog 5 #[.int .i64 count, .int .i64 window] w (Newed w count window) := by
  by_cases h1 : count < 1
  · go_enter Try.func5, Try.ntmps5
    go_wp2
    go_ret2
    exact .inl ⟨by simp [Bt.may]; omega, rfl, rfl⟩
  · by_cases h2 : 1024 < count
    · go_enter Try.func5, Try.ntmps5
      go_wp2
      go_ret2
      exact .inl ⟨by simp [Bt.may]; omega, rfl, rfl⟩
    · by_cases h3 : window < 0
      · go_enter Try.func5, Try.ntmps5
        go_wp2
        go_ret2
        exact .inl ⟨by simp [Bt.may]; omega, rfl, rfl⟩
      · go_enter Try.func5, Try.ntmps5
        go_wp2
        go_ret2
        refine .inr ⟨by simp [Bt.may]; omega, rfl, ⟨Nat.le_refl _, ?_, World.ownsRow_nil _ _ _ _⟩, ?_⟩
        · exact blk_new _ _
        · exact (Below.refl _ _).alloc (Nat.le_refl _) _

section
variable {B : Nat} {w : World} {p : Nat} {v : Value} {s : BS}

/-- What a Clone leaves: a batch of its own, in blocks that are new. -/
def Cloned (w : World) (s : BS) (e : Ending) (w' : World) : Prop := ∃ p' v', e = .returned (.pointer (some ⟨p', 0, none⟩)) ∧ Bat w.heap.size w' p' v' s ∧ Below w.heap.size w w'

set_option maxHeartbeats 800000 in
theorem bclone_any (h : Bat B w p v s) (hO : Bt.Ok s) : Calls Try.prog 19 #[.pointer (some ⟨p, 0, none⟩)] w (Cloned w s) := by
  have hb := h.blk
  obtain ⟨c0, c1, c2, c3, c4, c5, c6⟩ := h.cells
  have hl : s.L.length ≤ 1000000000 := by have := hO.len; omega
  have hLt := lt_of_blk hb
  obtain ⟨ao, cap, rfl⟩ := slice_of_row h.row
  have hR := h.row
  go_enter Try.func19, Try.ntmps19
  go_wp2_with (go_at_call 24; (refine (sclone_any (v := .slice ao s.L.length cap) (l := s.L) ⟨B, row_alloc hR _⟩ hl).mono ?_); rintro e w2 ⟨r, rfl, hr, hb2⟩; obtain ⟨ao2, cap2, rfl⟩ := slice_of_row hr; have b3 := hide ((hb2.block w.heap.size (by simp)).trans (blk_new w _)); have fz : w2.frozen? ⟨w.heap.size, 2, none⟩ = false := (by simp [World.frozen?, b3.out]); have cz : w2.cell? ⟨w.heap.size, 2, none⟩ = some (.slice ao s.L.length cap) := (by simp [World.cell?, b3.out]))
  go_ret
  have hb4 : Below w.heap.size w w2 := ((Below.refl _ _).alloc (Nat.le_refl _) _).trans (hb2.mono (by simp))
  have hr4 : w2.ownsRow w.heap.size 3 1 (.slice ao2 s.L.length cap2) s.L.length (ints s.L) := by
    refine row_base hr (fun k e => ?_)
    have := (hr.lt k e).1
    simp at this; omega
  have hb5 := set_blk b3.out (i := 2) (.slice ao2 s.L.length cap2)
  have hne : ¬ (Value.slice ao2 s.L.length cap2).ownBlock = some w.heap.size := by
    intro e
    have := (hr.lt _ e).1
    have : w.heap.size + 1 ≤ w.heap.size := by simpa using this
    omega
  exact ⟨w.heap.size, _, rfl, ⟨Nat.le_refl _, hb5, row_set hr4 hne⟩, hb4.setCell (Nat.le_refl _) _⟩

theorem badd_any (h : Bat B w p v s) (hO : Bt.Ok s) (hlen : s.L.length < 1024) (hB : B ≤ w.heap.size) (now run : Int) :
    Calls Try.prog 16 #[.pointer (some ⟨p, 0, none⟩), .int .i64 now, .int .i64 run] w (Adds B w p v (Bt.add s now run)) := by
  by_cases hb : Bt.bad s now = 0
  · by_cases hr : run < 1
    · exact badd_bad h now run (.inr (.inl hr))
    · by_cases hl : run ≤ s.last
      · exact badd_bad h now run (.inr (.inr hl))
      · exact badd_ok h hO hlen hB now run hb hr hl
  · exact badd_bad h now run (.inl hb)

set_option maxHeartbeats 1600000 in
theorem bawake_any (w : World) : Calls Try.prog 7 #[] w fun e w' => e = .returned (.bool true) ∧ Below w.heap.size w w' := by
  go_enter Try.func7, Try.ntmps7
  go_wp2_with fail
  refine (bnew_any w 2 10).mono ?_
  rintro e w1 (⟨hm, -⟩ | ⟨-, rfl, hT1, hb1⟩)
  · exact absurd hm (by decide)
  go_wp2_with fail
  refine (badd_any hT1 ⟨by decide, by decide, by decide⟩ (by decide) hb1.size 0 1).mono ?_
  rintro e w2 ⟨r2, v2, rfl, hT2, hr2, hk2, hk2', hf2⟩
  have e2 : Bt.add (Bt.zero 2 10) 0 1 = (⟨2, 10, [1], 0, 0, 1, 0⟩, [], 0) := by kernel_rfl
  have hb2 := Fr.below hb1 hf2 hb1.size (fun k hk => (hT1.base k hk).1)
  rw [e2] at hT2 hr2
  rw [e2]
  obtain ⟨ao2, cap2, rfl⟩ := slice_of_row hr2
  clear hf2 hk2 hk2' hT1 hb1 hr2 e2
  go_wp2_with fail
  refine (badd_any hT2 ⟨by decide, by decide, by decide⟩ (by decide) hb2.size 1 2).mono ?_
  rintro e w3 ⟨r3, v3, rfl, hT3, hr3, hk3, hk3', hf3⟩
  have e3 : Bt.add ⟨2, 10, [1], 0, 0, 1, 0⟩ 1 2 = (⟨2, 10, [], 0, 1, 2, 1⟩, [1, 2], 0) := by kernel_rfl
  have hb3 := Fr.below hb2 hf3 hb2.size (fun k hk => (hT2.base k hk).1)
  rw [e3] at hT3 hr3
  rw [e3]
  obtain ⟨ao3, cap3, rfl⟩ := slice_of_row hr3
  clear hf3 hk3 hk3' hT2 hb2 hr3 e3
  go_wp2
  go_ret
  exact ⟨rfl, hb3⟩

/-! Nil batches. -/
theorem nbadd (w : World) (now run : Int) : Calls Try.prog 16 #[.pointer none, .int .i64 now, .int .i64 run] w fun e w' => e = .returned (.tuple #[.slice none 0 0, .int .i64 1]) ∧ w = w' := by
  have hm : Calls Try.prog 26 #[.pointer none, .int .i64 now] w fun e w' => e = .returned (.int .i64 1) ∧ w = w' := by
    go_enter Try.func26, Try.ntmps26
    go_wp2
    go_ret
    exact ⟨rfl, rfl⟩
  go_enter Try.func16, Try.ntmps16
  go_wp2_with (go_at_call 26; refine hm.mono ?_; rintro e w' ⟨rfl, rfl⟩)
  go_ret2
  exact ⟨rfl, rfl⟩

theorem nbsend (w : World) (now : Int) : Calls Try.prog 17 #[.pointer none, .int .i64 now] w fun e w' => e = .returned (.tuple #[.slice none 0 0, .int .i64 1]) ∧ w = w' := by
  have hm : Calls Try.prog 26 #[.pointer none, .int .i64 now] w fun e w' => e = .returned (.int .i64 1) ∧ w = w' := by
    go_enter Try.func26, Try.ntmps26
    go_wp2
    go_ret
    exact ⟨rfl, rfl⟩
  go_enter Try.func17, Try.ntmps17
  go_wp2_with (go_at_call 26; refine hm.mono ?_; rintro e w' ⟨rfl, rfl⟩)
  go_ret2
  exact ⟨rfl, rfl⟩

theorem nbdue (w : World) : Calls Try.prog 9 #[.pointer none] w fun e w' => e = .returned (.tuple #[.int .i64 0, .bool false]) ∧ w = w' := by
  go_enter Try.func9, Try.ntmps9
  go_wp2
  go_ret2
  exact ⟨rfl, rfl⟩

theorem nbhas (w : World) (run : Int) : Calls Try.prog 13 #[.pointer none, .int .i64 run] w fun e w' => e = .returned (.bool false) ∧ w = w' := by
  go_enter Try.func13, Try.ntmps13
  go_wp2
  go_ret
  exact ⟨rfl, rfl⟩

theorem nbforce (w : World) : Calls Try.prog 18 #[.pointer none] w fun e w' => e = .returned (.slice none 0 0) ∧ w = w' := by
  go_enter Try.func18, Try.ntmps18
  go_wp2
  go_ret
  exact ⟨rfl, rfl⟩

theorem nbruns (w : World) : Calls Try.prog 12 #[.pointer none] w fun e w' => e = .returned (.slice none 0 0) ∧ w = w' := by
  go_enter Try.func12, Try.ntmps12
  go_wp2
  go_ret
  exact ⟨rfl, rfl⟩

theorem nbsent (w : World) : Calls Try.prog 15 #[.pointer none] w fun e w' => e = .returned (.int .i64 0) ∧ w = w' := by
  go_enter Try.func15, Try.ntmps15
  go_wp2
  go_ret
  exact ⟨rfl, rfl⟩

theorem nbclone (w : World) : Calls Try.prog 19 #[.pointer none] w fun e w' => e = .returned (.pointer none) ∧ w = w' := by
  go_enter Try.func19, Try.ntmps19
  go_wp2
  go_ret
  exact ⟨rfl, rfl⟩
end
end Go.Proofs.Yteboihdpdhnfkaa
