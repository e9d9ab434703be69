/- DERIVED. Tokens (chapter 6): what 'awake' comes to. -/
import Derived.Test.YtjjpadifidbkhaaTokC
namespace Go.Proofs.Ytjjpadifidbkhaa
open Go.RowKit Cv

set_option maxHeartbeats 1600000 in
theorem awake_any (w : World) : Calls Try.prog 7 #[] w fun e w' => e = .returned (.bool true) ∧ Below w.heap.size w w' := by
  go_enter Try.func7, Try.ntmps7
  go_wp2_with fail
  refine (new_any (B := w.heap.size) w (Nat.le_refl _)).mono ?_
  rintro e w1 ⟨rfl, hT1, hw1⟩
  have hb1 : Below w.heap.size w w1 := by rw [hw1]; exact (Below.refl _ _).alloc (Nat.le_refl _) _
  clear hw1
  go_wp2_with fail
  refine (make_ok hT1 (n := 0) (.inl rfl) (by decide) hb1.size).mono ?_
  rintro e w2 ⟨v2, rfl, hT2, hf2, hg2⟩
  have hb2 := Fr.below hb1 hf2 hb1.size (fun k hk => (hT1.base k hk).1)
  have hT2 : Tok w.heap.size w2 w.heap.size v2 [⟨0, 0, 0⟩] := hT2
  clear hf2 hg2 hT1
  go_wp2_with fail
  refine (make_ok hT2 (n := 1) (.inr (by decide)) (by decide) hb2.size).mono ?_
  rintro e w3 ⟨v3, rfl, hT3, hf3, hg3⟩
  have hb3 := Fr.below hb2 hf3 hb2.size (fun k hk => (hT2.base k hk).1)
  have hT3 : Tok w.heap.size w3 w.heap.size v3 [⟨0, 0, 0⟩, ⟨1, 0, 0⟩] := hT3
  clear hf3 hg3 hT2
  go_wp2_with fail
  refine (cancel_in hT3 (n := 1) (by decide)).mono ?_
  rintro e w4 ⟨r, rfl, hr, hT4, hf4⟩
  have hb4 := Fr.below hb3 hf4 hb3.size (fun k hk => (hT3.base k hk).1)
  have e4 : Tk.cancel [⟨0, 0, 0⟩, ⟨1, 0, 0⟩] 1 = ([⟨0, 0, 1⟩, ⟨1, 0, 1⟩], [1, 2]) := by decide
  rw [e4] at hr hT4
  obtain ⟨ao, cap, rfl⟩ := slice_of_row hr
  clear hf4 hT3 hr e4
  go_wp2_with (go_at_call 15; refine (is_any hT4 _).mono ?_; rintro e w' ⟨rfl, rfl⟩)
  go_ret
  exact ⟨by simp; decide, hb4⟩
end Go.Proofs.Ytjjpadifidbkhaa
