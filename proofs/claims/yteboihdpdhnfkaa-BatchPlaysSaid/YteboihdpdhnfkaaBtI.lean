/- DERIVED. Batches (chapter 13): what holds of a state that is reached. -/
import Derived.Test.YteboihdpdhnfkaaBtP
namespace Go.Proofs.Yteboihdpdhnfkaa
open Go Sl Cv

/-! What stays true of a batch. -/
structure Bt.Inv (s : BS) (n : Int) : Prop where
  count : s.count ≤ 1024
  len : (s.L.length : Int) < s.count
  win : 0 ≤ s.window
  first : isT s.first = true
  now : isT s.now = true
  sent0 : 0 ≤ s.sent
  sent : s.sent ≤ n


theorem Bt.Inv.mono {s : BS} {n m : Int} (h : Bt.Inv s n) (hm : n ≤ m) : Bt.Inv s m := ⟨h.count, h.len, h.win, h.first, h.now, h.sent0, by have := h.sent; omega⟩

theorem Bt.inv_force {s : BS} {n : Int} (hc : s.count ≤ 1024) (h0 : 1 ≤ s.count) (hw : 0 ≤ s.window) (hf : isT s.first = true) (hn : isT s.now = true) (hs0 : 0 ≤ s.sent) (hs : s.sent ≤ n) : Bt.Inv (Bt.force s) (n + 1) := by
  unfold Bt.force
  split
  · rename_i e
    exact ⟨hc, by rw [e]; simp; omega, hw, hf, hn, hs0, by omega⟩
  · exact ⟨hc, by simp; omega, hw, hf, hn, by simp; omega, by simp; omega⟩

theorem Bt.Inv.force {s : BS} {n : Int} (h : Bt.Inv s n) : Bt.Inv (Bt.force s) (n + 1) :=
  Bt.inv_force h.count (by have := h.len; omega) h.win h.first h.now h.sent0 h.sent

theorem Bt.bad_tick {s : BS} {now : Int} (h : Bt.bad s now = 0) : isT now = true := by
  unfold Bt.bad at h
  cases ht : isT now with
  | true => rfl
  | false => simp [ht] at h

theorem Bt.Inv.send {s : BS} {n : Int} (h : Bt.Inv s n) (now : Int) : Bt.Inv (Bt.send s now).1 (n + 1) := by
  unfold Bt.send
  split
  · exact h.mono (by omega)
  · rename_i hb
    have ht := Bt.bad_tick (Decidable.not_not.1 hb)
    split
    · exact Bt.inv_force h.count (by have := h.len; simp [Bt.at_]; omega) h.win h.first ht h.sent0 h.sent
    · exact ⟨h.count, h.len, h.win, h.first, ht, h.sent0, by have := h.sent; simp [Bt.at_]; omega⟩

theorem Bt.Inv.add {s : BS} {n : Int} (h : Bt.Inv s n) (now run : Int) : Bt.Inv (Bt.add s now run).1 (n + 1) := by
  unfold Bt.add
  split
  · exact h.mono (by omega)
  · rename_i hb
    have ht := Bt.bad_tick (Decidable.not_not.1 hb)
    split
    · exact h.mono (by omega)
    · split
      · exact h.mono (by omega)
      · have hf : isT (Bt.more s now run).first = true := by
          unfold Bt.more
          show isT (if s.L = [] then now else s.first) = true
          split
          · exact ht
          · exact h.first
        split
        · exact Bt.inv_force h.count (by have := h.len; simp [Bt.more]; omega) h.win hf ht h.sent0 h.sent
        · rename_i hx
          refine ⟨h.count, ?_, h.win, hf, ht, h.sent0, by have := h.sent; simp [Bt.more]; omega⟩
          have : ¬ (Bt.more s now run).count ≤ ((Bt.more s now run).L.length : Int) := by
            intro e
            exact hx (by simp [Bt.full, e])
          show ((Bt.more s now run).L.length : Int) < (Bt.more s now run).count
          omega

theorem Bt.add_len (s : BS) (now run : Int) : (Bt.add s now run).2.1.length ≤ s.L.length + 1 := by
  unfold Bt.add
  split
  · simp
  · split
    · simp
    · split
      · simp
      · split
        · simp [Bt.more]
        · simp
theorem Bt.send_len (s : BS) (now : Int) : (Bt.send s now).2.1.length ≤ s.L.length := by
  unfold Bt.send
  split
  · simp
  · split <;> simp
end Go.Proofs.Yteboihdpdhnfkaa
