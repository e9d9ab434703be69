/- DERIVED. slices.Clone, slices.Index, slices.Contains of numbers. -/
import Derived.Test.YteboihdpdhnfkaaRows
import Derived.Test.YteboihdpdhnfkaaCvKit
namespace Go.Proofs.Yteboihdpdhnfkaa
open Go.RowKit Cv

theorem intsE : ELaw Try.prog 29 3 1 8 := ELaw.mk' Try.underlying29 (z := .int .i64 0) (by kernel_rfl) rfl (by decide)

/-- A slice of numbers that can be read: its elements up to its length. -/
def Nums (w : World) (v : Value) (l : List Int) : Prop := ∃ B, w.ownsRow B 3 1 v l.length (ints l)

theorem Nums.below {w w' : World} {v : Value} {l : List Int} (h : Nums w v l) (hb : Below w.heap.size w w') : Nums w' v l := by
  obtain ⟨B, h⟩ := h
  exact ⟨B, row_below h hb⟩

set_option maxHeartbeats 800000 in
theorem sclone_any {w : World} {v : Value} {l : List Int} (h : Nums w v l) (hl : l.length ≤ 1000000000) :
    Calls Try.prog 24 #[v] w fun e w' => ∃ r, e = .returned r ∧ w'.ownsRow w.heap.size 3 1 r l.length (ints l) ∧ Below w.heap.size w w' := by
  obtain ⟨B, h⟩ := h
  rcases h.2 with ⟨rfl, e⟩ | ⟨g, cap, cur, rfl, _⟩
  · have e : l = [] := List.eq_nil_of_length_eq_zero e
    subst e
    have hn : ∀ W, (binOp .eql 29 (.slice none 0 0) (.slice none 0 0)).run Try.prog W = .ok (.bool true) W := fun W => eql_nil_nil W _ _ Try.underlying29
    go_enter Try.func24, Try.ntmps24
    go_wp2
    go_ret
    exact ⟨_, rfl, World.ownsRow_nil _ _ _ _, Below.refl _ _⟩
  · have hn : ∀ W a n c, (binOp .eql 29 (.slice (some a) n c) (.slice none 0 0)).run Try.prog W = .ok (.bool false) W := fun W a n c => eql_some_nil W a n c Try.underlying29
    have h1 := h.alloc (.cells #[] 3)
    go_enter Try.func24, Try.ntmps24
    go_wp2_with (at_builtin; refine wpList_appRow rfl _ _ 29 rfl intsE w.heap.size _ _ _ (row_empty w w.heap.size 3 1 (Nat.le_refl _)) rfl _ _ _ _ h1 rfl (ints_one _) (by unfold maxLen; omega) (by omega) (by simp) ?_; intro ao cap2 w2 ho2 hf2 hg2)
    go_ret
    refine ⟨_, rfl, ?_, Fr.below ((Below.refl _ _).alloc (Nat.le_refl _) _) hf2 (by simp) (fun k hk => ?_)⟩
    · simpa using ho2
    · simp [Value.ownBlock] at hk; omega

/-- The place of the first x; the length, if there is none. -/
def idx (l : List Int) (x : Int) : Nat := l.findIdx (· == x)
def idxI (l : List Int) (x : Int) : Int := if x ∈ l then (idx l x : Int) else -1

set_option maxHeartbeats 800000 in
theorem sindex_any {w : World} {v : Value} {l : List Int} (h : Nums w v l) (hl : l.length ≤ 1000000000) (x : Int) :
    Calls Try.prog 29 #[v, .int .i64 x] w fun e w' => e = .returned (.int .i64 (idxI l x)) ∧ w = w' := by
  obtain ⟨B, h⟩ := h
  obtain ⟨ao, cap, rfl⟩ := slice_of_row h
  have hcell : ∀ i (hi : i < l.length), ∃ g, ao = some ⟨g, 0, none⟩ ∧ w.cell? ⟨g, i, none⟩ = some (.int .i64 l[i]) := by
    intro i hi
    obtain ⟨g, cap', e, _⟩ := h.form (by omega)
    simp only [Value.slice.injEq, true_and] at e
    obtain ⟨rfl, rfl⟩ := e
    exact ⟨g, rfl, by rw [h.cellAt i (by omega), ints_get l i hi]⟩
  have HC := hide hcell
  clear hcell h
  go_enter Try.func29, Try.ntmps29
  go_wp2_with fail
  go_loopg [8] l.length (fun g ix wr => wr = w ∧ ∃ i : Nat, i + g = l.length ∧ ix = .int .i64 i ∧ ∀ j (hj : j < l.length), j < i → l[j] ≠ x)
  case atStart => exact ⟨rfl, 0, by omega, rfl, fun j _ h => absurd h (Nat.not_lt_zero _)⟩
  case round =>
    obtain ⟨rfl, i, hg, rfl, hne⟩ := hrel
    have HG := hide hg
    have HN := hide hne
    have hi1 : i ≤ 1000000000 := by omega
    clear hg hne
    by_cases hlt : i < l.length
    · obtain ⟨g, rfl, c0⟩ := HC.out i hlt
      have h0 : (0 : Int) ≤ i := by omega
      have h1 : (i : Int) < l.length := by omega
      generalize hy : l[i] = y at c0
      have HY := hide hy
      clear hy
      by_cases hxy : x = y
      · subst hxy
        go_wp2
        go_ret
        refine ⟨?_, rfl⟩
        have hm : x ∈ l := by rw [← HY.out]; exact List.getElem_mem _
        have e : idx l x = i := by
          unfold idx
          rw [List.findIdx_eq (by omega)]
          refine ⟨by simpa using HY.out, fun j hj => ?_⟩
          have := HN.out j (by omega) hj
          simpa using this
        rw [idxI, if_pos hm, e]; rfl
      · have hx1 : (x == y) = false := by simpa using hxy
        have HXY := hide hxy
        clear hxy
        go_wp2
        go_roundg (l.length - (i + 1))
        case measure => have := HG.out; omega
        case rel =>
          have hg := HG.out
          refine ⟨rfl, i + 1, by omega, congrArg (Value.int .i64) (by omega), fun j hj hji => ?_⟩
          by_cases e : j = i
          · subst e; rw [HY.out]; exact fun h => HXY.out h.symm
          · exact HN.out j hj (by omega)
    · go_wp2
      go_ret
      refine ⟨?_, rfl⟩
      have : x ∉ l := by
        intro hm
        obtain ⟨j, hj, e⟩ := List.getElem_of_mem hm
        exact HN.out j hj (by omega) e
      rw [idxI, if_neg this]; rfl

theorem scontains_any {w : World} {v : Value} {l : List Int} (h : Nums w v l) (hl : l.length ≤ 1000000000) (x : Int) :
    Calls Try.prog 25 #[v, .int .i64 x] w fun e w' => e = .returned (.bool (decide (x ∈ l))) ∧ w = w' := by
  by_cases hm : x ∈ l
  · rw [decide_eq_true hm]
    have e : idxI l x = (idx l x : Int) := if_pos hm
    go_enter Try.func25, Try.ntmps25
    go_wp2_with (go_at_call 29; refine (sindex_any h hl x).mono ?_; rw [e]; rintro e w' ⟨rfl, rfl⟩)
    go_ret
    exact ⟨rfl, rfl⟩
  · rw [decide_eq_false hm]
    have e : idxI l x = -1 := if_neg hm
    go_enter Try.func25, Try.ntmps25
    go_wp2_with (go_at_call 29; refine (sindex_any h hl x).mono ?_; rw [e]; rintro e w' ⟨rfl, rfl⟩)
    go_ret
    exact ⟨rfl, rfl⟩
end Go.Proofs.Yteboihdpdhnfkaa
