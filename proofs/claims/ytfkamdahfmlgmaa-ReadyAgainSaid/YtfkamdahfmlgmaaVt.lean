/- DERIVED. The walk over what is owned: slices.Sort at int. -/
import Derived.Test.YtfkamdahfmlgmaaTy
import Derived.Test.YtfkamdahfmlgmaaVn
import Derived.Test.YtfkamdahfmlgmaaVu
import Derived.Sort.OwnSortedInts
import Derived.Shelf.SortM.Plain
import Derived.Shelf.SortM.SortNone
import Derived.Ground.SlgmProg
namespace Go.Proofs
set_option linter.unusedSimpArgs false
set_option linter.unusedVariables false
open Go.RowKit Go.Shelf Go.Sort
shelf_lay_g SlLaysM.n5 Slgm 5 at Try 42 as Try.sortL
end Go.Proofs
namespace Go.Proofs.Ytfkamdahfmlgmaa
open Go Sl Cv Go.RowKit
theorem sort_spec (a : Option Addr) (c : Nat) (l : List Int) (F : List HP) (hll : l.length ≤ 4000000000000) : Sp Try.prog 42 [.slice a l.length c] (row 3 1 (.slice a l.length c) l.length (ints l) :: F) fun r M => r = .tuple #[] ∧ M = row 3 1 (.slice a l.length c) l.length (ints (srt l)) :: F := by
  refine ⟨fun w0 w s => ?_⟩
  by_cases h0 : l.length = 0
  · obtain rfl : l = [] := List.eq_nil_of_length_eq_zero h0
    refine (AnyM.slices_Sort_int_none Try.sortL a c w).mono ?_
    rintro e w' ⟨rfl, rfl⟩
    have e0 : srt [] = [] := List.mergeSort_nil
    rw [e0]
    exact ⟨_, _, rfl, ⟨rfl, rfl⟩, s⟩
  · obtain ⟨g, cur, rfl, h1, h2, h3, h4, hs⟩ := s.2.row_open (by omega)
    have hb := Sy.get ⟨s.1, hs⟩
    have h5 : cur.toArray.toList.take l.length = l.map (Value.int .i64) := by rw [← Nat.mul_one l.length]; exact h4
    have hH := holds_of_blockI hb h5
    refine (AnyM.slices_Sort_int Try.sortL g 0 c l w hH (Array.getElem?_eq_some_iff.1 hb).1 (by omega)).mono ?_
    rintro e w' ⟨rfl, n, os, rfl⟩
    refine ⟨_, _, rfl, ⟨rfl, rfl⟩, ?_⟩
    have hg := Sy.grown ⟨s.1, hs⟩ (grownBy_sortedI (srt l).toArray) (heap_sortedI (n := n) (os := os) (srt l).toArray hb)
    have e1 := take_putCellsI cur.toArray (srt l) (by rw [srt_len]; simp; omega)
    rw [srt_len] at e1
    refine hg.ent ?_
    have e2 := ent_close (e := 3) (sz := 1) (n := l.length) (cap := c) (g := g) (cur := (Sort.putCells (Value.int .i64) 0 (srt l).toArray cur.toArray).toList) (L := F) h1 h2 (by simp [Sort.putCells, h3]) Ent.rfl
    rw [Nat.mul_one, e1] at e2
    simpa [ints] using e2
theorem sort_ok : SortOk := sort_spec
end Go.Proofs.Ytfkamdahfmlgmaa
