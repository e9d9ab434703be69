/- DERIVED. Sketches: the law SketchMerges, of any sizes. -/
import Derived.Test.YtfeceahffkbjnaaKs
namespace Go.Proofs.Ytfeceahffkbjnaa
set_option linter.unusedSimpArgs false
set_option linter.unusedVariables false
open Go Sl Cv Go.RowKit
section
variable (x y z u : Int) (ao : Option Addr) (cap : Nat) (l : List aK) (ak : Option Addr) (ck : Nat) (ks : List aK) (F : List HP)
theorem merges_spec (hK : ∀ x ∈ l, KO x.2) (hK2 : ∀ x ∈ ks, KO x.2) (hr : Reads F (.slice ao l.length cap) l.length (flat aenc l)) (hl : l.length ≤ 4480000000000) (hr2 : Reads F (.slice ak ks.length ck) ks.length (flat aenc ks)) (hl2 : ks.length ≤ 4480000000000) :
    Sp Try.prog 5 [.agg #[.int .i64 x, .int .i64 y, .int .i64 z, .int .i64 u], .slice ao l.length cap, .slice ak ks.length ck] F fun r M => r = .bool true ∧ M = F := by
  by_cases hy : may2 x y
  · by_cases hz : may2 z u
    · unfold may2 at hy hz
      obtain ⟨n, rfl⟩ := Int.eq_ofNat_of_zero_le (show 0 ≤ x by omega)
      obtain ⟨b, rfl⟩ := Int.eq_ofNat_of_zero_le (show 0 ≤ y by omega)
      obtain ⟨n', rfl⟩ := Int.eq_ofNat_of_zero_le (show 0 ≤ z by omega)
      obtain ⟨b', rfl⟩ := Int.eq_ofNat_of_zero_le (show 0 ≤ u by omega)
      by_cases he : b = b' ∧ n = n'
      · obtain ⟨rfl, rfl⟩ := he
        exact merges_same ao cap l ak ck ks F n b ⟨by omega, by omega, by omega⟩ hK hK2 hr hl hr2 hl2
      · exact merges_other ao cap l ak ck ks F n b n' b' ⟨by omega, by omega, by omega⟩ ⟨by omega, by omega, by omega⟩ (by omega) hK hK2 hr hl hr2 hl2
    · exact merges_none x y z u ao cap l ak ck ks F (.inr hz) hK hK2 hr hl hr2 hl2
  · exact merges_none x y z u ao cap l ak ck ks F (.inl hy) hK hK2 hr hl hr2 hl2
end
abbrev size4R : Rd Try.prog 46 (List Int) := Rd.arr Try.underlying46 (Rd.int Try.underlying3 (by kernel_rfl))
theorem sketchMerges_walk (w : World) (cs : Array Value) (sz : List Int) (ao : Option Addr) (cap : Nat) (l : List actT) (ak : Option Addr) (ck : Nat) (ks : List actT) (h0 : size4R.rel w cs.toList sz) (h : actsR.rel w [.slice ao l.length cap] l) (h2 : actsR.rel w [.slice ak ks.length ck] ks) :
    Calls Try.prog 5 #[.agg cs, .slice ao l.length cap, .slice ak ks.length ck] w fun e w' => e = .returned (.bool true) ∧ Below w.heap.size w w' := by
  obtain ⟨e1, e2, e3⟩ := h0
  rw [show Try.prog.cellsOf 46 = 4 by kernel_rfl] at e2
  have e4 : cs.toList = ints sz := ints_one_arr (by rw [e2, e1]) fun i hi => by
    have := (e3 i hi).1
    rw [show Try.prog.cellsOf 3 = 1 by kernel_rfl, Nat.mul_one] at this
    exact this
  obtain ⟨x, y, z, u, rfl⟩ : ∃ x y z u, sz = [x, y, z, u] := by
    rcases sz with _ | ⟨x, _ | ⟨y, _ | ⟨z, _ | ⟨u, _ | ⟨v, r⟩⟩⟩⟩⟩
    · simp at e1
    · simp at e1
    · simp at e1
    · simp at e1
    · exact ⟨x, y, z, u, rfl⟩
    · simp at e1
  obtain rfl : cs = #[.int .i64 x, .int .i64 y, .int .i64 z, .int .i64 u] := Array.toList_inj.1 e4
  obtain ⟨r1, r2, r3⟩ := acts_read h
  obtain ⟨s1, s2, s3⟩ := acts_read h2
  have := walk_of_sp (merges_spec x y z u ao cap (l.map aS) ak ck (ks.map aS) [old w] r2 s2 r1 r3 s1 s3)
  simpa using this
end Go.Proofs.Ytfeceahffkbjnaa
