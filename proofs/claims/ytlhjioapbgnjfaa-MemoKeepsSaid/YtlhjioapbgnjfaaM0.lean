/- DERIVED. MemoKeeps: what comes in. -/
import Derived.Test.YtlhjioapbgnjfaaM9
import Derived.Test.YtlhjioapbgnjfaaVrd
namespace Go.Proofs.Ytlhjioapbgnjfaa
set_option linter.unusedSimpArgs false
set_option linter.unusedVariables false
open Go Sl Cv Go.RowKit
abbrev fT := Int × Int × Int × Unit
abbrev oT := Int × fT × Unit
abbrev kT := Int × ByteArray × Unit
abbrev cT := Int × Int × Int × Int × Int × Int × Int × Unit
abbrev aT := Int × Int × Int × kT × oT × Unit
abbrev iR := Rd.int Try.underlying3 (by kernel_rfl)
abbrev jR := Rd.int Try.underlying2 (by kernel_rfl)
def keyR : Rd Try.prog 33 kT := Rd.struct Try.underlying33 (.cons (Rd.int Try.underlying31 (by kernel_rfl)) rfl (.cons (Rd.str Try.underlying9 (by kernel_rfl)) (by kernel_rfl) .nil)) (by kernel_rfl)
def fR : Rd Try.prog 35 fT := Rd.struct Try.underlying35 (.cons iR rfl (.cons iR (by kernel_rfl) (.cons iR (by kernel_rfl) .nil))) (by kernel_rfl)
def outR : Rd Try.prog 37 oT := Rd.struct Try.underlying37 (.cons jR rfl (.cons fR (by kernel_rfl) .nil)) (by kernel_rfl)
def cfgR : Rd Try.prog 23 cT := Rd.struct Try.underlying23 (.cons jR rfl (.cons jR (by kernel_rfl) (.cons jR (by kernel_rfl) (.cons iR (by kernel_rfl) (.cons iR (by kernel_rfl) (.cons iR (by kernel_rfl) (.cons jR (by kernel_rfl) .nil))))))) (by kernel_rfl)
def actR : Rd Try.prog 39 aT := Rd.struct Try.underlying39 (.cons iR rfl (.cons jR (by kernel_rfl) (.cons jR (by kernel_rfl) (.cons keyR (by kernel_rfl) (.cons outR (by kernel_rfl) .nil))))) (by kernel_rfl)
abbrev actsR : Rd Try.prog 24 (List aT) := Rd.sl Try.underlying24 (by kernel_rfl) actR
abbrev stepsR : Rd Try.prog 53 (List Int) := Rd.sl Try.underlying53 (by kernel_rfl) jR
def cS (x : cT) : CF := ⟨x.1, x.2.1, x.2.2.1, x.2.2.2.1, x.2.2.2.2.1, x.2.2.2.2.2.1, x.2.2.2.2.2.2.1⟩
def aS (x : aT) : AM := ⟨x.1, x.2.1, x.2.2.1, (x.2.2.2.1.1, x.2.2.2.1.2.1), ⟨x.2.2.2.2.1.1, x.2.2.2.2.1.2.1.1, x.2.2.2.2.1.2.1.2.1, x.2.2.2.2.1.2.1.2.2.1⟩⟩
theorem cfgR_ok {w : World} {cs : List Value} {x : cT} (h : cfgR.rel w cs x) : cs = cfl (cS x) ∧ ((cS x).ttl < 9223372036854775808 ∧ (cS x).neg < 9223372036854775808 ∧ (cS x).stale < 9223372036854775808) := by
  obtain ⟨c1, c2, rfl, ⟨rfl, h0⟩, c3, c4, rfl, ⟨rfl, h1⟩, c5, c6, rfl, ⟨rfl, h2⟩, c7, c8, rfl, ⟨rfl, _⟩, c9, c10, rfl, ⟨rfl, _⟩, c11, c12, rfl, ⟨rfl, _⟩, c13, c14, rfl, ⟨rfl, _⟩, rfl⟩ := h
  refine ⟨rfl, ?_, ?_, ?_⟩
  · have : -9223372036854775808 ≤ x.1 ∧ x.1 ≤ 9223372036854775807 := by simpa [Lit.wf, IntKind.min, IntKind.max, IntKind.signed, IntKind.bits] using h0
    show x.1 < _; omega
  · have : -9223372036854775808 ≤ x.2.1 ∧ x.2.1 ≤ 9223372036854775807 := by simpa [Lit.wf, IntKind.min, IntKind.max, IntKind.signed, IntKind.bits] using h1
    show x.2.1 < _; omega
  · have : -9223372036854775808 ≤ x.2.2.1 ∧ x.2.2.1 ≤ 9223372036854775807 := by simpa [Lit.wf, IntKind.min, IntKind.max, IntKind.signed, IntKind.bits] using h2
    show x.2.2.1 < _; omega
theorem actR_enc {w : World} {cs : List Value} {x : aT} (h : actR.rel w cs x) : cs = aml (aS x) := by
  obtain ⟨c1, c2, rfl, ⟨rfl, _⟩, c3, c4, rfl, ⟨rfl, _⟩, c5, c6, rfl, ⟨rfl, _⟩, c7, c8, rfl, ⟨k1, k2, rfl, ⟨rfl, _⟩, k3, k4, rfl, ⟨rfl, _⟩, rfl⟩, c9, c10, rfl, ⟨d1, d2, rfl, ⟨rfl, _⟩, d3, d4, rfl, ⟨e1, e2, rfl, ⟨rfl, _⟩, e3, e4, rfl, ⟨rfl, _⟩, e5, e6, rfl, ⟨rfl, _⟩, rfl⟩, rfl⟩, rfl⟩ := h
  rfl
theorem flat_ints (l : List Int) : flat (fun n : Int => [Value.int .i64 n]) l = ints l := by
  induction l with
  | nil => rfl
  | cons a l ih => simp only [flat, ints, List.flatMap_cons, List.map_cons] at ih ⊢; rw [ih]; rfl
theorem memoKeeps_walk (w : World) (cs : Array Value) (x : cT) (ao : Option Addr) (cap : Nat) (l : List aT) (so : Option Addr) (sc : Nat) (sl : List Int) (h : cfgR.rel w cs.toList x) (h2 : actsR.rel w [.slice ao l.length cap] l) (h3 : stepsR.rel w [.slice so sl.length sc] sl) :
    Calls Try.prog 4 #[.agg cs, .slice ao l.length cap, .slice so sl.length sc] w fun e w' => e = .returned (.bool true) ∧ Below w.heap.size w w' := by
  obtain ⟨e1, hr⟩ := cfgR_ok h
  obtain rfl : cs = (cfl (cS x)).toArray := Array.toList_inj.1 (by simpa using e1)
  obtain ⟨ao', cap', e, hlc, hcm, -, hb, hat⟩ := h2
  simp only [List.cons.injEq, Value.slice.injEq, true_and, and_true] at e
  obtain ⟨rfl, rfl⟩ := e
  have hby : Try.prog.bytesOf 39 = 80 := by kernel_rfl
  rw [hby] at hb
  have hce : Try.prog.cellsOf 39 = 9 := by kernel_rfl
  rw [hce] at hat
  have hll : l.length ≤ 2000000000000 := by omega
  have hrd := Reads.of_row (L := [old w]) (cap := cap) (enc := fun a : aT => aml (aS a)) (sz := 9) .here hat (fun _ _ hh => actR_enc hh) (fun _ => rfl) (by decide)
  have hm : flat (fun a : aT => aml (aS a)) l = flat aml (l.map aS) := by simp [flat, List.flatMap_map]
  have hrd2 : Reads [old w] (.slice ao (l.map aS).length cap) (l.map aS).length (flat aml (l.map aS)) := by rw [List.length_map, ← hm]; exact hrd
  obtain ⟨ao', cap', e, hlc', hcm', -, hb', hat'⟩ := h3
  simp only [List.cons.injEq, Value.slice.injEq, true_and, and_true] at e
  obtain ⟨rfl, rfl⟩ := e
  have hby' : Try.prog.bytesOf 2 = 8 := by kernel_rfl
  rw [hby'] at hb'
  have hce' : Try.prog.cellsOf 2 = 1 := by kernel_rfl
  rw [hce'] at hat'
  have hsll : sl.length ≤ 18000000000000 := by omega
  have hrs := Reads.of_row (L := [old w]) (cap := sc) (enc := fun n : Int => [Value.int .i64 n]) (sz := 1) .here hat' (fun ces a hh => by obtain ⟨rfl, _⟩ := hh; rfl) (fun _ => rfl) (by decide)
  rw [flat_ints] at hrs
  by_cases hc : CfOk (cS x)
  · have h3 := keeps_good [old w] (cS x) hc ao cap (l.map aS) hrd2 (by rw [List.length_map]; exact hll) so sc sl hrs hsll
    rw [List.length_map] at h3
    exact walk_of_sp h3
  · exact walk_of_sp (keeps_bad [old w] (cS x) hr hc _ _)
end Go.Proofs.Ytlhjioapbgnjfaa
