/- DERIVED. The law MemoOf: for every input the law returns true. -/
import Derived.Test.YtlhjioapbgnjfaaM6
import Derived.Test.YtlhjioapbgnjfaaVrd
namespace Go.Proofs.Ytlhjioapbgnjfaa
set_option linter.unusedSimpArgs false
set_option linter.unusedVariables false
open Go Sl Cv Go.RowKit
theorem of_law (F : List HP) (c : CF) (now : Int) (ao : Option Addr) (cap : Nat) (l : List KP) (hc : c.ttl < 9223372036854775808 ∧ c.neg < 9223372036854775808 ∧ c.stale < 9223372036854775808) (hr : Reads F (.slice ao l.length cap) l.length (flat kpl l)) (hl : l.length ≤ 2199023255488) (so : Option Addr) (sc : Nat) (sl : List AM) (hsr : Reads F (.slice so sl.length sc) sl.length (flat aml sl)) (hsl : sl.length ≤ 2000000000000) :
    Sp Try.prog 7 [.agg (cfl c).toArray, .agg (wl now ao l.length cap).toArray, .slice so sl.length sc] F fun r M => r = .bool true ∧ M = F := by
  by_cases h : CfOk c
  · by_cases ht : 0 ≤ now ∧ now ≤ 4611686018427387904
    · by_cases he : (l.length : Int) ≤ c.ent
      · rcases of_cases c now l with ⟨i, hi, hP, hb⟩ | hP
        · exact of_fail F c now ao cap l _ hr hl i _ hb (fun F a cc hr => mof_bad F c now a cc l h ht he i hi hP hb hr) (fun F a cc => dof_bad_row F c now cc a l h ht he i hi hP hb)
        · exact of_good F c now ao cap l h ht he hP hr so sc sl hsr hsl
      · exact of_fail F c now ao cap l _ hr hl 0 3 (by decide) (fun F a cc _ => mof_many F c now a cc l h ht (by omega)) (fun F a cc => dof_many (rrow a cc l :: F) c now cc l h ht a (by omega))
    · exact of_fail F c now ao cap l _ hr hl 0 10 (by decide) (fun F a cc _ => mof_tick F c now h ht _) (fun F a cc => dof_tick (rrow a cc l :: F) c now h ht _)
  · exact of_fail F c now ao cap l _ hr hl 0 100 (by decide) (fun F a cc _ => mof_conf F c now hc h _) (fun F a cc => dof_conf (rrow a cc l :: F) c now hc h _)
abbrev fT := Int × Int × Int × Unit
abbrev oT := Int × fT × Unit
abbrev kT := Int × ByteArray × Unit
abbrev cT := Int × Int × Int × Int × Int × Int × Int × Unit
abbrev aT := Int × Int × Int × kT × oT × Unit
abbrev iR := Rd.int Try.underlying3 (by kernel_rfl)
abbrev jR := Rd.int Try.underlying2 (by kernel_rfl)
def keyR : Rd Try.prog 33 kT := Rd.struct Try.underlying33 (.cons (Rd.int Try.underlying31 (by kernel_rfl)) rfl (.cons (Rd.str Try.underlying9 (by kernel_rfl)) (by kernel_rfl) .nil)) (by kernel_rfl)
def fR : Rd Try.prog 35 fT := Rd.struct Try.underlying35 (.cons iR rfl (.cons iR (by kernel_rfl) (.cons iR (by kernel_rfl) .nil))) (by kernel_rfl)
def outR : Rd Try.prog 37 oT := Rd.struct Try.underlying37 (.cons jR rfl (.cons fR (by kernel_rfl) .nil)) (by kernel_rfl)
def cfgR : Rd Try.prog 23 cT := Rd.struct Try.underlying23 (.cons jR rfl (.cons jR (by kernel_rfl) (.cons jR (by kernel_rfl) (.cons iR (by kernel_rfl) (.cons iR (by kernel_rfl) (.cons iR (by kernel_rfl) (.cons jR (by kernel_rfl) .nil))))))) (by kernel_rfl)
def actR : Rd Try.prog 39 aT := Rd.struct Try.underlying39 (.cons iR rfl (.cons jR (by kernel_rfl) (.cons jR (by kernel_rfl) (.cons keyR (by kernel_rfl) (.cons outR (by kernel_rfl) .nil))))) (by kernel_rfl)
abbrev actsR : Rd Try.prog 24 (List aT) := Rd.sl Try.underlying24 (by kernel_rfl) actR
def cS (x : cT) : CF := ⟨x.1, x.2.1, x.2.2.1, x.2.2.2.1, x.2.2.2.2.1, x.2.2.2.2.2.1, x.2.2.2.2.2.2.1⟩
def aS (x : aT) : AM := ⟨x.1, x.2.1, x.2.2.1, (x.2.2.2.1.1, x.2.2.2.1.2.1), ⟨x.2.2.2.2.1.1, x.2.2.2.2.1.2.1.1, x.2.2.2.2.1.2.1.2.1, x.2.2.2.2.1.2.1.2.2.1⟩⟩
theorem cfgR_ok {w : World} {cs : List Value} {x : cT} (h : cfgR.rel w cs x) : cs = cfl (cS x) ∧ ((cS x).ttl < 9223372036854775808 ∧ (cS x).neg < 9223372036854775808 ∧ (cS x).stale < 9223372036854775808) := by
  obtain ⟨c1, c2, rfl, ⟨rfl, h0⟩, c3, c4, rfl, ⟨rfl, h1⟩, c5, c6, rfl, ⟨rfl, h2⟩, c7, c8, rfl, ⟨rfl, _⟩, c9, c10, rfl, ⟨rfl, _⟩, c11, c12, rfl, ⟨rfl, _⟩, c13, c14, rfl, ⟨rfl, _⟩, rfl⟩ := h
  refine ⟨rfl, ?_, ?_, ?_⟩
  · have : -9223372036854775808 ≤ x.1 ∧ x.1 ≤ 9223372036854775807 := by simpa [Lit.wf, IntKind.min, IntKind.max, IntKind.signed, IntKind.bits] using h0
    show x.1 < _; omega
  · have : -9223372036854775808 ≤ x.2.1 ∧ x.2.1 ≤ 9223372036854775807 := by simpa [Lit.wf, IntKind.min, IntKind.max, IntKind.signed, IntKind.bits] using h1
    show x.2.1 < _; omega
  · have : -9223372036854775808 ≤ x.2.2.1 ∧ x.2.2.1 ≤ 9223372036854775807 := by simpa [Lit.wf, IntKind.min, IntKind.max, IntKind.signed, IntKind.bits] using h2
    show x.2.2.1 < _; omega
theorem actR_enc {w : World} {cs : List Value} {x : aT} (h : actR.rel w cs x) : cs = aml (aS x) := by
  obtain ⟨c1, c2, rfl, ⟨rfl, _⟩, c3, c4, rfl, ⟨rfl, _⟩, c5, c6, rfl, ⟨rfl, _⟩, c7, c8, rfl, ⟨k1, k2, rfl, ⟨rfl, _⟩, k3, k4, rfl, ⟨rfl, _⟩, rfl⟩, c9, c10, rfl, ⟨d1, d2, rfl, ⟨rfl, _⟩, d3, d4, rfl, ⟨e1, e2, rfl, ⟨rfl, _⟩, e3, e4, rfl, ⟨rfl, _⟩, e5, e6, rfl, ⟨rfl, _⟩, rfl⟩, rfl⟩, rfl⟩ := h
  rfl
abbrev pT := kT × oT × Int × Unit
abbrev wT := Int × List pT × Unit
def keptR : Rd Try.prog 48 pT := Rd.struct Try.underlying48 (.cons keyR rfl (.cons outR (by kernel_rfl) (.cons jR (by kernel_rfl) .nil))) (by kernel_rfl)
def wholeR : Rd Try.prog 75 wT := Rd.struct Try.underlying75 (.cons jR rfl (.cons (Rd.sl Try.underlying54 (by kernel_rfl) keptR) (by kernel_rfl) .nil)) (by kernel_rfl)
def pS (x : pT) : KP := ⟨(x.1.1, x.1.2.1), ⟨x.2.1.1, x.2.1.2.1.1, x.2.1.2.1.2.1, x.2.1.2.1.2.2.1⟩, x.2.2.1⟩
theorem keptR_enc {w : World} {cs : List Value} {x : pT} (h : keptR.rel w cs x) : cs = kpl (pS x) := by
  obtain ⟨c7, c8, rfl, ⟨k1, k2, rfl, ⟨rfl, _⟩, k3, k4, rfl, ⟨rfl, _⟩, rfl⟩, c9, c10, rfl, ⟨d1, d2, rfl, ⟨rfl, _⟩, d3, d4, rfl, ⟨e1, e2, rfl, ⟨rfl, _⟩, e3, e4, rfl, ⟨rfl, _⟩, e5, e6, rfl, ⟨rfl, _⟩, rfl⟩, rfl⟩, c11, c12, rfl, ⟨rfl, _⟩, rfl⟩ := h
  rfl
theorem acts_reads {w : World} {ao : Option Addr} {cap : Nat} {l : List aT} (h2 : actsR.rel w [.slice ao l.length cap] l) : l.length ≤ 2000000000000 ∧ Reads [old w] (.slice ao (l.map aS).length cap) (l.map aS).length (flat aml (l.map aS)) := by
  obtain ⟨ao', cap', e, hlc, hcm, -, hb, hat⟩ := h2
  simp only [List.cons.injEq, Value.slice.injEq, true_and, and_true] at e
  obtain ⟨rfl, rfl⟩ := e
  have hby : Try.prog.bytesOf 39 = 80 := by kernel_rfl
  rw [hby] at hb
  have hce : Try.prog.cellsOf 39 = 9 := by kernel_rfl
  rw [hce] at hat
  have hrd := Reads.of_row (L := [old w]) (cap := cap) (enc := fun a : aT => aml (aS a)) (sz := 9) .here hat (fun _ _ hh => actR_enc hh) (fun _ => rfl) (by decide)
  have hm : flat (fun a : aT => aml (aS a)) l = flat aml (l.map aS) := by simp [flat, List.flatMap_map]
  exact ⟨by omega, by rw [List.length_map, ← hm]; exact hrd⟩
theorem whole_reads {w : World} {cs : List Value} {x : wT} (h : wholeR.rel w cs x) : ∃ ao cap, cs = wl x.1 ao (x.2.1.map pS).length cap ∧ (x.2.1.map pS).length ≤ 2199023255488 ∧ Reads [old w] (.slice ao (x.2.1.map pS).length cap) (x.2.1.map pS).length (flat kpl (x.2.1.map pS)) := by
  obtain ⟨c1, c2, rfl, ⟨rfl, _⟩, c3, c4, rfl, ⟨ao, cap, rfl, hlc, hcm, -, hb, hat⟩, rfl⟩ := h
  have hby : Try.prog.bytesOf 48 = 64 := by kernel_rfl
  rw [hby] at hb
  have hce : Try.prog.cellsOf 48 = 7 := by kernel_rfl
  rw [hce] at hat
  have hrd := Reads.of_row (L := [old w]) (cap := cap) (enc := fun a : pT => kpl (pS a)) (sz := 7) .here hat (fun _ _ hh => keptR_enc hh) (fun _ => rfl) (by decide)
  have hm : flat (fun a : pT => kpl (pS a)) x.2.1 = flat kpl (x.2.1.map pS) := by simp [flat, List.flatMap_map]
  exact ⟨ao, cap, by rw [List.length_map]; rfl, by rw [List.length_map]; omega, by rw [List.length_map, ← hm]; exact hrd⟩
theorem memoOf_walk (w : World) (cs : Array Value) (x : cT) (ds : Array Value) (y : wT) (ao : Option Addr) (cap : Nat) (l : List aT) (h : cfgR.rel w cs.toList x) (h1 : wholeR.rel w ds.toList y) (h2 : actsR.rel w [.slice ao l.length cap] l) :
    Calls Try.prog 7 #[.agg cs, .agg ds, .slice ao l.length cap] w fun e w' => e = .returned (.bool true) ∧ Below w.heap.size w w' := by
  obtain ⟨e1, hr⟩ := cfgR_ok h
  obtain rfl : cs = (cfl (cS x)).toArray := Array.toList_inj.1 (by simpa using e1)
  obtain ⟨ko, kc, e2, hkl, hkr⟩ := whole_reads h1
  obtain rfl : ds = (wl y.1 ko (y.2.1.map pS).length kc).toArray := Array.toList_inj.1 (by simpa using e2)
  obtain ⟨hll, hsr⟩ := acts_reads h2
  have h3 := of_law [old w] (cS x) y.1 ko kc (y.2.1.map pS) hr hkr hkl ao cap (l.map aS) hsr (by rw [List.length_map]; exact hll)
  have hlm : (l.map aS).length = l.length := List.length_map ..
  rw [hlm] at h3
  exact walk_of_sp h3
end Go.Proofs.Ytlhjioapbgnjfaa
