/- DERIVED. Sketches: never below, of any keys. -/
import Derived.Test.YtfeceahffkbjnaaKg
namespace Go.Proofs.Ytfeceahffkbjnaa
set_option linter.unusedSimpArgs false
set_option linter.unusedVariables false
open Go Sl Cv Go.RowKit
abbrev kT := Int × ByteArray × Unit
def keyR : Rd Try.prog 31 kT :=
  Rd.struct Try.underlying31 (.cons (Rd.int Try.underlying29 (by kernel_rfl)) rfl (.cons (Rd.str Try.underlying9 (by kernel_rfl)) (by kernel_rfl) .nil)) (by kernel_rfl)
def kS (x : kT) : SK := (x.1, x.2.1)
theorem keyR_enc {w : World} {cs : List Value} {x : kT} (h : keyR.rel w cs x) : cs = skl (kS x) := by
  obtain ⟨c1, c2, rfl, ⟨rfl, _⟩, c3, c4, rfl, ⟨rfl, _⟩, rfl⟩ := h
  rfl
abbrev keysR : Rd Try.prog 22 (List kT) := Rd.sl Try.underlying22 (by kernel_rfl) keyR
theorem sketchAbove_walk (w : World) (rows bits : Int) (ao : Option Addr) (cap : Nat) (l : List kT) (_ : (Lit.int .i64 rows).wf = true) (_ : (Lit.int .i64 bits).wf = true) (h : keysR.rel w [.slice ao l.length cap] l) :
    Calls Try.prog 3 #[.int .i64 rows, .int .i64 bits, .slice ao l.length cap] w fun e w' => e = .returned (.bool true) ∧ Below w.heap.size w w' := by
  obtain ⟨ao', cap', e, hlc, hcm, -, hb, hat⟩ := h
  simp only [List.cons.injEq, Value.slice.injEq, true_and, and_true] at e
  obtain ⟨rfl, rfl⟩ := e
  rw [show Try.prog.bytesOf 31 = 24 by kernel_rfl] at hb
  rw [show Try.prog.cellsOf 31 = 2 by kernel_rfl] at hat
  have hr : Reads [old w] (.slice ao l.length cap) l.length (flat (fun x => skl (kS x)) l) := Reads.of_row .here hat (fun _ _ h => keyR_enc h) (fun _ => rfl) (by decide)
  have e1 : flat (fun x => skl (kS x)) l = flat skl (l.map kS) := by simp [flat, List.flatMap_map]
  have e2 : l.length = (l.map kS).length := by simp
  rw [e1] at hr
  rw [e2] at hr ⊢
  by_cases hy : 1 ≤ rows ∧ rows ≤ 8 ∧ 0 ≤ bits ∧ bits ≤ 16
  · obtain ⟨n, rfl⟩ := Int.eq_ofNat_of_zero_le (show 0 ≤ rows by omega)
    obtain ⟨b, rfl⟩ := Int.eq_ofNat_of_zero_le (show 0 ≤ bits by omega)
    exact walk_of_sp (above_spec [old w] n b _ _ (by omega) (by omega) (by omega) (.inl ⟨hy, rfl, rfl⟩) ao cap (l.map kS) hr (by simp; omega))
  · exact walk_of_sp (above_spec [old w] 3 4 rows bits (by omega) (by omega) (by omega) (.inr ⟨hy, rfl, rfl⟩) ao cap (l.map kS) hr (by simp; omega))
end Go.Proofs.Ytfeceahffkbjnaa
