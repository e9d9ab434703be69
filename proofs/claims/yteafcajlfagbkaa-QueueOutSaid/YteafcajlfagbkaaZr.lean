/- DERIVED. QueueOut: what comes in. -/
import Derived.Test.YteafcajlfagbkaaZq
import Derived.Test.YteafcajlfagbkaaVrd
namespace Go.Proofs.Yteafcajlfagbkaa
set_option linter.unusedSimpArgs false
set_option linter.unusedVariables false
open Go Sl Cv Go.RowKit
abbrev qaT := Int × Int × Int × Unit
abbrev qiR := Rd.int Try.underlying3 (by kernel_rfl)
abbrev qjR := Rd.int Try.underlying2 (by kernel_rfl)
def qactR : Rd Try.prog 31 qaT := Rd.struct Try.underlying31 (.cons qiR rfl (.cons qiR (by kernel_rfl) (.cons qjR (by kernel_rfl) .nil))) (by kernel_rfl)
abbrev actsR : Rd Try.prog 22 (List qaT) := Rd.sl Try.underlying22 (by kernel_rfl) qactR
def qaS (x : qaT) : AM := ⟨x.1, x.2.1, x.2.2.1⟩
theorem qactR_enc {w : World} {cs : List Value} {x : qaT} (h : qactR.rel w cs x) : cs = aml (qaS x) := by
  obtain ⟨c1, c2, rfl, ⟨rfl, _⟩, c3, c4, rfl, ⟨rfl, _⟩, c5, c6, rfl, ⟨rfl, _⟩, rfl⟩ := h
  rfl
theorem queueOut_walk (w : World) (ao : Option Addr) (cap : Nat) (l : List qaT) (h2 : actsR.rel w [.slice ao l.length cap] l) :
    Calls Try.prog 3 #[.slice ao l.length cap] w fun e w' => e = .returned (.bool true) ∧ Below w.heap.size w w' := by
  obtain ⟨ao', cap', e, hlc, hcm, -, hb, hat⟩ := h2
  simp only [List.cons.injEq, Value.slice.injEq, true_and, and_true] at e
  obtain ⟨rfl, rfl⟩ := e
  have hby : Try.prog.bytesOf 31 = 24 := by kernel_rfl
  rw [hby] at hb
  have hce : Try.prog.cellsOf 31 = 3 := by kernel_rfl
  rw [hce] at hat
  have hll : l.length ≤ 5870000000000 := by omega
  have hrd := Reads.of_row (L := [old w]) (cap := cap) (enc := fun a : qaT => aml (qaS a)) (sz := 3) .here hat (fun _ _ hh => qactR_enc hh) (fun _ => rfl) (by decide)
  have hm : flat (fun a : qaT => aml (qaS a)) l = flat aml (l.map qaS) := by simp [flat, List.flatMap_map]
  have hrd2 : Reads [old w] (.slice ao (l.map qaS).length cap) (l.map qaS).length (flat aml (l.map qaS)) := by rw [List.length_map, ← hm]; exact hrd
  have h3 := out_law [old w] ao cap (l.map qaS) hrd2 (by rw [List.length_map]; exact hll)
  rw [List.length_map] at h3
  exact walk_of_sp h3
end Go.Proofs.Yteafcajlfagbkaa
