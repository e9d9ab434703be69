/- DERIVED. Queues by time: slices.SortFunc by their order; all items in order. -/
import Derived.Test.YteafcajlfagbkaaZg
import Derived.Test.YteafcajlfagbkaaVsf
import Derived.Test.YteafcajlfagbkaaQe
import Derived.Shelf.SlicesG.Cmp
import Derived.Ground.SlsfProg
namespace Go.Proofs
set_option linter.unusedSimpArgs false
set_option linter.unusedVariables false
open Go.RowKit Go.Shelf Go.Sort
shelf_lay_g SlLaysF0.n6 Slsf 6 at Try 37 as Try.sortF
end Go.Proofs
namespace Go.Proofs.Yteafcajlfagbkaa
set_option linter.unusedSimpArgs false
set_option linter.unusedVariables false
open Go Sl Cv Go.RowKit
instance : Inhabited TM := ⟨d0⟩
theorem ltOf_cT : Go.Proofs.ltOf cT = ltT := by funext x y; exact cT_lt x y
theorem swo_ltT : Go.Sort.SWO ltT where
  irrefl x := by unfold ltT; simp
  trans x y z h1 h2 := by unfold ltT at *; simp only [decide_eq_true_eq] at *; omega
  ntrans x y z h1 h2 := by unfold ltT at *; simp only [decide_eq_false_iff_not] at *; omega
theorem sort_tm (a : Option Addr) (c : Nat) (l : List TM) (F : List HP) (hll : l.length ≤ 6000000000000) : Sp Try.prog 37 [.slice a l.length c, .func (.func 38) #[] #[]] (trow a c l :: F) fun r M => r = .tuple #[] ∧ ∃ l' : List TM, l'.Perm l ∧ l'.Pairwise (fun x y => ltT y x = false) ∧ M = row 72 3 (.slice a l.length c) l.length (flat tme l') :: F := by
  have eg : ∀ args w, (callFunc 38 args).run Try.prog w = .ok (.enter 38 args) w := enters_of Try.func38 (by kernel_rfl) rfl
  have := sortf_spec (e := 72) Try.sortF 3 (by decide) Try.isAgg72 Try.sizeOf72 tme (fun _ => rfl) (fun x v hv => by simp [tme] at hv; rcases hv with rfl | rfl | rfl <;> rfl) cT (by rw [ltOf_cT]; exact swo_ltT) 38 eg (fun x y F => order_spec F x y) a c l F (by omega)
  rw [ltOf_cT] at this
  exact this
theorem sorted_eq : ∀ {l Q : List TM}, l.Perm Q → l.Pairwise (fun x y => ltT y x = false) → Q.Pairwise (fun x y => ¬ Le y x) → l = Q
  | [], Q, h, _, _ => (List.Perm.nil_eq h)
  | p :: l, [], h, _, _ => absurd h.length_eq (by simp)
  | p :: l, q :: Q, h, h1, h2 => by
    have h1' := List.pairwise_cons.1 h1
    have h2' := List.pairwise_cons.1 h2
    have e : p = q := by
      rcases List.mem_cons.1 (h.mem_iff.1 List.mem_cons_self) with e | hp
      · exact e
      · rcases List.mem_cons.1 (h.mem_iff.2 List.mem_cons_self) with e | hq
        · exact e.symm
        · exact absurd (lt_false.1 (h1'.1 q hq)) (h2'.1 p hp)
    subst e
    rw [sorted_eq ((List.perm_cons p).1 h) h1'.2 h2'.2]
end Go.Proofs.Yteafcajlfagbkaa
