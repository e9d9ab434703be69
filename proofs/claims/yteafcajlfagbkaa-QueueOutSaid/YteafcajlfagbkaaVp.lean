/- DERIVED. Parts whose inside is hidden: opened ahead of a call, shut behind it. No translation is named here. -/
import Derived.Test.YteafcajlfagbkaaVm
namespace Sl
set_option linter.unusedSimpArgs false
set_option linter.unusedVariables false
open Go Go.RowKit Cv
theorem Sat.exI {α : Type} {A : HP} {B : α → List HP} (hA : ∀ h, A h → ∃ x, Sat h (B x)) {F : List HP} {h : PH} (s : Sat h (A :: F)) : ∃ x, Sat h (B x ++ F) := by
  obtain ⟨S, a, hl⟩ := s
  obtain ⟨x, hx⟩ := hA _ a
  exact ⟨x, Sat.flat ⟨S, hx, hl⟩⟩
theorem Ent.exI {A : HP} {B : List HP} (hA : ∀ h, Sat h B → A h) {F : List HP} : Ent (B ++ F) (A :: F) := fun _ s => by
  obtain ⟨S, a, hl⟩ := s.fold
  exact ⟨S, hA _ a, hl⟩
theorem Sp.exI {α : Type} {A : HP} {B : α → List HP} (hA : ∀ h, A h → ∃ x, Sat h (B x)) {P : Program} {f : FuncId} {args : List Value} {F : List HP} {Post : Value → List HP → Prop} (H : ∀ x, Sp P f args (B x ++ F) Post) : Sp P f args (A :: F) Post :=
  ⟨fun w0 w s => by
    obtain ⟨x, hx⟩ := Sat.exI hA s.2
    exact (H x).run w0 w ⟨s.1, hx⟩⟩
theorem KQ.exI {α : Type} {A : HP} {B : α → List HP} (hA : ∀ h, A h → ∃ x, Sat h (B x)) {K : Act → World → Prop} {w0 : World} {N : Nat} {E : Env} {F : List HP} (H : ∀ x, KQ K w0 N E (B x ++ F)) : KQ K w0 N E (A :: F) :=
  ⟨fun a w f s => by
    obtain ⟨x, hx⟩ := Sat.exI hA s.2
    exact (H x).run a w f ⟨s.1, hx⟩⟩
section
variable {P : Program} {N : Nat} {E : Env} {L : List HP} {d : Option Nat} {ty : TypeId} {pos : String} {af : Array Edge} {g : Option (Nat × Bool)} {x : Operand} {T : TypeId} {z v : Value} {n b : Nat}
theorem p_partl {fs : List Field} {f : Field} {i : Nat} {cs : List Value} {d1 : TypeDesc} {z1 : Value} {n1 b1 : Nat} [it : Ty P T (.struct fs.toArray) z n b] (h : ev E x = some (.agg cs.toArray) := by rfl) (hf : fs[i]? = some f := by rfl) (i2 : Ty P f.type d1 z1 n1 b1 := by infer_instance) (hd : aggD d1 = false := by rfl) (hv : cs[f.offset]? = some v := by rfl) :
    Pu P ⟨d, .field T x i, ty, pos, af, g⟩ N E L v := pu_part it (by simpa using hf) i2 hd h hv
theorem p_partal {fs : List Field} {f : Field} {i : Nat} {cs vs : List Value} {d1 : TypeDesc} {z1 : Value} {n1 b1 : Nat} [it : Ty P T (.struct fs.toArray) z n b] (h : ev E x = some (.agg cs.toArray) := by rfl) (hf : fs[i]? = some f := by rfl) (i2 : Ty P f.type d1 z1 n1 b1 := by infer_instance) (hd : aggD d1 = true := by rfl) (hv : Tk cs f.offset n1 vs := by ((repeat (first | with_reducible exact Tk.zero | (apply Tk.succ; focus rfl))); done)) :
    Pu P ⟨d, .field T x i, ty, pos, af, g⟩ N E L (.agg vs.toArray) := pu_part_agg it (by simpa using hf) i2 hd h hv
end
end Sl
