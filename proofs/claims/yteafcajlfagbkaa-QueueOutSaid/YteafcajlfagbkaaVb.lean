/- DERIVED. The walk over what is owned: values that are built, slices that are made and grow. No translation is named here. -/
import Derived.Test.YteafcajlfagbkaaVh
namespace Sl
set_option linter.unusedSimpArgs false
set_option linter.unusedVariables false
open Go Go.RowKit Cv

/-- The parts of a struct laid into its cells. -/
inductive Fil (places : List (Nat × Nat)) : List Value → List (Nat × Value) → List Value → Prop
  | nil {cs : List Value} : Fil places cs [] cs
  | cons {cs cs1 cs2 : List Value} {i o m : Nat} {v : Value} {ps : List (Nat × Value)} (hp : places[i]? = some (o, m + 1)) (hm : (celv v).length = m + 1) (h : Pts cs o (celv v) cs1) (k : Fil places cs1 ps cs2) : Fil places cs ((i, v) :: ps) cs2

theorem Pts.eq {cs cs' vs : List Value} {o : Nat} (h : Pts cs o vs cs') : o + vs.length ≤ cs.length ∨ vs = [] := by
  induction h with
  | nil => exact .inr rfl
  | cons h _ ih =>
    obtain ⟨h1, h2⟩ := h.eq
    subst h2
    left
    rcases ih with ih | rfl
    · simp at ih; simp; omega
    · simp; omega

theorem Pts.fold {cs cs' vs : List Value} {o : Nat} (h : Pts cs o vs cs') : ∀ j, ∀ q, o = q + j → (vs.zipIdx j).foldl (fun (a : Array Value) (c, i) => a.setIfInBounds (q + i) c) cs.toArray = cs'.toArray := by
  induction h with
  | nil => intro j q _; simp
  | cons h _ ih =>
    intro j q e
    obtain ⟨h1, h2⟩ := h.eq
    subst h2
    subst e
    simp only [List.zipIdx_cons, List.foldl_cons]
    have := ih (j + 1) q (by omega)
    simpa using this

theorem Fil.run {places : List (Nat × Nat)} {cs cs' : List Value} {ps : List (Nat × Value)} (h : Fil places cs ps cs') : Instr.fill (fun i => places[i]?) cs.toArray ps = some cs'.toArray := by
  induction h with
  | nil => rfl
  | @cons cs cs1 cs2 i o m v ps hp hm h k ih =>
    unfold Instr.fill
    simp only [hp, celv_eq]
    have hl := h.eq
    have hne : celv v ≠ [] := by intro e; simp [e] at hm
    rw [if_neg]
    · have := h.fold 0 _ rfl
      rw [← ih]
      congr 1
      rw [← this]
      rw [← Array.foldl_toList, Array.toList_zipIdx]
    · simp [hm]
      rcases hl with hl | hl
      · omega
      · exact absurd hl hne

/-- The fields' places. -/
inductive Pls (P : Program) : List Field → List (Nat × Nat) → Prop
  | nil : Pls P [] []
  | cons {f : Field} {fs : List Field} {ps : List (Nat × Nat)} {d : TypeDesc} {z : Value} {n b : Nat} (i : Ty P f.type d z n b) (k : Pls P fs ps) : Pls P (f :: fs) ((f.offset, n) :: ps)

theorem Pls.run {P : Program} {fs : List Field} {ps : List (Nat × Nat)} (h : Pls P fs ps) {f : Field → Sem (Nat × Nat)} (hf : ∀ x, f x = (do pure (x.offset, ← Go.sizeOf x.type))) (w : World) : (fs.mapM f).run P w = .ok ps w := by
  induction h with
  | nil => simp
  | cons i _ ih => simp [List.mapM_cons, hf, i.run_size, ih]

def evp (E : Env) : List (Nat × Operand) → Option (List (Nat × Value))
  | [] => some []
  | (i, x) :: xs => match ev E x, evp E xs with
    | some v, some vs => some ((i, v) :: vs)
    | _, _ => none

theorem Fit.evalp {N : Nat} {E : Env} {a : Act} (h : Fit N E a) : ∀ {xs : List (Nat × Operand)} {vs : List (Nat × Value)}, evp E xs = some vs → xs.map (fun (i, x) => (i, a.eval x)) = vs
  | [], vs, e => by simpa [evp] using e
  | (i, x) :: xs, vs, e => by
    unfold evp at e
    cases h1 : ev E x with
    | none => simp [h1] at e
    | some v =>
      cases h2 : evp E xs with
      | none => simp [h1, h2] at e
      | some us =>
        simp only [h1, h2, Option.some.injEq] at e
        subst e
        simp [h.eval h1, h.evalp h2]

section
variable {P : Program} {Q : Exit → Act → World → Prop} {K : Act → World → Prop} {w0 : World} {N : Nat} {E : Env} {L R : List HP} {d : Option Nat} {ty : TypeId} {pos : String} {af : Array Edge} {g : Option (Nat × Bool)} {x y c : Operand} {v u : Value} {T : TypeId} {dt : TypeDesc} {z : Value} {n b : Nat}

theorem pu_build {fs : List Field} {ps : List (Nat × Operand)} {pv : List (Nat × Value)} {pl : List (Nat × Nat)} {cs : List Value} (i : Ty P T (.struct fs.toArray) z n b) (hx : evp E ps = some pv) (hp : Pls P fs pl) (hf : Fil pl (celv z) pv cs) :
    Pu P ⟨d, .build T ps.toArray, ty, pos, af, g⟩ N E L (.agg cs.toArray) := ⟨fun a w f s => by
  have h1 := f.evalp hx
  have h2 := hf.run
  have h3 := hp.run (f := fun f => do pure (f.offset, ← Go.sizeOf f.type)) (fun _ => rfl) w
  simp [execOp, Instr.build, i.run_und, i.run_zero, h1, celv_eq, List.mapM_toArray]
  simp at h3
  rw [h3]
  simp [h2]⟩

/-! ### slices that are made -/
theorem flatMap_len {l : List Value} {m : Nat} (h : ∀ v ∈ l, (celv v).length = m) : (l.flatMap celv).length = l.length * m := by
  induction l with
  | nil => simp
  | cons a l ih => simp [ih (fun v hv => h v (by simp [hv])), h a (by simp), Nat.add_mul]; omega

theorem fill_row {m : Nat} (hm : 0 < m) : ∀ (l : List Value) (k : Nat) (cs : List Value), (∀ v ∈ l, (celv v).length = m) → cs.length = (k + l.length) * m →
    Instr.fill (fun i => some (i * m, m)) cs.toArray ((l.zipIdx k).map fun (v, i) => (i, v)) = some ((cs.take (k * m)) ++ l.flatMap celv).toArray
  | [], k, cs, _, hc => by simp [Instr.fill, List.take_of_length_le (show cs.length ≤ k * m by simp at hc; omega)]
  | v :: l, k, cs, h, hc => by
    have hv := h v (by simp)
    simp only [List.zipIdx_cons, List.map_cons]
    unfold Instr.fill
    simp only [celv_eq, List.size_toArray]
    have hlen : cs.length = k * m + m + l.length * m := by rw [hc]; simp [Nat.add_mul]; omega
    rw [if_neg (by simp [hv]; omega)]
    have hfold : ∀ (vs : List Value) (j : Nat) (ds : List Value), k * m + j + vs.length ≤ ds.length → (vs.zipIdx j).foldl (fun (a : Array Value) (c, i) => a.setIfInBounds (k * m + i) c) ds.toArray = (ds.take (k * m + j) ++ vs ++ ds.drop (k * m + j + vs.length)).toArray := by
      intro vs
      induction vs with
      | nil => intro j ds _; simp
      | cons u vs ih =>
        intro j ds hd
        simp only [List.length_cons] at hd
        simp only [List.zipIdx_cons, List.foldl_cons, List.setIfInBounds_toArray]
        rw [ih (j + 1) _ (by simp; omega)]
        congr 1
        rw [show k * m + (j + 1) = k * m + j + 1 from by omega]
        rw [List.take_succ_eq_append_getElem (by simp; omega)]
        simp only [List.take_set_of_le (Nat.le_refl _), List.getElem_set_self, List.append_assoc, List.cons_append, List.nil_append]
        rw [List.drop_set_of_lt (by omega)]
        simp [Nat.add_assoc, Nat.add_comm 1]
    rw [← Array.foldl_toList, Array.toList_zipIdx, hfold _ 0 _ (by simp only [List.toList_toArray]; omega)]
    have := fill_row hm l (k + 1) (cs.take (k * m + 0) ++ celv v ++ cs.drop (k * m + 0 + (celv v).length)) (fun v hv => h v (by simp [hv])) (by simp only [List.length_append, List.length_take, List.length_drop, hv, Nat.add_zero]; rw [hlen, Nat.add_mul, Nat.add_mul, Nat.one_mul]; omega)
    simp only [List.toList_toArray]
    rw [this]
    congr 2
    have e : (k + 1) * m = k * m + m := by rw [Nat.add_mul]; omega
    rw [e]
    simp only [Nat.add_zero, List.flatMap_cons]
    rw [List.append_assoc, List.take_append]
    have h1 : List.take (k * m + m) (List.take (k * m) cs) = List.take (k * m) cs := List.take_of_length_le (by simp; omega)
    have h2 : k * m + m - (List.take (k * m) cs).length = (celv v).length := by rw [List.length_take, hlen]; omega
    rw [h1, h2]
    simp
end
end Sl
