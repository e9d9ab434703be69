/- DERIVED. The walk over what is owned: methods through interfaces. No translation is named here. -/
import Derived.Test.YteafcajlfagbkaaVn
import Derived.Test.YteafcajlfagbkaaVk
namespace Sl
set_option linter.unusedSimpArgs false
set_option linter.unusedVariables false
open Go Go.RowKit Cv
/-- A type's method: its function, and whether it asks a pointer. -/
def meth (P : Program) (T : TypeId) (name : String) : Option (Nat × Option (FuncId × Bool)) :=
  (P.info? T).bind fun i => (i.methods.find? (·.name == name)).map fun m => (m.path.size, m.func)
section
variable {P : Program} {Q : Exit → Act → World → Prop} {K : Act → World → Prop} {w0 : World} {N t : Nat} {E : Env} {L R : List HP} {d : Option Nat} {ty : TypeId} {pos : String} {af : Array Edge} {g : Option (Nat × Bool)} {x y c : Operand} {T T' : TypeId} {z v : Value} {n b : Nat} {dt : TypeDesc}
theorem p_mifp {e : TypeId} [i : Ty P T (.pointer e) z n b] (h : ev E x = some v := by rfl) : Pu P ⟨d, .makeInterface T x, ty, pos, af, g⟩ N E L (.iface T v) := ⟨fun a w f _ => by
  simp [execOp, f.eval h, Instr.makeInterface, i.run_und]⟩
theorem p_mifs {fs : Array Field} [i : Ty P T (.struct fs) z n b] (h : ev E x = some v := by rfl) : Pu P ⟨d, .makeInterface T x, ty, pos, af, g⟩ N E L (.iface T v) := ⟨fun a w f _ => by
  simp [execOp, f.eval h, Instr.makeInterface, i.run_und]⟩
theorem p_tas {fs : Array Field} [i : Ty P T (.struct fs) z n b] (h : ev E x = some (.iface T v) := by rfl) : Pu P ⟨d, .typeAssert x T' T false, ty, pos, af, g⟩ N E L v := ⟨fun a w f _ => by
  simp [execOp, f.eval h, Instr.typeAssert, i.run_und]⟩
theorem meth_open {T : TypeId} {name : String} {f : FuncId} {pr : Bool} (h : meth P T name = some (0, some (f, pr))) : ∃ i m, P.info? T = some i ∧ i.methods.find? (·.name == name) = some m ∧ m.path = #[] ∧ m.func = some (f, pr) := by
  unfold meth at h
  cases hi : P.info? T with
  | none => simp [hi] at h
  | some i =>
    rw [hi] at h
    simp only [Option.bind_some] at h
    cases hm : i.methods.find? (·.name == name) with
    | none => rw [hm] at h; simp at h
    | some m =>
      rw [hm] at h
      simp only [Option.map_some, Option.some.injEq, Prod.mk.injEq] at h
      exact ⟨i, m, rfl, hm, Array.eq_empty_of_size_eq_zero h.1, h.2⟩
theorem wx_invp {f : FuncId} {args : List Value} {Post : Value → List HP → Prop} {M : List HP} {xs : List Operand} {ts : Array TypeId} {name : String} {e : TypeId} (hf : FnOk P f) (hm : meth P T name = some (0, some (f, true))) (hu : P.underlying T = some (.pointer e)) (hd0 : (P.types.size == 0) = false)
    (hr : ev E x = some (.iface T v)) (hx : evs E xs = some args) (hs : Sp P f (v :: args) M Post) (en : Ent L M) (hd : okd N d = true) (h : ∀ r L', Post r L' → KQ K w0 N (pe E d r) L') :
    WX P Q ⟨d, .call ⟨.invoke x name, xs.toArray, ts⟩, ty, pos, af, g⟩ K w0 N E L := by
  refine ⟨fun a w ft s => ?_⟩
  obtain ⟨fn, h1, h2, h3⟩ := hf.ok
  obtain ⟨i, m, m1, m2, m3, m4⟩ := meth_open hm
  obtain ⟨k, hk⟩ : ∃ k, P.types.size + Made.depth = k + 1 := by
    have : P.types.size ≠ 0 := by simpa using hd0
    exact ⟨P.types.size + Made.depth - 1, by omega⟩
  have he : (execOp a.eval ⟨d, .call ⟨.invoke x name, xs.toArray, ts⟩, ty, pos, af, g⟩).run P w = .ok (.enter f (v :: args).toArray) w := by
    have := ft.evals hx
    have h2' : ¬ fn.name = "runtime.NumGoroutine" := by simpa using h2
    have h3' : ¬ fn.body = none := fun e => by simp [e] at h3
    have hme : (Go.method (P.types.size + Made.depth) T v name).run P w = .ok (f, v) w := by
      rw [hk]
      simp [Go.method, typeInfo, m1, m2, m3, m4, Go.follow, Go.receiverAt, underlying, hu, Go.Place.get]
    simp [execOp, resolve, ft.eval hr, invoke, callMethod, this, hme, Result.andThen, callFunc, h1, h2', h3']
  unfold Oper.wp
  rw [he]
  exact (hs.run w0 w (s.ent en)).mono fun en w' ⟨r, L', hr, hq, hs'⟩ => by
    subst hr
    exact (h r L' hq).run _ _ (ft.put hd r) hs'
theorem w_invp {f : FuncId} {args : List Value} {Post : Value → List HP → Prop} {M : List HP} {xs : List Operand} {ts : Array TypeId} {name : String} {e : TypeId} (hs : Sp P f (v :: args) M Post) (h : ∀ r L', Post r L' → KQ K w0 N ((t, r) :: E) L') [hf : FnOk P f] [hu : Ty P T (.pointer e) z n b] (hm : meth P T name = some (0, some (f, true)) := by kernel_rfl) (hd0 : (P.types.size == 0) = false := by kernel_rfl)
    (hr : ev E x = some (.iface T v) := by rfl) (hx : evs E xs = some args := by rfl) (en : Ent L M := by ((repeat (first | with_reducible exact Ent.rfl | with_reducible exact Ent.nil | ((with_reducible apply Ent.cons); focus ((repeat (first | exact Sel.here | apply Sel.there)); done)) | with_reducible refine Ent.drop ?_)); done)) (hd : Nat.blt t N = true := by rfl) :
    WX P Q ⟨some t, .call ⟨.invoke x name, xs.toArray, ts⟩, ty, pos, af, g⟩ K w0 N E L := wx_invp hf hm hu.und hd0 hr hx hs en hd h
/-- A method of the value behind a pointer. -/
theorem w_invv {f : FuncId} {args : List Value} {Post : Value → List HP → Prop} {M : List HP} {xs : List Operand} {ts : Array TypeId} {name : String} {e : TypeId} {ad : Addr} {u ze : Value} {ne be : Nat} {de : TypeDesc} (hs : Sp P f (u :: args) M Post) (h : ∀ r L', Post r L' → KQ K w0 N ((t, r) :: E) L') [hf : FnOk P f] (hr : ev E x = some (.iface T (.pointer (some ad))) := by rfl) (hu : Ty P T (.pointer e) z n b := by infer_instance) (ie : Ty P e de ze ne be := by infer_instance) (hm : meth P T name = some (0, some (f, false)) := by kernel_rfl) (hd0 : (P.types.size == 0) = false := by kernel_rfl)
    (hag : aggD de = false := by rfl) (hrd : Rd L ad u := by (first | ((with_reducible apply Rd.blk); (focus ((repeat (first | exact Sel.here | apply Sel.there)); done)); (focus rfl)) | (apply Reads.rd; (focus (first | (apply Reads.row; focus ((repeat (first | exact Sel.here | apply Sel.there)); done)) | (apply reads_blk; focus ((repeat (first | exact Sel.here | apply Sel.there)); done)) | ((refine Reads.ent (by assumption) ?_); ((repeat (first | with_reducible exact Ent.rfl | with_reducible exact Ent.nil | ((with_reducible apply Ent.cons); focus ((repeat (first | exact Sel.here | apply Sel.there)); done)) | with_reducible refine Ent.drop ?_)); done)))); (focus (first | ((try simp only [Int.toNat_natCast, Nat.mul_one, Nat.zero_mul, Nat.one_mul, Nat.zero_add, Nat.add_zero]); assumption) | rfl))) | assumption)) (hx : evs E xs = some args := by rfl) (en : Ent L M := by ((repeat (first | with_reducible exact Ent.rfl | with_reducible exact Ent.nil | ((with_reducible apply Ent.cons); focus ((repeat (first | exact Sel.here | apply Sel.there)); done)) | with_reducible refine Ent.drop ?_)); done)) (hd : Nat.blt t N = true := by rfl) :
    WX P Q ⟨some t, .call ⟨.invoke x name, xs.toArray, ts⟩, ty, pos, af, g⟩ K w0 N E L := by
  refine ⟨fun a w ft s => ?_⟩
  obtain ⟨fn, h1, h2, h3⟩ := hf.ok
  obtain ⟨i, m, m1, m2, m3, m4⟩ := meth_open hm
  obtain ⟨k, hk⟩ : ∃ k, P.types.size + Made.depth = k + 1 := by
    have : P.types.size ≠ 0 := by simpa using hd0
    exact ⟨P.types.size + Made.depth - 1, by omega⟩
  have he : (execOp a.eval ⟨some t, .call ⟨.invoke x name, xs.toArray, ts⟩, ty, pos, af, g⟩).run P w = .ok (.enter f (u :: args).toArray) w := by
    have := ft.evals hx
    have h2' : ¬ fn.name = "runtime.NumGoroutine" := by simpa using h2
    have h3' : ¬ fn.body = none := fun e => by simp [e] at h3
    have hl : (loadVar e ad).run P w = .ok u w := by simp [loadVar, ie.run_agg, hag, hrd w s.2]
    have hwn : ∀ nm : String, (Builtin.ssaWrapNilChk_ #[T] T #[.pointer (some ad), strVal "", strVal nm]).run P w = .ok (.pointer (some ad)) w := fun _ => rfl
    have hme : (Go.method (P.types.size + Made.depth) T (.pointer (some ad)) name).run P w = .ok (f, u) w := by
      rw [hk]
      simp [Go.method, typeInfo, m1, m2, m3, m4, Go.follow, Go.receiverAt, underlying, hu.und, Go.Place.get, hwn, asAddr, hl]
    simp [execOp, resolve, ft.eval hr, invoke, callMethod, this, hme, Result.andThen, callFunc, h1, h2', h3']
  unfold Oper.wp
  rw [he]
  exact (hs.run w0 w (s.ent en)).mono fun en w' ⟨r, L', hr, hq, hs'⟩ => by
    subst hr
    exact (h r L' hq).run _ _ (ft.put (d := some t) hd r) hs'
end
end Sl
