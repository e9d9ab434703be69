/- DERIVED. The walk over what is owned: functions as values. No translation is named here. -/
import Derived.Test.YteafcajlfagbkaaVm
namespace Sl
set_option linter.unusedSimpArgs false
set_option linter.unusedVariables false
open Go Go.RowKit Cv
section
variable {P : Program} {Q : Exit → Act → World → Prop} {K : Act → World → Prop} {w0 : World} {N t : Nat} {E : Env} {L : List HP} {d : Option Nat} {ty : TypeId} {pos : String} {af : Array Edge} {g : Option (Nat × Bool)} {x y : Operand}
theorem p_mf {fn : Fn} {fs cs : List Operand} {us vs : List Value} (h1 : evs E fs = some us := by rfl) (h2 : evs E cs = some vs := by rfl) : Pu P ⟨d, .makeFunc fn fs.toArray cs.toArray, ty, pos, af, g⟩ N E L (.func fn us.toArray vs.toArray) := ⟨fun a w f _ => by
  have e1 := f.evals h1
  have e2 := f.evals h2
  simp [execOp, Instr.makeFunc, e1, e2]⟩
theorem p_eqf {T T' : TypeId} {z : Value} {n b : Nat} {ps rs : Array TypeId} {va : Bool} {fn : Fn} {us vs : Array Value} [i : Ty P T (.func ps rs va) z n b] (h1 : ev E x = some (.func fn us vs) := by rfl) (h2 : ev E y = some .nilFunc := by rfl) :
    Pu P ⟨d, .binOp .eql T x y T', ty, pos, af, g⟩ N E L (.bool false) := ⟨fun a w f _ => by
  have : (Op.equal T (.func fn us vs) .nilFunc).run P w = .ok false w := by
    have : ∀ k : Nat, (Op.equalIn (k + 1) T (.func fn us vs) .nilFunc).run P w = .ok false w := fun k => by simp [Op.equalIn, i.run_und]
    simpa [Op.equal, Op.maxDepth] using this 9999
  simp [execOp, f.eval h1, f.eval h2, eqGuard, binOp, this]⟩
theorem wx_callv {f : FuncId} {args caps : List Value} {Post : Value → List HP → Prop} {M : List HP} {xs : List Operand} {ts : Array TypeId} {c : Operand}
    (hf : FnOk P f) (hc : ev E c = some (.func (.func f) #[] caps.toArray)) (hx : evs E xs = some args) (hs : Sp P f (args ++ caps) M Post) (e : Ent L M) (hd : okd N d = true) (h : ∀ r L', Post r L' → KQ K w0 N (pe E d r) L') :
    WX P Q ⟨d, .call ⟨.value c, xs.toArray, ts⟩, ty, pos, af, g⟩ K w0 N E L := by
  refine ⟨fun a w ft s => ?_⟩
  obtain ⟨fn, h1, h2, h3⟩ := hf.ok
  have he : (execOp a.eval ⟨d, .call ⟨.value c, xs.toArray, ts⟩, ty, pos, af, g⟩).run P w = .ok (.enter f (args ++ caps).toArray) w := by
    have := ft.evals hx
    have h2' : ¬ fn.name = "runtime.NumGoroutine" := by simpa using h2
    have h3' : ¬ fn.body = none := fun e => by simp [e] at h3
    simp [execOp, resolve, ft.eval hc, Deferred.ofValue, invoke, callFunc, h1, h2', h3', this]
  unfold Oper.wp
  rw [he]
  exact (hs.run w0 w (s.ent e)).mono fun en w' ⟨r, L', hr, hq, hs'⟩ => by
    subst hr
    exact (h r L' hq).run _ _ (ft.put hd r) hs'
theorem w_callv {f : FuncId} {args caps as : List Value} {Post : Value → List HP → Prop} {M : List HP} {xs : List Operand} {ts : Array TypeId} {c : Operand} (hs : Sp P f as M Post) (h : ∀ r L', Post r L' → KQ K w0 N ((t, r) :: E) L') [hf : FnOk P f]
    (hc : ev E c = some (.func (.func f) #[] caps.toArray) := by rfl) (hx : evs E xs = some args := by rfl) (ha : args ++ caps = as := by rfl) (e : Ent L M := by ((repeat (first | with_reducible exact Ent.rfl | with_reducible exact Ent.nil | ((with_reducible apply Ent.cons); focus ((repeat (first | exact Sel.here | apply Sel.there)); done)) | with_reducible refine Ent.drop ?_)); done)) (hd : Nat.blt t N = true := by rfl) :
    WX P Q ⟨some t, .call ⟨.value c, xs.toArray, ts⟩, ty, pos, af, g⟩ K w0 N E L := wx_callv hf hc hx (ha ▸ hs) e hd h
end
end Sl
