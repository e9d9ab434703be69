/- DERIVED. The walk over what is owned: maps in interfaces, maps.clone, maps held against nil. No translation is named here. -/
import Derived.Test.YteafcajlfagbkaaVc
import Derived.Laws.Externs
namespace Sl
set_option linter.unusedSimpArgs false
set_option linter.unusedVariables false
open Go Go.RowKit Cv
section
variable {P : Program} {Q : Exit → Act → World → Prop} {K : Act → World → Prop} {w0 : World} {N t : Nat} {E : Env} {L R : List HP} {d : Option Nat} {ty : TypeId} {pos : String} {af : Array Edge} {g : Option (Nat × Bool)} {x y : Operand} {T T' kt et : TypeId} {z : Value} {n b : Nat} {v : Value}
theorem p_mif [i : Ty P T (.map kt et) z n b] (h : ev E x = some v := by rfl) : Pu P ⟨d, .makeInterface T x, ty, pos, af, g⟩ N E L (.iface T v) := ⟨fun a w f _ => by
  simp [execOp, f.eval h, Instr.makeInterface, i.run_und]⟩
theorem p_tam [i : Ty P T (.map kt et) z n b] (h : ev E x = some (.iface T v) := by rfl) : Pu P ⟨d, .typeAssert x T' T false, ty, pos, af, g⟩ N E L v := ⟨fun a w f _ => by
  simp [execOp, f.eval h, Instr.typeAssert, i.run_und]⟩
theorem p_eqm {m : Nat} [i : Ty P T (.map kt et) z n b] (h1 : ev E x = some (.map (some m)) := by rfl) (h2 : ev E y = some (.map none) := by rfl) : Pu P ⟨d, .binOp .eql T x y T', ty, pos, af, g⟩ N E L (.bool false) := ⟨fun a w f _ => by
  have : (Op.equal T (.map (some m)) (.map none)).run P w = .ok false w := by
    have : ∀ k : Nat, (Op.equalIn (k + 1) T (.map (some m)) (.map none)).run P w = .ok false w := fun k => by simp [Op.equalIn, i.run_und]
    simpa [Op.equal, Op.maxDepth] using this 9999
  simp [execOp, f.eval h1, f.eval h2, eqGuard, binOp, this]⟩
variable {κ ν : Type} {m : Nat} {ek : κ → Value} {ev' : ν → Value} {kv : List (κ × ν)}
theorem w_mcl {f : FuncId} {fn : Func} {xs : List Operand} {ts : Array TypeId} (h : ∀ q, KQ K w0 N ((t, .iface T (.map (some q))) :: E) (mp q ek ev' kv :: mp m ek ev' kv :: R)) (hf : P.funcs[f]? = some fn) (h1 : evs E xs = some [.iface T (.map (some m))] := by rfl) (s : Sel L (mp m ek ev' kv) R := by ((repeat (first | exact Sel.here | apply Sel.there)); done)) (hn : (fn.name == "runtime.NumGoroutine") = false := by kernel_rfl) (hb : fn.body.isNone = true := by kernel_rfl) (hx : Extern.findNext fn = none := by kernel_rfl) (he : Extern.find fn = some Extern.MapsClone.clone := by kernel_rfl) (hd : Nat.blt t N = true := by rfl) :
    WX P Q ⟨some t, .call ⟨.value (.func f), xs.toArray, ts⟩, ty, pos, af, g⟩ K w0 N E L := ⟨fun a w ft sy => by
  have sy' := sy.ent fun _ q => s.sat q
  obtain ⟨es, clock, hbk, h2, h3, h4, h5⟩ := (sy'.2.head mp_mono).is
  have hbk' : w.heap[m]? = some (.map es clock) := hbk
  have hrun : (Extern.MapsClone.clone #[.iface T (.map (some m))]).run P w = .ok (.iface T (.map (some w.heap.size))) (w.alloc (.map es clock)) := by
    have e : Extern.MapsClone.clone #[.iface T (.map (some m))] = (getObj m >>= fun o => match o with
      | .map entries clock => (newObj (.map entries clock) >>= fun n => pure (.iface T (.map (some n))))
      | _ => stuck "maps.clone: a map expected") := rfl
    rw [e]
    simp [MapKept.run_getObj_map hbk', Result.andThen, go_sem]
  have hev := ft.evals h1
  have hex : (execOp a.eval ⟨some t, .call ⟨.value (.func f), xs.toArray, ts⟩, ty, pos, af, g⟩).run P w = .ok (.value (.iface T (.map (some w.heap.size)))) (w.alloc (.map es clock)) := by
    simp [execOp, resolve, Act.eval, Deferred.ofValue, invoke, run_callFunc_extern hf hn hb hx he, hev, hrun, Result.andThen]
  unfold Oper.wp
  rw [hex]
  refine (h w.heap.size).run _ _ (ft.put (d := some t) hd _) ?_
  refine (sy'.alloc (.map es clock)).ent fun h' hs => ?_
  obtain ⟨S, ⟨ha⟩, hl⟩ := hs
  exact ⟨S, ⟨es, clock, ha, h2, h3, h4, h5⟩, hl⟩⟩
end
end Sl
