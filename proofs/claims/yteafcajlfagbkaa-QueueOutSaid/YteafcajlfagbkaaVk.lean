/- DERIVED. The walk over what is owned: strings cut and compared; library functions met by their laws. No translation is named here. -/
import Derived.Test.YteafcajlfagbkaaVz
import Derived.Lib.Bytealg
namespace Sl
set_option linter.unusedSimpArgs false
set_option linter.unusedVariables false
open Go Go.RowKit Cv
section
variable {P : Program} {Q : Exit → Act → World → Prop} {K : Act → World → Prop} {w0 : World} {N t : Nat} {E : Env} {L R : List HP} {d : Option Nat} {ty : TypeId} {pos : String} {af : Array Edge} {g : Option (Nat × Bool)} {x y c : Operand} {T T' : TypeId} {z : Value} {n b : Nat} {k k' : IntKind}
/-- A part of a string. -/
theorem p_sls {s : ByteArray} {l h : Int} [i : Ty P T .string z n b] (h1 : ev E x = some (.string s) := by rfl) (h2 : ev E y = some (.int k l) := by rfl) (h3 : ev E c = some (.int k' h) := by rfl) (hb : 0 ≤ l ∧ l ≤ h := by omega) (hc : h ≤ (s.size : Int) := by omega) :
    Pu P ⟨d, .slice T x (some y) (some c) none, ty, pos, af, g⟩ N E L (.string (s.extract l.toNat h.toNat)) := ⟨fun a w f _ => by
  have h0 : 0 ≤ h := Int.le_trans hb.1 hb.2
  have h5 : l ≤ max h 0 := by omega
  simp [execOp, f.eval h1, f.eval h2, f.eval h3, Instr.sliceAt, Instr.slice, Instr.sliceBounds, Instr.sliceBound, asIntOf, i.run_und, hb.1, hb.2, hc, h0, h5]⟩
theorem p_slsl {s : ByteArray} {l : Int} [i : Ty P T .string z n b] (h1 : ev E x = some (.string s) := by rfl) (h2 : ev E y = some (.int k l) := by rfl) (hb : 0 ≤ l ∧ l ≤ (s.size : Int) := by omega) :
    Pu P ⟨d, .slice T x (some y) none none, ty, pos, af, g⟩ N E L (.string (s.extract l.toNat s.size)) := ⟨fun a w f _ => by
  simp [execOp, f.eval h1, f.eval h2, Instr.sliceAt, Instr.slice, Instr.sliceBounds, Instr.sliceBound, asIntOf, i.run_und, hb.1, hb.2]⟩
theorem p_slsh {s : ByteArray} {h : Int} [i : Ty P T .string z n b] (h1 : ev E x = some (.string s) := by rfl) (h2 : ev E y = some (.int k h) := by rfl) (hb : 0 ≤ h ∧ h ≤ (s.size : Int) := by omega) :
    Pu P ⟨d, .slice T x none (some y) none, ty, pos, af, g⟩ N E L (.string (s.extract 0 h.toNat)) := ⟨fun a w f _ => by
  simp [execOp, f.eval h1, f.eval h2, Instr.sliceAt, Instr.slice, Instr.sliceBounds, Instr.sliceBound, asIntOf, i.run_und, hb.1, hb.2]⟩
/-- A call of a function without a body, that tells a value and does nothing else. -/
theorem w_ext {f : FuncId} {fn : Func} {xs : List Operand} {ts : Array TypeId} {args : List Value} {v : Value} {e : Array Value → Sem Value} (h : KQ K w0 N ((t, v) :: E) L) (hf : P.funcs[f]? = some fn) (he : Extern.find fn = some e) (hr : ∀ w, (e args.toArray).run P w = .ok v w) (h1 : evs E xs = some args := by rfl) (hn : (fn.name == "runtime.NumGoroutine") = false := by kernel_rfl) (hb : fn.body.isNone = true := by kernel_rfl) (hx : Extern.findNext fn = none := by kernel_rfl) (hd : Nat.blt t N = true := by rfl) :
    WX P Q ⟨some t, .call ⟨.value (.func f), xs.toArray, ts⟩, ty, pos, af, g⟩ K w0 N E L := ⟨fun a w ft sy => by
  have hev := ft.evals h1
  have hex : (execOp a.eval ⟨some t, .call ⟨.value (.func f), xs.toArray, ts⟩, ty, pos, af, g⟩).run P w = .ok (.value v) w := by
    simp [execOp, resolve, Act.eval, Deferred.ofValue, invoke, run_callFunc_extern hf hn hb hx he, hev, hr, Result.andThen]
  unfold Oper.wp
  rw [hex]
  exact h.run _ _ (ft.put (d := some t) hd _) sy⟩
/-- A contract that leaves all old blocks alone. -/
theorem Sp.below {f : FuncId} {args : List Value} {r : Value} (h : ∀ w, Calls P f args.toArray w fun e w' => e = .returned r ∧ Below w.heap.size w w' ∧ w.drawn ≤ w'.drawn) : Sp P f args L fun r' M => r' = r ∧ M = L :=
  ⟨fun w0 w s => (h w).mono fun e w' ⟨he, hb, hd⟩ => ⟨r, L, he, ⟨rfl, rfl⟩, s.below hb hd⟩⟩
theorem Sp.still {f : FuncId} {args : List Value} {r : Value} (h : ∀ w, Calls P f args.toArray w fun e w' => e = .returned r ∧ w' = w) : Sp P f args L fun r' M => r' = r ∧ M = L :=
  ⟨fun w0 w s => (h w).mono fun e w' ⟨he, hw⟩ => ⟨r, L, he, ⟨rfl, rfl⟩, by subst hw; exact s⟩⟩
end
end Sl
