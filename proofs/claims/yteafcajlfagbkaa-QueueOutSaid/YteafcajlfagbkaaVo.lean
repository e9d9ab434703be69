/- DERIVED. The walk over what is owned: rules for operations. No translation is named here. -/
import Derived.Test.YteafcajlfagbkaaVw
import Derived.Deep.MidRow
namespace Sl
set_option linter.unusedSimpArgs false
set_option linter.unusedVariables false
open Go Go.RowKit Cv

/-- A type's row. -/
class Ty (P : Program) (T : TypeId) (d : outParam TypeDesc) (z : outParam Value) (n b : outParam Nat) : Prop where
  und : P.underlying T = some d
  info : ∃ i, P.info? T = some i ∧ i.zero = some z ∧ i.size = n ∧ i.bytes = b

theorem Ty.mk' {P : Program} {T : TypeId} {d : TypeDesc} {z : Value} {n b : Nat} (h0 : P.underlying T = some d) (h : (P.info? T).map (fun i => (i.zero, i.size, i.bytes)) = some (some z, n, b)) : Ty P T d z n b := by
  obtain ⟨i, h1, h2, h3, h4⟩ := info_parts h
  exact ⟨h0, i, h1, h2, h3, h4⟩

/-- A field's place. -/
class Fld (P : Program) (T : TypeId) (i : Nat) (o : outParam Nat) : Prop where
  ok : ∃ fs f d z n b, P.underlying T = some (.struct fs) ∧ fs[i]? = some f ∧ f.offset = o ∧ Ty P f.type d z (n + 1) b

def aggD : TypeDesc → Bool
  | .struct _ | .array _ _ => true
  | _ => false

section
variable {P : Program} {T : TypeId} {d : TypeDesc} {z : Value} {n b : Nat}
theorem Ty.run_und (h : Ty P T d z n b) (w : World) : (underlying T).run P w = .ok d w := by simp [underlying, h.und]
theorem Ty.run_size (h : Ty P T d z n b) (w : World) : (Go.sizeOf T).run P w = .ok n w := by
  obtain ⟨i, h1, _, h3, _⟩ := h.info
  simp [Go.sizeOf, typeInfo, h1, h3]
theorem Ty.run_info (h : Ty P T d z n b) : ∃ i, (∀ w, (typeInfo T).run P w = .ok i w) ∧ i.size = n ∧ i.bytes = b := by
  obtain ⟨i, h1, _, h3, h4⟩ := h.info
  exact ⟨i, fun w => by simp [typeInfo, h1], h3, h4⟩
theorem Ty.run_zero (h : Ty P T d z n b) (w : World) : (zeroValue T).run P w = .ok z w := by
  obtain ⟨i, h1, h2, _, _⟩ := h.info
  simp [zeroValue, typeInfo, h1, h2]
theorem Ty.run_agg (h : Ty P T d z n b) (w : World) : (isAgg T).run P w = .ok (aggD d) w := by
  cases d <;> simp [isAgg, h.run_und, aggD]
end

/-- What stands at a place. -/
inductive At : List Value → Nat → Value → Prop
  | here {v : Value} {l : List Value} : At (v :: l) 0 v
  | there {v a : Value} {l : List Value} {i : Nat} (h : At l i v) : At (a :: l) (i + 1) v
theorem At.get {l : List Value} {i : Nat} {v : Value} (h : At l i v) : l[i]? = some v := by induction h <;> simp [*]

/-! ### pure -/
section
variable {P : Program} {N : Nat} {E : Env} {L : List HP} {d : Option Nat} {ty : TypeId} {pos : String} {af : Array Edge} {g : Option (Nat × Bool)} {x y c : Operand} {v u : Value}

theorem pu_move (h : ev E x = some v) : Pu P ⟨d, .move x, ty, pos, af, g⟩ N E L v := ⟨fun a w f _ => by simp [execOp, f.eval h]⟩
theorem pu_assign (h : ev E x = some v) : Pu P ⟨d, .assign x, ty, pos, af, g⟩ N E L v := ⟨fun a w f _ => by simp [execOp, f.eval h]⟩
theorem pu_pick_t (hc : ev E c = some (.bool true)) (h : ev E x = some v) : Pu P ⟨d, .pick c x y, ty, pos, af, g⟩ N E L v := ⟨fun a w f _ => by simp [execOp, f.eval h, f.eval hc, asBool]⟩
theorem pu_pick_f (hc : ev E c = some (.bool false)) (h : ev E y = some v) : Pu P ⟨d, .pick c x y, ty, pos, af, g⟩ N E L v := ⟨fun a w f _ => by simp [execOp, f.eval h, f.eval hc, asBool]⟩
theorem pu_not {p : Bool} {T : TypeId} (h : ev E x = some (.bool p)) : Pu P ⟨d, .unOp .not T x, ty, pos, af, g⟩ N E L (.bool (!p)) := ⟨fun a w f _ => by simp [execOp, f.eval h, Op.unary]⟩
theorem pu_neg {k : IntKind} {p : Int} {T : TypeId} (h : ev E x = some (.int k p)) : Pu P ⟨d, .unOp .neg T x, ty, pos, af, g⟩ N E L (.int k (k.wrap (0 - p))) := ⟨fun a w f _ => by simp [execOp, f.eval h, Op.unary, Op.intArith]⟩
theorem pu_extract {vs : List Value} {i : Nat} (h : ev E x = some (.tuple vs.toArray)) (hv : At vs i v) : Pu P ⟨d, .extract x i, ty, pos, af, g⟩ N E L v := ⟨fun a w f _ => by
  have : vs.toArray[i]? = some v := by simpa using hv.get
  simp only [execOp, f.eval h, Instr.extract]
  simp [this]⟩
theorem pu_nilCheck {ad : Addr} (h : ev E x = some (.pointer (some ad))) : Pu P ⟨d, .nilCheck x, ty, pos, af, g⟩ N E L (.pointer (some ad)) := ⟨fun a w f _ => by simp [execOp, f.eval h]⟩
theorem pu_nilCheck_func {fn : Fn} {p q : Array Value} (hm : (match fn with | .method _ => false | _ => true) = true) (h : ev E x = some (.func fn p q)) : Pu P ⟨d, .nilCheck x, ty, pos, af, g⟩ N E L (.func fn p q) := ⟨fun a w f _ => by
  cases fn <;> simp_all [execOp, f.eval h]⟩

theorem wrap_i64 {n : Int} (h : -9223372036854775808 ≤ n ∧ n ≤ 9223372036854775807) : IntKind.i64.wrap n = n := by
  simp only [IntKind.wrap, IntKind.bits, IntKind.signed]
  simp only [Bool.true_and, ge_iff_le, decide_eq_true_eq]
  split <;> omega
theorem wrap_u64 {n : Int} (h : 0 ≤ n ∧ n < 18446744073709551616) : IntKind.u64.wrap n = n := by
  simp only [IntKind.wrap, IntKind.bits, IntKind.signed, Bool.false_and, Bool.false_eq_true, if_false]; omega
theorem wrap_u16 {n : Int} (h : 0 ≤ n ∧ n < 65536) : IntKind.u16.wrap n = n := by
  simp only [IntKind.wrap, IntKind.bits, IntKind.signed, Bool.false_and, Bool.false_eq_true, if_false]; omega
theorem wrap_u8 {n : Int} (h : 0 ≤ n ∧ n < 256) : IntKind.u8.wrap n = n := by
  simp only [IntKind.wrap, IntKind.bits, IntKind.signed, Bool.false_and, Bool.false_eq_true, if_false]; omega

section
variable {k : IntKind} {p q : Int} {T T' : TypeId}
theorem pu_add (h1 : ev E x = some (.int k p)) (h2 : ev E y = some (.int k q)) : Pu P ⟨d, .binOp .add T x y T', ty, pos, af, g⟩ N E L (.int k (k.wrap (p + q))) := ⟨fun a w f _ => by simp [execOp, f.eval h1, f.eval h2, eqGuard, binOp, Op.intArith]⟩
theorem pu_sub (h1 : ev E x = some (.int k p)) (h2 : ev E y = some (.int k q)) : Pu P ⟨d, .binOp .sub T x y T', ty, pos, af, g⟩ N E L (.int k (k.wrap (p - q))) := ⟨fun a w f _ => by simp [execOp, f.eval h1, f.eval h2, eqGuard, binOp, Op.intArith]⟩
theorem pu_mul (h1 : ev E x = some (.int k p)) (h2 : ev E y = some (.int k q)) : Pu P ⟨d, .binOp .mul T x y T', ty, pos, af, g⟩ N E L (.int k (k.wrap (p * q))) := ⟨fun a w f _ => by simp [execOp, f.eval h1, f.eval h2, eqGuard, binOp, Op.intArith]⟩
/-- A sum that stays in its kind. -/
theorem Pu.wrapped {o : Oper} {r : Int} (h : Pu P o N E L (.int k (k.wrap r))) (e : k.wrap r = r) : Pu P o N E L (.int k r) := by rw [← e]; exact h
theorem pu_lss (h1 : ev E x = some (.int k p)) (h2 : ev E y = some (.int k q)) : Pu P ⟨d, .binOp .lss T x y T', ty, pos, af, g⟩ N E L (.bool (decide (p < q))) := ⟨fun a w f _ => by simp [execOp, f.eval h1, f.eval h2, eqGuard, binOp, Op.intCmp]⟩
theorem pu_leq (h1 : ev E x = some (.int k p)) (h2 : ev E y = some (.int k q)) : Pu P ⟨d, .binOp .leq T x y T', ty, pos, af, g⟩ N E L (.bool (decide (p ≤ q))) := ⟨fun a w f _ => by simp [execOp, f.eval h1, f.eval h2, eqGuard, binOp, Op.intCmp]⟩
theorem pu_gtr (h1 : ev E x = some (.int k p)) (h2 : ev E y = some (.int k q)) : Pu P ⟨d, .binOp .gtr T x y T', ty, pos, af, g⟩ N E L (.bool (decide (q < p))) := ⟨fun a w f _ => by simp [execOp, f.eval h1, f.eval h2, eqGuard, binOp, Op.intCmp]⟩
theorem pu_geq (h1 : ev E x = some (.int k p)) (h2 : ev E y = some (.int k q)) : Pu P ⟨d, .binOp .geq T x y T', ty, pos, af, g⟩ N E L (.bool (decide (q ≤ p))) := ⟨fun a w f _ => by simp [execOp, f.eval h1, f.eval h2, eqGuard, binOp, Op.intCmp]⟩
theorem pu_eql (h1 : ev E x = some (.int k p)) (h2 : ev E y = some (.int k q)) : Pu P ⟨d, .binOp .eql T x y T', ty, pos, af, g⟩ N E L (.bool (decide (p = q))) := ⟨fun a w f _ => by
  simp [execOp, f.eval h1, f.eval h2, eqGuard, binOp, Op.intCmp, BEq.beq]⟩
theorem pu_neq (h1 : ev E x = some (.int k p)) (h2 : ev E y = some (.int k q)) : Pu P ⟨d, .binOp .neq T x y T', ty, pos, af, g⟩ N E L (.bool (!decide (p = q))) := ⟨fun a w f _ => by
  simp [execOp, f.eval h1, f.eval h2, eqGuard, binOp, Op.intCmp, bne, BEq.beq]⟩
theorem pu_conv {t1 t2 : TypeId} {k' : IntKind} {d1 : TypeDesc} {z1 z2 : Value} {n1 n2 b1 b2 : Nat} (i1 : Ty P t1 d1 z1 n1 b1) (i2 : Ty P t2 (.int k') z2 n2 b2) (h1 : ev E x = some (.int k p)) :
    Pu P ⟨d, .convert t1 t2 x, ty, pos, af, g⟩ N E L (.int k' (k'.wrap p)) := ⟨fun a w f _ => by
  simp [execOp, f.eval h1, convert, i1.run_und, i2.run_und, Conv.intToInt]⟩
end

section
variable {T T' : TypeId} {z : Value} {n b : Nat}
theorem pu_eql_bool {p q : Bool} (i : Ty P T .bool z n b) (h1 : ev E x = some (.bool p)) (h2 : ev E y = some (.bool q)) : Pu P ⟨d, .binOp .eql T x y T', ty, pos, af, g⟩ N E L (.bool (p == q)) := ⟨fun a w f _ => by
  simp [execOp, f.eval h1, f.eval h2, eqGuard, run_eql_bool w T p q i.und]⟩
theorem pu_neq_bool {p q : Bool} (i : Ty P T .bool z n b) (h1 : ev E x = some (.bool p)) (h2 : ev E y = some (.bool q)) : Pu P ⟨d, .binOp .neq T x y T', ty, pos, af, g⟩ N E L (.bool (!(p == q))) := ⟨fun a w f _ => by
  simp [execOp, f.eval h1, f.eval h2, eqGuard, run_neq_bool w T p q i.und]⟩
theorem equal_nil {e : TypeId} {w : World} {o : Option Addr} (i : Ty P T (.pointer e) z n b) : (Op.equal T (.pointer o) (.pointer none)).run P w = .ok o.isNone w := by
  have : ∀ k : Nat, (Op.equalIn (k + 1) T (.pointer o) (.pointer none)).run P w = .ok o.isNone w := fun k => by
    cases o <;> simp [Op.equalIn, i.run_und]
  simpa [Op.equal, Op.maxDepth] using this 9999
theorem pu_eql_nil {e : TypeId} {o : Option Addr} (i : Ty P T (.pointer e) z n b) (h1 : ev E x = some (.pointer o)) (h2 : ev E y = some (.pointer none)) : Pu P ⟨d, .binOp .eql T x y T', ty, pos, af, g⟩ N E L (.bool o.isNone) := ⟨fun a w f _ => by
  simp [execOp, f.eval h1, f.eval h2, eqGuard, binOp, equal_nil i]⟩
theorem pu_neq_nil {e : TypeId} {o : Option Addr} (i : Ty P T (.pointer e) z n b) (h1 : ev E x = some (.pointer o)) (h2 : ev E y = some (.pointer none)) : Pu P ⟨d, .binOp .neq T x y T', ty, pos, af, g⟩ N E L (.bool o.isSome) := ⟨fun a w f _ => by
  simp [execOp, f.eval h1, f.eval h2, eqGuard, binOp, equal_nil i]⟩
theorem pu_eql_str {p q : ByteArray} (h1 : ev E x = some (.string p)) (h2 : ev E y = some (.string q)) : Pu P ⟨d, .binOp .eql T x y T', ty, pos, af, g⟩ N E L (.bool (p.toList == q.toList)) := ⟨fun a w f _ => by
  simp [execOp, f.eval h1, f.eval h2, eqGuard, binOp, Op.stringOp]⟩
theorem pu_neq_str {p q : ByteArray} (h1 : ev E x = some (.string p)) (h2 : ev E y = some (.string q)) : Pu P ⟨d, .binOp .neq T x y T', ty, pos, af, g⟩ N E L (.bool (!(p.toList == q.toList))) := ⟨fun a w f _ => by
  simp [execOp, f.eval h1, f.eval h2, eqGuard, binOp, Op.stringOp]⟩

/-! ### places -/
/-- The place of cell i of what a slice begins with. -/
def at_ (ao : Option Addr) (i : Nat) : Addr := (ao.getD ⟨0, 0, none⟩).add i

theorem at_some (b o i : Nat) : at_ (some ⟨b, o, none⟩) i = ⟨b, o + i, none⟩ := by
  unfold at_ Addr.add
  split <;> simp [*]
theorem at_add (ao : Option Addr) (h : (ao.getD ⟨0, 0, none⟩).spot = none) (i j : Nat) : (at_ ao i).add j = at_ ao (i + j) := by
  unfold at_
  generalize ao.getD ⟨0, 0, none⟩ = a at *
  obtain ⟨b, o, s⟩ := a
  simp only at h
  subst h
  simp only [Addr.add]
  split <;> split <;> simp_all <;> omega

theorem pu_fld0 {i o bl : Nat} (hf : Fld P T i o) (h : ev E x = some (.pointer (some ⟨bl, 0, none⟩))) : Pu P ⟨d, .fieldAddr T x i, ty, pos, af, g⟩ N E L (.pointer (some ⟨bl, o, none⟩)) := ⟨fun a w ft _ => by
  obtain ⟨fs, f, dt, z, n, b, h1, h2, rfl, h4⟩ := hf.ok
  simp [execOp, ft.eval h, Instr.fieldAt, underlying, h1, h2, Instr.sureAddr, fieldPlace, h4.run_size, Addr.add]
  exact fun h => h.symm⟩
theorem pu_fldk {i o bl k : Nat} (hf : Fld P T i o) (h : ev E x = some (.pointer (some ⟨bl, k, none⟩))) : Pu P ⟨d, .fieldAddr T x i, ty, pos, af, g⟩ N E L (.pointer (some ⟨bl, k + o, none⟩)) := ⟨fun a w ft _ => by
  obtain ⟨fs, f, dt, z, n, b, h1, h2, rfl, h4⟩ := hf.ok
  simp [execOp, ft.eval h, Instr.fieldAt, underlying, h1, h2, Instr.sureAddr, fieldPlace, h4.run_size, Addr.add]⟩
theorem pu_fld_at {i o k : Nat} {ao : Option Addr} (hf : Fld P T i o) (ha : (ao.getD ⟨0, 0, none⟩).spot = none) (h : ev E x = some (.pointer (some (at_ ao k)))) : Pu P ⟨d, .fieldAddr T x i, ty, pos, af, g⟩ N E L (.pointer (some (at_ ao (k + o)))) := ⟨fun a w ft _ => by
  obtain ⟨fs, f, dt, z, n, b, h1, h2, rfl, h4⟩ := hf.ok
  simp [execOp, ft.eval h, Instr.fieldAt, underlying, h1, h2, Instr.sureAddr, fieldPlace, h4.run_size, at_add ao ha]⟩

/-- Cells one behind the other. -/
inductive Tk (cs : List Value) : Nat → Nat → List Value → Prop
  | zero {o : Nat} : Tk cs o 0 []
  | succ {o n : Nat} {v : Value} {vs : List Value} (h : cs[o]? = some v) (k : Tk cs (o + 1) n vs) : Tk cs o (n + 1) (v :: vs)

theorem Tk.len {cs : List Value} {o n : Nat} {vs : List Value} (h : Tk cs o n vs) : vs.length = n := by induction h <;> simp [*]
theorem Tk.get {cs : List Value} {o n : Nat} {vs : List Value} (h : Tk cs o n vs) : ∀ j u, vs[j]? = some u → cs[o + j]? = some u := by
  induction h with
  | zero => simp
  | succ h _ ih =>
    intro j u hj
    cases j with
    | zero => simpa [h] using hj
    | succ j => have := ih j u (by simpa using hj); rw [← this]; congr 1; omega
theorem Tk.take {cs : List Value} {o n : Nat} {vs : List Value} (h : Tk cs o n vs) : (cs.drop o).take n = vs := by
  apply List.ext_getElem?
  intro j
  rw [List.getElem?_take]
  split
  · rename_i hj
    rw [List.getElem?_drop]
    have hl := h.len
    have : j < vs.length := by omega
    rw [h.get j vs[j] (by simp [this])]
    simp [this]
  · have hl := h.len
    rw [List.getElem?_eq_none (by omega)]

theorem pu_part {fs : Array Field} {f : Field} {i : Nat} {cs : List Value} {d1 : TypeDesc} {z1 : Value} {n1 b1 : Nat} (it : Ty P T (.struct fs) z n b) (hf : fs[i]? = some f) (i2 : Ty P f.type d1 z1 n1 b1) (hd : aggD d1 = false) (h : ev E x = some (.agg cs.toArray)) (hv : cs[f.offset]? = some v) :
    Pu P ⟨d, .field T x i, ty, pos, af, g⟩ N E L v := ⟨fun a w ft _ => by
  simp [execOp, ft.eval h, Instr.field, it.run_und, hf, asAgg, part, i2.run_agg, hd, hv]⟩
theorem pu_part_agg {fs : Array Field} {f : Field} {i : Nat} {cs vs : List Value} {d1 : TypeDesc} {z1 : Value} {n1 b1 : Nat} (it : Ty P T (.struct fs) z n b) (hf : fs[i]? = some f) (i2 : Ty P f.type d1 z1 n1 b1) (hd : aggD d1 = true) (h : ev E x = some (.agg cs.toArray)) (hv : Tk cs f.offset n1 vs) :
    Pu P ⟨d, .field T x i, ty, pos, af, g⟩ N E L (.agg vs.toArray) := ⟨fun a w ft _ => by
  have := hv.take
  simp [execOp, ft.eval h, Instr.field, it.run_und, hf, asAgg, part, i2.run_agg, hd, i2.run_size]
  rw [this]⟩
end

end
end Sl
