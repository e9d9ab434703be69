/- DERIVED. The walk over what is owned: division, bits, shifts, texts. No translation is named here. -/
import Derived.Test.YteafcajlfagbkaaVg
import Derived.Laws.BytesString
namespace Sl
set_option linter.unusedSimpArgs false
set_option linter.unusedVariables false
open Go Go.RowKit Cv

/-- Bytes as cells. -/
def u8s (l : List Int) : List Value := l.map (Value.int .u8)
def strOf (l : List Int) : ByteArray := l.foldl (fun r n => r.push (UInt8.ofNat n.toNat)) ByteArray.empty
theorem u8s_snoc (l : List Int) (n : Int) : u8s l ++ [Value.int .u8 n] = u8s (l ++ [n]) := by simp [u8s]
theorem u8s_fm (l : List Int) (n : Int) : u8s l ++ List.flatMap celv [Value.int .u8 n] = u8s (l ++ [n]) := by simp [u8s, celv]
theorem u8s_len (l : List Int) : (u8s l).length = l.length := by simp [u8s]

section
variable {P : Program} {N : Nat} {E : Env} {L R : List HP} {d : Option Nat} {ty : TypeId} {pos : String} {af : Array Edge} {g : Option (Nat × Bool)} {x y c : Operand} {v u : Value} {T T' : TypeId} {dt : TypeDesc} {z : Value} {n b : Nat}
section
variable {k k' : IntKind} {p q : Int}
theorem p_and (h1 : ev E x = some (.int k p) := by rfl) (h2 : ev E y = some (.int k q) := by rfl) : Pu P ⟨d, .binOp .and T x y T', ty, pos, af, g⟩ N E L (.int k (bits .and k p q)) := ⟨fun a w f _ => by simp [execOp, f.eval h1, f.eval h2, eqGuard, binOp, intBits_and]⟩
theorem p_or (h1 : ev E x = some (.int k p) := by rfl) (h2 : ev E y = some (.int k q) := by rfl) : Pu P ⟨d, .binOp .or T x y T', ty, pos, af, g⟩ N E L (.int k (bits .or k p q)) := ⟨fun a w f _ => by simp [execOp, f.eval h1, f.eval h2, eqGuard, binOp, intBits_or]⟩
theorem p_xor (h1 : ev E x = some (.int k p) := by rfl) (h2 : ev E y = some (.int k q) := by rfl) : Pu P ⟨d, .binOp .xor T x y T', ty, pos, af, g⟩ N E L (.int k (bits .xor k p q)) := ⟨fun a w f _ => by simp [execOp, f.eval h1, f.eval h2, eqGuard, binOp, intBits_xor]⟩
theorem p_quo (h1 : ev E x = some (.int k p) := by rfl) (h2 : ev E y = some (.int k q) := by rfl) (hq : q ≠ 0 := by (first | decide | omega)) : Pu P ⟨d, .binOp .quo T x y T', ty, pos, af, g⟩ N E L (.int k (k.wrap (p.tdiv q))) := ⟨fun a w f _ => by simp [execOp, f.eval h1, f.eval h2, eqGuard, binOp, Op.intDiv, hq]⟩
theorem p_rem (h1 : ev E x = some (.int k p) := by rfl) (h2 : ev E y = some (.int k q) := by rfl) (hq : q ≠ 0 := by (first | decide | omega)) : Pu P ⟨d, .binOp .rem T x y T', ty, pos, af, g⟩ N E L (.int k (p.tmod q)) := ⟨fun a w f _ => by simp [execOp, f.eval h1, f.eval h2, eqGuard, binOp, Op.intDiv, hq]⟩
theorem p_shl (h1 : ev E x = some (.int k p) := by rfl) (h2 : ev E y = some (.int k' q) := by rfl) (h0 : 0 ≤ q := by (first | decide | omega)) (hb : q ≤ k.bits := by (first | decide | (simp only [IntKind.bits]; omega))) :
    Pu P ⟨d, .binOp .shl T x y T', ty, pos, af, g⟩ N E L (.int k (k.wrap (p * 2 ^ q.toNat))) := ⟨fun a w f _ => by simp [execOp, f.eval h1, f.eval h2, eqGuard, binOp, shift_shl k k' p q h0 hb]⟩
theorem p_shr (h1 : ev E x = some (.int k p) := by rfl) (h2 : ev E y = some (.int k' q) := by rfl) (h0 : 0 ≤ q := by (first | decide | omega)) (hb : q ≤ k.bits := by (first | decide | (simp only [IntKind.bits]; omega))) :
    Pu P ⟨d, .binOp .shr T x y T', ty, pos, af, g⟩ N E L (.int k (p / 2 ^ q.toNat)) := ⟨fun a w f _ => by simp [execOp, f.eval h1, f.eval h2, eqGuard, binOp, shift_shr k k' p q h0 hb]⟩
end

/-- Bytes as a text. -/
theorem p_b2s {e t1 t2 : TypeId} {z1 z2 ze : Value} {n1 n2 ne b1 b2 be m cap : Nat} {ao : Option Addr} {l : List Int} [i1 : Ty P t1 (.slice e) z1 n1 b1] [ie : Ty P e (.int .u8) ze ne be] [i2 : Ty P t2 .string z2 n2 b2]
    (h : ev E x = some (.slice ao m cap) := by rfl) (hr : Reads L (.slice ao m cap) m (u8s l) := by (first | (apply Reads.row; focus ((repeat (first | exact Sel.here | apply Sel.there)); done)) | (apply reads_blk; focus ((repeat (first | exact Sel.here | apply Sel.there)); done)) | ((refine Reads.ent (by assumption) ?_); ((repeat (first | with_reducible exact Ent.rfl | with_reducible exact Ent.nil | ((with_reducible apply Ent.cons); focus ((repeat (first | exact Sel.here | apply Sel.there)); done)) | with_reducible refine Ent.drop ?_)); done)))) (hl : (u8s l).length = m := by (first | assumption | (simp [u8s]; done) | (simp [u8s]; omega))) : Pu P ⟨d, .convert t1 t2 x, ty, pos, af, g⟩ N E L (.string (strOf l)) := ⟨fun a w f s => by
  simp only [execOp, f.eval h]
  cases ao with
  | none =>
    have : l = [] := by have := hr.empty w s; simpa [u8s] using this
    subst this
    simp [convert, i1.run_und, i2.run_und, ie.run_und, Conv.bytesToString, strOf]
  | some q =>
    obtain ⟨ao', cap', hv, hr⟩ := hr
    injection hv with e1 e2 e3
    subst e1
    have hc := run_loadCells_list (P := P) (w := w) q (u8s l) (fun j u hj => (hr w s j u hj).1)
    have := run_bytesToString (P := P) w q m cap l (by rw [hl] at hc; exact hc)
    simp only [Sem.run_bind]
    rw [run_convert_bytes_string w t1 t2 e q m cap i1.und ie.und i2.und, this]
    rfl⟩
end
end Sl
