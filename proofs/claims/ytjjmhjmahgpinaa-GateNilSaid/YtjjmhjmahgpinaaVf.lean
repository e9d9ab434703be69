/- DERIVED. The walk over what is owned: blocks whose cells are told by facts. No translation is named here. -/
import Derived.Test.YtjjmhjmahgpinaaVz
namespace Sl
set_option linter.unusedSimpArgs false
set_option linter.unusedVariables false
open Go Go.RowKit Cv
section
variable {P : Program} {Q : Exit → Act → World → Prop} {K : Act → World → Prop} {w0 : World} {N : Nat} {E : Env} {L R : List HP} {d : Option Nat} {t : Nat} {ty : TypeId} {pos : String} {af : Array Edge} {g : Option (Nat × Bool)} {x y : Operand} {v : Value} {T : TypeId} {dt : TypeDesc} {z : Value} {n b : Nat}
/-- A cell of a block, by a fact. -/
theorem p_ldb {bl o k : Nat} {cs : List Value} {tt : TypeId} {fz : Nat × Nat} (hv : cs[k]? = some v) [i : Ty P T dt z n b] (h : ev E x = some (.pointer (some ⟨bl, o, none⟩)) := by rfl) (hd : aggD dt = false := by rfl) (s : Sel L (blk bl (.cells cs.toArray tt fz)) R := by ((repeat (first | exact Sel.here | apply Sel.there)); done)) (e : o = k := by (first | rfl | (simp; done) | (simp; omega) | omega)) : Pu P ⟨d, .load T x, ty, pos, af, g⟩ N E L v :=
  pu_load i hd h (e ▸ Rd.blk s hv)
/-- A store into a block, by a fact. -/
theorem w_stb {bl o k : Nat} {cs cs' : List Value} {tt : TypeId} (hs : cs.set k v = cs') (hk : k < cs.length) [i : Ty P T dt z n b] (h : KQ K w0 N E (blk bl (.cells cs'.toArray tt (0, 0)) :: R)) (hx : ev E x = some (.pointer (some ⟨bl, o, none⟩)) := by rfl) (hy : ev E y = some v := by rfl) (hn : (celv v).length = n := by rfl) (hc : celv v = [v] := by rfl) (s : Sel L (blk bl (.cells cs.toArray tt (0, 0))) R := by ((repeat (first | exact Sel.here | apply Sel.there)); done))
    (h1 : v.oneCell' = true := by rfl) (e : o = k := by (first | rfl | (simp; done) | (simp; omega) | omega)) : WX P Q ⟨none, .store T x y, ty, pos, af, g⟩ K w0 N E L :=
  wx_store i hx hy hn s (by rw [hc, e, ← hs]; exact .cons (Pt.of_lt v hk) .nil) (by rw [hc]; simp [h1]) rfl h
end
end Sl
