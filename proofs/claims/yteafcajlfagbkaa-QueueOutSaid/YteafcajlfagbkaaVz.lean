/- DERIVED. The walk over what is owned: keys laid into a map that is written out; results that are one cell. No translation is named here. -/
import Derived.Test.YteafcajlfagbkaaVy
import Derived.Test.YteafcajlfagbkaaVm
namespace Sl
set_option linter.unusedSimpArgs false
set_option linter.unusedVariables false
open Go Go.RowKit Cv
section
variable {κ ν : Type}
variable {P : Program} {w0 : World} {m : Nat} {ek : κ → Value} {ev : ν → Value} {kv : List (κ × ν)} {L R : List HP}
variable {Q : Exit → Act → World → Prop} {K : Act → World → Prop} {N : Nat} {E : Env} {ty : TypeId} {pos : String} {af : Array Edge} {g : Option (Nat × Bool)} {x y c : Operand} {mt kt et : TypeId} {z0 : Value} {n0 b0 : Nat} {k : κ} {v : ν}
theorem w_ins [DecidableEq κ] [im : Ty P mt (.map kt et) z0 n0 b0] [KO : KOk P kt κ ek] (h : KQ K w0 N E (mp m ek ev (kput kv k v) :: R)) (h1 : Sl.ev E x = some (.map (some m)) := by rfl) (s : Sel L (mp m ek ev kv) R := by ((repeat (first | exact Sel.here | apply Sel.there)); done)) (h2 : Sl.ev E y = some (ek k) := by rfl) (h3 : Sl.ev E c = some (ev v) := by rfl) :
    WX P Q ⟨none, .insert mt x y c, ty, pos, af, g⟩ K w0 N E L := ⟨fun a w f sy => by
  have sy' := sy.ent fun _ q => s.sat q
  obtain ⟨w', hr, hm, hf⟩ := sy'.2.isMap.update KO.law im.und k v
  unfold Oper.wp
  simp [execOp, f.eval h1, f.eval h2, f.eval h3, hr]
  exact h.run _ _ f (sy'.map_set hm hf (run_drawn _ hr))⟩
end
section
variable {P : Program} {N : Nat} {E : Env} {L : List HP} {d : Option Nat} {ty : TypeId} {pos : String} {af : Array Edge} {g : Option (Nat × Bool)} {x : Operand} {T : TypeId}
/-- A field of a row's element. -/
theorem p_fldr {i o k : Nat} {ao : Option Addr} [hf : Fld P T i o] (h : ev E x = some (.pointer (some (at_ ao k))) := by rfl) (ha : ∀ w, Sat (hp w) L → (ao.getD ⟨0, 0, none⟩).spot = none := by (apply Reads.spot; (focus (first | (apply Reads.row; focus ((repeat (first | exact Sel.here | apply Sel.there)); done)) | (apply reads_blk; focus ((repeat (first | exact Sel.here | apply Sel.there)); done)) | ((refine Reads.ent (by assumption) ?_); ((repeat (first | with_reducible exact Ent.rfl | with_reducible exact Ent.nil | ((with_reducible apply Ent.cons); focus ((repeat (first | exact Sel.here | apply Sel.there)); done)) | with_reducible refine Ent.drop ?_)); done)))); (focus (first | assumption | (simp only [ints_len]; omega) | (simp; done) | (simp; omega) | omega)))) : Pu P ⟨d, .fieldAddr T x i, ty, pos, af, g⟩ N E L (.pointer (some (at_ ao (k + o)))) := ⟨fun a w f s => (pu_fld_at hf (ha w s) h).run a w f s⟩
/-- A place of an array that a pointer points to. -/
theorem p_idxl {y : Operand} {e : TypeId} {de : TypeDesc} {ze z : Value} {ne be n b m bl o : Nat} {k : IntKind} {j : Int} [i : Ty P T (.array m e) z n b] [ie : Ty P e de ze ne be] (h : ev E x = some (.pointer (some ⟨bl, o, none⟩)) := by rfl) (h2 : ev E y = some (.int k j) := by rfl)
    (hj : 0 ≤ j ∧ j < (m : Int) := by (first | decide | omega)) : Pu P ⟨d, .indexAddr T x y, ty, pos, af, g⟩ N E L (.pointer (some ⟨bl, o + j.toNat * ne, none⟩)) := ⟨fun a w f s => by
  simp [execOp, f.eval h, f.eval h2, Instr.indexAt, asIntOf, i.run_und, ie.run_size, hj.1, hj.2, Instr.sureAddr, add_lit']⟩
end
theorem RVals.one {P : Program} {E : Env} {L : List HP} {dt : TypeDesc} {z v : Value} {n b t ty : Nat} {ad : Addr} {rs : List ResultVar} {vs : List Value} [i : Ty P ty dt z n b] (h : lk E t = some (.pointer (some ad)) := by rfl) (hd : aggD dt = false := by rfl) (hr : Rd L ad v := by (first | ((with_reducible apply Rd.blk); (focus ((repeat (first | exact Sel.here | apply Sel.there)); done)); (focus rfl)) | (apply Reads.rd; (focus (first | (apply Reads.row; focus ((repeat (first | exact Sel.here | apply Sel.there)); done)) | (apply reads_blk; focus ((repeat (first | exact Sel.here | apply Sel.there)); done)) | ((refine Reads.ent (by assumption) ?_); ((repeat (first | with_reducible exact Ent.rfl | with_reducible exact Ent.nil | ((with_reducible apply Ent.cons); focus ((repeat (first | exact Sel.here | apply Sel.there)); done)) | with_reducible refine Ent.drop ?_)); done)))); (focus (first | ((try simp only [Int.toNat_natCast, Nat.mul_one, Nat.zero_mul, Nat.one_mul, Nat.zero_add, Nat.add_zero]); assumption) | rfl))) | assumption)) (k : RVals P E L rs vs) : RVals P E L (.cell t ty :: rs) (v :: vs) :=
  .cell h (fun w s => by simp [loadVar, i.run_agg, hd, hr w s]) k
end Sl
