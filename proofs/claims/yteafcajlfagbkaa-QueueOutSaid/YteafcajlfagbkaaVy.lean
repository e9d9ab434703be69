/- DERIVED. The walk over what is owned: rows that are made, stores into rows, strings. No translation is named here. -/
import Derived.Test.YteafcajlfagbkaaVx
import Derived.Test.YteafcajlfagbkaaVs
import Derived.Laws.OwnMore
namespace Sl
set_option linter.unusedSimpArgs false
set_option linter.unusedVariables false
open Go Go.RowKit Cv

theorem Pt.of_lt : ∀ {l : List Value} {i : Nat} (v : Value), i < l.length → Pt l i v (l.set i v)
  | _ :: _, 0, _, _ => .here
  | _ :: l, i + 1, v, h => .there (Pt.of_lt (l := l) v (by simpa using h))
theorem Pts.of_splice : ∀ (vs : List Value) {cs : List Value} {o : Nat}, o + vs.length ≤ cs.length → Pts cs o vs (splice cs o vs)
  | [], cs, o, _ => by rw [splice_nil]; exact .nil
  | v :: vs, cs, o, h => by
    simp only [List.length_cons] at h
    have := Pts.of_splice vs (cs := cs.set o v) (o := o + 1) (by simp; omega)
    rw [splice_cons _ _ _ _ (by omega)] at this
    exact .cons (Pt.of_lt v (by omega)) this
theorem splice_one (cs : List Value) (o : Nat) (v : Value) (h : o < cs.length) : splice cs o [v] = cs.set o v := by
  rw [← splice_cons _ _ _ _ (by simp; omega), splice_nil]
theorem splice_pre (cs : List Value) (o k : Nat) (vs : List Value) (h : o + vs.length ≤ k) : (splice cs o vs).take k = splice (cs.take k) o vs := by
  unfold splice
  rw [List.append_assoc, List.append_assoc, List.take_append, List.take_take, List.take_take, Nat.min_eq_left (by omega : o ≤ k), List.length_take, List.take_append, List.drop_take]
  by_cases ho : o ≤ cs.length
  · rw [Nat.min_eq_left ho, Nat.min_eq_right (by omega), List.take_of_length_le (by omega : vs.length ≤ k - o)]
    congr 3
    omega
  · rw [Nat.min_eq_right (by omega), Nat.min_eq_right (by omega), List.take_of_length_le (by omega : vs.length ≤ k - cs.length), List.drop_eq_nil_of_le (by omega)]
    simp
theorem madeCells_one (v : Value) (m : Nat) : (madeCells #[v] m).toList = List.replicate m v := by
  unfold madeCells
  apply List.ext_getElem (by simp)
  intro i h1 h2
  have : i % 1 = 0 := Nat.mod_one i
  simp [this]

section
variable {P : Program} {Q : Exit → Act → World → Prop} {K : Act → World → Prop} {w0 : World} {N t : Nat} {E : Env} {L R : List HP} {d : Option Nat} {ty : TypeId} {pos : String} {af : Array Edge} {g : Option (Nat × Bool)} {x y c : Operand} {v u : Value} {T T' : TypeId} {dt : TypeDesc} {z : Value} {n b : Nat}

/-! ### strings -/
theorem p_adds {s r : ByteArray} (h1 : ev E x = some (.string s) := by rfl) (h2 : ev E y = some (.string r) := by rfl) (hb : s.size + r.size ≤ 9223372036854775807 := by omega) : Pu P ⟨d, .binOp .add T x y T', ty, pos, af, g⟩ N E L (.string (s ++ r)) := ⟨fun a w f _ => by
  have : ¬ ((s.size + r.size : Nat) : Int) > IntKind.i64.max := by
    have : IntKind.i64.max = 9223372036854775807 := by decide
    rw [this]; omega
  simp [execOp, f.eval h1, f.eval h2, eqGuard, binOp, Op.stringOp, this]
  omega⟩

/-! ### rows that are made -/
theorem w_mk {e : TypeId} {de : TypeDesc} {ze : Value} {be m : Nat} {k k' : IntKind} {v1 : Int} [i : Ty P T (.slice e) z n b] [ie : Ty P e de ze 1 be]
    (h : ∀ q, KQ K w0 N ((t, .slice (some ⟨q, 0, none⟩) m m) :: E) (row e 1 (.slice (some ⟨q, 0, none⟩) m m) m (List.replicate m ze) :: L))
    (hx : ev E x = some (.int k v1) := by rfl) (hy : ev E y = some (.int k' v1) := by rfl) (hv : v1 = (m : Int) := by first | with_reducible rfl | assumption) (hz : ze.cells = #[ze] := by rfl) (hlen : m ≤ maxLen := by (first | omega | (unfold maxLen; omega) | assumption)) (hb : be * m ≤ 281474976710656 := by (first | omega | (unfold maxLen; omega) | assumption)) (hd : Nat.blt t N = true := by rfl) :
    WX P Q ⟨some t, .makeSlice T x y, ty, pos, af, g⟩ K w0 N E L := ⟨fun a w f s => by
  subst hv
  obtain ⟨ii, j1, j2, j3, j4⟩ := ie.info
  have hl : (m : Int) ≤ 9223372036854775807 := by unfold maxLen at hlen; omega
  have hr := run_make w T e ii ze i.und j1 j2 k k' (m : Int) (m : Int) (by omega) (Int.le_refl _) (by rw [j4, ← Int.natCast_mul]; omega) hl
  rw [hz, j3] at hr
  have hc : madeCells #[ze] (((m : Int)).toNat * 1) = (List.replicate m ze).toArray := by
    have := madeCells_one ze m
    rw [Nat.mul_one, Int.toNat_natCast]
    exact Array.toList_inj.1 (by rw [this])
  rw [hc] at hr
  unfold Oper.wp
  simp only [execOp, f.eval hx, f.eval hy, Sem.run_bind, hr, Result.andThen_ok, Sem.run_pure, Int.toNat_natCast]
  exact (h w.heap.size).run _ _ (f.put (d := some t) hd _) (s.newRow e 1 m _ (by simp) hlen)⟩

/-! ### a store into a row -/
theorem wx_str {e sz m cap k : Nat} {ao : Option Addr} {xs : List Value} (i : Ty P T dt z n b) (hx : ev E x = some (.pointer (some (at_ ao k)))) (hy : ev E y = some v) (hn : (celv v).length = n) (s : Sel L (row e sz (.slice ao m cap) m xs) R) (hk : k + n ≤ xs.length) (hm : 0 < m)
    (h1 : (celv v).all (·.oneCell') = true) (h : KQ K w0 N E (row e sz (.slice ao m cap) m (splice xs k (celv v)) :: R)) : WX P Q ⟨none, .store T x y, ty, pos, af, g⟩ K w0 N E L := by
  refine wx_open hm (fun gb cur hao q1 q2 q3 q4 => ?_) s
  subst hao
  have hxl : xs.length = m * sz := by rw [← q4, List.length_take, q3]; exact Nat.min_eq_left (Nat.mul_le_mul_right sz q1)
  have hcl : m * sz ≤ cur.length := by rw [q3]; exact Nat.mul_le_mul_right sz q1
  have hkc : k + (celv v).length ≤ cur.length := by omega
  rw [at_some, Nat.zero_add] at hx
  refine wx_store i hx hy hn .here (Pts.of_splice (celv v) hkc) h1 rfl ?_
  refine KQ.ent ?_ (ent_close q1 q2 (by rw [splice_len _ _ _ hkc]; exact q3) Ent.rfl)
  rw [splice_pre _ _ _ _ (by omega), q4]
  exact h
/-- One cell. -/
theorem w_str {e sz m cap k : Nat} {ao : Option Addr} {xs : List Value} [i : Ty P T dt z 1 b] (h : KQ K w0 N E (row e sz (.slice ao m cap) m (xs.set k v) :: R)) (hx : ev E x = some (.pointer (some (at_ ao k))) := by rfl) (hy : ev E y = some v := by rfl) (hn : celv v = [v] := by rfl) (s : Sel L (row e sz (.slice ao m cap) m xs) R := by ((repeat (first | exact Sel.here | apply Sel.there)); done)) (hk : k < xs.length := by (first | assumption | (simp only [ints_len]; omega) | (simp; done) | (simp; omega) | omega))
    (h1 : v.oneCell' = true := by rfl) : WX P Q ⟨none, .store T x y, ty, pos, af, g⟩ K w0 N E L := by
  have hm : KQ K w0 N E (row e sz (.slice ao m cap) m (splice xs k (celv v)) :: R) := by rw [hn, splice_one _ _ _ hk]; exact h
  refine ⟨fun a w f sy => ?_⟩
  have hl := (sy.ent fun _ q => s.sat q).2.row.len
  have h0 : 0 < m := by
    rcases Nat.eq_zero_or_pos m with rfl | h0
    · rw [Nat.zero_mul] at hl; omega
    · exact h0
  exact (wx_str i hx hy (by rw [hn]; rfl) s hk h0 (by rw [hn]; simp [h1]) hm).run a w f sy
/-- Some cells. -/
theorem w_stra {e sz m cap k : Nat} {ao : Option Addr} {xs : List Value} [i : Ty P T dt z n b] (h : KQ K w0 N E (row e sz (.slice ao m cap) m (splice xs k (celv v)) :: R)) (hx : ev E x = some (.pointer (some (at_ ao k))) := by rfl) (hy : ev E y = some v := by rfl) (hn : (celv v).length = n := by rfl) (s : Sel L (row e sz (.slice ao m cap) m xs) R := by ((repeat (first | exact Sel.here | apply Sel.there)); done)) (hk : k + n ≤ xs.length := by (first | assumption | (simp only [ints_len]; omega) | (simp; done) | (simp; omega) | omega)) (hm : 0 < m := by (first | assumption | (simp only [ints_len]; omega) | (simp; done) | (simp; omega) | omega))
    (h1 : (celv v).all (·.oneCell') = true := by rfl) : WX P Q ⟨none, .store T x y, ty, pos, af, g⟩ K w0 N E L := wx_str i hx hy hn s hk hm h1 h
end
end Sl
