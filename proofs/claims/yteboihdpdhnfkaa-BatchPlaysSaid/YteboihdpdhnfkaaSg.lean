/- DERIVED. The walk over what is owned: the rules as the walk takes them. No translation is named here. -/
import Derived.Test.YteboihdpdhnfkaaSa
namespace Sl
open Go Go.RowKit Cv

section
variable {P : Program} {Q : Exit → Act → World → Prop} {K : Act → World → Prop} {w0 : World} {N t : Nat} {E : Env} {L R : List HP} {ty : TypeId} {pos : String} {af : Array Edge} {g : Option (Nat × Bool)} {x y c : Operand} {v u : Value} {T : TypeId} {dt : TypeDesc} {z : Value} {n b : Nat} {op : Op}

theorem w_pure (hp : Pu P ⟨some t, op, ty, pos, af, g⟩ N E L v) (hd : Nat.blt t N = true) (h : KQ K w0 N ((t, v) :: E) L) : WX P Q ⟨some t, op, ty, pos, af, g⟩ K w0 N E L := wx_pure hp hd h
theorem w_alloc (i : Ty P T dt z n b) (hd : Nat.blt t N = true) (h : ∀ q, KQ K w0 N ((t, .pointer (some ⟨q, 0, none⟩)) :: E) (blk q (.cells (celv z).toArray T (0, 0)) :: L)) : WX P Q ⟨some t, .alloc T, ty, pos, af, g⟩ K w0 N E L := wx_alloc i hd h
theorem w_box (hx : ev E x = some v) (hd : Nat.blt t N = true) (h : ∀ q, KQ K w0 N ((t, .pointer (some ⟨q, 0, none⟩)) :: E) (blk q (.cells (celv v).toArray T (0, 0)) :: L)) : WX P Q ⟨some t, .box T x, ty, pos, af, g⟩ K w0 N E L := wx_box hx hd h
theorem w_store {bl o : Nat} {cs cs' : List Value} {t : TypeId} (i : Ty P T dt z n b) (hx : ev E x = some (.pointer (some ⟨bl, o, none⟩))) (hy : ev E y = some v) (hn : (celv v).length = n) (s : Sel L (blk bl (.cells cs.toArray t (0, 0))) R) (hp : Pts cs o (celv v) cs')
    (h1 : (celv v).all (·.oneCell') = true) (h : KQ K w0 N E (blk bl (.cells cs'.toArray t (0, 0)) :: R)) : WX P Q ⟨none, .store T x y, ty, pos, af, g⟩ K w0 N E L := wx_store i hx hy hn s hp h1 rfl h
theorem w_call {f : FuncId} {args : List Value} {Post : Value → List HP → Prop} {M : List HP} {xs : List Operand} {ts : Array TypeId} (hs : Sp P f args M Post) (hf : FnOk P f) (hx : evs E xs = some args) (e : Ent L M) (hd : Nat.blt t N = true) (h : ∀ r L', Post r L' → KQ K w0 N ((t, r) :: E) L') :
    WX P Q ⟨some t, .call ⟨.value (.func f), xs.toArray, ts⟩, ty, pos, af, g⟩ K w0 N E L := wx_call hf hx hs e hd h
theorem w_call0 {f : FuncId} {args : List Value} {Post : Value → List HP → Prop} {M : List HP} {xs : List Operand} {ts : Array TypeId} (hs : Sp P f args M Post) (hf : FnOk P f) (hx : evs E xs = some args) (e : Ent L M) (h : ∀ r L', Post r L' → KQ K w0 N E L') :
    WX P Q ⟨none, .call ⟨.value (.func f), xs.toArray, ts⟩, ty, pos, af, g⟩ K w0 N E L := wx_call hf hx hs e rfl h
/-- The parts of a slice that is written out. -/
inductive Prt (E : Env) : Nat → List (Nat × Operand) → List Value → Prop
  | nil {i : Nat} : Prt E i [] []
  | cons {i : Nat} {x : Operand} {v : Value} {ps : List (Nat × Operand)} {vs : List Value} (h : ev E x = some v) (k : Prt E (i + 1) ps vs) : Prt E i ((i, x) :: ps) (v :: vs)
theorem Prt.evp {E : Env} {i : Nat} {ps : List (Nat × Operand)} {vs : List Value} (h : Prt E i ps vs) : evp E ps = some ((vs.zipIdx i).map fun (v, i) => (i, v)) := by
  induction h with
  | nil => rfl
  | cons h _ ih => simp [Sl.evp, h, ih]

theorem w_bslice {e : TypeId} {de : TypeDesc} {ze : Value} {sz be m : Nat} {ps : List (Nat × Operand)} {vs : List Value} (i : Ty P T (.slice e) z n b) (ie : Ty P e de ze (sz + 1) be)
    (hx : Prt E 0 ps vs) (hl : vs.length = m) (hs : vs.all (fun v => (celv v).length == sz + 1) = true) (hr : Nat.ble (m * (sz + 1)) 16777216 = true) (hd : Nat.blt t N = true)
    (h : ∀ q, KQ K w0 N ((t, .slice (some ⟨q, 0, none⟩) m m) :: E) (row e (sz + 1) (.slice (some ⟨q, 0, none⟩) m m) m (vs.flatMap celv) :: L)) : WX P Q ⟨some t, .buildSlice T m ps.toArray, ty, pos, af, g⟩ K w0 N E L := wx_buildSlice i ie hx.evp hl hs (Nat.le_of_ble_eq_true hr) hd h
theorem w_append {e : TypeId} {de : TypeDesc} {ze : Value} {sz be m k yc : Nat} {yo : Option Addr} {xs ys : List Value} (i : Ty P T (.slice e) z n b) (ie : Ty P e de ze sz be) (hz : ze.cells.size = sz) (hpos : Nat.blt 0 sz = true)
    (hx : ev E x = some v) (hy : ev E y = some (.slice yo m yc)) (s : Sel L (row e sz v k xs) R) (hr : Reads R (.slice yo m yc) m ys) (hl : ys.length = m * sz) (h1 : ys.all (·.oneCell') = true)
    (hlen : k + m ≤ maxLen) (hb : (k + m) * be ≤ 140737488355328) (hd : Nat.blt t N = true)
    (h : ∀ ao cap, KQ K w0 N ((t, .slice ao (k + m) cap) :: E) (row e sz (.slice ao (k + m) cap) (k + m) (xs ++ ys) :: R)) : WX P Q ⟨some t, .call ⟨.builtin .append, #[x, y], #[T, T]⟩, ty, pos, af, g⟩ K w0 N E L := wx_append i ie hz (by simpa [Nat.blt_eq] using hpos) hx hy s hr hl h1 hlen hb hd h

theorem w_append0 {e : TypeId} {de : TypeDesc} {ze : Value} {sz be m yc : Nat} {yo : Option Addr} {xs ys : List Value} (i : Ty P T (.slice e) z n b) (ie : Ty P e de ze sz be) (hz : ze.cells.size = sz) (hpos : Nat.blt 0 sz = true)
    (hx : ev E x = some v) (hy : ev E y = some (.slice yo m yc)) (s : Sel L (row e sz v 0 xs) R) (hr : Reads R (.slice yo m yc) m ys) (hl : ys.length = m * sz) (h1 : ys.all (·.oneCell') = true)
    (hlen : m ≤ maxLen) (hb : m * be ≤ 140737488355328) (hd : Nat.blt t N = true)
    (h : ∀ ao cap, KQ K w0 N ((t, .slice ao m cap) :: E) (row e sz (.slice ao m cap) m ys :: R)) : WX P Q ⟨some t, .call ⟨.builtin .append, #[x, y], #[T, T]⟩, ty, pos, af, g⟩ K w0 N E L := by
  intro a w f sy
  have hxs : xs = [] := List.eq_nil_of_length_eq_zero (by simpa using (sy.ent fun _ q => s.sat q).2.row.len)
  subst hxs
  refine w_append i ie hz hpos hx hy s hr hl h1 (by simpa using hlen) (by simpa using hb) hd (fun ao cap => ?_) a w f sy
  simpa using h ao cap

theorem kq_know {φ : Prop} (h : ∀ w, Sat (hp w) L → φ) (k : φ → KQ K w0 N E L) : KQ K w0 N E L := fun a w f s => k (h w s.2) a w f s

theorem Reads.some {ao : Option Addr} {m cap n : Nat} {xs : List Value} (r : Reads L (.slice ao m cap) n xs) (h : 0 < xs.length) : ∀ w, Sat (hp w) L → ao.isSome = true := by
  obtain ⟨ao', cap', hv, hr⟩ := r
  injection hv with e1 e2 e3
  subst e1
  exact fun w hw => (hr w hw 0 xs[0] (by simp [h])).2.2
theorem Reads.spot {ao : Option Addr} {m cap n : Nat} {xs : List Value} (r : Reads L (.slice ao m cap) n xs) (h : 0 < xs.length) : ∀ w, Sat (hp w) L → (ao.getD ⟨0, 0, none⟩).spot = none := by
  obtain ⟨ao', cap', hv, hr⟩ := r
  injection hv with e1 e2 e3
  subst e1
  exact fun w hw => (hr w hw 0 xs[0] (by simp [h])).2.1
/-- A slice value that holds something is not nil. -/
theorem Reads.empty {m cap n : Nat} {xs : List Value} (r : Reads L (.slice none m cap) n xs) : ∀ w, Sat (hp w) L → xs = [] := fun w hw => by
  cases xs with
  | nil => rfl
  | cons a l => exact absurd (r.some (by simp) w hw) (by simp)

theorem equal_snil {T e : TypeId} {w : World} {o : Option Addr} {m cap : Nat} (i : Ty P T (.slice e) z n b) : (Op.equal T (.slice o m cap) (.slice none 0 0)).run P w = .ok o.isNone w := by
  have : ∀ k : Nat, (Op.equalIn (k + 1) T (.slice o m cap) (.slice none 0 0)).run P w = .ok o.isNone w := fun k => by
    cases o <;> simp [Op.equalIn, i.run_und]
  simpa [Op.equal, Op.maxDepth] using this 9999
theorem pu_eql_snil {T T' e : TypeId} {o : Option Addr} {m cap : Nat} {d : Option Nat} (i : Ty P T (.slice e) z n b) (h1 : ev E x = some (.slice o m cap)) (h2 : ev E y = some (.slice none 0 0)) : Pu P ⟨d, .binOp .eql T x y T', ty, pos, af, g⟩ N E L (.bool o.isNone) := fun a w f _ => by
  simp [execOp, f.eval h1, f.eval h2, eqGuard, binOp, equal_snil i]
theorem pu_neq_snil {T T' e : TypeId} {o : Option Addr} {m cap : Nat} {d : Option Nat} (i : Ty P T (.slice e) z n b) (h1 : ev E x = some (.slice o m cap)) (h2 : ev E y = some (.slice none 0 0)) : Pu P ⟨d, .binOp .neq T x y T', ty, pos, af, g⟩ N E L (.bool (!o.isNone)) := fun a w f _ => by
  simp [execOp, f.eval h1, f.eval h2, eqGuard, binOp, equal_snil i]

theorem ints_all (l : List Int) : (ints l).all (·.oneCell') = true := by simp [ints, List.all_eq_true, Value.oneCell']
theorem ints_len1 (l : List Int) : (ints l).length = l.length * 1 := by simp [ints]
theorem ints_at (l : List Int) (i : Nat) (h : i < l.length) : (ints l)[i]? = some (.int .i64 l[i]) := by simp [ints, h]

theorem pu_add64 {p q : Int} {T T' : TypeId} {d : Option Nat} (h1 : ev E x = some (.int .i64 p)) (h2 : ev E y = some (.int .i64 q)) (hb : -9223372036854775808 ≤ p + q ∧ p + q ≤ 9223372036854775807) : Pu P ⟨d, .binOp .add T x y T', ty, pos, af, g⟩ N E L (.int .i64 (p + q)) := (pu_add h1 h2).wrapped (wrap_i64 hb)
theorem pu_sub64 {p q : Int} {T T' : TypeId} {d : Option Nat} (h1 : ev E x = some (.int .i64 p)) (h2 : ev E y = some (.int .i64 q)) (hb : -9223372036854775808 ≤ p - q ∧ p - q ≤ 9223372036854775807) : Pu P ⟨d, .binOp .sub T x y T', ty, pos, af, g⟩ N E L (.int .i64 (p - q)) := (pu_sub h1 h2).wrapped (wrap_i64 hb)
theorem pu_eql_nil' {T T' : TypeId} {d : Option Nat} {e : TypeId} {o : Option Addr} (i : Ty P T (.pointer e) z n b) (h1 : ev E x = some (.pointer none)) (h2 : ev E y = some (.pointer o)) (ho : o.isSome = true) : Pu P ⟨d, .binOp .eql T x y T', ty, pos, af, g⟩ N E L (.bool false) := fun a w f _ => by
  have : ∀ k : Nat, (Op.equalIn (k + 1) T (.pointer none) (.pointer o)).run P w = .ok o.isNone w := fun k => by
    simp [Op.equalIn, i.run_und]
  have h3 := this 9999
  cases o with
  | none => simp at ho
  | some a => simp [execOp, f.eval h1, f.eval h2, eqGuard, binOp, Op.equal, Op.maxDepth, h3]

theorem Ent.sub {A : HP} {L M : List HP} (e : Ent L M) : Ent (A :: L) M := e.drop
/-- The end of a call: what is told, and what is held. -/
theorem kq_fin {fn : Func} {Post : Value → List HP → Prop} {rs : List ResultVar} {vs : List Value} (M : List HP) (hr : fn.results = rs.toArray) (hv : RVals P E L rs vs) (hp : Post (tup vs) M) (e : Ent L M) :
    KQ (bodyPost P fn (fun en w' => ∃ r L', en = .returned r ∧ Post r L' ∧ Sy w0 L' w') .ret) w0 N E L := kq_end hr hv fun _ s => ⟨_, M, rfl, hp, s.ent e⟩
theorem RVals.agg {t ty : Nat} {ad : Addr} {vs' : List Value} {rs : List ResultVar} {vs : List Value} (i : Ty P ty dt z n b) (hd : aggD dt = true) (h : lk E t = some (.pointer (some ad))) (hl : Rds L ad 0 n vs') (k : RVals P E L rs vs) : RVals P E L (.cell t ty :: rs) (.agg vs'.toArray :: vs) :=
  .cell h (fun _ s => run_loadVar_agg i hd hl s) k
end
end Sl
