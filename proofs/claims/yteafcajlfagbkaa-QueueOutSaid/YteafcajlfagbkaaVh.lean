/- DERIVED. The walk over what is owned: rules for operations on memory. No translation is named here. -/
import Derived.Test.YteafcajlfagbkaaVo
namespace Sl
set_option linter.unusedSimpArgs false
set_option linter.unusedVariables false
open Go Go.RowKit Cv

/-! ### reading -/
/-- A cell that can be read in every world that holds L. -/
def Rd (L : List HP) (p : Addr) (v : Value) : Prop := ∀ w, Sat (hp w) L → w.cell? p = some v

theorem Rd.blk {L R : List HP} {b o : Nat} {cs : List Value} {t : TypeId} {fz : Nat × Nat} {v : Value} (s : Sel L (blk b (.cells cs.toArray t fz)) R) (hv : cs[o]? = some v) : Rd L ⟨b, o, none⟩ v := fun w h => by
  have : w.heap[b]? = some (.cells cs.toArray t fz) := (s.sat h).blk
  simp [World.cell?, this, hv]

/-- Cells one behind the other that can be read. -/
inductive Rds (L : List HP) (p : Addr) : Nat → Nat → List Value → Prop
  | zero {o : Nat} : Rds L p o 0 []
  | succ {o n : Nat} {v : Value} {vs : List Value} (h : Rd L (p.add o) v) (k : Rds L p (o + 1) n vs) : Rds L p o (n + 1) (v :: vs)

theorem Rds.get {L : List HP} {p : Addr} {o n : Nat} {vs : List Value} (h : Rds L p o n vs) : vs.length = n ∧ ∀ j u, vs[j]? = some u → Rd L (p.add (o + j)) u := by
  induction h with
  | zero => simp
  | succ h _ ih =>
    refine ⟨by simp [ih.1], fun j u hj => ?_⟩
    cases j with
    | zero =>
      have e := by simpa using hj
      rw [← e]; exact h
    | succ j => have := ih.2 j u (by simpa using hj); rw [show ∀ o : Nat, o + (j + 1) = o + 1 + j from fun o => by omega]; exact this

theorem Rds.of_tk {L R : List HP} {b o m n : Nat} {cs vs : List Value} {t : TypeId} {fz : Nat × Nat} (s : Sel L (blk b (.cells cs.toArray t fz)) R) (h : Tk cs (o + m) n vs) : Rds L ⟨b, o, none⟩ m n vs := by
  generalize e : o + m = q at h
  induction h generalizing m with
  | zero => exact .zero
  | succ hv _ ih =>
    subst e
    refine .succ ?_ (ih (by omega))
    have : (⟨b, o, none⟩ : Addr).add m = ⟨b, o + m, none⟩ := by simp [Addr.add]
    rw [this]
    exact Rd.blk s hv

/-! ### rows: slices -/
/-- A slice value, all of whose cells are owned; or one that can hold nothing. -/
structure row (e sz : Nat) (v : Value) (n : Nat) (xs : List Value) (h : PH) : Prop where
  len : xs.length = n * sz
  lies : (n = 0 ∧ ∃ ao, v = .slice ao 0 0) ∨
    ∃ g cap cur, v = .slice (some ⟨g, 0, none⟩) n cap ∧ h g = some (.cells cur e (0, 0)) ∧ n ≤ cap ∧ cap ≤ maxLen ∧ cur.size = cap * sz ∧ cur.toList.take (n * sz) = xs

theorem Sat.head {h : PH} {A : HP} {L : List HP} (hs : Sat h (A :: L)) (m : ∀ {h h' : PH}, (∀ k o, h k = some o → h' k = some o) → A h → A h') : A h := by
  obtain ⟨S, ha, _⟩ := hs
  exact m (fun k o hk => (on_some hk).2) ha

theorem row_mono {e sz : Nat} {v : Value} {n : Nat} {xs : List Value} {h h' : PH} (hh : ∀ k o, h k = some o → h' k = some o) (r : row e sz v n xs h) : row e sz v n xs h' := by
  obtain ⟨h1, h2⟩ := r
  refine ⟨h1, h2.imp id ?_⟩
  rintro ⟨g, cap, cur, hv, hg, rest⟩
  exact ⟨g, cap, cur, hv, hh _ _ hg, rest⟩

theorem Sat.row {h : PH} {e sz : Nat} {v : Value} {n : Nat} {xs : List Value} {L : List HP} (hs : Sat h (Sl.row e sz v n xs :: L)) : Sl.row e sz v n xs h := hs.head row_mono

/-- The first part is laid anew. -/
theorem Sat.reframe {h h' : PH} {A B : HP} {L : List HP} (hs : Sat h (A :: L)) (f : ∀ S, A (h.on S) → ∃ S', B (h'.on S') ∧ ∀ k o, ¬ S k → h k = some o → ¬ S' k ∧ h' k = some o) : Sat h' (B :: L) := by
  obtain ⟨S, ha, hl⟩ := hs
  obtain ⟨S', hb, hk⟩ := f S ha
  refine ⟨S', hb, Sat.of_below ?_ hl⟩
  intro k o hko
  obtain ⟨h1, h2⟩ := on_some hko
  obtain ⟨h3, h4⟩ := hk k o h1 h2
  rw [on_pos h3]; exact h4

theorem row_nil {w0 w : World} {L : List HP} (h : Sy w0 L w) (e sz : Nat) (ao : Option Addr) : Sy w0 (row e sz (.slice ao 0 0) 0 [] :: L) w :=
  ⟨h.1, fun _ => False, ⟨by simp, .inl ⟨rfl, ao, rfl⟩⟩, by rw [on_all]; exact h.2; simp⟩

theorem ent_nil {L M : List HP} (e sz : Nat) (ao : Option Addr) (h : Ent (row e sz (.slice ao 0 0) 0 [] :: L) M) : Ent L M := fun hh s =>
  h hh ⟨fun _ => False, ⟨by simp, .inl ⟨rfl, ao, rfl⟩⟩, by rw [on_all]; exact s; simp⟩

theorem row_owns {w : World} {e sz : Nat} {v : Value} {n : Nat} {xs : List Value} (hv : ∀ g, v ≠ .slice (some g) 0 0) (h : row e sz v n xs (hp w)) : w.ownsRow 0 e sz v n xs := by
  obtain ⟨h1, h2⟩ := h
  refine ⟨h1, ?_⟩
  rcases h2 with ⟨rfl, ao, rfl⟩ | ⟨g, cap, cur, rfl, hg, a, b, c, d⟩
  · cases ao with
    | none => exact .inl ⟨rfl, rfl⟩
    | some g => exact absurd rfl (hv g)
  · exact .inr ⟨g, cap, cur, rfl, Nat.zero_le _, hg, a, b, c, d⟩

theorem row_form {e sz : Nat} {v : Value} {n : Nat} {xs : List Value} {h : PH} (r : row e sz v n xs h) : ∃ ao cap, v = .slice ao n cap ∧ (ao.getD ⟨0, 0, none⟩).spot = none ∨ v = .slice ao n 0 := by
  rcases r.lies with ⟨rfl, ao, rfl⟩ | ⟨g, cap, cur, rfl, _⟩
  · exact ⟨ao, 0, .inr rfl⟩
  · exact ⟨_, cap, .inl ⟨rfl, rfl⟩⟩

theorem row_get {w : World} {e sz : Nat} {ao : Option Addr} {n m cap : Nat} {xs : List Value} (h : row e sz (.slice ao m cap) n xs (hp w)) {j : Nat} {u : Value} (hj : xs[j]? = some u) : w.cell? (at_ ao j) = some u ∧ m = n ∧ (ao.getD ⟨0, 0, none⟩).spot = none ∧ ao.isSome = true := by
  obtain ⟨h1, h2⟩ := h
  have hlt := (List.getElem?_eq_some_iff.1 hj).1
  rcases h2 with ⟨rfl, _⟩ | ⟨g, cap', cur, hv, hg, a, b, c, d⟩
  · simp at h1; simp [h1] at hlt
  · injection hv with e1 e2 e3
    subst e1; subst e2; subst e3
    refine ⟨?_, rfl, rfl, rfl⟩
    rw [at_some]
    have : w.heap[g]? = some (.cells cur e (0, 0)) := hg
    simp only [World.cell?, this, Option.isSome_none, Bool.false_eq_true, if_false]
    rw [← d, List.getElem?_take] at hj
    split at hj
    · simpa using hj
    · cases hj

theorem Rd.row {L R : List HP} {e sz : Nat} {ao : Option Addr} {n m cap j : Nat} {xs : List Value} {u : Value} (s : Sel L (row e sz (.slice ao m cap) n xs) R) (hj : xs[j]? = some u) : Rd L (at_ ao j) u := fun _ h => (row_get (s.sat h).row hj).1

/-- Where a row stands, its value can be indexed. -/
def Spot (L : List HP) (ao : Option Addr) : Prop := ∀ w, Sat (hp w) L → (ao.getD ⟨0, 0, none⟩).spot = none ∧ ao.isSome = true

/-- All cells of a slice value can be read. -/
def Reads (L : List HP) (v : Value) (n : Nat) (xs : List Value) : Prop := ∃ ao cap, v = .slice ao n cap ∧ ∀ w, Sat (hp w) L → ∀ j u, xs[j]? = some u → w.cell? (at_ ao j) = some u ∧ (ao.getD ⟨0, 0, none⟩).spot = none ∧ ao.isSome = true

theorem Reads.row {L R : List HP} {e sz : Nat} {ao : Option Addr} {n cap : Nat} {xs : List Value} (s : Sel L (row e sz (.slice ao n cap) n xs) R) : Reads L (.slice ao n cap) n xs :=
  ⟨ao, cap, rfl, fun _ h _ _ hj => let ⟨a, _, c, d⟩ := row_get (s.sat h).row hj; ⟨a, c, d⟩⟩

theorem Reads.ent {L M : List HP} {v : Value} {n : Nat} {xs : List Value} (r : Reads L v n xs) (e : Ent M L) : Reads M v n xs := by
  obtain ⟨ao, cap, hv, hr⟩ := r
  exact ⟨ao, cap, hv, fun w h => hr w (e _ h)⟩

theorem Reads.rd {L : List HP} {ao : Option Addr} {m cap n : Nat} {xs : List Value} (r : Reads L (.slice ao m cap) n xs) {j : Nat} {u : Value} (hj : xs[j]? = some u) : Rd L (at_ ao j) u := by
  obtain ⟨ao', cap', hv, hr⟩ := r
  injection hv with e1 e2 e3
  subst e1
  exact fun w h => (hr w h j u hj).1

/-- What was there at the start, and has not turned. -/
def old (W : World) : HP := fun h => ∀ k o, W.heap[k]? = some o → h k = some o

theorem old_mono {W : World} {h h' : PH} (hh : ∀ k o, h k = some o → h' k = some o) (r : old W h) : old W h' := fun k o e => hh _ _ (r k o e)

theorem Rd.old {L R : List HP} {W : World} {p : Addr} {v : Value} (s : Sel L (old W) R) (h : W.cell? p = some v) : Rd L p v := fun w hs => by
  have := (s.sat hs).head old_mono
  have hlt := World.block_lt_of_cell? W p h
  have e := this p.block _ (Array.getElem?_eq_getElem hlt)
  rw [← h]
  exact World.cell?_of_block (w := W) (by rw [Array.getElem?_eq_getElem hlt]; exact e)

section
variable {P : Program} {N : Nat} {E : Env} {L : List HP} {d : Option Nat} {ty : TypeId} {pos : String} {af : Array Edge} {g : Option (Nat × Bool)} {x y c : Operand} {v u : Value} {T : TypeId} {dt : TypeDesc} {z : Value} {n b : Nat}

theorem pu_load {p : Addr} (i : Ty P T dt z n b) (hd : aggD dt = false) (h : ev E x = some (.pointer (some p))) (hr : Rd L p v) : Pu P ⟨d, .load T x, ty, pos, af, g⟩ N E L v := ⟨fun a w f s => by
  simp [execOp, f.eval h, Instr.loadAt, Instr.sureAddr, loadVar, i.run_agg, hd, hr w s]⟩

theorem run_loadVar_agg {w : World} {p : Addr} {vs : List Value} (i : Ty P T dt z n b) (hd : aggD dt = true) (hr : Rds L p 0 n vs) (s : Sat (hp w) L) : (loadVar T p).run P w = .ok (.agg vs.toArray) w := by
  obtain ⟨hl, hg⟩ := hr.get
  have := run_loadCells_list (P := P) (w := w) p vs (fun j u hj => by have := hg j u hj w s; simpa using this)
  simp [loadVar, i.run_agg, hd, i.run_size, ← hl, this]

theorem pu_load_agg {p : Addr} {vs : List Value} (i : Ty P T dt z n b) (hd : aggD dt = true) (h : ev E x = some (.pointer (some p))) (hr : Rds L p 0 n vs) : Pu P ⟨d, .load T x, ty, pos, af, g⟩ N E L (.agg vs.toArray) := ⟨fun a w f s => by
  simp [execOp, f.eval h, Instr.loadAt, Instr.sureAddr, run_loadVar_agg i hd hr s]⟩

/-! ### len, indexing, slicing -/
theorem pu_len {e : TypeId} {ao : Option Addr} {m cap : Nat} (i : Ty P T (.slice e) z n b) (h : ev E x = some (.slice ao m cap)) :
    Pu P ⟨d, .call ⟨.builtin .len, #[x], #[T]⟩, ty, pos, af, g⟩ N E L (.int .i64 m) := ⟨fun a w f s => by
  simp [execOp, resolve, invoke, builtin, f.eval h, Builtin.len_, i.run_und, goInt]⟩
theorem pu_len_str {s : ByteArray} (i : Ty P T .string z n b) (h : ev E x = some (.string s)) :
    Pu P ⟨d, .call ⟨.builtin .len, #[x], #[T]⟩, ty, pos, af, g⟩ N E L (.int .i64 s.size) := ⟨fun a w f s => by
  simp [execOp, resolve, invoke, builtin, f.eval h, Builtin.len_, i.run_und, goInt]⟩
theorem pu_min {k k' : IntKind} {p q : Int} {ts : Array TypeId} (h1 : ev E x = some (.int k p)) (h2 : ev E y = some (.int k' q)) :
    Pu P ⟨d, .call ⟨.builtin .min, #[x, y], ts⟩, ty, pos, af, g⟩ N E L (.int k (if q < p then q else p)) := ⟨fun a w f s => by
  simp [execOp, resolve, invoke, builtin, f.eval h1, f.eval h2, run_min_int2]⟩

theorem pu_index {e : TypeId} {de : TypeDesc} {ze : Value} {ne be : Nat} {ao : Option Addr} {m cap : Nat} {k : IntKind} {j : Int} (i : Ty P T (.slice e) z n b) (ie : Ty P e de ze ne be) (h : ev E x = some (.slice ao m cap)) (h2 : ev E y = some (.int k j))
    (hj : 0 ≤ j ∧ j < (m : Int)) (ha : ∀ w, Sat (hp w) L → ao.isSome = true) : Pu P ⟨d, .indexAddr T x y, ty, pos, af, g⟩ N E L (.pointer (some (at_ ao (j.toNat * ne)))) := ⟨fun a w f s => by
  have := ha w s
  obtain ⟨q, rfl⟩ := Option.isSome_iff_exists.1 this
  simp [execOp, f.eval h, f.eval h2, Instr.indexAt, asIntOf, i.run_und, ie.run_size, hj.1, hj.2, at_]⟩

theorem pu_index_str {s : ByteArray} {k : IntKind} {j : Int} {c : UInt8} (i : Ty P T .string z n b) (h : ev E x = some (.string s)) (h2 : ev E y = some (.int k j)) (hj : 0 ≤ j) (hc : s[j.toNat]? = some c) :
    Pu P ⟨d, .index T x y, ty, pos, af, g⟩ N E L (.int .u8 c.toNat) := ⟨fun a w f _ => by
  simp [execOp, f.eval h, f.eval h2, Instr.index, asIntOf, i.run_und, hj, hc]⟩
end

/-! ### what is made, and what is written -/
/-- One cell of some laid anew. -/
inductive Pt : List Value → Nat → Value → List Value → Prop
  | here {x v : Value} {l : List Value} : Pt (x :: l) 0 v (v :: l)
  | there {x v : Value} {l l' : List Value} {i : Nat} (h : Pt l i v l') : Pt (x :: l) (i + 1) v (x :: l')
theorem Pt.eq {l l' : List Value} {i : Nat} {v : Value} (h : Pt l i v l') : i < l.length ∧ l' = l.set i v := by
  induction h with
  | here => simp
  | there _ ih => exact ⟨by simp [ih.1], by simp [ih.2]⟩

/-- Several of them. -/
inductive Pts : List Value → Nat → List Value → List Value → Prop
  | nil {l : List Value} {i : Nat} : Pts l i [] l
  | cons {l l1 l' : List Value} {i : Nat} {v : Value} {vs : List Value} (h : Pt l i v l1) (k : Pts l1 (i + 1) vs l') : Pts l i (v :: vs) l'

/-- The cells of a value. -/
def celv : Value → List Value
  | .agg cs => cs.toList
  | v => [v]
theorem celv_eq (v : Value) : v.cells = (celv v).toArray := by cases v <;> simp [Value.cells, celv]

section
variable {P : Program} {Q : Exit → Act → World → Prop} {K : Act → World → Prop} {w0 : World} {N : Nat} {E : Env} {L R : List HP} {d : Option Nat} {ty : TypeId} {pos : String} {af : Array Edge} {g : Option (Nat × Bool)} {x y c : Operand} {v u : Value} {T : TypeId} {dt : TypeDesc} {z : Value} {n b : Nat}

theorem wx_alloc (i : Ty P T dt z n b) (hd : okd N d = true) (h : ∀ q, KQ K w0 N (pe E d (.pointer (some ⟨q, 0, none⟩))) (blk q (.cells (celv z).toArray T (0, 0)) :: L)) : WX P Q ⟨d, .alloc T, ty, pos, af, g⟩ K w0 N E L := ⟨fun a w f s => by
  unfold Oper.wp
  simp [execOp, Instr.alloc, i.run_zero, newVar, newRow, celv_eq]
  exact (h w.heap.size).run _ _ (f.put hd _) (s.alloc _)⟩

theorem wx_box (hx : ev E x = some v) (hd : okd N d = true) (h : ∀ q, KQ K w0 N (pe E d (.pointer (some ⟨q, 0, none⟩))) (blk q (.cells (celv v).toArray T (0, 0)) :: L)) : WX P Q ⟨d, .box T x, ty, pos, af, g⟩ K w0 N E L := ⟨fun a w f s => by
  unfold Oper.wp
  simp [execOp, Instr.box, f.eval hx, newVar, newRow, celv_eq]
  exact (h w.heap.size).run _ _ (f.put hd _) (s.alloc _)⟩

theorem Sy.store {w w' : World} {bl : Nat} {t : TypeId} : ∀ {vs cs cs' : List Value} {o i : Nat}, Pts cs (o + i) vs cs' → (∀ v ∈ vs, v.oneCell' = true) → Sy w0 (blk bl (.cells cs.toArray t (0, 0)) :: L) w →
    ∃ w', (storeCells ⟨bl, o, none⟩ vs i).run P w = .ok () w' ∧ Sy w0 (blk bl (.cells cs'.toArray t (0, 0)) :: L) w'
  | [], _, _, _, _, hp, _, hs => by
    cases hp
    exact ⟨w, by simp [storeCells], hs⟩
  | v :: vs, cs, cs', o, i, hp, h1, hs => by
    cases hp with
    | cons h k =>
      obtain ⟨hlt, rfl⟩ := h.eq
      have hb := hs.get
      have hadd : (⟨bl, o, none⟩ : Addr).add i = ⟨bl, o + i, none⟩ := by simp [Addr.add]
      have hc : w.cell? ⟨bl, o + i, none⟩ = some cs[o + i] := by simp [World.cell?, hb, hlt]
      have hf : w.frozen? ⟨bl, o + i, none⟩ = false := by simp [World.frozen?, hb]
      have hs' := hs.setCell (off := o + i) v
      have he : cs.toArray.setIfInBounds (o + i) v = (cs.set (o + i) v).toArray := by simp
      rw [he] at hs'
      obtain ⟨w2, hr, h2⟩ := Sy.store (w' := w') (i := i + 1) k (fun v hv => h1 v (by simp [hv])) hs'
      refine ⟨w2, ?_, h2⟩
      simp only [storeCells, Sem.run_bind, hadd]
      rw [run_store P w _ v .plain (h1 v (by simp))]
      simp [hc, hf]
      exact hr

theorem wx_store {bl o : Nat} {cs cs' : List Value} {t : TypeId} (i : Ty P T dt z n b) (hx : ev E x = some (.pointer (some ⟨bl, o, none⟩))) (hy : ev E y = some v) (hn : (celv v).length = n) (s : Sel L (blk bl (.cells cs.toArray t (0, 0))) R) (hp : Pts cs o (celv v) cs')
    (h1 : (celv v).all (·.oneCell') = true) (hd : okd N d = true) (h : KQ K w0 N (pe E d undef) (blk bl (.cells cs'.toArray t (0, 0)) :: R)) : WX P Q ⟨d, .store T x y, ty, pos, af, g⟩ K w0 N E L := ⟨fun a w f sy => by
  obtain ⟨w', hr, hs'⟩ := Sy.store (P := P) (w0 := w0) (w' := w) (o := o) (i := 0) hp (fun v hv => List.all_eq_true.1 h1 v hv) (sy.ent fun _ q => s.sat q)
  unfold Oper.wp
  simp [execOp, f.eval hx, f.eval hy, Instr.storeAt, Instr.sureAddr, storeVar, i.run_size, celv_eq, hn, hr]
  exact h.run _ _ (f.put hd _) hs'⟩

end
end Sl
