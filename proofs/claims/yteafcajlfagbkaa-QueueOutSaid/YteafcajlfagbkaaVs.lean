/- DERIVED. The walk over what is owned: parts of slices; appending within the room; cells that are cleared. No translation is named here. -/
import Derived.Test.YteafcajlfagbkaaVc
import Derived.Lib.SliceRun
namespace Sl
set_option linter.unusedSimpArgs false
set_option linter.unusedVariables false
open Go Go.RowKit Cv

/-- Some cells laid over others. -/
def splice (cs : List Value) (o : Nat) (vs : List Value) : List Value := cs.take o ++ vs ++ cs.drop (o + vs.length)
theorem splice_nil (cs : List Value) (o : Nat) : splice cs o [] = cs := by simp [splice]
theorem splice_len (cs : List Value) (o : Nat) (vs : List Value) (h : o + vs.length ≤ cs.length) : (splice cs o vs).length = cs.length := by simp [splice]; omega
theorem splice_cons (cs : List Value) (o : Nat) (v : Value) (vs : List Value) (h : o + vs.length + 1 ≤ cs.length) : splice (cs.set o v) (o + 1) vs = splice cs o (v :: vs) := by
  unfold splice
  rw [List.take_succ_eq_append_getElem (by simp; omega), List.drop_set_of_lt (by omega)]
  simp [Nat.add_comm, Nat.add_left_comm, List.take_set_of_le]
theorem splice_take (cs : List Value) (o k : Nat) (vs : List Value) (h : k ≤ o) (ho : o ≤ cs.length) : (splice cs o vs).take k = cs.take k := by
  unfold splice
  rw [List.append_assoc, List.take_append_of_le_length (by simp; omega), List.take_take, Nat.min_eq_left h]
theorem splice_in (cs : List Value) (o k : Nat) (vs : List Value) (h : k = o + vs.length) (ho : o ≤ cs.length) : (splice cs o vs).take k = cs.take o ++ vs := by
  unfold splice
  subst h
  have : (cs.take o ++ vs).length = o + vs.length := by simp; omega
  rw [← this]; exact List.take_left

theorem Sy.setCells {w0 : World} {b : Nat} {t : TypeId} {L : List HP} : ∀ {vs cs : List Value} {o : Nat} {w : World}, o + vs.length ≤ cs.length → Sy w0 (blk b (.cells cs.toArray t (0, 0)) :: L) w → Sy w0 (blk b (.cells (splice cs o vs).toArray t (0, 0)) :: L) (w.setCells b o vs)
  | [], cs, o, w, _, h => by rw [splice_nil]; exact h
  | v :: vs, cs, o, w, hl, h => by
    have h' := h.setCell (off := o) v
    have he : cs.toArray.setIfInBounds o v = (cs.set o v).toArray := by simp
    rw [he] at h'
    have := Sy.setCells (vs := vs) (cs := cs.set o v) (o := o + 1) (by simp at hl ⊢; omega) h'
    rw [splice_cons _ _ _ _ (by simp at hl; omega)] at this
    exact this

theorem Sat.row_open {h : PH} {e sz n cap : Nat} {ao : Option Addr} {xs : List Value} {L : List HP} (hs : Sat h (Sl.row e sz (.slice ao n cap) n xs :: L)) (hn : 0 < n) :
    ∃ (g : Nat) (cur : List Value), ao = some ⟨g, 0, none⟩ ∧ n ≤ cap ∧ cap ≤ maxLen ∧ cur.length = cap * sz ∧ cur.take (n * sz) = xs ∧ Sat h (Sl.blk g (.cells cur.toArray e (0, 0)) :: L) := by
  obtain ⟨S, ha, hl⟩ := hs
  rcases ha.lies with ⟨rfl, _⟩ | ⟨g, cap', cur, hv, hg, a, b, c, d⟩
  · omega
  · injection hv with e1 e2 e3
    subst e1; subst e3
    exact ⟨g, cur.toList, rfl, a, b, by simpa using c, d, S, ⟨hg⟩, hl⟩

theorem ent_close {e sz n cap g : Nat} {cur : List Value} {L M : List HP} (h1 : n ≤ cap) (h2 : cap ≤ maxLen) (h3 : cur.length = cap * sz) (k : Ent (row e sz (.slice (some ⟨g, 0, none⟩) n cap) n (cur.take (n * sz)) :: L) M) : Ent (blk g (.cells cur.toArray e (0, 0)) :: L) M := fun h hs => k h (by
  obtain ⟨S, ⟨ha⟩, hl⟩ := hs
  refine ⟨S, ⟨?_, .inr ⟨g, cap, cur.toArray, rfl, ha, h1, h2, by simpa using h3, rfl⟩⟩, hl⟩
  rw [List.length_take, h3]
  exact Nat.min_eq_left (Nat.mul_le_mul_right sz h1))

section
variable {P : Program} {Q : Exit → Act → World → Prop} {K : Act → World → Prop} {w0 : World} {N t : Nat} {E : Env} {L R S : List HP} {d : Option Nat} {ty : TypeId} {pos : String} {af : Array Edge} {g : Option (Nat × Bool)} {x y c : Operand} {v u : Value} {T : TypeId} {dt : TypeDesc} {z : Value} {n b : Nat}

theorem kq_open {e sz m cap : Nat} {ao : Option Addr} {xs : List Value} (hn : 0 < m) (h : ∀ (g : Nat) (cur : List Value), ao = some ⟨g, 0, none⟩ → m ≤ cap → cap ≤ maxLen → cur.length = cap * sz → cur.take (m * sz) = xs → KQ K w0 N E (blk g (.cells cur.toArray e (0, 0)) :: R))
    (s : Sel L (row e sz (.slice ao m cap) m xs) R := by ((repeat (first | exact Sel.here | apply Sel.there)); done)) : KQ K w0 N E L := ⟨fun a w f sy => by
  have sy' := sy.ent fun _ q => s.sat q
  obtain ⟨g, cur, h1, h2, h3, h4, h5, h6⟩ := sy'.2.row_open hn
  exact (h g cur h1 h2 h3 h4 h5).run a w f ⟨sy'.1, h6⟩⟩

theorem wx_open {oo : Oper} {e sz m cap : Nat} {ao : Option Addr} {xs : List Value} (hn : 0 < m) (h : ∀ (g : Nat) (cur : List Value), ao = some ⟨g, 0, none⟩ → m ≤ cap → cap ≤ maxLen → cur.length = cap * sz → cur.take (m * sz) = xs → WX P Q oo K w0 N E (blk g (.cells cur.toArray e (0, 0)) :: R))
    (s : Sel L (row e sz (.slice ao m cap) m xs) R := by ((repeat (first | exact Sel.here | apply Sel.there)); done)) : WX P Q oo K w0 N E L := ⟨fun a w f sy => by
  have sy' := sy.ent fun _ q => s.sat q
  obtain ⟨g, cur, h1, h2, h3, h4, h5, h6⟩ := sy'.2.row_open hn
  exact (h g cur h1 h2 h3 h4 h5).run a w f ⟨sy'.1, h6⟩⟩
/-- Either form of a row. -/
theorem kq_form {e sz m cap : Nat} {ao : Option Addr} {xs : List Value} (h0 : m = 0 → cap = 0 → xs = [] → KQ K w0 N E R) (h : ∀ (g : Nat) (cur : List Value), ao = some ⟨g, 0, none⟩ → m ≤ cap → cap ≤ maxLen → cur.length = cap * sz → cur.take (m * sz) = xs → KQ K w0 N E (blk g (.cells cur.toArray e (0, 0)) :: R))
    (s : Sel L (row e sz (.slice ao m cap) m xs) R := by ((repeat (first | exact Sel.here | apply Sel.there)); done)) : KQ K w0 N E L := ⟨fun a w f sy => by
  have sy' := sy.ent fun _ q => s.sat q
  obtain ⟨S, ha, hl⟩ := sy'.2
  have hlen := ha.len
  rcases ha.lies with ⟨rfl, ao', hv⟩ | ⟨g, cap', cur, hv, hg, q1, q2, q3, q4⟩
  · injection hv with _ _ e3
    subst e3
    exact (h0 rfl rfl (List.eq_nil_of_length_eq_zero (by simpa using hlen))).run a w f (sy'.ent Ent.drop')
  · injection hv with e1 e2 e3
    subst e1; subst e3
    exact (h g cur.toList rfl q1 q2 (by simpa using q3) q4).run a w f ⟨sy'.1, S, ⟨hg⟩, hl⟩⟩
theorem reads_blk {gb o m cap sz : Nat} {cur : List Value} {t : TypeId} (s : Sel L (blk gb (.cells cur.toArray t (0, 0))) R) : Reads L (.slice (some ⟨gb, o, none⟩) m cap) m ((cur.drop o).take (m * sz)) := by
  refine ⟨_, _, rfl, fun w hw j u hj => ⟨?_, rfl, rfl⟩⟩
  have hb : w.heap[gb]? = some (.cells cur.toArray t (0, 0)) := (s.sat hw).blk
  rw [List.getElem?_take] at hj
  split at hj
  · rw [List.getElem?_drop] at hj
    rw [at_some]
    simp [World.cell?, hb, hj]
  · cases hj

section
variable {e : TypeId} {de : TypeDesc} {ze : Value} {sz be bl o m cap : Nat} {k k' k'' : IntKind} {l h mx : Int}
/-- A slice that holds nothing and can hold nothing. -/
theorem p_sle1 {ao : Option Addr} [i : Ty P T (.slice e) z n b] [ie : Ty P e de ze sz be] (h1 : ev E x = some (.slice ao 0 0) := by rfl) (h2 : ev E y = some (.int k 0) := by rfl) : Pu P ⟨d, .slice T x none (some y) none, ty, pos, af, g⟩ N E L (.slice ao 0 0) := ⟨fun a w f _ => by
  simp [execOp, f.eval h1, f.eval h2, Instr.sliceAt, Instr.slice, Instr.sliceBounds, Instr.sliceBound, asIntOf, i.run_und, ie.run_size]⟩
theorem p_sle2 {ao : Option Addr} [i : Ty P T (.slice e) z n b] [ie : Ty P e de ze sz be] (h1 : ev E x = some (.slice ao 0 0) := by rfl) (h2 : ev E y = some (.int k 0) := by rfl) : Pu P ⟨d, .slice T x (some y) none none, ty, pos, af, g⟩ N E L (.slice ao 0 0) := ⟨fun a w f _ => by
  simp [execOp, f.eval h1, f.eval h2, Instr.sliceAt, Instr.slice, Instr.sliceBounds, Instr.sliceBound, asIntOf, i.run_und, ie.run_size]⟩
theorem add_lit' (b o i : Nat) : (⟨b, o, none⟩ : Addr).add i = ⟨b, o + i, none⟩ := by unfold Addr.add; split <;> simp_all
/-- Where a part of a slice begins. -/
def begin_ (o cap l sz : Nat) : Nat := if cap = l then o else o + l * sz
theorem p_slh [i : Ty P T (.slice e) z n b] [ie : Ty P e de ze sz be] (h1 : ev E x = some (.slice (some ⟨bl, o, none⟩) m cap) := by rfl) (h2 : ev E y = some (.int k h) := by rfl) (hb : 0 ≤ h ∧ h ≤ (cap : Int) := by omega) :
    Pu P ⟨d, .slice T x none (some y) none, ty, pos, af, g⟩ N E L (.slice (some ⟨bl, o, none⟩) h.toNat cap) := ⟨fun a w f _ => by
  simp [execOp, f.eval h1, f.eval h2, Instr.sliceAt, Instr.slice, Instr.sliceBounds, Instr.sliceBound, asIntOf, i.run_und, ie.run_size, hb.1, hb.2, add_lit']⟩
theorem p_sll [i : Ty P T (.slice e) z n b] [ie : Ty P e de ze sz be] (h1 : ev E x = some (.slice (some ⟨bl, o, none⟩) m cap) := by rfl) (h2 : ev E y = some (.int k l) := by rfl) (hb : 0 ≤ l ∧ l ≤ (m : Int) := by omega) :
    Pu P ⟨d, .slice T x (some y) none none, ty, pos, af, g⟩ N E L (.slice (some ⟨bl, begin_ o cap l.toNat sz, none⟩) (m - l.toNat) (cap - l.toNat)) := ⟨fun a w f _ => by
  simp [execOp, f.eval h1, f.eval h2, Instr.sliceAt, Instr.slice, Instr.sliceBounds, Instr.sliceBound, asIntOf, i.run_und, ie.run_size, hb.1, hb.2, add_lit', begin_]
  split <;> rfl⟩
theorem p_slb [i : Ty P T (.slice e) z n b] [ie : Ty P e de ze sz be] (h1 : ev E x = some (.slice (some ⟨bl, o, none⟩) m cap) := by rfl) (h2 : ev E y = some (.int k l) := by rfl) (h3 : ev E c = some (.int k' h) := by rfl) (hb : 0 ≤ l ∧ l ≤ h := by omega) (hc : h ≤ (cap : Int) := by omega) :
    Pu P ⟨d, .slice T x (some y) (some c) none, ty, pos, af, g⟩ N E L (.slice (some ⟨bl, begin_ o cap l.toNat sz, none⟩) (h.toNat - l.toNat) (cap - l.toNat)) := ⟨fun a w f _ => by
  have h0 : 0 ≤ h := Int.le_trans hb.1 hb.2
  have h4 : l ≤ ((h.toNat : Nat) : Int) := by omega
  have h5 : l ≤ max h 0 := by omega
  simp [execOp, f.eval h1, f.eval h2, f.eval h3, Instr.sliceAt, Instr.slice, Instr.sliceBounds, Instr.sliceBound, asIntOf, i.run_und, ie.run_size, hb.1, hb.2, hc, h0, h5, add_lit', begin_]
  split <;> rfl⟩
variable {q : Operand}
theorem p_slm [i : Ty P T (.slice e) z n b] [ie : Ty P e de ze sz be] (h1 : ev E x = some (.slice (some ⟨bl, o, none⟩) m cap) := by rfl) (h2 : ev E y = some (.int k l) := by rfl) (h3 : ev E c = some (.int k' h) := by rfl) (h4 : ev E q = some (.int k'' mx) := by rfl)
    (hb : 0 ≤ l ∧ l ≤ h := by omega) (hc : h ≤ mx ∧ mx ≤ (cap : Int) := by omega) :
    Pu P ⟨d, .slice T x (some y) (some c) (some q), ty, pos, af, g⟩ N E L (.slice (some ⟨bl, begin_ o mx.toNat l.toNat sz, none⟩) (h.toNat - l.toNat) (mx.toNat - l.toNat)) := ⟨fun a w f _ => by
  have h0 : 0 ≤ h := Int.le_trans hb.1 hb.2
  have h5 : l ≤ max h 0 := by omega
  have h6 : 0 ≤ mx := Int.le_trans h0 hc.1
  have h7 : h ≤ max mx 0 := by omega
  simp [execOp, f.eval h1, f.eval h2, f.eval h3, f.eval h4, Instr.sliceAt, Instr.slice, Instr.sliceBounds, Instr.sliceBound, asIntOf, i.run_und, ie.run_size, hb.1, hb.2, hc.1, hc.2, h0, h5, h6, h7, add_lit', begin_]
  split <;> rfl⟩

theorem p_slhn {h : Nat} [i : Ty P T (.slice e) z n b] [ie : Ty P e de ze sz be] (h1 : ev E x = some (.slice (some ⟨bl, o, none⟩) m cap) := by rfl) (h2 : ev E y = some (.int k (h : Int)) := by rfl) (hb : h ≤ cap := by omega) :
    Pu P ⟨d, .slice T x none (some y) none, ty, pos, af, g⟩ N E L (.slice (some ⟨bl, o, none⟩) h cap) := p_slh (i := i) (ie := ie) h1 h2 (by omega)
theorem p_slln {l : Nat} [i : Ty P T (.slice e) z n b] [ie : Ty P e de ze sz be] (h1 : ev E x = some (.slice (some ⟨bl, o, none⟩) m cap) := by rfl) (h2 : ev E y = some (.int k (l : Int)) := by rfl) (hb : l ≤ m := by omega) :
    Pu P ⟨d, .slice T x (some y) none none, ty, pos, af, g⟩ N E L (.slice (some ⟨bl, begin_ o cap l sz, none⟩) (m - l) (cap - l)) := p_sll (i := i) (ie := ie) h1 h2 (by omega)
theorem p_slbn {l h : Nat} [i : Ty P T (.slice e) z n b] [ie : Ty P e de ze sz be] (h1 : ev E x = some (.slice (some ⟨bl, o, none⟩) m cap) := by rfl) (h2 : ev E y = some (.int k (l : Int)) := by rfl) (h3 : ev E c = some (.int k' (h : Int)) := by rfl) (hb : l ≤ h := by omega) (hc : h ≤ cap := by omega) :
    Pu P ⟨d, .slice T x (some y) (some c) none, ty, pos, af, g⟩ N E L (.slice (some ⟨bl, begin_ o cap l sz, none⟩) (h - l) (cap - l)) := p_slb (i := i) (ie := ie) h1 h2 h3 (by omega) (by omega)
theorem p_slmn {l h mx : Nat} [i : Ty P T (.slice e) z n b] [ie : Ty P e de ze sz be] (h1 : ev E x = some (.slice (some ⟨bl, o, none⟩) m cap) := by rfl) (h2 : ev E y = some (.int k (l : Int)) := by rfl) (h3 : ev E c = some (.int k' (h : Int)) := by rfl) (h4 : ev E q = some (.int k'' (mx : Int)) := by rfl)
    (hb : l ≤ h := by omega) (hc : h ≤ mx ∧ mx ≤ cap := by omega) :
    Pu P ⟨d, .slice T x (some y) (some c) (some q), ty, pos, af, g⟩ N E L (.slice (some ⟨bl, begin_ o mx l sz, none⟩) (h - l) (mx - l)) := p_slm (i := i) (ie := ie) h1 h2 h3 h4 (by omega) (by omega)

/-- append within the room, of cells of a block. -/
theorem w_apr {yl yo yc yk : Nat} {cs ys news : List Value} {t1 t2 : TypeId} [i : Ty P T (.slice e) z n b] [ie : Ty P e de ze sz be]
    (h : KQ K w0 N ((t, .slice (some ⟨bl, o, none⟩) (m + yk) cap) :: E) (blk bl (.cells (splice cs (o + m * sz) news).toArray t1 (0, 0)) :: R))
    (hroom : m + yk ≤ cap) (hin : o + (m + yk) * sz ≤ cs.length) (hn : news = (ys.drop yo).take (yk * sz)) (hy : yo + yk * sz ≤ ys.length) (ho : ∀ u ∈ news, u.oneCell' = true)
    (h1 : ev E x = some (.slice (some ⟨bl, o, none⟩) m cap) := by rfl) (h2 : ev E y = some (.slice (some ⟨yl, yo, none⟩) yk yc) := by rfl)
    (s : Sel L (blk bl (.cells cs.toArray t1 (0, 0))) R := by ((repeat (first | exact Sel.here | apply Sel.there)); done)) (s2 : Sel L (blk yl (.cells ys.toArray t2 (0, 0))) S := by ((repeat (first | exact Sel.here | apply Sel.there)); done)) (hd : Nat.blt t N = true := by rfl) :
    WX P Q ⟨some t, .call ⟨.builtin .append, #[x, y], #[T, T]⟩, ty, pos, af, g⟩ K w0 N E L := ⟨fun a w f sy => by
  have sy' := sy.ent fun _ q => s.sat q
  have hb := sy'.get
  have hb2 : w.heap[yl]? = some (.cells ys.toArray t2 (0, 0)) := (s2.sat sy.2).blk
  obtain ⟨ii, j1, j2, j3, j4⟩ := ie.info
  have hnl : news.length = yk * sz := by rw [hn]; simp; omega
  have hrun := run_append_room_cells (P := P) (w := w) T ty e ii i.und j1 bl o m cap ⟨yl, yo, none⟩ yk yc news (by rw [j3]; exact hnl) (fun j u hj => by
    rw [add_lit']
    have hj' := hj
    rw [hn, List.getElem?_take] at hj
    split at hj
    · rw [List.getElem?_drop] at hj
      simp [World.cell?, hb2, hj]
    · cases hj) ho hroom
    (fun j hj => by
      have hlt : o + m * ii.size + j < cs.length := by rw [j3]; rw [hnl] at hj; rw [Nat.add_mul] at hin; omega
      have hb' : w.heap[bl]? = some (.cells cs.toArray t1 (0, 0)) := hb
      simp [World.cell?, hb', hlt])
    (fun j hj => by
      have hb' : w.heap[bl]? = some (.cells cs.toArray t1 (0, 0)) := hb
      simp [World.frozen?, hb'])
  unfold Oper.wp
  simp [execOp, resolve, invoke, builtin, f.eval h1, f.eval h2, hrun]
  rw [j3]
  exact h.run _ _ (f.put (d := some t) hd _) (sy'.setCells (by rw [hnl, Nat.add_assoc, ← Nat.add_mul]; exact hin))⟩

/-- The cells of a slice are cleared. -/
theorem w_clr {cs : List Value} {t1 : TypeId} [i : Ty P T (.slice e) z n b] [ie : Ty P e de ze sz be]
    (h : ∀ zs : List Value, zs.length = m * sz → KQ K w0 N (pe E d (.tuple #[])) (blk bl (.cells (splice cs o zs).toArray t1 (0, 0)) :: R))
    (h1 : ev E x = some (.slice (some ⟨bl, o, none⟩) m cap) := by rfl) (hin : o + m * sz ≤ cs.length) (hz : (celv ze).length = sz := by rfl) (ho : (celv ze).all (·.oneCell') = true := by rfl)
    (s : Sel L (blk bl (.cells cs.toArray t1 (0, 0))) R := by ((repeat (first | exact Sel.here | apply Sel.there)); done)) (hd : okd N d = true := by rfl) :
    WX P Q ⟨d, .call ⟨.builtin .clear, #[x], #[T]⟩, ty, pos, af, g⟩ K w0 N E L := ⟨fun a w f sy => by
  have sy' := sy.ent fun _ q => s.sat q
  have hb : w.heap[bl]? = some (.cells cs.toArray t1 (0, 0)) := sy'.get
  unfold Oper.wp
  cases m with
  | zero =>
    have hrun : ∀ ty, (Builtin.clear_ #[T] ty #[.slice (some ⟨bl, o, none⟩) 0 cap]).run P w = .ok (.tuple #[]) w := fun ty => by simp [Builtin.clear_, i.run_und]
    simp [execOp, resolve, invoke, builtin, f.eval h1, hrun]
    have := (h [] (by simp)).run _ w (f.put hd _) (by rw [splice_nil]; exact sy')
    exact this
  | succ m =>
    have hzs : ze.cells.size = sz := by rw [celv_eq]; simpa using hz
    have hsz : sz = 0 ∨ 0 < sz := Nat.eq_zero_or_pos sz
    have hlen : (Builtin.zeroCells ze.cells (m + 1)).toList.length = (m + 1) * sz := by simp [Builtin.zeroCells, hzs]
    have hone : ∀ u ∈ (Builtin.zeroCells ze.cells (m + 1)).toList, u.oneCell' = true := by
      intro u hu
      rcases hsz with h0 | hpos
      · have : (Builtin.zeroCells ze.cells (m + 1)).toList = [] := List.eq_nil_of_length_eq_zero (by rw [hlen, h0]; simp)
        rw [this] at hu; cases hu
      · simp only [Builtin.zeroCells, Array.toList_map, List.mem_map] at hu
        obtain ⟨j, _, rfl⟩ := hu
        have hlt : j % ze.cells.size < ze.cells.size := Nat.mod_lt _ (by rw [hzs]; exact hpos)
        rw [getElem!_pos ze.cells _ hlt]
        refine List.all_eq_true.1 ho _ ?_
        rw [show celv ze = ze.cells.toList from by rw [celv_eq]]
        exact Array.getElem_mem_toList hlt
    have hst := run_storeCells_cells (P := P) bl o (Builtin.zeroCells ze.cells (m + 1)).toList 0 w (fun j hj => by
      rw [hlen] at hj
      have : o + 0 + j < cs.length := by omega
      simp [World.cell?, hb, this]; omega) (fun j hj => by simp [World.frozen?, hb]) hone
    simp only [Nat.add_zero] at hst
    have hrun : ∀ ty, (Builtin.clear_ #[T] ty #[.slice (some ⟨bl, o, none⟩) (m + 1) cap]).run P w = .ok (.tuple #[]) (w.setCells bl o (Builtin.zeroCells ze.cells (m + 1)).toList) := fun ty => by
      simp [Builtin.clear_, i.run_und, ie.run_zero, hst]
    simp only [execOp, resolve, invoke, builtin, f.eval h1, hrun, List.map_toArray, List.map_cons, List.map_nil]
    simp [hrun]
    exact (h _ hlen).run _ _ (f.put hd _) (sy'.setCells (by rw [hlen]; exact hin))⟩
end
end

/-- What slices.Delete leaves. -/
def delc (n cap i j sz : Nat) (cur zs : List Value) : List Value := splice (splice cur (0 + i * sz) ((cur.drop (begin_ 0 cap j sz)).take ((n - j) * sz))) (begin_ 0 cap (i + (n - j)) sz) zs
section
variable {n cap i j sz : Nat} {cur zs xs : List Value}
theorem del_src (hij : i < j) (hj : j ≤ n) (hc : n ≤ cap) (h3 : cur.length = cap * sz) : begin_ 0 cap j sz + (n - j) * sz ≤ cur.length := by
  unfold begin_
  rw [h3]
  split
  · rw [Nat.zero_add]; exact Nat.mul_le_mul_right sz (by omega)
  · rw [Nat.zero_add, ← Nat.add_mul]; exact Nat.mul_le_mul_right sz (by omega)
theorem del_news (hij : i < j) (hj : j ≤ n) (hc : n ≤ cap) (h3 : cur.length = cap * sz) : ((cur.drop (begin_ 0 cap j sz)).take ((n - j) * sz)).length = (n - j) * sz := by
  have := del_src hij hj hc h3
  simp; omega
theorem del_one (hij : i < j) (hj : j ≤ n) (hc : n ≤ cap) (h4 : cur.take (n * sz) = xs) (h1 : xs.all (·.oneCell') = true) : ∀ u ∈ (cur.drop (begin_ 0 cap j sz)).take ((n - j) * sz), u.oneCell' = true := by
  intro u hu
  refine List.all_eq_true.1 h1 u ?_
  rw [← h4]
  unfold begin_ at hu
  split at hu
  · have : n = j := by omega
    rw [this, Nat.sub_self, Nat.zero_mul, List.take_zero] at hu; cases hu
  · rw [Nat.zero_add, Nat.sub_mul, ← List.drop_take] at hu
    exact List.mem_of_mem_drop hu
theorem del_at (hij : i < j) (hj : j ≤ n) (hc : n ≤ cap) : begin_ 0 cap (i + (n - j)) sz = (i + (n - j)) * sz := by
  unfold begin_
  rw [if_neg (by omega), Nat.zero_add]
theorem del_in (hij : i < j) (hj : j ≤ n) (hc : n ≤ cap) (h3 : cur.length = cap * sz) : 0 + (i + (n - j)) * sz ≤ cur.length := by
  rw [h3, Nat.zero_add]; exact Nat.mul_le_mul_right sz (by omega)
theorem del_mid_len (hij : i < j) (hj : j ≤ n) (hc : n ≤ cap) (h3 : cur.length = cap * sz) : (splice cur (0 + i * sz) ((cur.drop (begin_ 0 cap j sz)).take ((n - j) * sz))).length = cap * sz := by
  rw [splice_len _ _ _ (by rw [del_news hij hj hc h3]; have := del_in hij hj hc h3; rw [Nat.add_mul] at this; omega), h3]
theorem del_clr (hij : i < j) (hj : j ≤ n) (hc : n ≤ cap) (h3 : cur.length = cap * sz) : begin_ 0 cap (i + (n - j)) sz + (n - (i + (n - j))) * sz ≤ (splice cur (0 + i * sz) ((cur.drop (begin_ 0 cap j sz)).take ((n - j) * sz))).length := by
  rw [del_mid_len hij hj hc h3, del_at hij hj hc, ← Nat.add_mul]; exact Nat.mul_le_mul_right sz (by omega)
theorem delc_len (hij : i < j) (hj : j ≤ n) (hc : n ≤ cap) (h3 : cur.length = cap * sz) (hz : zs.length = (n - (i + (n - j))) * sz) : (delc n cap i j sz cur zs).length = cap * sz := by
  unfold delc
  rw [splice_len _ _ _ (by rw [hz]; exact del_clr hij hj hc h3), del_mid_len hij hj hc h3]
theorem delc_take (hij : i < j) (hj : j ≤ n) (hc : n ≤ cap) (h3 : cur.length = cap * sz) (h4 : cur.take (n * sz) = xs) (h5 : xs.length = n * sz) : (delc n cap i j sz cur zs).take ((i + (n - j)) * sz) = xs.take (i * sz) ++ xs.drop (j * sz) := by
  have hin := del_in hij hj hc h3
  rw [Nat.zero_add] at hin
  have hi : i * sz ≤ n * sz := Nat.mul_le_mul_right sz (by omega)
  unfold delc
  rw [del_at hij hj hc, splice_take _ _ _ _ (Nat.le_refl _) (by rw [del_mid_len hij hj hc h3, ← h3]; exact hin), splice_in _ _ _ _ (by rw [del_news hij hj hc h3, Nat.zero_add, Nat.add_mul]) (by rw [Nat.add_mul] at hin; omega), Nat.zero_add]
  congr 1
  · rw [← h4, List.take_take, Nat.min_eq_left hi]
  · unfold begin_
    split
    · have : n = j := by omega
      rw [this, Nat.sub_self, Nat.zero_mul, List.take_zero, ← this, ← h5, List.drop_length]
    · rw [Nat.zero_add, ← h4, List.drop_take, Nat.sub_mul]
theorem del_ent {e g : Nat} {F : List HP} (hij : i < j) (hj : j ≤ n) (hc : n ≤ cap) (h3 : cur.length = cap * sz) (h2 : cap ≤ maxLen) (h4 : cur.take (n * sz) = xs) (h5 : xs.length = n * sz) (hz : zs.length = (n - (i + (n - j))) * sz) :
    Ent (blk g (.cells (splice (splice cur (0 + i * sz) ((cur.drop (begin_ 0 cap j sz)).take ((n - j) * sz))) (begin_ 0 cap (i + (n - j)) sz) zs).toArray e (0, 0)) :: F) (row e sz (.slice (some ⟨g, 0, none⟩) (i + (n - j)) cap) (i + (n - j)) (xs.take (i * sz) ++ xs.drop (j * sz)) :: F) := by
  have h := ent_close (e := e) (n := i + (n - j)) (g := g) (L := F) (by omega) h2 (delc_len hij hj hc h3 hz) Ent.rfl
  rw [delc_take hij hj hc h3 h4 h5] at h
  exact h
end
theorem sub_cells {n cap l sz : Nat} {cur xs : List Value} (hl : l ≤ n) (hc : n ≤ cap) (h3 : cur.length = cap * sz) (h4 : cur.take (n * sz) = xs) : (cur.drop (begin_ 0 cap l sz)).take ((n - l) * sz) = xs.drop (l * sz) := by
  have h5 : xs.length = n * sz := by rw [← h4, List.length_take, h3]; exact Nat.min_eq_left (Nat.mul_le_mul_right sz hc)
  unfold begin_
  split
  · have : n = l := by omega
    subst this
    rw [Nat.sub_self, Nat.zero_mul, List.take_zero, ← h5, List.drop_length]
  · rw [Nat.zero_add, ← h4, List.drop_take, Nat.sub_mul]
theorem pre_cells {n h sz : Nat} {cur xs : List Value} (hh : h ≤ n) (h4 : cur.take (n * sz) = xs) : (cur.drop 0).take (h * sz) = xs.take (h * sz) := by
  rw [List.drop_zero, ← h4, List.take_take, Nat.min_eq_left (Nat.mul_le_mul_right sz hh)]
end Sl
