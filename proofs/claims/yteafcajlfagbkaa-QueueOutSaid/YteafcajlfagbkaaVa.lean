/- DERIVED. The walk over what is owned: slices that are made and grow, maps. No translation is named here. -/
import Derived.Test.YteafcajlfagbkaaVb
namespace Sl
set_option linter.unusedSimpArgs false
set_option linter.unusedVariables false
open Go Go.RowKit Cv

section
variable {P : Program} {Q : Exit → Act → World → Prop} {K : Act → World → Prop} {w0 : World} {N : Nat} {E : Env} {L R : List HP} {d : Option Nat} {ty : TypeId} {pos : String} {af : Array Edge} {g : Option (Nat × Bool)} {x y c : Operand} {v u : Value} {T : TypeId} {dt : TypeDesc} {z : Value} {n b : Nat}

theorem Sy.newRow {w : World} (h : Sy w0 L w) (e sz n : Nat) (xs : List Value) (hl : xs.length = n * sz) (hn : n ≤ maxLen) : Sy w0 (row e sz (.slice (some ⟨w.heap.size, 0, none⟩) n n) n xs :: L) (w.alloc (.cells xs.toArray e)) := by
  obtain ⟨h1, h2⟩ := h.alloc (.cells xs.toArray e)
  refine ⟨h1, h2.reframe fun S ha => ⟨S, ⟨hl, .inr ⟨w.heap.size, n, xs.toArray, rfl, ha.get, Nat.le_refl _, hn, by simp [hl], by rw [← hl]; simp⟩⟩, fun k o a b => ⟨a, b⟩⟩⟩

theorem wx_buildSlice {e : TypeId} {de : TypeDesc} {ze : Value} {sz be m : Nat} {ps : List (Nat × Operand)} {vs : List Value} (i : Ty P T (.slice e) z n b) (ie : Ty P e de ze (sz + 1) be)
    (hx : evp E ps = some ((vs.zipIdx 0).map fun (v, i) => (i, v))) (hl : vs.length = m) (hs : vs.all (fun v => (celv v).length == sz + 1) = true) (hr : m * (sz + 1) ≤ 16777216) (hd : okd N d = true)
    (h : ∀ q, KQ K w0 N (pe E d (.slice (some ⟨q, 0, none⟩) m m)) (row e (sz + 1) (.slice (some ⟨q, 0, none⟩) m m) m (vs.flatMap celv) :: L)) : WX P Q ⟨d, .buildSlice T m ps.toArray, ty, pos, af, g⟩ K w0 N E L := ⟨fun a w f s => by
  have h1 := f.evalp hx
  have hs' : ∀ v ∈ vs, (celv v).length = sz + 1 := fun v hv => by simpa using List.all_eq_true.1 hs v hv
  have hlen := flatMap_len hs'
  have hf : ∀ zc : Array Value, Instr.fill (fun i => some (i * (sz + 1), sz + 1)) ((Array.range (m * (sz + 1))).map (zc[· % zc.size]!)) ((vs.zipIdx 0).map fun (v, i) => (i, v)) = some (vs.flatMap celv).toArray := fun zc => by
    have := fill_row (Nat.succ_pos sz) vs 0 ((Array.range (m * (sz + 1))).map (zc[· % zc.size]!)).toList hs' (by simp [hl])
    simp only [Nat.zero_mul, List.take_zero, List.nil_append, Array.toArray_toList] at this
    exact this
  unfold Oper.wp
  by_cases h0 : m = 0
  · subst h0
    have : vs = [] := List.eq_nil_of_length_eq_zero hl
    subst this
    have hr : (execOp a.eval ⟨d, .buildSlice T 0 ps.toArray, ty, pos, af, g⟩).run P w = .ok (.value (.slice (some ⟨w.heap.size, 0, none⟩) 0 0)) (w.alloc (.cells #[] e)) := by
      have h1' : List.map (fun x : Nat × Operand => (x.1, a.eval x.2)) ps = [] := by simpa using h1
      have hz : (Array.range 0 : Array Nat) = #[] := rfl
      simp [execOp, Instr.buildSlice, i.run_und, ie.run_size, h1', Instr.fill, newRow, hz]
    rw [hr]
    refine (h w.heap.size).run _ _ (f.put hd _) ?_
    exact s.newRow e (sz + 1) 0 [] (by simp) (by unfold maxLen; omega)
  · have hne : ¬ m * (sz + 1) = 0 := Nat.mul_ne_zero h0 (Nat.succ_ne_zero _)
    have hge : ¬ 16777216 < m * (sz + 1) := by omega
    have hge' : ¬ m * (sz + 1) > 2 ^ 24 := by omega
    have hr : (execOp a.eval ⟨d, .buildSlice T m ps.toArray, ty, pos, af, g⟩).run P w = .ok (.value (.slice (some ⟨w.heap.size, 0, none⟩) m m)) (w.alloc (.cells (vs.flatMap celv).toArray e)) := by
      have h1' : List.map (fun x : Nat × Operand => (x.1, a.eval x.2)) ps = (vs.zipIdx 0).map fun (v, i) => (i, v) := h1
      simp only [execOp, Instr.buildSlice, Sem.run_bind, i.run_und, ie.run_size, ie.run_zero, Result.andThen_ok, hge', if_false, hne, Sem.run_pure, List.map_toArray, h1', hf, newRow]
      simp
    rw [hr]
    refine (h w.heap.size).run _ _ (f.put hd _) ?_
    exact s.newRow e (sz + 1) m _ (by rw [hlen, hl]) (by have : m ≤ m * (sz + 1) := Nat.le_mul_of_pos_right m (by omega); unfold maxLen; omega)⟩

/-- A row that has grown, or lies elsewhere now. -/
theorem Sy.rowGrown {w w' : World} {e sz : Nat} {v : Value} {n m q cap : Nat} {xs ys : List Value} (h : Sy w0 (row e sz v n xs :: L) w) (hg : w.grownBy w' v.ownBlock) (hv : ∀ g, v ≠ .slice (some g) 0 0)
    (ho : w'.ownsRow 0 e sz (.slice (some ⟨q, 0, none⟩) m cap) m ys) (hq : v.ownBlock = some q ∨ w.heap.size ≤ q) (dr : w.drawn ≤ w'.drawn) : Sy w0 (row e sz (.slice (some ⟨q, 0, none⟩) m cap) m ys :: L) w' := by
  refine ⟨h.1.trans ⟨hg.os, hg.tape, hg.output, hg.size, dr⟩, h.2.reframe fun S ha => ?_⟩
  have hr : row e sz (.slice (some ⟨q, 0, none⟩) m cap) m ys ((hp w').on (fun k => k = q)) := by
    obtain ⟨h1, h2⟩ := ho
    refine ⟨h1, .inr ?_⟩
    rcases h2 with ⟨e, _⟩ | ⟨g, cap', cur, e, _, hgg, r⟩
    · cases e
    · injection e with e1 e2 e3
      injection e1 with e1
      injection e1 with e1
      subst e1; subst e3
      exact ⟨q, cap, cur, rfl, by rw [on_pos (S := fun k => k = q) rfl]; exact hgg, r⟩
  refine ⟨fun k => k = q, hr, fun k o hk hko => ?_⟩
  have hlt : k < w.heap.size := (Array.getElem?_eq_some_iff.1 hko).1
  have hnb : some k ≠ v.ownBlock := by
    intro e'
    rcases ha.lies with ⟨rfl, ao, rfl⟩ | ⟨g, cap', cur, rfl, hgg, _⟩
    · cases ao with
      | none => cases e'
      | some g => exact hv g rfl
    · have : k = g := by simpa [Value.ownBlock] using e'
      subst this
      exact hk (on_some hgg).1
  refine ⟨fun e' => ?_, (hg.block k hlt hnb).trans hko⟩
  rcases hq with hq | hq
  · exact hnb (by rw [e', hq])
  · omega

theorem run_append_zero {e : TypeId} {de : TypeDesc} {ze : Value} {sz be m yc : Nat} {a : Addr} {yo : Option Addr} (i : Ty P T (.slice e) z n b) (ie : Ty P e de ze sz be) (w : World) (hm : 0 < m) (hl : m ≤ maxLen) (hb : m * be ≤ 140737488355328) :
    (Builtin.append_ #[T, T] ty #[.slice (some a) 0 0, .slice yo m yc]).run P w = (Builtin.append_ #[T, T] ty #[.slice none 0 0, .slice yo m yc]).run P w := by
  have h1 : ¬ m ≤ 0 := by omega
  obtain ⟨ii, j1, j2, j3⟩ := ie.run_info
  have h4 : ¬ (9223372036854775807 : Int) < m := by unfold maxLen at hl; omega
  have h2 : Builtin.nextslicecap m 0 = m := by simp [Builtin.nextslicecap, hm]
  have h3 : ¬ 281474976710656 < m * be := by omega
  simp only [Builtin.append_]
  simp [i.run_und, ie.run_size, Builtin.lenOf, h1, hm, Nat.ne_of_gt hm, Builtin.firstCells, loadCells, loadCellsFrom, j1, j3, h2, h3, h4]

theorem wx_append {e : TypeId} {de : TypeDesc} {ze : Value} {sz be m k yc : Nat} {yo : Option Addr} {xs ys : List Value} (i : Ty P T (.slice e) z n b) (ie : Ty P e de ze sz be) (hz : ze.cells.size = sz) (hpos : 0 < sz)
    (hx : ev E x = some v) (hy : ev E y = some (.slice yo m yc)) (s : Sel L (row e sz v k xs) R) (hr : Reads R (.slice yo m yc) m ys) (hl : ys.length = m * sz) (h1 : ys.all (·.oneCell') = true)
    (hlen : k + m ≤ maxLen) (hb : (k + m) * be ≤ 140737488355328) (hd : okd N d = true)
    (h : ∀ ao cap, KQ K w0 N (pe E d (.slice ao (k + m) cap)) (row e sz (.slice ao (k + m) cap) (k + m) (xs ++ ys) :: R)) : WX P Q ⟨d, .call ⟨.builtin .append, #[x, y], #[T, T]⟩, ty, pos, af, g⟩ K w0 N E L := ⟨fun a w f sy => by
  have sy' := sy.ent fun _ q => s.sat q
  have hrow := sy'.2.row
  have hR : Sat (hp w) R := sy'.2.drop
  obtain ⟨ii, j1, j2, j3, j4⟩ := ie.info
  obtain ⟨ao', cap', hv', hr'⟩ := hr
  injection hv' with q1 q2 q3
  subst q1; subst q3
  have go : ∀ r w', (Builtin.append_ #[T, T] ty #[v, .slice yo m yc]).run P w = .ok r w' → ∀ ao cap, r = .slice ao (k + m) cap → Sy w0 (row e sz (.slice ao (k + m) cap) (k + m) (xs ++ ys) :: R) w' →
      Oper.wp P ⟨d, .call ⟨.builtin .append, #[x, y], #[T, T]⟩, ty, pos, af, g⟩ a w K Q := by
    rintro r w' hrun ao cap rfl hs'
    unfold Oper.wp
    simp [execOp, resolve, invoke, builtin, f.eval hx, f.eval hy, hrun]
    exact (h ao cap).run _ _ (f.put hd _) hs'
  by_cases hm : m = 0
  · subst hm
    have : ys = [] := List.eq_nil_of_length_eq_zero (by simpa using hl)
    subst this
    have hform : ∃ ao cap, v = .slice ao k cap ∧ (k ≤ cap) := by
      rcases hrow.lies with ⟨rfl, ao, rfl⟩ | ⟨g, cap, cur, rfl, _, a, _⟩
      · exact ⟨ao, 0, rfl, Nat.le_refl _⟩
      · exact ⟨_, cap, rfl, a⟩
    obtain ⟨ao, cap, rfl, hkc⟩ := hform
    refine go (.slice ao (k + 0) cap) w ?_ ao cap rfl (by simpa using sy')
    cases yo <;> cases ao <;> simp [Builtin.append_, i.run_und, ie.run_size, Builtin.lenOf, hkc, Builtin.firstCells, loadCells, loadCellsFrom, storeCells]
  · have hm' : 0 < m := by omega
    have hys : 0 < ys.length := by rw [hl]; exact Nat.mul_pos hm' hpos
    have hsp := hr' w hR 0 ys[0] (by simp [hys])
    obtain ⟨ya, rfl⟩ := Option.isSome_iff_exists.1 hsp.2.2
    have hnews : ∀ j u, ys[j]? = some u → w.cell? (ya.add j) = some u := fun j u hj => (hr' w hR j u hj).1
    have h1' : ∀ u ∈ ys, u.oneCell' = true := fun u hu => List.all_eq_true.1 h1 u hu
    -- the row as one that owns, nil where it holds nothing
    have key : ∀ v0 : Value, (∀ g, v0 ≠ .slice (some g) 0 0) → Sy w0 (row e sz v0 k xs :: R) w → (Builtin.append_ #[T, T] ty #[v, .slice (some ya) m yc]).run P w = (Builtin.append_ #[T, T] ty #[v0, .slice (some ya) m yc]).run P w →
        Oper.wp P ⟨d, .call ⟨.builtin .append, #[x, y], #[T, T]⟩, ty, pos, af, g⟩ a w K Q := by
      intro v0 hv0 hs0 he
      have hown := row_owns hv0 hs0.2.row
      obtain ⟨q, cap, w', hrun, k1, k2, k3, _⟩ := run_append_lies (P := P) w T ty 0 e ii ze sz be i.und j1 j2 j3 j4 hz hpos v0 k xs hown ya m yc ys hl hnews h1' hm' hlen hb (Nat.zero_le _) w.heap.size rfl
      exact go _ w' (he.trans hrun) _ cap rfl (hs0.rowGrown k2 hv0 k1 (k3.imp id fun e => by omega) (run_drawn _ hrun))
    by_cases hv : ∃ g, v = .slice (some g) 0 0
    · obtain ⟨g', rfl⟩ := hv
      have hk0 : k = 0 := by
        rcases hrow.lies with ⟨h0, _⟩ | ⟨g, cap, cur, e', _⟩
        · exact h0
        · injection e' with _ e2 _; omega
      subst hk0
      have hxs : xs = [] := List.eq_nil_of_length_eq_zero (by simpa using hrow.len)
      subst hxs
      refine key (.slice none 0 0) (by simp) (row_nil ⟨sy'.1, hR⟩ e sz none) (run_append_zero i ie w hm' (by simpa using hlen) (by simpa using hb))
    · exact key v (fun g e => hv ⟨g, e⟩) sy' rfl⟩

end
end Sl
