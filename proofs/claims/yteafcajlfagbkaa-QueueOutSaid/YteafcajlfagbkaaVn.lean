/- DERIVED. The walk over what is owned: a range over a map that the loop does not write. No translation is named here. -/
import Derived.Test.YteafcajlfagbkaaVe
import Derived.Laws.IdiomRangeMap
namespace Sl
set_option linter.unusedSimpArgs false
set_option linter.unusedVariables false
open Go Go.RowKit Cv
section
variable {κ ν : Type}
/-- A map and the iterator that goes over it; ds: what has come out. -/
structure itm (it m : Nat) (ek : κ → Value) (ev : ν → Value) (kv ds : List (κ × ν)) (h : PH) : Prop where
  is : ∃ es clock seen, h m = some (.map es clock) ∧ MapOk ek ev kv es clock ∧ h it = some (.mapIter (some m) clock (List.toArray seen) clock) ∧
    (∀ e ∈ es.toList, ∀ e' ∈ es.toList, e.key = e'.key → e = e') ∧ ds.Nodup ∧ (∀ p ∈ ds, p ∈ kv) ∧
    (∀ e ∈ es.toList, e.born ∈ seen ↔ ∃ p ∈ ds, e.key = ek p.1 ∧ e.val = ev p.2) ∧
    ∀ ds' p, ds = ds' ++ [p] → ∃ e ∈ es.toList, seen.getLast? = some e.born ∧ e.key = ek p.1 ∧ e.val = ev p.2
variable {P : Program} {w0 w w' : World} {it m : Nat} {ek : κ → Value} {ev : ν → Value} {kv kv' ds : List (κ × ν)} {L R : List HP}
theorem MapOk.keyNd {es : Array MapEntry} {clock : Nat} (h : MapOk ek ev kv es clock) (inj : ∀ {a b}, ek a = ek b → a = b) : ∀ e ∈ es.toList, ∀ e' ∈ es.toList, e.key = e'.key → e = e' := by
  intro e he e' he' hk
  obtain ⟨i, hi, rfl⟩ := List.getElem_of_mem he
  obtain ⟨j, hj, rfl⟩ := List.getElem_of_mem he'
  have hlen : es.toList.length = kv.length := by have := congrArg List.length h.m; simpa using this
  have h1 : ∀ i (hi : i < es.toList.length), es.toList[i].key = ek (kv[i]'(by omega)).1 := fun i hi => by
    have := List.getElem_of_eq h.m (i := i) (by simpa using hi)
    simp only [List.getElem_map, Prod.mk.injEq] at this
    exact this.1
  rw [h1 i hi, h1 j hj] at hk
  have hk := inj hk
  have hij : i = j := by
    rcases Nat.lt_trichotomy i j with hlt | rfl | hlt
    · have := List.pairwise_iff_getElem.1 h.nd i j (by simp; omega) (by simp; omega) hlt
      simp only [List.getElem_map] at this
      exact absurd hk this
    · rfl
    · have := List.pairwise_iff_getElem.1 h.nd j i (by simp; omega) (by simp; omega) hlt
      simp only [List.getElem_map] at this
      exact absurd hk.symm this
  subst hij; rfl
theorem MapOk.bornNd {es : Array MapEntry} {clock : Nat} (h : MapOk ek ev kv es clock) : (es.toList.map (·.born)).Nodup := h.asc.imp (fun h => Nat.ne_of_lt h)
theorem MapOk.bornEq {es : Array MapEntry} {clock : Nat} (h : MapOk ek ev kv es clock) {e e' : MapEntry} (he : e ∈ es.toList) (he' : e' ∈ es.toList) (hb : e.born = e'.born) : e = e' := by
  obtain ⟨i, hi, rfl⟩ := List.getElem_of_mem he
  obtain ⟨j, hj, rfl⟩ := List.getElem_of_mem he'
  have hij : i = j := by
    rcases Nat.lt_trichotomy i j with hlt | rfl | hlt
    · have := List.pairwise_iff_getElem.1 h.asc i j (by simpa using hi) (by simpa using hj) hlt
      simp only [List.getElem_map] at this
      omega
    · rfl
    · have := List.pairwise_iff_getElem.1 h.asc j i (by simpa using hj) (by simpa using hi) hlt
      simp only [List.getElem_map] at this
      omega
  subst hij; rfl
theorem MapOk.pair {es : Array MapEntry} {clock : Nat} (h : MapOk ek ev kv es clock) {e : MapEntry} (he : e ∈ es.toList) : ∃ p ∈ kv, e.key = ek p.1 ∧ e.val = ev p.2 := by
  have h1 : (e.key, e.val) ∈ es.toList.map (fun e => (e.key, e.val)) := List.mem_map.2 ⟨e, he, rfl⟩
  rw [h.m] at h1
  obtain ⟨p, hp, e1⟩ := List.mem_map.1 h1
  rw [Prod.mk.injEq] at e1
  exact ⟨p, hp, e1.1.symm, e1.2.symm⟩
theorem MapOk.entry {es : Array MapEntry} {clock : Nat} (h : MapOk ek ev kv es clock) {p : κ × ν} (hp : p ∈ kv) : ∃ e ∈ es.toList, e.key = ek p.1 ∧ e.val = ev p.2 := by
  have h1 : (ek p.1, ev p.2) ∈ kv.map (fun p => (ek p.1, ev p.2)) := List.mem_map.2 ⟨p, hp, rfl⟩
  rw [← h.m] at h1
  obtain ⟨e, he, e1⟩ := List.mem_map.1 h1
  rw [Prod.mk.injEq] at e1
  exact ⟨e, he, e1⟩
/-- The loop begins. -/
theorem Sy.range {mt kt et : TypeId} {z0 : Value} {n0 b0 : Nat} (im : Ty P mt (.map kt et) z0 n0 b0) (inj : ∀ {a b}, ek a = ek b → a = b) (h : Sy w0 (mp m ek ev kv :: L) w) :
    ∃ it w', (Instr.range mt (.map (some m))).run P w = .ok (.pointer (some ⟨it, 0, none⟩)) w' ∧ Sy w0 (itm it m ek ev kv [] :: L) w' := by
  obtain ⟨es, clock, hok, hs⟩ := h.2.mp_open
  have hb : w.heap[m]? = some (.map es clock) := hs.blk
  refine ⟨w.heap.size, _, run_range_map w mt kt et m es clock im.und hb, ?_⟩
  have h2 : Sy w0 (Sl.blk m (.map es clock) :: L) w := ⟨h.1, hs⟩
  have h3 := h2.alloc (.mapIter (some m) clock #[] clock)
  refine ⟨h3.1, ?_⟩
  obtain ⟨S, ⟨hS⟩, T, ⟨hT⟩, hl⟩ := h3.2
  obtain ⟨hS1, hS2⟩ := on_some hS
  obtain ⟨hT1, hT2⟩ := on_some hT
  obtain ⟨_, hT2⟩ := on_some hT2
  refine ⟨fun k => S k ∨ (¬ S k ∧ T k), ⟨es, clock, [], ?_, hok, ?_, hok.keyNd inj, List.nodup_nil, by simp, by simp, by intro ds' p e; simp at e⟩, ?_⟩
  · rw [on_pos (by by_cases S m; exact .inl ‹_›; exact .inr ⟨‹_›, hT1⟩)]; exact hT2
  · rw [on_pos (.inl hS1)]; exact hS2
  · rw [on_on] at hl
    rw [on_congr (T := fun k => ¬ S k ∧ ¬ T k)]
    · exact hl
    · intro k; by_cases S k <;> by_cases T k <;> simp [*]
theorem ent_itm {M : List HP} (e : Ent (mp m ek ev kv :: L) M) : Ent (itm it m ek ev kv ds :: L) M := fun h hs => e h (by
  obtain ⟨S, ⟨es, clock, seen, h1, hok, h2, _⟩, hl⟩ := hs
  exact ⟨S, ⟨es, clock, h1, hok.m, hok.nd, hok.asc, hok.lt⟩, hl⟩)
/-- One step. -/
theorem Sy.next (inj : ∀ {a b}, ek a = ek b → a = b) (h : Sy w0 (itm it m ek ev kv ds :: L) w) (ty : TypeId) :
    (kv.length = ds.length ∧ kv.Perm ds ∧ (Instr.next (.pointer (some ⟨it, 0, none⟩)) false ty).run P w = .ok (.tuple #[.bool false]) w) ∨
    ∃ p w', p ∈ kv ∧ p ∉ ds ∧ (Instr.next (.pointer (some ⟨it, 0, none⟩)) false ty).run P w = .ok (.tuple #[.bool true, ek p.1, ev p.2]) w' ∧ Sy w0 (itm it m ek ev kv (ds ++ [p]) :: L) w' := by
  obtain ⟨S, ⟨es, clock, seen, hm, hok, hi, hk, hnd, hsub, hseen, hlast⟩, hl⟩ := h.2
  obtain ⟨hSm, hm⟩ := on_some hm
  obtain ⟨hSi, hi⟩ := on_some hi
  have hm' : w.heap[m]? = some (.map es clock) := hm
  have hi' : w.heap[it]? = some (.mapIter (some m) clock (List.toArray seen) clock) := hi
  have hmi : m ≠ it := fun e => by rw [e, hi'] at hm'; cases hm'
  have hknd : kv.Nodup := by
    have := hok.nd
    rw [List.Nodup, List.pairwise_map] at this
    exact this.imp (fun h e => h (by rw [e]))
  have hmem : ∀ x ∈ (leftOf es (List.toArray seen)).toList, x ∈ es.toList ∧ x.born ∉ seen := fun x hx => by
    unfold leftOf at hx
    simp at hx ⊢
    exact hx
  have hmem2 : ∀ x ∈ es.toList, x.born ∉ seen → x ∈ (leftOf es (List.toArray seen)).toList := fun x hx hn => by
    unfold leftOf
    simp at hx ⊢
    exact ⟨hx, hn⟩
  have hset : ∀ (w1 : World) (a : Option Nat) (b : Nat) (c : Array Nat) (d : Nat) (o' : Obj), w1.heap[it]? = some (.mapIter a b c d) → (Go.setObj it o').run P w1 = .ok () { w1 with heap := w1.heap.setIfInBounds it o' } := fun w1 a b c d o' hb => by
    simp [Go.setObj, Sem.run, hb]
  have hnx : (Instr.next (.pointer (some ⟨it, 0, none⟩)) false ty).run P w = ((choose (.mapNext ((if (leftOf es (List.toArray seen)).isEmpty then (#[none] : Array (Option MapEntry)) else #[]) ++ (leftOf es (List.toArray seen)).map some).size)).run P w).andThen fun i w' =>
      ((match ((if (leftOf es (List.toArray seen)).isEmpty then (#[none] : Array (Option MapEntry)) else #[]) ++ (leftOf es (List.toArray seen)).map some)[i]? with
        | some (some e) => (do
          Go.setObj it (.mapIter (some m) clock ((List.toArray seen).push e.born) clock)
          pure (.tuple #[.bool true, e.key, e.val]) : Sem Value)
        | some none => pure (.tuple #[.bool false])
        | none => stuck "Next: no such candidate") : Sem Value).run P w' := by
    simp only [Instr.next, getObj, Sem.run_bind, Sem.run, hi', hm', Result.andThen, next_test_false (List.toArray seen) es clock clock hok.lt (Nat.le_refl _), Bool.false_eq_true, if_false]
    have hlt : ∀ x ∈ (leftOf es (List.toArray seen)).toList, x.born < clock := fun x hx => hok.lt x (hmem x hx).1
    unfold leftOf at hlt ⊢
    generalize Array.filter (fun e => !(List.toArray seen).contains e.born) es = X at hlt ⊢
    have e1 : X.filter (fun x => decide (x.born < clock)) = X := Array.filter_eq_self.2 (fun x hx => by simpa using hlt x (by simpa using hx))
    have e2 : X.filter (fun x => decide (x.born ≥ clock)) = #[] := by
      rw [Array.filter_eq_empty_iff]
      intro x hx
      have := hlt x (by simpa using hx)
      simp
      omega
    simp only [e1, e2, Array.append_empty]
    rfl
  rw [hnx]
  obtain ⟨X, hX⟩ : ∃ X, X = leftOf es (List.toArray seen) := ⟨_, rfl⟩
  rw [← hX] at hmem hmem2 ⊢
  by_cases h0 : X.size = 0
  · left
    have hXe : X = #[] := Array.eq_empty_of_size_eq_zero h0
    subst hXe
    have hall : ∀ p ∈ kv, p ∈ ds := fun p hp => by
      obtain ⟨e, he, h1, h2⟩ := hok.entry hp
      have hb : e.born ∈ seen := Classical.byContradiction fun hn => by have := hmem2 e he hn; simp at this
      obtain ⟨q, hq, h3, h4⟩ := (hseen e he).1 hb
      obtain ⟨i1, hi1, rfl⟩ := List.getElem_of_mem hp
      have hqk := hsub q hq
      obtain ⟨i2, hi2, rfl⟩ := List.getElem_of_mem hqk
      -- the same key: the same entry
      have hkk : ek kv[i1].1 = ek kv[i2].1 := by rw [← h1, ← h3]
      have hk2 := inj hkk
      have : i1 = i2 := by
        rcases Nat.lt_trichotomy i1 i2 with hlt | e | hlt
        · have := List.pairwise_iff_getElem.1 hok.nd i1 i2 (by simp; omega) (by simp; omega) hlt
          simp only [List.getElem_map] at this
          exact absurd hk2 this
        · exact e
        · have := List.pairwise_iff_getElem.1 hok.nd i2 i1 (by simp; omega) (by simp; omega) hlt
          simp only [List.getElem_map] at this
          exact absurd hk2.symm this
      subst this
      exact hq
    have hpm : kv.Perm ds := (List.perm_ext_iff_of_nodup hknd hnd).2 fun p => ⟨hall p, hsub p⟩
    refine ⟨hpm.length_eq, hpm, ?_⟩
    simp [choose, Sem.run, Question.forced]
  · right
    have hne : X.isEmpty = false := by simp [Array.isEmpty, h0]
    simp only [hne, Bool.false_eq_true, if_false, Array.empty_append, Array.size_map]
    have hch : ∃ (j : Nat) (w1 : World), j < X.size ∧ w1.heap = w.heap ∧ w1.os = w.os ∧ w1.tape = w.tape ∧ w1.output = w.output ∧ (choose (Question.mapNext X.size)).run P w = .ok j w1 := by
      by_cases hf : X.size ≤ 1
      · exact ⟨0, w, by omega, rfl, rfl, rfl, rfl, by simp [choose, Sem.run, Question.forced, hf]⟩
      · exact ⟨_, w.drew, Nat.mod_lt _ (by omega), rfl, rfl, rfl, rfl, by
          simp only [choose, Sem.run, Question.forced, decide_eq_true_eq, hf, if_false, Question.cut]
          rfl⟩
    obtain ⟨j, w1, hj, q1, q2, q3, q4, hrun⟩ := hch
    obtain ⟨he1, he2⟩ := hmem X[j] (by simp)
    obtain ⟨p, hpm, p1, p2⟩ := hok.pair he1
    refine ⟨p, { w1 with heap := w1.heap.setIfInBounds it (.mapIter (some m) clock ((List.toArray seen).push X[j].born) clock) }, hpm, ?_, ?_, ?_⟩
    · intro hpd
      exact he2 ((hseen _ he1).2 ⟨p, hpd, p1, p2⟩)
    · simp only [hrun, Result.andThen_ok, Array.getElem?_map, Array.getElem?_eq_getElem hj, Option.map_some, Sem.run_bind, hset w1 _ _ _ _ _ (by rw [q1]; exact hi'), Sem.run_pure, p1, p2]
    · have hlt : it < w.heap.size := (Array.getElem?_eq_some_iff.1 hi').1
      have hnew : X[j].born ∉ seen := he2
      have hh : ∀ k, hp ({ w1 with heap := w1.heap.setIfInBounds it (.mapIter (some m) clock ((List.toArray seen).push X[j].born) clock) } : World) k = if k = it then some (.mapIter (some m) clock ((List.toArray seen).push X[j].born) clock) else hp w k := by
        intro k
        unfold hp
        dsimp only
        rw [q1]
        by_cases e : k = it
        · subst e; simp [hlt]
        · rw [if_neg e, Array.getElem?_setIfInBounds_ne (Ne.symm e)]
      refine ⟨h.1.trans ⟨q2, q3, q4, by dsimp only; rw [q1]; simp, show w.drawn ≤ w1.drawn from run_drawn _ hrun⟩, ?_⟩
      refine ⟨S, ⟨es, clock, seen ++ [X[j].born], ?_, hok, ?_, hk, ?_, ?_, ?_, ?_⟩, ?_⟩
      · rw [on_pos hSm, hh, if_neg hmi]; exact hm
      · rw [on_pos hSi, hh, if_pos rfl]; simp
      · refine List.nodup_append.2 ⟨hnd, by simp, ?_⟩
        intro a ha b hb e
        simp at hb
        subst hb; subst e
        exact he2 ((hseen _ he1).2 ⟨_, ha, p1, p2⟩)
      · intro q hq
        rcases List.mem_append.1 hq with hq | hq
        · exact hsub q hq
        · simp at hq; subst hq; exact hpm
      · intro e he
        rw [List.mem_append, hseen e he]
        constructor
        · rintro (⟨q, hq, r1, r2⟩ | hb)
          · exact ⟨q, List.mem_append_left _ hq, r1, r2⟩
          · simp at hb
            have := hok.bornEq he he1 hb
            subst this
            exact ⟨p, by simp, p1, p2⟩
        · rintro ⟨q, hq, r1, r2⟩
          rcases List.mem_append.1 hq with hq | hq
          · exact .inl ⟨q, hq, r1, r2⟩
          · simp at hq
            subst hq
            have := hk e he _ he1 (by rw [r1, p1])
            subst this
            exact .inr (by simp)
      · intro ds' q e
        have := List.append_inj' e rfl
        obtain ⟨_, e2⟩ := this
        simp at e2
        subst e2
        exact ⟨X[j], he1, by simp, p1, p2⟩
      · refine Sat.of_below ?_ hl
        intro k o hk
        obtain ⟨g1, g2⟩ := on_some hk
        rw [on_pos (S := fun k => ¬ S k) g1, hh, if_neg (by rintro rfl; exact g1 hSi)]
        exact g2
variable {Q : Exit → Act → World → Prop} {K : Act → World → Prop} {N t : Nat} {E : Env} {d : Option Nat} {ty : TypeId} {pos : String} {af : Array Edge} {g : Option (Nat × Bool)} {x y c : Operand} {mt kt et : TypeId} {z0 z : Value} {n0 b0 n b : Nat} {dt : TypeDesc}
theorem w_rg [im : Ty P mt (.map kt et) z0 n0 b0] [KO : KOk P kt κ ek] (h : ∀ it, KQ K w0 N ((t, .pointer (some ⟨it, 0, none⟩)) :: E) (itm it m ek ev kv [] :: R)) (h1 : Sl.ev E x = some (.map (some m)) := by rfl) (s : Sel L (mp m ek ev kv) R := by ((repeat (first | exact Sel.here | apply Sel.there)); done)) (hd : Nat.blt t N = true := by rfl) :
    WX P Q ⟨some t, .range mt x, ty, pos, af, g⟩ K w0 N E L := ⟨fun a w f sy => by
  have sy' := sy.ent fun _ q => s.sat q
  obtain ⟨it, w', hr, hs⟩ := sy'.range im KO.law.inj
  unfold Oper.wp
  simp [execOp, f.eval h1, hr]
  exact (h it).run _ _ (f.put (d := some t) hd _) hs⟩
theorem w_nx (inj : ∀ {a b}, ek a = ek b → a = b) (h0 : kv.length = ds.length → kv.Perm ds → KQ K w0 N ((t, .tuple [.bool false].toArray) :: E) (itm it m ek ev kv ds :: R))
    (h : ∀ p, p ∈ kv → p ∉ ds → KQ K w0 N ((t, .tuple [.bool true, ek p.1, ev p.2].toArray) :: E) (itm it m ek ev kv (ds ++ [p]) :: R)) (h1 : Sl.ev E x = some (.pointer (some ⟨it, 0, none⟩)) := by rfl) (s : Sel L (itm it m ek ev kv ds) R := by ((repeat (first | exact Sel.here | apply Sel.there)); done)) (hd : Nat.blt t N = true := by rfl) :
    WX P Q ⟨some t, .next x false, ty, pos, af, g⟩ K w0 N E L := ⟨fun a w f sy => by
  have sy' := sy.ent fun _ q => s.sat q
  unfold Oper.wp
  rcases sy'.next (P := P) inj ty with ⟨g1, g2, hr⟩ | ⟨p, w', g1, g2, hr, hs⟩
  · simp [execOp, f.eval h1, hr]
    exact (h0 g1 g2).run _ _ (f.put (d := some t) hd _) sy'
  · simp [execOp, f.eval h1, hr]
    exact (h p g1 g2).run _ _ (f.put (d := some t) hd _) hs⟩
theorem p_entry {p : κ × ν} (h1 : Sl.ev E x = some (.pointer (some ⟨it, 0, none⟩)) := by rfl) (s : Sel L (itm it m ek ev kv (ds ++ [p])) R := by ((repeat (first | exact Sel.here | apply Sel.there)); done)) : Pu P ⟨d, .entry x, ty, pos, af, g⟩ N E L (.tuple [ek p.1, ev p.2].toArray) := ⟨fun a w f hs => by
  obtain ⟨S, ⟨es, clock, seen, hm, hok, hi, hk, hnd, hsub, hseen, hlast⟩, hl⟩ := s.sat hs
  obtain ⟨_, hm⟩ := on_some hm
  obtain ⟨_, hi⟩ := on_some hi
  have hm' : w.heap[m]? = some (.map es clock) := hm
  have hi' : w.heap[it]? = some (.mapIter (some m) clock (List.toArray seen) clock) := hi
  obtain ⟨e, he, g1, g2, g3⟩ := hlast ds p rfl
  have hf : es.find? (·.born == e.born) = some e := by rw [← Array.find?_toList]; exact find_born e es.toList hok.bornNd he
  have hb : (List.toArray seen).back? = some e.born := by simpa using g1
  simp only [execOp, f.eval h1, Instr.entry, getObj, Sem.run_bind, Sem.run, hi', hm', Result.andThen, hb, bne_self_eq_false, Bool.false_eq_true, if_false, hf, g2, g3]
  rfl⟩
end
end Sl
