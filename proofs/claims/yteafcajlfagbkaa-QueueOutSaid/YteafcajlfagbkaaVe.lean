/- DERIVED. The walk over what is owned: map entries that are laid down first and written later. No translation is named here. -/
import Derived.Test.YteafcajlfagbkaaVz
namespace Sl
set_option linter.unusedSimpArgs false
set_option linter.unusedVariables false
open Go Go.RowKit Cv
section
variable {κ ν : Type}
/-- What a map's entries are. -/
structure MapOk (ek : κ → Value) (ev : ν → Value) (kv : List (κ × ν)) (es : Array MapEntry) (clock : Nat) : Prop where
  m : es.toList.map (fun e => (e.key, e.val)) = kv.map (fun p => (ek p.1, ev p.2))
  nd : (kv.map Prod.fst).Nodup
  asc : (es.toList.map (·.born)).Pairwise (· < ·)
  lt : ∀ e ∈ es.toList, e.born < clock
/-- A map at which the entry of k is laid, and not yet written. -/
structure mpE [DecidableEq κ] (m : Nat) (ek : κ → Value) (ev : ν → Value) (kv : List (κ × ν)) (k : κ) (born : Nat) (h : PH) : Prop where
  is : ∃ es clock i, h m = some (.map es clock) ∧ es.findIdx? (fun e => (e.born : Int) == (born : Int)) = some i ∧ ∀ v : ν, MapOk ek ev (kput kv k v) (es.modify i fun e => { e with val := ev v }) clock
variable {P : Program} {w0 w w' : World} {m : Nat} {ek : κ → Value} {ev : ν → Value} {kv kv' : List (κ × ν)} {L R : List HP}
abbrev sB (w : World) (m : Nat) (o : Obj) : World := { w with heap := w.heap.setIfInBounds m o }
theorem Sat.mp_open {h : PH} (s : Sat h (mp m ek ev kv :: L)) : ∃ es clock, MapOk ek ev kv es clock ∧ Sat h (Sl.blk m (.map es clock) :: L) := by
  obtain ⟨S, ⟨es, clock, hb, h1, h2, h3, h4⟩, hl⟩ := s
  exact ⟨es, clock, ⟨h1, h2, h3, h4⟩, S, ⟨hb⟩, hl⟩
theorem Sat.mp_shut {h : PH} {es : Array MapEntry} {clock : Nat} (k : MapOk ek ev kv es clock) (s : Sat h (Sl.blk m (.map es clock) :: L)) : Sat h (mp m ek ev kv :: L) := by
  obtain ⟨S, ⟨hb⟩, hl⟩ := s
  exact ⟨S, ⟨es, clock, hb, k.m, k.nd, k.asc, k.lt⟩, hl⟩
theorem findIdx_born {es : Array MapEntry} (hp : (es.toList.map (·.born)).Pairwise (· < ·)) {j : Nat} {e : MapEntry} (hj : es.toList[j]? = some e) : es.findIdx? (fun x => (x.born : Int) == (e.born : Int)) = some j := by
  have hjl : j < es.size := by simpa using (List.getElem?_eq_some_iff.1 hj).1
  have hje : es[j] = e := by have := (List.getElem?_eq_some_iff.1 hj).2; simpa using this
  rw [Array.findIdx?_eq_some_iff_getElem]
  refine ⟨hjl, by rw [hje]; simp, fun i hi => ?_⟩
  have := List.pairwise_iff_getElem.1 hp i j (by simp; omega) (by simp; omega) hi
  simp only [List.getElem_map, Array.getElem_toList] at this
  rw [hje] at this
  simp
  omega
theorem findIdx_new {es : Array MapEntry} {clock : Nat} (hl : ∀ e ∈ es.toList, e.born < clock) (key val : Value) : (es.push ⟨key, val, clock⟩).findIdx? (fun x => (x.born : Int) == (clock : Int)) = some es.size := by
  rw [Array.findIdx?_eq_some_iff_getElem]
  refine ⟨by simp, by simp, fun i hi => ?_⟩
  have hmem : es[i] ∈ es.toList := by simp
  have := hl _ hmem
  rw [Array.getElem_push_lt hi]
  simp
  omega
theorem Sy.entry [DecidableEq κ] {mt kt et : TypeId} {z0 z : Value} {n0 b0 n b : Nat} {dt : TypeDesc} (im : Ty P mt (.map kt et) z0 n0 b0) (ie : Ty P et dt z n b) (KL : KLaw P kt ek) (h : Sy w0 (mp m ek ev kv :: L) w) (k : κ) :
    ∃ w' v0 born, (Instr.mapEntry mt (.map (some m)) (ek k)).run P w = .ok (.tuple #[v0, .int .i64 (born : Nat)]) w' ∧ Sy w0 (mpE m ek ev kv k born :: L) w' := by
  obtain ⟨es, clock, ⟨hm, hd, hp, hl⟩, hs⟩ := h.2.mp_open
  have hb : w.heap[m]? = some (.map es clock) := hs.blk
  rcases KL.find w k es.toList (IsMap.keys hm) with ⟨h1, h2⟩ | ⟨j, e, h1, h2, h3⟩
  · refine ⟨sB w m (.map (es.push ⟨ek k, z, clock⟩) (clock + 1)), z, clock, ?_, ?_⟩
    · simp [Instr.mapEntry, im.run_und, run_getMap hb, KL.check, h1, ie.run_zero, MapKept.run_setObj_map _ hb, Result.andThen, goInt]
    · have hs2 : Sy w0 (Sl.blk m (.map (es.push ⟨ek k, z, clock⟩) (clock + 1)) :: L) (sB w m (.map (es.push ⟨ek k, z, clock⟩) (clock + 1))) := Sy.setObj (w0 := w0) (w := w) ⟨h.1, hs⟩
      refine ⟨hs2.1, ?_⟩
      obtain ⟨S, ⟨hS⟩, hl2⟩ := hs2.2
      refine ⟨S, ⟨_, _, _, hS, findIdx_new hl _ _, fun v => ?_⟩, hl2⟩
      have hmod : ((es.push ⟨ek k, z, clock⟩).modify es.size fun e => { e with val := ev v }) = es.push ⟨ek k, ev v, clock⟩ := by
        apply Array.ext (by simp)
        intro i i1 i2
        rw [Array.getElem_modify]
        simp only [Array.getElem_push]
        by_cases hi : i < es.size
        · simp [hi, Nat.ne_of_gt hi]
        · have : i = es.size := by simp at i1; omega
          subst this; simp
      rw [hmod]
      refine ⟨?_, kput_nodup hd k v, ?_, ?_⟩
      · rw [kput_fresh v (IsMap.not_mem hm h2), Array.toList_push, List.map_append, List.map_append, hm]; rfl
      · rw [Array.toList_push, List.map_append]
        refine List.pairwise_append.2 ⟨hp, List.pairwise_singleton _ _, ?_⟩
        intro x hx y hy
        obtain ⟨e, he, rfl⟩ := List.mem_map.1 hx
        simp at hy
        rw [hy]
        exact hl e he
      · intro e he
        rw [Array.toList_push, List.mem_append] at he
        rcases he with he | he
        · have := hl e he; omega
        · simp at he; rw [he]; show clock < clock + 1; omega
  · obtain ⟨u, hu, heu⟩ := IsMap.at_ hm KL h2 h3
    have hj : es[j]? = some e := by simpa using h2
    have hjl : j < es.size := (Array.getElem?_eq_some_iff.1 hj).1
    have hkey : ((es[j]?).map (·.key)).getD (ek k) = ek k := by rw [hj]; exact h3
    have hborn : ((es[j]?).map (·.born)).getD 0 = e.born := by rw [hj]; rfl
    have hl' : ∀ (es' : Array MapEntry) (g : MapEntry → MapEntry), es'.toList[j]? = some e → (es'.modify j g).toList = es'.toList.set j (g e) := by
      intro es' g h2
      haveI : Inhabited MapEntry := ⟨e⟩
      rw [Array.toList_modify, List.modify_eq_set, h2]; rfl
    have hsame : (es.modify j fun e => { e with key := ek k }) = es := by
      apply Array.toList_inj.1
      rw [hl' es _ h2]
      have : ({ e with key := ek k } : MapEntry) = e := by rw [← h3]
      rw [this]
      apply List.ext_getElem (by simp)
      intro i i1 i2
      rw [List.getElem_set]
      split
      · rename_i e1; subst e1; exact ((List.getElem?_eq_some_iff.1 h2).2).symm
      · rfl
    refine ⟨sB w m (.map es clock), e.val, e.born, ?_, ?_⟩
    · simp only [Instr.mapEntry, Sem.run_bind, im.run_und, run_getMap hb, KL.check, h1, Result.andThen_ok, hkey, KL.stays, hsame, MapKept.run_setObj_map _ hb]
      have hgo : goInt (((es[j]?).map (fun x => (x.born : Int))).getD 0) = .int .i64 ((e.born : Nat) : Int) := by rw [hj]; rfl
      rw [hgo]; rfl
    · have hs2 : Sy w0 (Sl.blk m (.map es clock) :: L) (sB w m (.map es clock)) := Sy.setObj (w0 := w0) (w := w) ⟨h.1, hs⟩
      refine ⟨hs2.1, ?_⟩
      obtain ⟨S, ⟨hS⟩, hl2⟩ := hs2.2
      refine ⟨S, ⟨_, _, _, hS, findIdx_born hp h2, fun v => ?_⟩, hl2⟩
      refine ⟨?_, kput_nodup hd k v, ?_, ?_⟩
      · rw [hl' es _ h2, List.map_set, hm, kput_set hd v hu, List.map_set, h3]
      · rw [hl' es _ h2, List.map_set]
        have : (es.toList.map (·.born)).set j e.born = es.toList.map (·.born) := by
          apply List.ext_getElem?
          intro i
          rw [List.getElem?_set]
          split
          · rename_i h; subst h; rw [List.getElem?_map, h2]; simp [hjl]
          · rfl
        rw [this]; exact hp
      · intro x hx
        rw [hl' es _ h2] at hx
        rcases List.mem_or_eq_of_mem_set hx with hx | hx
        · exact hl x hx
        · rw [hx]; exact hl e (List.mem_of_getElem? h2)
theorem Sy.entryStore [DecidableEq κ] {k : κ} {born : Nat} (h : Sy w0 (mpE m ek ev kv k born :: L) w) (mt : TypeId) (v : ν) :
    ∃ w', (Instr.entryStore mt (.map (some m)) (.int .i64 (born : Nat)) (ev v)).run P w = .ok () w' ∧ Sy w0 (mp m ek ev (kput kv k v) :: L) w' := by
  obtain ⟨S, ⟨es, clock, i, hS, hi, hv⟩, hl⟩ := h.2
  have hs : Sat (hp w) (Sl.blk m (.map es clock) :: L) := ⟨S, ⟨hS⟩, hl⟩
  have hb : w.heap[m]? = some (.map es clock) := hs.blk
  refine ⟨sB w m (.map (es.modify i fun e => { e with val := ev v }) clock), ?_, ?_⟩
  · simp only [Instr.entryStore, Sem.run_bind, run_getMap hb, Result.andThen_ok, asInt, asIntOf, Sem.run_pure, hi, MapKept.run_setObj_map _ hb]
  · have hs2 : Sy w0 (Sl.blk m (.map (es.modify i fun e => { e with val := ev v }) clock) :: L) (sB w m (.map (es.modify i fun e => { e with val := ev v }) clock)) := Sy.setObj (w0 := w0) (w := w) ⟨h.1, hs⟩
    exact ⟨hs2.1, hs2.2.mp_shut (hv v)⟩

variable {Q : Exit → Act → World → Prop} {K : Act → World → Prop} {N t : Nat} {E : Env} {ty : TypeId} {pos : String} {af : Array Edge} {g : Option (Nat × Bool)} {x y c : Operand} {mt kt et : TypeId} {z0 z : Value} {n0 b0 n b : Nat} {dt : TypeDesc} {k : κ} {v : ν} {born : Nat}
theorem w_me [DecidableEq κ] [im : Ty P mt (.map kt et) z0 n0 b0] [ie : Ty P et dt z n b] [KO : KOk P kt κ ek] (h : ∀ v0 born, KQ K w0 N ((t, .tuple [v0, .int .i64 ((born : Nat) : Int)].toArray) :: E) (mpE m ek ev kv k born :: R)) (h1 : Sl.ev E x = some (.map (some m)) := by rfl) (s : Sel L (mp m ek ev kv) R := by ((repeat (first | exact Sel.here | apply Sel.there)); done)) (h2 : Sl.ev E y = some (ek k) := by rfl) (hd : Nat.blt t N = true := by rfl) :
    WX P Q ⟨some t, .mapEntry mt x y, ty, pos, af, g⟩ K w0 N E L := ⟨fun a w f sy => by
  have sy' := sy.ent fun _ q => s.sat q
  obtain ⟨w', v0, born, hr, hs⟩ := sy'.entry im ie KO.law k
  unfold Oper.wp
  simp [execOp, f.eval h1, f.eval h2, hr]
  exact (h v0 born).run _ _ (f.put (d := some t) hd _) hs⟩
theorem w_es [DecidableEq κ] (h : KQ K w0 N E (mp m ek ev (kput kv k v) :: R)) (h1 : Sl.ev E x = some (.map (some m)) := by rfl) (s : Sel L (mpE m ek ev kv k born) R := by ((repeat (first | exact Sel.here | apply Sel.there)); done)) (h2 : Sl.ev E y = some (.int .i64 ((born : Nat) : Int)) := by rfl) (h3 : Sl.ev E c = some (ev v) := by rfl) :
    WX P Q ⟨none, .entryStore mt x y c, ty, pos, af, g⟩ K w0 N E L := ⟨fun a w f sy => by
  have sy' := sy.ent fun _ q => s.sat q
  obtain ⟨w', hr, hs⟩ := sy'.entryStore (P := P) mt v
  unfold Oper.wp
  simp [execOp, f.eval h1, f.eval h2, f.eval h3, hr]
  exact h.run _ _ f hs⟩
end
end Sl
