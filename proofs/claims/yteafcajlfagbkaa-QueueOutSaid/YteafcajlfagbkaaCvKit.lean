/- DERIVED. Own words for heaps of several objects: frames by footprint ('Fr'), maps by a list of pairs ('IsMap'), and the laws of the map operations for the walk. No translation is named here. -/
import Derived.WalkKit
import Derived.Maps.Keyed
import Derived.WalkLawsBesides
import Derived.WalkSpells
import Derived.Deep.AppendLies
import Derived.Deep.RegionHeld3
import Derived.Deep.RegionLaw
import Derived.Deep.DeepCutAuto
import Derived.Deep.CutBlock
import Derived.Deep.LoopGhost
import Derived.Deep.QuietTactic
import Derived.BigQuiet
import Derived.Maps.OwnOps
namespace Cv
set_option linter.unusedSimpArgs false
set_option linter.unusedVariables false
open Go Go.RowKit Go.ChangeMaps Go.MapKept

/-- A fact that the walk is not to take for a rule. -/
def Hide (p : Prop) : Prop := p
theorem hide {p : Prop} (h : p) : Hide p := h
theorem Hide.out {p : Prop} (h : Hide p) : p := h

/-! ### frames -/

/-- From w to w' only blocks of S, and new ones, have turned. -/
structure Fr (S : Nat → Prop) (w w' : World) : Prop where
  os : w'.os = w.os
  tape : w'.tape = w.tape
  output : w'.output = w.output
  size : w.heap.size ≤ w'.heap.size
  keep : ∀ k, k < w.heap.size → ¬ S k → w'.heap[k]? = w.heap[k]?

theorem Fr.refl (S : Nat → Prop) (w : World) : Fr S w w := ⟨rfl, rfl, rfl, Nat.le_refl _, fun _ _ _ => rfl⟩

theorem Fr.trans' {S S' : Nat → Prop} {a b c : World} (h : Fr S a b) (k : Fr S' b c) (hs : ∀ x, x < a.heap.size → S' x → S x) : Fr S a c :=
  ⟨k.os.trans h.os, k.tape.trans h.tape, k.output.trans h.output, Nat.le_trans h.size k.size,
   fun i hi hn => (k.keep i (Nat.lt_of_lt_of_le hi h.size) (fun e => hn (hs i hi e))).trans (h.keep i hi hn)⟩

theorem Fr.trans {S : Nat → Prop} {a b c : World} (h : Fr S a b) (k : Fr S b c) : Fr S a c := h.trans' k fun _ _ e => e

theorem Fr.mono {S S' : Nat → Prop} {a b : World} (h : Fr S a b) (hs : ∀ x, x < a.heap.size → S x → S' x) : Fr S' a b :=
  ⟨h.os, h.tape, h.output, h.size, fun i hi hn => h.keep i hi (fun e => hn (hs i hi e))⟩

theorem Fr.alloc {S : Nat → Prop} {a w : World} (h : Fr S a w) (o : Obj) : Fr S a (w.alloc o) :=
  h.trans ⟨rfl, rfl, rfl, by simp, fun k hk _ => Below.heap_alloc _ _ _ hk⟩

theorem Fr.drew {S : Nat → Prop} {a w : World} (h : Fr S a w) : Fr S a w.drew := ⟨h.os, h.tape, h.output, h.size, h.keep⟩

theorem Fr.setCell {S : Nat → Prop} {a w : World} (h : Fr S a w) {p : Addr} (hp : S p.block ∨ a.heap.size ≤ p.block) (u : Value) : Fr S a (w.setCell p u) :=
  h.trans' (S' := fun k => k = p.block) ⟨rfl, rfl, rfl, by simp [World.setCell], fun k _ hn => Below.heap_setCell _ _ _ _ hn⟩
    fun x hx e => by
      rcases hp with hp | hp
      · rw [e]; exact hp
      · have e' : x = p.block := e
        omega

theorem Fr.grown {S : Nat → Prop} {a w w' : World} {row : Option Nat} (h : Fr S a w) (hg : w.grownBy w' row) (hr : ∀ k, row = some k → S k ∨ a.heap.size ≤ k) : Fr S a w' :=
  h.trans' (S' := fun k => row = some k) ⟨hg.os, hg.tape, hg.output, hg.size, fun k hk hn => hg.block k hk (fun e => hn e.symm)⟩
    fun x hx e => by
      rcases hr x e with h | h
      · exact h
      · omega

theorem Fr.of_grown {w w' : World} {row : Option Nat} (hg : w.grownBy w' row) : Fr (fun k => row = some k) w w' :=
  ⟨hg.os, hg.tape, hg.output, hg.size, fun k hk hn => hg.block k hk (fun e => hn e.symm)⟩

theorem Fr.to_grown {w w' : World} {b : Nat} (h : Fr (fun k => k = b) w w') : w.grownBy w' (some b) :=
  ⟨h.os, h.tape, h.output, h.size, fun k hk hn => h.keep k hk (fun e => hn (by rw [e]))⟩

theorem Fr.below {S : Nat → Prop} {B : Nat} {a w w' : World} (h : Below B a w) (hf : Fr S w w') (hB : B ≤ w.heap.size) (hs : ∀ k, S k → B ≤ k) : Below B a w' :=
  h.trans ⟨hf.os, hf.tape, hf.output, hf.size, fun k hk => hf.keep k (by omega) (fun e => by have := hs k e; omega)⟩

theorem Fr.of_below {S : Nat → Prop} {w w' : World} (h : Below w.heap.size w w') : Fr S w w' := ⟨h.os, h.tape, h.output, h.size, fun k hk _ => h.block k hk⟩

theorem Fr.cell {S : Nat → Prop} {w w' : World} (h : Fr S w w') {p : Addr} {v : Value} (hv : w.cell? p = some v) (hp : ¬ S p.block) : w'.cell? p = some v :=
  (World.cell?_of_block (h.keep p.block (World.block_lt_of_cell? w p hv) hp)).trans hv

theorem Fr.blk {S : Nat → Prop} {w w' : World} (h : Fr S w w') {b : Nat} {o : Obj} (hv : w.heap[b]? = some o) (hp : ¬ S b) : w'.heap[b]? = some o :=
  (h.keep b (Array.getElem?_eq_some_iff.1 hv).1 hp).trans hv

theorem Fr.row {S : Nat → Prop} {w w' : World} {base : Nat} {e : TypeId} {size : Nat} {v : Value} {n : Nat} {xs : List Value} (h : Fr S w w') (ho : w.ownsRow base e size v n xs)
    (hp : ∀ k, v.ownBlock = some k → ¬ S k) : w'.ownsRow base e size v n xs := by
  refine ⟨ho.1, ?_⟩
  rcases ho.2 with hn | ⟨g, cap, cur, rfl, hb, hgg, rest⟩
  · exact .inl hn
  · exact .inr ⟨g, cap, cur, rfl, hb, h.blk hgg (hp g rfl), rest⟩

theorem row_base {w : World} {base base' : Nat} {e : TypeId} {size : Nat} {v : Value} {n : Nat} {xs : List Value} (ho : w.ownsRow base e size v n xs) (hb : ∀ k, v.ownBlock = some k → base' ≤ k) : w.ownsRow base' e size v n xs := by
  refine ⟨ho.1, ?_⟩
  rcases ho.2 with hn | ⟨g, cap, cur, rfl, _, rest⟩
  · exact .inl hn
  · exact .inr ⟨g, cap, cur, rfl, hb g rfl, rest⟩

theorem lt_of_blk {w : World} {b : Nat} {o : Obj} (h : w.heap[b]? = some o) : b < w.heap.size := (Array.getElem?_eq_some_iff.1 h).1

/-! ### maps -/

structure KLaw (P : Program) (T : TypeId) {κ : Type} (ek : κ → Value) : Prop where
  inj : ∀ {a b : κ}, ek a = ek b → a = b
  check : ∀ (w : World) (em : Bool) (x : κ), (Instr.checkKey em 10000 T (ek x)).run P w = .ok () w
  find : ∀ (w : World) (x : κ) (es : List MapEntry), (∀ e ∈ es, ∃ y, e.key = ek y) →
    ((Instr.findKey T (ek x) es).run P w = .ok none w ∧ ∀ e ∈ es, e.key ≠ ek x) ∨ ∃ j e, (Instr.findKey T (ek x) es).run P w = .ok (some (j, e.val)) w ∧ es[j]? = some e ∧ e.key = ek x
  stays : ∀ (w : World) (x : κ), (Instr.keyThatStays (ek x) (ek x)).run P w = .ok (ek x) w

theorem int_law {P : Program} {T : TypeId} {q : IntKind} (hk : P.underlying T = some (.int q)) : KLaw P T (fun n : Int => Value.int q n) where
  inj := by intro a b h; injection h
  check := fun w em x => run_checkKey hk (show IsKey (.int q) (.int q x) from rfl) em 9999
  find := fun w x es hes => by
    have hks : ∀ y ∈ es, IsKey (.int q) y.key := fun y hy => by
      obtain ⟨z, hz⟩ := hes y hy
      rw [hz]; rfl
    rcases findNow_spec (show IsKey (.int q) (.int q x) from rfl) es 0 hks with ⟨h1, h2⟩ | ⟨j, e0, h1, h2, h3⟩
    · exact Or.inl ⟨run_findKey hk h1, h2⟩
    · exact Or.inr ⟨j, e0, by simpa using run_findKey hk h1, h2, h3⟩
  stays := fun w x => run_keyThatStays (show IsKey (.int q) (.int q x) from rfl)

section
variable {κ ν : Type} [DecidableEq κ]

def kget : List (κ × ν) → κ → Option ν
  | [], _ => none
  | (a, v) :: r, k => if a = k then some v else kget r k

def kput : List (κ × ν) → κ → ν → List (κ × ν)
  | [], k, v => [(k, v)]
  | (a, u) :: r, k, v => if a = k then (k, v) :: r else (a, u) :: kput r k v

def kdel : List (κ × ν) → κ → List (κ × ν)
  | [], _ => []
  | (a, u) :: r, k => if a = k then r else (a, u) :: kdel r k

theorem kget_kput (l : List (κ × ν)) (k : κ) (v : ν) (x : κ) : kget (kput l k v) x = if k = x then some v else kget l x := by
  induction l with
  | nil => simp [kput, kget]
  | cons p r ih =>
    obtain ⟨a, u⟩ := p
    by_cases h : a = k
    · subst h
      by_cases hx : a = x <;> simp [kput, kget, hx]
    · by_cases hx : a = x
      · subst hx
        simp [kput, kget, h, Ne.symm h]
      · simp [kput, kget, h, hx, ih]

theorem kget_none {l : List (κ × ν)} {k : κ} (h : k ∉ l.map Prod.fst) : kget l k = none := by
  induction l with
  | nil => rfl
  | cons p r ih =>
    obtain ⟨a, u⟩ := p
    simp only [List.map_cons, List.mem_cons, not_or] at h
    simp [kget, Ne.symm h.1, ih h.2]

theorem kget_isSome {l : List (κ × ν)} {k : κ} : (kget l k).isSome = true ↔ k ∈ l.map Prod.fst := by
  induction l with
  | nil => simp [kget]
  | cons p r ih =>
    obtain ⟨a, u⟩ := p
    by_cases h : a = k
    · simp [kget, h]
    · simp [kget, h, ih, Ne.symm h]

theorem kget_some_mem {l : List (κ × ν)} {k : κ} {v : ν} (h : kget l k = some v) : (k, v) ∈ l := by
  induction l with
  | nil => simp [kget] at h
  | cons p r ih =>
    obtain ⟨a, u⟩ := p
    by_cases e : a = k
    · simp only [kget, e, if_true, Option.some.injEq] at h
      subst h; subst e; simp
    · simp only [kget, e, if_false] at h
      exact List.mem_cons_of_mem _ (ih h)

theorem kget_of_mem {l : List (κ × ν)} (hd : (l.map Prod.fst).Nodup) {k : κ} {v : ν} (h : (k, v) ∈ l) : kget l k = some v := by
  induction l with
  | nil => simp at h
  | cons p r ih =>
    obtain ⟨a, u⟩ := p
    simp only [List.map_cons, List.nodup_cons] at hd
    rcases List.mem_cons.1 h with e | e
    · cases e; simp [kget]
    · have : a ≠ k := fun e' => hd.1 (by rw [e']; exact List.mem_map_of_mem (f := Prod.fst) e)
      simp [kget, this, ih hd.2 e]

theorem kput_fresh {l : List (κ × ν)} {k : κ} (v : ν) (h : k ∉ l.map Prod.fst) : kput l k v = l ++ [(k, v)] := by
  induction l with
  | nil => rfl
  | cons p r ih =>
    obtain ⟨a, u⟩ := p
    simp only [List.map_cons, List.mem_cons, not_or] at h
    simp [kput, Ne.symm h.1, ih h.2]

theorem kput_set {l : List (κ × ν)} (hd : (l.map Prod.fst).Nodup) {k : κ} {u : ν} (v : ν) {j : Nat} (h : l[j]? = some (k, u)) : kput l k v = l.set j (k, v) := by
  induction l generalizing j with
  | nil => simp at h
  | cons p r ih =>
    obtain ⟨a, x⟩ := p
    simp only [List.map_cons, List.nodup_cons] at hd
    cases j with
    | zero => simp at h; simp [kput, h.1]
    | succ j =>
      simp only [List.getElem?_cons_succ] at h
      have : a ≠ k := fun e => hd.1 (by rw [e]; exact List.mem_map_of_mem (f := Prod.fst) (List.mem_of_getElem? h))
      simp [kput, this, ih hd.2 h]

theorem kdel_erase {l : List (κ × ν)} (hd : (l.map Prod.fst).Nodup) {k : κ} {u : ν} {j : Nat} (h : l[j]? = some (k, u)) : kdel l k = l.eraseIdx j := by
  induction l generalizing j with
  | nil => simp at h
  | cons p r ih =>
    obtain ⟨a, x⟩ := p
    simp only [List.map_cons, List.nodup_cons] at hd
    cases j with
    | zero => simp at h; simp [kdel, h.1]
    | succ j =>
      simp only [List.getElem?_cons_succ] at h
      have : a ≠ k := fun e => hd.1 (by rw [e]; exact List.mem_map_of_mem (f := Prod.fst) (List.mem_of_getElem? h))
      simp [kdel, this, ih hd.2 h]

theorem kdel_none {l : List (κ × ν)} {k : κ} (h : k ∉ l.map Prod.fst) : kdel l k = l := by
  induction l with
  | nil => rfl
  | cons p r ih =>
    obtain ⟨a, u⟩ := p
    simp only [List.map_cons, List.mem_cons, not_or] at h
    simp [kdel, Ne.symm h.1, ih h.2]

theorem kput_keys (l : List (κ × ν)) (k : κ) (v : ν) : (kput l k v).map Prod.fst = if k ∈ l.map Prod.fst then l.map Prod.fst else l.map Prod.fst ++ [k] := by
  induction l with
  | nil => simp [kput]
  | cons p r ih =>
    obtain ⟨a, u⟩ := p
    by_cases h : a = k
    · simp [kput, h]
    · simp only [kput, h, if_false, List.map_cons, ih, List.mem_cons, Ne.symm h, false_or]
      split <;> simp

theorem kput_nodup {l : List (κ × ν)} (hd : (l.map Prod.fst).Nodup) (k : κ) (v : ν) : ((kput l k v).map Prod.fst).Nodup := by
  rw [kput_keys]
  split
  · exact hd
  · rename_i h
    exact List.nodup_append.2 ⟨hd, by simp, by rintro a ha b hb rfl; simp at hb; exact h (hb ▸ ha)⟩

theorem kdel_sublist (l : List (κ × ν)) (k : κ) : (kdel l k).Sublist l := by
  induction l with
  | nil => exact List.Sublist.slnil
  | cons p r ih =>
    obtain ⟨a, u⟩ := p
    by_cases h : a = k
    · simp [kdel, h]
    · simp only [kdel, h, if_false]
      exact ih.cons_cons _

theorem kdel_nodup {l : List (κ × ν)} (hd : (l.map Prod.fst).Nodup) (k : κ) : ((kdel l k).map Prod.fst).Nodup :=
  hd.sublist ((kdel_sublist l k).map _)

theorem kget_kdel {l : List (κ × ν)} (hd : (l.map Prod.fst).Nodup) (k x : κ) : kget (kdel l k) x = if k = x then none else kget l x := by
  induction l with
  | nil => simp [kdel, kget]
  | cons p r ih =>
    obtain ⟨a, u⟩ := p
    simp only [List.map_cons, List.nodup_cons] at hd
    by_cases h : a = k
    · subst h
      by_cases hx : a = x
      · subst hx
        simp [kdel, kget_none hd.1]
      · simp [kdel, kget, hx]
    · by_cases hx : a = x
      · subst hx
        simp [kdel, kget, h, Ne.symm h]
      · simp [kdel, kget, h, hx, ih hd.2]

end

section
variable {κ ν : Type}
/-- Block b is a map that holds kv, in the order in which the entries were put. -/
def IsMap (w : World) (b : Nat) (ek : κ → Value) (ev : ν → Value) (kv : List (κ × ν)) : Prop :=
  ∃ es clock, w.heap[b]? = some (.map es clock) ∧ es.toList.map (fun e => (e.key, e.val)) = kv.map (fun p => (ek p.1, ev p.2)) ∧ (kv.map Prod.fst).Nodup ∧
    (es.toList.map (·.born)).Pairwise (· < ·) ∧ ∀ e ∈ es.toList, e.born < clock

variable {P : Program} {T E mt : TypeId} {ek : κ → Value} {ev : ν → Value} {w : World} {b : Nat} {kv : List (κ × ν)}

theorem IsMap.lt (h : IsMap w b ek ev kv) : b < w.heap.size := by
  obtain ⟨_, _, hb, _⟩ := h
  exact lt_of_blk hb

theorem IsMap.nodup (h : IsMap w b ek ev kv) : (kv.map Prod.fst).Nodup := by
  obtain ⟨_, _, _, _, hd, _⟩ := h
  exact hd

theorem IsMap.fr {S : Nat → Prop} {w' : World} (h : IsMap w b ek ev kv) (hf : Fr S w w') (hn : ¬ S b) : IsMap w' b ek ev kv := by
  obtain ⟨es, clock, hb, r⟩ := h
  exact ⟨es, clock, hf.blk hb hn, r⟩

theorem IsMap.ne_row {base : Nat} {e : TypeId} {size : Nat} {v : Value} {n : Nat} {xs : List Value} (h : IsMap w b ek ev kv) (ho : w.ownsRow base e size v n xs) : ¬ v.ownBlock = some b := by
  intro e
  obtain ⟨es, clock, hb, _⟩ := h
  rcases ho.2 with ⟨rfl, _⟩ | ⟨g, cap, cur, rfl, _, hg, _⟩
  · cases e
  · have : g = b := by simpa [Value.ownBlock] using e
    rw [this, hb] at hg; cases hg

theorem IsMap.ne_blk {cs : Array Value} {t : TypeId} {fr : Nat × Nat} {g : Nat} (h : IsMap w b ek ev kv) (ho : w.heap[g]? = some (.cells cs t fr)) : g ≠ b := by
  rintro rfl
  obtain ⟨es, clock, hb, _⟩ := h
  rw [hb] at ho; cases ho

theorem IsMap.below {w' : World} (h : IsMap w b ek ev kv) (hb : Below w.heap.size w w') : IsMap w' b ek ev kv := h.fr (S := fun _ => False) (Fr.of_below hb) id

theorem IsMap.alloc (h : IsMap w b ek ev kv) (o : Obj) : IsMap (w.alloc o) b ek ev kv := h.below ((Below.refl _ _).alloc (Nat.le_refl _) _)

theorem IsMap.made (w : World) (ek : κ → Value) (ev : ν → Value) : IsMap (w.alloc (.map #[] 0)) w.heap.size ek ev [] :=
  ⟨#[], 0, heap_alloc_new w _, rfl, List.nodup_nil, List.Pairwise.nil, by simp⟩

theorem IsMap.keys {es : Array MapEntry} (hm : es.toList.map (fun e => (e.key, e.val)) = kv.map (fun p => (ek p.1, ev p.2))) : ∀ e ∈ es.toList, ∃ y, e.key = ek y := by
  intro e he
  have : (e.key, e.val) ∈ kv.map (fun p => (ek p.1, ev p.2)) := by rw [← hm]; exact List.mem_map_of_mem (f := fun e : MapEntry => (e.key, e.val)) he
  obtain ⟨p, _, hp⟩ := List.mem_map.1 this
  exact ⟨p.1, (Prod.mk.inj hp).1.symm⟩

theorem IsMap.at_ {es : Array MapEntry} (hm : es.toList.map (fun e => (e.key, e.val)) = kv.map (fun p => (ek p.1, ev p.2))) (K : KLaw P T ek) {j : Nat} {e : MapEntry} {k : κ}
    (h1 : es.toList[j]? = some e) (h2 : e.key = ek k) : ∃ v, kv[j]? = some (k, v) ∧ e.val = ev v := by
  have h3 : (es.toList.map (fun e => (e.key, e.val)))[j]? = some (e.key, e.val) := by rw [List.getElem?_map, h1]; rfl
  rw [hm, List.getElem?_map] at h3
  cases h4 : kv[j]? with
  | none => rw [h4] at h3; cases h3
  | some p =>
    rw [h4] at h3
    obtain ⟨e1, e2⟩ := Prod.mk.inj (Option.some.inj h3)
    have : p.1 = k := K.inj (e1.trans h2)
    exact ⟨p.2, by rw [← this], e2.symm⟩

theorem IsMap.not_mem {es : Array MapEntry} (hm : es.toList.map (fun e => (e.key, e.val)) = kv.map (fun p => (ek p.1, ev p.2))) {k : κ} (h : ∀ e ∈ es.toList, e.key ≠ ek k) : k ∉ kv.map Prod.fst := by
  intro hk
  obtain ⟨p, hp, rfl⟩ := List.mem_map.1 hk
  have : (ek p.1, ev p.2) ∈ es.toList.map (fun e => (e.key, e.val)) := by rw [hm]; exact List.mem_map_of_mem (f := fun p : κ × ν => (ek p.1, ev p.2)) hp
  obtain ⟨e, he, h1⟩ := List.mem_map.1 this
  exact h e he (Prod.mk.inj h1).1

theorem run_getMap {es : Array MapEntry} {clock : Nat} (hb : w.heap[b]? = some (.map es clock)) : (getObj b).run P w = .ok (.map es clock) w := MapKept.run_getObj_map hb

theorem IsMap.size_eq {es : Array MapEntry} (hm : es.toList.map (fun e => (e.key, e.val)) = kv.map (fun p => (ek p.1, ev p.2))) : es.size = kv.length := by
  have := congrArg List.length hm
  simpa using this

theorem IsMap.lookup [DecidableEq κ] (h : IsMap w b ek ev kv) (K : KLaw P T ek) (ht : P.underlying mt = some (.map T E)) {z : Value} (hz : (zeroValue E).run P w = .ok z w) (k : κ) (ok : Bool) :
    (Instr.lookup mt (.map (some b)) (ek k) ok).run P w = .ok (if ok then .tuple #[((kget kv k).elim z ev), .bool (kget kv k).isSome] else (kget kv k).elim z ev) w := by
  obtain ⟨es, clock, hb, hm, hd, _⟩ := h
  rcases K.find w k es.toList (IsMap.keys hm) with ⟨h1, h2⟩ | ⟨j, e, h1, h2, h3⟩
  · have hg := kget_none (IsMap.not_mem hm h2)
    cases ok <;> simp [Instr.lookup, run_underlying ht, run_getMap hb, K.check, h1, hz, hg, Result.andThen]
  · obtain ⟨v, hv, hev⟩ := IsMap.at_ hm K h2 h3
    have hg := kget_of_mem hd (List.mem_of_getElem? hv)
    cases ok <;> simp [Instr.lookup, run_underlying ht, run_getMap hb, K.check, h1, hg, hev, Result.andThen]

theorem lookup_nil (K : KLaw P T ek) (ht : P.underlying mt = some (.map T E)) {z : Value} (hz : (zeroValue E).run P w = .ok z w) (k : κ) (ok : Bool) :
    (Instr.lookup mt (.map none) (ek k) ok).run P w = .ok (if ok then .tuple #[z, .bool false] else z) w := by
  rcases K.find w k [] (by simp) with ⟨h1, h2⟩ | ⟨j, e, h1, h2, h3⟩
  · cases ok <;> simp [Instr.lookup, run_underlying ht, K.check, h1, hz, Result.andThen]
  · simp at h2

theorem setBlock_fr {es : Array MapEntry} {clock : Nat} {o' : Obj} (hb : w.heap[b]? = some (.map es clock)) : Fr (fun k => k = b) w (setBlock w b o') :=
  ⟨rfl, rfl, rfl, by simp [setBlock], fun _ _ hn => heap_setBlock_other hb _ hn⟩

theorem IsMap.update [DecidableEq κ] (h : IsMap w b ek ev kv) (K : KLaw P T ek) (ht : P.underlying mt = some (.map T E)) (k : κ) (v : ν) :
    ∃ w', (Instr.mapUpdate mt (.map (some b)) (ek k) (ev v)).run P w = .ok () w' ∧ IsMap w' b ek ev (kput kv k v) ∧ Fr (fun x => x = b) w w' := by
  obtain ⟨es, clock, hb, hm, hd, hp, hl⟩ := h
  rcases K.find w k es.toList (IsMap.keys hm) with ⟨h1, h2⟩ | ⟨j, e, h1, h2, h3⟩
  · refine ⟨setBlock w b (.map (es.push ⟨ek k, ev v, clock⟩) (clock + 1)), ?_, ⟨_, _, heap_setBlock_same hb _, ?_, kput_nodup hd k v, ?_, ?_⟩, setBlock_fr hb⟩
    · simp [Instr.mapUpdate, run_underlying ht, run_getMap hb, K.check, h1, MapKept.run_setObj_map _ hb, Result.andThen, setBlock]
    · rw [kput_fresh v (IsMap.not_mem hm h2), Array.toList_push, List.map_append, List.map_append, hm]; rfl
    · rw [Array.toList_push, List.map_append]
      refine List.pairwise_append.2 ⟨hp, List.pairwise_singleton _ _, ?_⟩
      intro x hx y hy
      obtain ⟨e, he, rfl⟩ := List.mem_map.1 hx
      simp at hy
      rw [hy]
      exact hl e he
    · intro e he
      rw [Array.toList_push, List.mem_append] at he
      rcases he with he | he
      · have := hl e he; omega
      · simp at he; rw [he]; show clock < clock + 1; omega
  · obtain ⟨u, hu, heu⟩ := IsMap.at_ hm K h2 h3
    have hj : es[j]? = some e := by simpa using h2
    have hjl : j < es.size := (Array.getElem?_eq_some_iff.1 hj).1
    have hkey : ((es[j]?).map (·.key)).getD (ek k) = ek k := by rw [hj]; exact h3
    have hl' : ∀ (g : MapEntry → MapEntry), (es.modify j g).toList = es.toList.set j (g e) := by
      intro g
      haveI : Inhabited MapEntry := ⟨e⟩
      rw [Array.toList_modify, List.modify_eq_set, h2]; rfl
    refine ⟨setBlock w b (.map (es.modify j fun e => { e with key := ek k, val := ev v }) clock), ?_, ⟨_, _, heap_setBlock_same hb _, ?_, kput_nodup hd k v, ?_, ?_⟩, setBlock_fr hb⟩
    · simp only [Instr.mapUpdate, Sem.run_bind, run_underlying ht, run_getMap hb, K.check, h1, Result.andThen_ok, hkey, K.stays, MapKept.run_setObj_map _ hb]
      rfl
    · rw [hl', List.map_set, hm, kput_set hd v hu, List.map_set]
    · rw [hl', List.map_set]
      have : (es.toList.map (·.born)).set j e.born = es.toList.map (·.born) := by
        apply List.ext_getElem?
        intro i
        rw [List.getElem?_set]
        split
        · rename_i h; subst h; rw [List.getElem?_map, h2]; simp [hjl]
        · rfl
      rw [this]; exact hp
    · intro x hx
      rw [hl'] at hx
      rcases List.mem_or_eq_of_mem_set hx with hx | hx
      · exact hl x hx
      · rw [hx]; exact hl e (List.mem_of_getElem? h2)

theorem IsMap.delete [DecidableEq κ] (h : IsMap w b ek ev kv) (K : KLaw P T ek) (ht : P.underlying mt = some (.map T E)) (k : κ) (ty T' : TypeId) :
    ∃ w', (Builtin.delete_ #[mt, T'] ty #[.map (some b), ek k]).run P w = .ok (.tuple #[]) w' ∧ IsMap w' b ek ev (kdel kv k) ∧ Fr (fun x => x = b) w w' := by
  obtain ⟨es, clock, hb, hm, hd, hp, hl⟩ := h
  rcases K.find w k es.toList (IsMap.keys hm) with ⟨h1, h2⟩ | ⟨j, e, h1, h2, h3⟩
  · refine ⟨setBlock w b (.map es clock), ?_, ⟨_, _, heap_setBlock_same hb _, ?_, kdel_nodup hd k, hp, hl⟩, setBlock_fr hb⟩
    · simp [Builtin.delete_, run_underlying ht, run_getMap hb, K.check, h1, MapKept.run_setObj_map _ hb, Result.andThen, setBlock]
    · rw [kdel_none (IsMap.not_mem hm h2), hm]
  · obtain ⟨u, hu, heu⟩ := IsMap.at_ hm K h2 h3
    have hj : es[j]? = some e := by simpa using h2
    have hjl : j < es.size := (Array.getElem?_eq_some_iff.1 hj).1
    have he : (es.eraseIdxIfInBounds j).toList = es.toList.eraseIdx j := by simp [Array.eraseIdxIfInBounds, hjl]
    refine ⟨setBlock w b (.map (es.eraseIdxIfInBounds j) clock), ?_, ⟨_, _, heap_setBlock_same hb _, ?_, kdel_nodup hd k, ?_, ?_⟩, setBlock_fr hb⟩
    · simp [Builtin.delete_, run_underlying ht, run_getMap hb, K.check, h1, MapKept.run_setObj_map _ hb, Result.andThen, setBlock]
    · rw [he, kdel_erase hd hu, ChangeMaps.map_eraseIdx, hm, ChangeMaps.map_eraseIdx]
    · rw [he]
      exact hp.sublist ((List.eraseIdx_sublist _ _).map _)
    · intro x hx
      rw [he] at hx
      exact hl x (List.mem_of_mem_eraseIdx hx)

theorem IsMap.len (h : IsMap w b ek ev kv) (ht : P.underlying mt = some (.map T E)) (ty : TypeId) :
    (Builtin.len_ #[mt] ty #[.map (some b)]).run P w = .ok (.int .i64 kv.length) w := by
  obtain ⟨es, clock, hb, hm, hd, hp, hl⟩ := h
  simp [Builtin.len_, run_underlying ht, run_getMap hb, Result.andThen, IsMap.size_eq hm, goInt]

variable {ops : Array Oper} {rest : List Oper} {o : Oper} {a : Act} {Q : Exit → Act → World → Prop}

theorem wpList_wanted (hw : Region.wanted o (yielded ops a.tmps) = true) (h : ∀ K : Act → World → Prop, (∀ a w, wpList P ops Q rest a w → K a w) → o.wp P a w K Q) : wpList P ops Q (o :: rest) a w :=
  wpList_step fun K hK => by rw [if_pos hw]; exact h K hK

/-- 'm[k]', 'v, ok := m[k]' at a map that is known. -/
theorem wpList_lookup [DecidableEq κ] (hw : Region.wanted o (yielded ops a.tmps) = true) (m x : Operand) (mt : TypeId) (ok : Bool) (hop : o.op = .lookup mt m x ok) (K : KLaw P T ek)
    (ht : P.underlying mt = some (.map T E)) (z : Value) (hz : (zeroValue E).run P w = .ok z w) (b : Nat) (hm : a.eval m = .map (some b)) (kv : List (κ × ν)) (h : IsMap w b ek ev kv)
    (k : κ) (hx : a.eval x = ek k) (val : Value) (hval : (if ok then .tuple #[((kget kv k).elim z ev), .bool (kget kv k).isSome] else (kget kv k).elim z ev) = val)
    (hK : wpList P ops Q rest (a.put o.dst val) w) :
    wpList P ops Q (o :: rest) a w := by
  subst hval
  refine wpList_wanted hw fun K' hK' => ?_
  have hr := h.lookup K ht hz k ok
  unfold Oper.wp
  simp [execOp, hop, hm, hx, hr, Result.andThen]
  exact hK' _ _ hK

/-- 'm[k] = v' at a map that is known. -/
theorem wpList_update [DecidableEq κ] (hw : Region.wanted o (yielded ops a.tmps) = true) (m x y : Operand) (mt : TypeId) (hop : o.op = .mapUpdate mt m x y ∨ o.op = .insert mt m x y) (K : KLaw P T ek)
    (ht : P.underlying mt = some (.map T E)) (b : Nat) (hm : a.eval m = .map (some b)) (kv : List (κ × ν)) (h : IsMap w b ek ev kv)
    (k : κ) (hx : a.eval x = ek k) (v : ν) (hy : a.eval y = ev v)
    (hK : ∀ w', IsMap w' b ek ev (kput kv k v) → Fr (fun x => x = b) w w' → wpList P ops Q rest (a.put o.dst undef) w') :
    wpList P ops Q (o :: rest) a w := by
  refine wpList_wanted hw fun K' hK' => ?_
  obtain ⟨w', hr, h1, h2⟩ := h.update K ht k v
  unfold Oper.wp
  rcases hop with hop | hop <;>
  · simp [execOp, hop, hm, hx, hy, hr, Result.andThen]
    exact hK' _ _ (hK w' h1 h2)

/-- 'delete(m, k)' at a map that is known. -/
theorem wpList_delete [DecidableEq κ] (hw : Region.wanted o (yielded ops a.tmps) = true) (m x : Operand) (mt T' : TypeId)
    (hop : o.op = .call { callee := .builtin .delete, args := #[m, x], argTypes := #[mt, T'] }) (K : KLaw P T ek)
    (ht : P.underlying mt = some (.map T E)) (b : Nat) (hm : a.eval m = .map (some b)) (kv : List (κ × ν)) (h : IsMap w b ek ev kv)
    (k : κ) (hx : a.eval x = ek k)
    (hK : ∀ w', IsMap w' b ek ev (kdel kv k) → Fr (fun x => x = b) w w' → wpList P ops Q rest (a.put o.dst (.tuple #[])) w') :
    wpList P ops Q (o :: rest) a w := by
  refine wpList_wanted hw fun K' hK' => ?_
  obtain ⟨w', hr, h1, h2⟩ := h.delete K ht k o.type T'
  unfold Oper.wp execOp
  simp only [hop, resolve, invoke, builtin, Sem.run_bind, Sem.run_pure, Result.andThen_ok, List.map_toArray, List.map_cons, List.map_nil, hm, hx, hr]
  exact hK' _ _ (hK w' h1 h2)

/-- 'len(m)' at a map that is known. -/
theorem wpList_len (hw : Region.wanted o (yielded ops a.tmps) = true) (m : Operand) (mt : TypeId)
    (hop : o.op = .call { callee := .builtin .len, args := #[m], argTypes := #[mt] })
    (ht : P.underlying mt = some (.map T E)) (b : Nat) (hm : a.eval m = .map (some b)) (kv : List (κ × ν)) (h : IsMap w b ek ev kv)
    (hK : wpList P ops Q rest (a.put o.dst (.int .i64 kv.length)) w) :
    wpList P ops Q (o :: rest) a w := by
  refine wpList_wanted hw fun K' hK' => ?_
  have hr := h.len ht o.type
  unfold Oper.wp execOp
  simp only [hop, resolve, invoke, builtin, Sem.run_bind, Sem.run_pure, Result.andThen_ok, List.map_toArray, List.map_cons, List.map_nil, hm, hr]
  exact hK' _ _ hK
end

/-! ### rows of structs -/
section
variable {α : Type}

def flat (enc : α → List Value) (l : List α) : List Value := l.flatMap enc

theorem flat_append (enc : α → List Value) (l r : List α) : flat enc (l ++ r) = flat enc l ++ flat enc r := List.flatMap_append

theorem flat_one (enc : α → List Value) (x : α) : flat enc [x] = enc x := by simp [flat]

theorem length_flat {enc : α → List Value} {k : Nat} (hk : ∀ a, (enc a).length = k) (l : List α) : (flat enc l).length = l.length * k := by
  induction l with
  | nil => simp [flat]
  | cons a r ih => simp only [flat, List.flatMap_cons, List.length_append, hk, List.length_cons] at *; rw [ih, Nat.add_mul]; omega

theorem flat_get {enc : α → List Value} {k : Nat} (hk : ∀ a, (enc a).length = k) (l : List α) (i j : Nat) (hj : j < k) (hi : i < l.length) : (flat enc l)[i * k + j]? = (enc l[i])[j]? := by
  induction l generalizing i with
  | nil => simp at hi
  | cons a r ih =>
    cases i with
    | zero => simp [flat, List.flatMap_cons, List.getElem?_append_left (show j < (enc a).length by rw [hk]; exact hj)]
    | succ i =>
      have hi' : i < r.length := by simpa using hi
      have e : (i + 1) * k + j = (enc a).length + (i * k + j) := by rw [hk, Nat.add_mul]; omega
      rw [e]
      simp only [flat, List.flatMap_cons]
      rw [List.getElem?_append_right (by omega), Nat.add_sub_cancel_left]
      exact ih i hi'

theorem flat_set {enc : α → List Value} {k : Nat} (hk : ∀ a, (enc a).length = k) (l : List α) (i j : Nat) (hj : j < k) (hi : i < l.length) (u : Value) (x : α) (hx : enc x = (enc l[i]).set j u) :
    (flat enc l).set (i * k + j) u = flat enc (l.set i x) := by
  induction l generalizing i with
  | nil => simp at hi
  | cons a r ih =>
    cases i with
    | zero =>
      simp only [List.getElem_cons_zero] at hx
      simp [flat, List.flatMap_cons, List.set_append_left (s := enc a) (t := List.flatMap enc r) j u (by rw [hk]; exact hj), hx]
    | succ i =>
      have hi' : i < r.length := by simpa using hi
      have e : (i + 1) * k + j = (enc a).length + (i * k + j) := by rw [hk, Nat.add_mul]; omega
      rw [e]
      simp only [flat, List.flatMap_cons, List.set_cons_succ]
      rw [List.set_append_right _ _ (by omega), Nat.add_sub_cancel_left]
      congr 1
      exact ih i hi' (by simpa using hx)
end

/-! ### appending -/
structure ELaw (P : Program) (t e : TypeId) (size bytes : Nat) : Prop where
  sl : P.underlying t = some (.slice e)
  info : ∃ i z, P.info? e = some i ∧ i.zero = some z ∧ i.size = size ∧ i.bytes = bytes ∧ z.cells.size = size
  pos : 0 < size

theorem ELaw.mk' {P : Program} {t e : TypeId} {z : Value} {size bytes : Nat} (h0 : P.underlying t = some (.slice e)) (h : (P.info? e).map (fun i => (i.zero, i.size, i.bytes)) = some (some z, size, bytes)) (hz : z.cells.size = size) (hp : 0 < size) : ELaw P t e size bytes := by
  obtain ⟨i, h1, h2, h3, h4⟩ := info_parts h
  exact ⟨h0, ⟨i, z, h1, h2, h3, h4, hz⟩, hp⟩

section
variable {P : Program} {w : World} {ops : Array Oper} {rest : List Oper} {o : Oper} {a : Act} {Q : Exit → Act → World → Prop}

theorem wp_app {K : Act → World → Prop} (s x : Operand) (t : TypeId) {e : TypeId} {size bytes : Nat}
    (hop : o.op = .call { callee := .builtin .append, args := #[s, x], argTypes := #[t, t] }) (E : ELaw P t e size bytes) (base : Nat) (v : Value) (n : Nat) (xs : List Value)
    (hown : w.ownsRow base e size v n xs) (hs : a.eval s = v) (ad : Addr) (m c : Nat) (hx : a.eval x = .slice (some ad) m c) (news : List Value) (hl : news.length = m * size)
    (hnews : ∀ j u, news[j]? = some u → w.cell? (ad.add j) = some u) (h1 : ∀ u ∈ news, u.oneCell' = true) (hm : 0 < m) (h63 : n + m ≤ maxLen) (hbytes : (n + m) * bytes ≤ 140737488355328) (hbase : base ≤ w.heap.size)
    (hK : ∀ g cap w', w'.ownsRow base e size (.slice (some ⟨g, 0, none⟩) (n + m) cap) (n + m) (xs ++ news) → Fr (fun k => v.ownBlock = some k) w w' → (v.ownBlock = some g ∨ w.heap.size ≤ g) → K (a.put o.dst (.slice (some ⟨g, 0, none⟩) (n + m) cap)) w') :
    o.wp P a w K Q := by
  obtain ⟨i, z, hi, hz, hsz, hb, hzs⟩ := E.info
  refine wp_append_lies w s x t hop base e i z size bytes E.sl hi hz hsz hb hzs E.pos v n xs hs hown ad m c news hx hl hnews h1 hm h63 hbytes hbase _ rfl ?_
  intro g cap w' h1 h2 h3 h4
  exact hK g cap w' h1 (Fr.of_grown h2) (h3.imp id fun e => by omega)

theorem wpList_app (hw : Region.wanted o (yielded ops a.tmps) = true) (s x : Operand) (t : TypeId) {e : TypeId} {size bytes : Nat}
    (hop : o.op = .call { callee := .builtin .append, args := #[s, x], argTypes := #[t, t] }) (E : ELaw P t e size bytes) (base : Nat) (v : Value) (n : Nat) (xs : List Value)
    (hown : w.ownsRow base e size v n xs) (hs : a.eval s = v) (ad : Addr) (m c : Nat) (hx : a.eval x = .slice (some ad) m c) (news : List Value) (hl : news.length = m * size)
    (hnews : ∀ j u, news[j]? = some u → w.cell? (ad.add j) = some u) (h1 : ∀ u ∈ news, u.oneCell' = true) (hm : 0 < m) (h63 : n + m ≤ maxLen) (hbytes : (n + m) * bytes ≤ 140737488355328) (hbase : base ≤ w.heap.size)
    (hK : ∀ g cap w', w'.ownsRow base e size (.slice (some ⟨g, 0, none⟩) (n + m) cap) (n + m) (xs ++ news) → Fr (fun k => v.ownBlock = some k) w w' → (v.ownBlock = some g ∨ w.heap.size ≤ g) → wpList P ops Q rest (a.put o.dst (.slice (some ⟨g, 0, none⟩) (n + m) cap)) w') :
    wpList P ops Q (o :: rest) a w :=
  wpList_wanted hw fun _ hk => wp_app s x t hop E base v n xs hown hs ad m c hx news hl hnews h1 hm h63 hbytes hbase fun g cap w' a b c => hk _ _ (hK g cap w' a b c)

theorem step_app {K : Act → World → Prop} {F : Prop} (hgd : o.guard = none) (s x : Operand) (t : TypeId) {e : TypeId} {size bytes : Nat}
    (hop : o.op = .call { callee := .builtin .append, args := #[s, x], argTypes := #[t, t] }) (E : ELaw P t e size bytes) (base : Nat) (v : Value) (n : Nat) (xs : List Value)
    (hown : w.ownsRow base e size v n xs) (hs : a.eval s = v) (ad : Addr) (m c : Nat) (hx : a.eval x = .slice (some ad) m c) (news : List Value) (hl : news.length = m * size)
    (hnews : ∀ j u, news[j]? = some u → w.cell? (ad.add j) = some u) (h1 : ∀ u ∈ news, u.oneCell' = true) (hm : 0 < m) (h63 : n + m ≤ maxLen) (hbytes : (n + m) * bytes ≤ 140737488355328) (hbase : base ≤ w.heap.size)
    (hK : ∀ g cap w', w'.ownsRow base e size (.slice (some ⟨g, 0, none⟩) (n + m) cap) (n + m) (xs ++ news) → Fr (fun k => v.ownBlock = some k) w w' → (v.ownBlock = some g ∨ w.heap.size ≤ g) → K (a.put o.dst (.slice (some ⟨g, 0, none⟩) (n + m) cap)) w') :
    if Region.wanted o (yielded ops a.tmps) = true then Oper.wp P o a w K Q else F := by
  have hw : Region.wanted o (yielded ops a.tmps) = true := by simp [Region.wanted, hgd]
  rw [if_pos hw]
  exact wp_app s x t hop E base v n xs hown hs ad m c hx news hl hnews h1 hm h63 hbytes hbase hK

/-- The cells of the block that was laid last. -/
theorem news_last (w : World) (cs : Array Value) (t : TypeId) (l : List Value) (hl : cs.toList = l) (b : Nat) (hb : w.heap.size = b) : ∀ j u, l[j]? = some u → (w.alloc (.cells cs t)).cell? ((⟨b, 0, none⟩ : Addr).add j) = some u := by
  subst hl; subst hb
  exact World.news_of_block (heap_alloc_new w _)
end

def ints (l : List Int) : List Value := l.map (Value.int .i64)
theorem ints_one (l : List Int) : ∀ u ∈ ints l, u.oneCell' = true := ints_oneCell .i64 l
theorem ints_append (l r : List Int) : ints (l ++ r) = ints l ++ ints r := List.map_append
theorem ints_len (l : List Int) : (ints l).length = l.length := by simp [ints]
theorem ints_get (l : List Int) (i : Nat) (h : i < l.length) : (ints l)[i]? = some (.int .i64 l[i]) := by simp [ints, h]

theorem slice_of_row {w : World} {base : Nat} {e : TypeId} {size : Nat} {v : Value} {n : Nat} {xs : List Value} (ho : w.ownsRow base e size v n xs) : ∃ ao cap, v = .slice ao n cap := by
  rcases ho.2 with ⟨rfl, rfl⟩ | ⟨g, cap, cur, rfl, _⟩
  · exact ⟨none, 0, rfl⟩
  · exact ⟨_, cap, rfl⟩

section
variable {P : Program} {w : World} {ops : Array Oper} {rest : List Oper} {o : Oper} {a : Act} {Q : Exit → Act → World → Prop}

/-- 'append(v, y...)', both slices known; either may be nil or empty. -/
theorem wp_appRow {K : Act → World → Prop} (s x : Operand) (t : TypeId) {e : TypeId} {size bytes : Nat}
    (hop : o.op = .call { callee := .builtin .append, args := #[s, x], argTypes := #[t, t] }) (E : ELaw P t e size bytes) (base : Nat) (v : Value) (n : Nat) (xs : List Value)
    (hown : w.ownsRow base e size v n xs) (hs : a.eval s = v) (base2 : Nat) (y : Value) (m : Nat) (ys : List Value) (hy : w.ownsRow base2 e size y m ys) (hx : a.eval x = y) (h1 : ∀ u ∈ ys, u.oneCell' = true)
    (h63 : n + m ≤ maxLen) (hbytes : (n + m) * bytes ≤ 140737488355328) (hbase : base ≤ w.heap.size)
    (hK : ∀ ao cap w', w'.ownsRow base e size (.slice ao (n + m) cap) (n + m) (xs ++ ys) → Fr (fun k => v.ownBlock = some k) w w' →
      (∀ g, (Value.slice ao (n + m) cap).ownBlock = some g → v.ownBlock = some g ∨ w.heap.size ≤ g) → K (a.put o.dst (.slice ao (n + m) cap)) w') :
    o.wp P a w K Q := by
  obtain ⟨i, z, hi, hz, hsz, hb, hzs⟩ := E.info
  rcases hy.2 with ⟨rfl, rfl⟩ | ⟨g, cap, cur, rfl, _⟩
  · have hys : ys = [] := List.eq_nil_of_length_eq_zero (by simpa using hy.1)
    subst hys
    obtain ⟨ao, cap, rfl⟩ := slice_of_row hown
    have hrun := run_append_owned_none (P := P) (w := w) base t o.type e i size E.sl hi _ n xs hown
    unfold Oper.wp
    simp [execOp, hop, resolve, invoke, builtin, hs, hx, hrun, Result.andThen]
    exact hK ao cap w (by simpa using hown) (Fr.refl _ _) fun g h => .inl h
  · obtain ⟨v', w', hr, h2, h3, h4, h5⟩ := run_append_own_at (P := P) w base t o.type e i z size bytes E.sl hi hz hsz hb hzs E.pos v n xs hown ⟨g, 0, none⟩ m cap ys hy.1 (hy.cells rfl) h1 h63 hbytes hbase
    obtain ⟨ao, cap', rfl⟩ := slice_of_row h2
    unfold Oper.wp execOp
    simp only [hop, resolve, invoke, builtin, Sem.run_bind, Sem.run_pure, Result.andThen_ok, List.map_toArray, List.map_cons, List.map_nil, hs, hx, hr]
    refine hK ao cap' w' h2 (Fr.of_grown h3) ?_
    intro q hq
    rcases h5 with h5 | h5
    · left; rw [← h5]; exact hq
    · right
      rw [hq] at h5
      have := Option.some.inj h5
      omega

theorem wpList_appRow (hw : Region.wanted o (yielded ops a.tmps) = true) (s x : Operand) (t : TypeId) {e : TypeId} {size bytes : Nat}
    (hop : o.op = .call { callee := .builtin .append, args := #[s, x], argTypes := #[t, t] }) (E : ELaw P t e size bytes) (base : Nat) (v : Value) (n : Nat) (xs : List Value)
    (hown : w.ownsRow base e size v n xs) (hs : a.eval s = v) (base2 : Nat) (y : Value) (m : Nat) (ys : List Value) (hy : w.ownsRow base2 e size y m ys) (hx : a.eval x = y) (h1 : ∀ u ∈ ys, u.oneCell' = true)
    (h63 : n + m ≤ maxLen) (hbytes : (n + m) * bytes ≤ 140737488355328) (hbase : base ≤ w.heap.size)
    (hK : ∀ ao cap w', w'.ownsRow base e size (.slice ao (n + m) cap) (n + m) (xs ++ ys) → Fr (fun k => v.ownBlock = some k) w w' →
      (∀ g, (Value.slice ao (n + m) cap).ownBlock = some g → v.ownBlock = some g ∨ w.heap.size ≤ g) → wpList P ops Q rest (a.put o.dst (.slice ao (n + m) cap)) w') :
    wpList P ops Q (o :: rest) a w :=
  wpList_wanted hw fun _ hk => wp_appRow s x t hop E base v n xs hown hs base2 y m ys hy hx h1 h63 hbytes hbase fun ao cap w' a b c => hk _ _ (hK ao cap w' a b c)
end

/-- A row without elements that is not nil: 'T{}'. -/
theorem row_empty (w : World) (base : Nat) (e : TypeId) (size : Nat) (hb : base ≤ w.heap.size) : (w.alloc (.cells #[] e)).ownsRow base e size (.slice (some ⟨w.heap.size, 0, none⟩) 0 0) 0 [] :=
  World.ownsRow_lit w #[] 0 hb (by unfold maxLen; omega) (by simp)

theorem row_alloc {w : World} {base : Nat} {e : TypeId} {size : Nat} {v : Value} {n : Nat} {xs : List Value} (ho : w.ownsRow base e size v n xs) (o : Obj) : (w.alloc o).ownsRow base e size v n xs := ho.alloc o

theorem row_below {w w' : World} {base : Nat} {e : TypeId} {size : Nat} {v : Value} {n : Nat} {xs : List Value} (ho : w.ownsRow base e size v n xs) (hb : Below w.heap.size w w') : w'.ownsRow base e size v n xs :=
  (Fr.of_below (S := fun _ => False) hb).row ho (fun _ _ => id)

theorem mem_flat {α : Type} {enc : α → List Value} {l : List α} {u : Value} (h : u ∈ flat enc l) : ∃ x ∈ l, u ∈ enc x := by simpa [flat] using h

theorem eql_nil_nil {P : Program} (w : World) {t e : TypeId} (n c : Nat) (ht : P.underlying t = some (.slice e)) : (binOp .eql t (.slice none n c) (.slice none 0 0)).run P w = .ok (.bool true) w := by
  have h : ∀ d : Nat, (Op.equalIn (d + 1) t (.slice none n c) (.slice none 0 0)).run P w = .ok true w := fun d => by
    simp [Op.equalIn, run_underlying ht]
  simp [binOp, Op.equal, Op.maxDepth, h, Result.andThen]

theorem eql_some_nil {P : Program} (w : World) {t e : TypeId} (a : Addr) (n c : Nat) (ht : P.underlying t = some (.slice e)) : (binOp .eql t (.slice (some a) n c) (.slice none 0 0)).run P w = .ok (.bool false) w := by
  have h : ∀ d : Nat, (Op.equalIn (d + 1) t (.slice (some a) n c) (.slice none 0 0)).run P w = .ok false w := fun d => by
    simp [Op.equalIn, run_underlying ht]
  simp [binOp, Op.equal, Op.maxDepth, h, Result.andThen]

theorem quiet_same {P : Program} {f : FuncId} {args : Array Value} {w : World} {n : Nat} {v : Value}
    (h : Calls P f args (w.drewN n) fun e w' => e = .returned v ∧ w.drewN n = w') : Calls P f args (w.drewN n) fun e w'' => e = .returned v ∧ ∃ m, w'' = w.drewN m :=
  h.mono fun _ _ ⟨he, hm⟩ => ⟨he, n, hm.symm⟩

theorem below_drewN' {B : Nat} {a w : World} (h : Below B a w) (n : Nat) : Below B a (w.drewN n) := ⟨h.os, h.tape, h.output, h.size, h.block⟩

theorem Fr.drewN {S : Nat → Prop} {a w : World} (h : Fr S a w) (n : Nat) : Fr S a (w.drewN n) := ⟨h.os, h.tape, h.output, h.size, h.keep⟩
end Cv
