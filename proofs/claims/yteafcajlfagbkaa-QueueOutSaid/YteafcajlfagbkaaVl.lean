/- DERIVED. Heaps in parts: lists of what is owned, and how they are taken apart and put together. No translation is named here. -/
import Derived.Test.YteafcajlfagbkaaCvKit
import Derived.Test.YteafcajlfagbkaaVdr
namespace Sl
set_option linter.unusedSimpArgs false
set_option linter.unusedVariables false
open Go Go.RowKit

/-- A part of a heap. -/
abbrev PH := Nat → Option Obj
noncomputable def PH.on (h : PH) (S : Nat → Prop) : PH := fun k => open Classical in if S k then h k else none
def PH.up (h : PH) (b : Nat) (o : Obj) : PH := fun k => if k = b then some o else h k

theorem on_pos {h : PH} {S : Nat → Prop} {k : Nat} (hk : S k) : h.on S k = h k := by simp [PH.on, hk]
theorem on_neg {h : PH} {S : Nat → Prop} {k : Nat} (hk : ¬ S k) : h.on S k = none := by simp [PH.on, hk]
theorem on_on (h : PH) (S T : Nat → Prop) : (h.on S).on T = h.on (fun k => S k ∧ T k) := by
  funext k
  by_cases hs : S k <;> by_cases ht : T k <;> simp [PH.on, hs, ht]
theorem on_congr {h : PH} {S T : Nat → Prop} (e : ∀ k, S k ↔ T k) : h.on S = h.on T := by
  have : S = T := funext fun k => propext (e k)
  rw [this]
theorem on_all (h : PH) {S : Nat → Prop} (e : ∀ k o, h k = some o → S k) : h.on S = h := by
  funext k
  by_cases hs : S k
  · exact on_pos hs
  · rw [on_neg hs]
    cases hk : h k with
    | none => rfl
    | some o => exact absurd (e k o hk) hs
theorem on_some {h : PH} {S : Nat → Prop} {k : Nat} {o : Obj} (e : h.on S k = some o) : S k ∧ h k = some o := by
  by_cases hs : S k
  · exact ⟨hs, by rwa [on_pos hs] at e⟩
  · rw [on_neg hs] at e; cases e

abbrev HP := PH → Prop

/-- The parts lie apart; what is left over is nobody's. -/
def Sat (h : PH) : List HP → Prop
  | [] => True
  | A :: L => ∃ S : Nat → Prop, A (h.on S) ∧ Sat (h.on (fun k => ¬ S k)) L

theorem Sat.mono {L : List HP} : ∀ {h : PH} {T : Nat → Prop}, Sat (h.on T) L → Sat h L := by
  induction L with
  | nil => intro _ _ _; trivial
  | cons A L ih =>
    intro h T hs
    obtain ⟨S, ha, hl⟩ := hs
    refine ⟨fun k => T k ∧ S k, ?_, ?_⟩
    · rw [on_on] at ha; exact ha
    · rw [on_on] at hl
      have : (h.on fun k => ¬ (T k ∧ S k)).on (fun k => T k ∧ ¬ S k) = h.on (fun k => T k ∧ ¬ S k) := by
        rw [on_on]; exact on_congr fun k => by by_cases T k <;> by_cases S k <;> simp [*]
      rw [← this] at hl
      exact ih hl

theorem Sat.drop {h : PH} {A : HP} {L : List HP} (hs : Sat h (A :: L)) : Sat h L := by
  obtain ⟨S, _, hl⟩ := hs
  exact hl.mono

theorem Sat.tail {h : PH} {A : HP} {L M : List HP} (hs : Sat h (A :: L)) (f : ∀ h, Sat h L → Sat h M) : Sat h (A :: M) := by
  obtain ⟨S, ha, hl⟩ := hs
  exact ⟨S, ha, f _ hl⟩

theorem Sat.swap {h : PH} {A B : HP} {L : List HP} (hs : Sat h (A :: B :: L)) : Sat h (B :: A :: L) := by
  obtain ⟨S, ha, T, hb, hl⟩ := hs
  rw [on_on] at hb hl
  refine ⟨fun k => ¬ S k ∧ T k, hb, S, ?_, ?_⟩
  · rw [on_on]
    rw [on_congr (T := S)]
    · exact ha
    · intro k; by_cases S k <;> simp [*]
  · rw [on_on]
    rw [on_congr (T := fun k => ¬ S k ∧ ¬ T k)]
    · exact hl
    · intro k; by_cases S k <;> by_cases T k <;> simp [*]

/-- A stands in L; R is the rest. -/
inductive Sel : List HP → HP → List HP → Prop
  | here {A : HP} {L : List HP} : Sel (A :: L) A L
  | there {A B : HP} {L R : List HP} : Sel L A R → Sel (B :: L) A (B :: R)

theorem Sel.sat {L R : List HP} {A : HP} (s : Sel L A R) : ∀ {h : PH}, Sat h L → Sat h (A :: R) := by
  induction s with
  | here => exact fun h => h
  | there _ ih => exact fun h => (h.tail fun _ g => ih g).swap

theorem Sel.back {L R : List HP} {A : HP} (s : Sel L A R) : ∀ {h : PH}, Sat h (A :: R) → Sat h L := by
  induction s with
  | here => exact fun h => h
  | there _ ih => exact fun h => (h.swap).tail fun _ g => ih g

/-- From L to M. -/
def Ent (L M : List HP) : Prop := ∀ h, Sat h L → Sat h M
theorem Ent.rfl {L : List HP} : Ent L L := fun _ h => h
theorem Ent.nil {L : List HP} : Ent L [] := fun _ _ => trivial
theorem Ent.drop {A : HP} {L M : List HP} (e : Ent L M) : Ent (A :: L) M := fun _ h => e _ h.drop
theorem Ent.cons {A : HP} {L R M : List HP} (s : Sel L A R) (e : Ent R M) : Ent L (A :: M) := fun _ h => (s.sat h).tail e
theorem Ent.trans {L M N : List HP} (e : Ent L M) (f : Ent M N) : Ent L N := fun _ h => f _ (e _ h)
theorem Ent.tail {A : HP} {L M : List HP} (e : Ent L M) : Ent (A :: L) (A :: M) := fun _ h => h.tail e
theorem Ent.sel {A : HP} {L R M : List HP} (s : Sel L A R) (e : Ent (A :: R) M) : Ent L M := fun _ h => e _ (s.sat h)

/-- One part that is itself a list of parts. -/
def all (M : List HP) : HP := fun h => Sat h M

theorem Sat.flat {h : PH} {M L : List HP} (hs : Sat h (all M :: L)) : Sat h (M ++ L) := by
  induction M generalizing h with
  | nil => exact hs.drop
  | cons A M ih =>
    obtain ⟨S, ⟨T, ha, hm⟩, hl⟩ := hs
    rw [on_on] at ha hm
    refine ⟨fun k => S k ∧ T k, ha, ih ⟨fun k => S k ∧ ¬ T k, ?_, ?_⟩⟩
    · rw [on_on]
      rw [on_congr (T := fun k => S k ∧ ¬ T k)]
      · exact hm
      · intro k; by_cases S k <;> by_cases T k <;> simp [*]
    · rw [on_on]
      rw [on_congr (T := fun k => ¬ S k)]
      · exact hl
      · intro k; by_cases S k <;> by_cases T k <;> simp [*]

theorem Sat.fold {h : PH} {M L : List HP} (hs : Sat h (M ++ L)) : Sat h (all M :: L) := by
  induction M generalizing h with
  | nil => exact ⟨fun _ => False, trivial, by rw [on_all]; exact hs; simp⟩
  | cons A M ih =>
    obtain ⟨S, ha, hl⟩ := hs
    obtain ⟨T, hm, hl⟩ := ih hl
    rw [on_on] at hm hl
    refine ⟨fun k => S k ∨ (¬ S k ∧ T k), ⟨S, ?_, ?_⟩, ?_⟩
    · rw [on_on, on_congr (T := S)]
      · exact ha
      · intro k; by_cases S k <;> simp [*]
    · show Sat _ M
      rw [on_on, on_congr (T := fun k => ¬ S k ∧ T k)]
      · exact hm
      · intro k; by_cases S k <;> by_cases T k <;> simp [*]
    · rw [on_congr (T := fun k => ¬ S k ∧ ¬ T k)]
      · exact hl
      · intro k; by_cases S k <;> by_cases T k <;> simp [*]

/-! ### blocks -/

/-- A block that is known whole. -/
structure blk (b : Nat) (o : Obj) (h : PH) : Prop where
  get : h b = some o
abbrev cells (b : Nat) (cs : Array Value) (t : TypeId) : HP := blk b (.cells cs t (0, 0))

theorem Sat.blk {h : PH} {b : Nat} {o : Obj} {L : List HP} (hs : Sat h (blk b o :: L)) : h b = some o := by
  obtain ⟨S, ⟨ha⟩, _⟩ := hs
  exact (on_some ha).2

theorem Sat.set {h : PH} {b : Nat} {o o' : Obj} {L : List HP} (hs : Sat h (Sl.blk b o :: L)) : Sat (h.up b o') (Sl.blk b o' :: L) := by
  obtain ⟨S, ⟨ha⟩, hl⟩ := hs
  have hb := (on_some ha).1
  refine ⟨S, ⟨?_⟩, ?_⟩
  · rw [on_pos hb]; simp [PH.up]
  · have : (h.up b o').on (fun k => ¬ S k) = h.on (fun k => ¬ S k) := by
      funext k
      by_cases hk : S k
      · simp [PH.on, hk]
      · have : k ≠ b := fun e => hk (e ▸ hb)
        simp [PH.on, hk, PH.up, this]
    rw [this]; exact hl

theorem Sat.new {h : PH} {b : Nat} {o : Obj} {L : List HP} (hb : h b = none) (hs : Sat h L) : Sat (h.up b o) (Sl.blk b o :: L) := by
  refine ⟨fun k => k = b, ⟨?_⟩, ?_⟩
  · rw [on_pos (S := fun k => k = b) rfl]; simp [PH.up]
  · have : (h.up b o).on (fun k => ¬ k = b) = h := by
      funext k
      by_cases hk : k = b
      · subst hk; simp [PH.on, hb]
      · simp [PH.on, hk, PH.up]
    rw [this]; exact hs

theorem Sat.ne {h : PH} {b c : Nat} {o o' : Obj} {L : List HP} (hs : Sat h (Sl.blk b o :: Sl.blk c o' :: L)) : b ≠ c := by
  obtain ⟨S, ⟨ha⟩, T, ⟨hb⟩, _⟩ := hs
  rintro rfl
  have h1 := (on_some ha).1
  rw [on_on] at hb
  exact (on_some hb).1.1 h1

/-- What a world's heap is. -/
def hp (w : World) : PH := fun k => w.heap[k]?

theorem hp_alloc (w : World) (o : Obj) : hp (w.alloc o) = (hp w).up w.heap.size o := by
  funext k
  show (w.heap.push o)[k]? = _
  rw [Array.getElem?_push]
  simp only [PH.up, hp]

theorem hp_fresh (w : World) : hp w w.heap.size = none := by simp [hp]

/-! ### worlds -/

structure Std (w0 w : World) : Prop where
  os : w.os = w0.os
  tape : w.tape = w0.tape
  output : w.output = w0.output
  size : w0.heap.size ≤ w.heap.size
  drawn : w0.drawn ≤ w.drawn

theorem Std.refl (w : World) : Std w w := ⟨rfl, rfl, rfl, Nat.le_refl _, Nat.le_refl _⟩
theorem Std.trans {a b c : World} (h : Std a b) (k : Std b c) : Std a c := ⟨k.os.trans h.os, k.tape.trans h.tape, k.output.trans h.output, Nat.le_trans h.size k.size, Nat.le_trans h.drawn k.drawn⟩

def Sy (w0 : World) (L : List HP) (w : World) : Prop := Std w0 w ∧ Sat (hp w) L

theorem Sy.ent {w0 w : World} {L M : List HP} (h : Sy w0 L w) (e : Ent L M) : Sy w0 M w := ⟨h.1, e _ h.2⟩
theorem Sy.drewN {w0 w : World} {L : List HP} (h : Sy w0 L w) (n : Nat) : Sy w0 L (w.drewN n) := ⟨⟨h.1.os, h.1.tape, h.1.output, h.1.size, Nat.le_trans h.1.drawn (Nat.le_add_right _ _)⟩, h.2⟩
theorem Sy.drew {w0 w : World} {L : List HP} (h : Sy w0 L w) : Sy w0 L { w with drawn := w.drawn + 1 } := ⟨⟨h.1.os, h.1.tape, h.1.output, h.1.size, Nat.le_succ_of_le h.1.drawn⟩, h.2⟩
theorem Sy.base {w0 w1 w : World} {L : List HP} (h : Sy w1 L w) (k : Std w0 w1) : Sy w0 L w := ⟨k.trans h.1, h.2⟩

theorem Sy.alloc {w0 w : World} {L : List HP} (h : Sy w0 L w) (o : Obj) : Sy w0 (blk w.heap.size o :: L) (w.alloc o) :=
  ⟨h.1.trans ⟨rfl, rfl, rfl, by simp, Nat.le_refl _⟩, by rw [hp_alloc]; exact h.2.new (hp_fresh w)⟩

theorem Sy.get {w0 w : World} {b : Nat} {o : Obj} {L : List HP} (h : Sy w0 (blk b o :: L) w) : w.heap[b]? = some o := h.2.blk

/-- A world in which one block of those was laid anew. -/
theorem Sy.put {w0 w w' : World} {b : Nat} {o o' : Obj} {L : List HP} (h : Sy w0 (blk b o :: L) w) (os : w'.os = w.os) (tape : w'.tape = w.tape) (output : w'.output = w.output) (dr : w.drawn ≤ w'.drawn)
    (hh : hp w' = (hp w).up b o') : Sy w0 (blk b o' :: L) w' := by
  refine ⟨h.1.trans ⟨os, tape, output, ?_, dr⟩, by rw [hh]; exact h.2.set⟩
  have hb := h.get
  by_cases hlt : w.heap.size ≤ w'.heap.size
  · exact hlt
  · have h1 : hp w' w'.heap.size = none := hp_fresh w'
    rw [hh] at h1
    by_cases e : w'.heap.size = b
    · simp [PH.up, e] at h1
    · simp only [PH.up, e, if_false, hp] at h1
      have := Array.getElem?_eq_none_iff.1 h1
      omega

theorem Sy.setCell {w0 w : World} {b off : Nat} {cs : Array Value} {t : TypeId} {fz : Nat × Nat} {L : List HP} (h : Sy w0 (blk b (.cells cs t fz) :: L) w) (v : Value) :
    Sy w0 (blk b (.cells (cs.setIfInBounds off v) t fz) :: L) (w.setCell ⟨b, off, none⟩ v) := by
  have hb := h.get
  refine h.put rfl rfl rfl (Nat.le_refl _) ?_
  funext k
  by_cases e : k = b
  · subst e
    simp [hp, PH.up, World.setCell, Array.getElem?_modify, hb]
  · simp [hp, PH.up, e, World.setCell, Array.getElem?_modify, Ne.symm e]

theorem Sy.setObj {w0 w : World} {b : Nat} {o o' : Obj} {L : List HP} (h : Sy w0 (blk b o :: L) w) : Sy w0 (blk b o' :: L) { w with heap := w.heap.setIfInBounds b o' } := by
  have hb := h.get
  refine h.put rfl rfl rfl (Nat.le_refl _) ?_
  funext k
  by_cases e : k = b
  · subst e
    have : k < w.heap.size := (Array.getElem?_eq_some_iff.1 hb).1
    simp [hp, PH.up, this]
  · simp [hp, PH.up, e, Array.getElem?_setIfInBounds_ne (Ne.symm e)]

/-- What leaves all old blocks alone leaves all that is owned. -/
theorem Sat.of_below {L : List HP} : ∀ {h h' : PH}, (∀ k o, h k = some o → h' k = some o) → Sat h L → Sat h' L := by
  intro h h' e hs
  have : h'.on (fun k => (h k).isSome = true) = h := by
    funext k
    cases hk : h k with
    | none => simp [PH.on, hk]
    | some o => simp [PH.on, hk, e k o hk]
  rw [← this] at hs
  exact hs.mono

theorem Sy.below {w0 w w' : World} {L : List HP} (h : Sy w0 L w) (hb : Below w.heap.size w w') (dr : w.drawn ≤ w'.drawn) : Sy w0 L w' :=
  ⟨h.1.trans ⟨hb.os, hb.tape, hb.output, hb.size, dr⟩, h.2.of_below fun k _ hk => (hb.block k (Array.getElem?_eq_some_iff.1 hk).1).trans hk⟩

/-- The blocks of b, out of what is owned, and new ones, have turned. -/
theorem Sy.grown {w0 w w' : World} {b : Nat} {o o' : Obj} {L : List HP} (h : Sy w0 (blk b o :: L) w) (hg : w.grownBy w' (some b)) (hb : w'.heap[b]? = some o') (dr : w.drawn ≤ w'.drawn) : Sy w0 (blk b o' :: L) w' := by
  refine ⟨h.1.trans ⟨hg.os, hg.tape, hg.output, hg.size, dr⟩, ?_⟩
  refine Sat.of_below (h := (hp w).up b o') ?_ h.2.set
  intro k x hk
  by_cases e : k = b
  · subst e
    simp [PH.up] at hk
    subst hk; exact hb
  · simp only [PH.up, e, if_false] at hk
    exact (hg.block k (Array.getElem?_eq_some_iff.1 hk).1 (by simpa using e)).trans hk

end Sl
