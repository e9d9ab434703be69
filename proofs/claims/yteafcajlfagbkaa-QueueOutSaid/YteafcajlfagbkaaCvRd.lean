/- DERIVED. How an argument lies in memory, by its type: integers, bools, texts, structs, arrays and slices of these, nested at will. No translation is named here. -/
import Derived.Test.YteafcajlfagbkaaCvKit
import Derived.Deep.Slices
import Derived.SizedLaws
import Derived.ProofKit
namespace Cv
set_option linter.unusedSimpArgs false
set_option linter.unusedVariables false
open Go Go.RowKit Go.WideShapes

structure Rd (P : Program) (t : TypeId) (α : Type) where
  rel : World → List Value → α → Prop
  read : ∀ {H : Type} {enc : TypeId × Value → H} {w : World} {base : Nat} {spare : Nat → Bool} {held : Bool} {fuel : Nat} {cs : List Value} {x : DataW H × List MemPlace},
    DataW.trod enc P w base spare held fuel t cs = some x → (∀ n ∈ x.1.weights P t, n ≤ reachBytes) → ∃ a, rel w cs a
  below : ∀ {w w' : World} {cs : List Value} {a : α}, Below w.heap.size w w' → rel w cs a → rel w' cs a
  len : ∀ {w : World} {cs : List Value} {a : α}, rel w cs a → cs.length = P.cellsOf t

def Rd.int {P : Program} {t : TypeId} {k : IntKind} (h : P.underlying t = some (.int k)) (hc : P.cellsOf t = 1) : Rd P t Int where
  rel _ cs n := cs = [.int k n] ∧ (Lit.int k n).wf = true
  read h1 _ := by
    obtain ⟨n, h2, _, h3⟩ := DataW.trod_int h h1
    exact ⟨n, h2, h3⟩
  below _ h := h
  len h1 := by rw [h1.1, hc]; rfl

def Rd.bool {P : Program} {t : TypeId} (h : P.underlying t = some .bool) (hc : P.cellsOf t = 1) : Rd P t Bool where
  rel _ cs n := cs = [.bool n]
  read h1 _ := by
    obtain ⟨n, h2, _⟩ := DataW.trod_bool h h1
    exact ⟨n, h2⟩
  below _ h := h
  len h1 := by rw [h1, hc]; rfl

def Rd.str {P : Program} {t : TypeId} (h : P.underlying t = some .string) (hc : P.cellsOf t = 1) : Rd P t ByteArray where
  rel _ cs s := cs = [.string s] ∧ s.size ≤ 140737488351232
  read h1 h4 := by
    obtain ⟨s, h2, h3, _⟩ := DataW.trod_string h h1
    refine ⟨s, h2, ?_⟩
    rw [h3] at h4
    have := h4 s.data.toList.length (by simp [DataW.weights])
    simpa [reachBytes] using this
  below _ h := h
  len h1 := by rw [h1.1, hc]; rfl

/-- The elements of a slice at a place. -/
def AtRow {α : Type} (rel : World → List Value → α → Prop) (s : Nat) (w : World) (ao : Option Addr) (l : List α) : Prop :=
  ∀ i (h : i < l.length), ∃ a ces, ao = some a ∧ (∀ j u, ces[j]? = some u → w.cell? (a.add (i * s + j)) = some u) ∧ rel w ces l[i]

theorem choose_list {α : Type} {n : Nat} {p : Nat → α → Prop} (h : ∀ i, i < n → ∃ x, p i x) : ∃ l : List α, l.length = n ∧ ∀ i (hi : i < l.length), p i l[i] := by
  induction n with
  | zero => exact ⟨[], rfl, fun i hi => absurd hi (Nat.not_lt_zero _)⟩
  | succ n ih =>
    obtain ⟨l, hl, hp⟩ := ih (fun i hi => h i (by omega))
    obtain ⟨x, hx⟩ := h n (by omega)
    refine ⟨l ++ [x], by simp [hl], fun i hi => ?_⟩
    by_cases e : i < l.length
    · rw [List.getElem_append_left e]; exact hp i e
    · simp at hi
      have : i = l.length := by omega
      subst this
      simp; rw [hl]; exact hx

theorem mapM_cells {w : World} {a : Addr} : ∀ (n : Nat) (k : Nat) (cs : List Value), (List.range' k n).mapM (fun i => w.cell? (a.add i)) = some cs → cs.length = n ∧ ∀ j u, cs[j]? = some u → w.cell? (a.add (k + j)) = some u := by
  intro n
  induction n with
  | zero => intro k cs h; simp at h; subst h; simp
  | succ n ih =>
    intro k cs h
    rw [List.range'_succ, List.mapM_cons] at h
    simp only [Option.bind_eq_bind, Option.bind_eq_some_iff] at h
    obtain ⟨v, hv, vs, hvs, h2⟩ := h
    cases h2
    obtain ⟨h3, h4⟩ := ih _ _ hvs
    refine ⟨by simp [h3], fun j u hj => ?_⟩
    cases j with
    | zero => simp at hj; subst hj; exact hv
    | succ j =>
      simp at hj
      have := h4 j u hj
      rwa [show k + 1 + j = k + (j + 1) by omega] at this

theorem cells_some {w : World} {base : Nat} {a : Addr} {n : Nat} {cs : List Value} (h : w.cells? base a n = some cs) : cs.length = n ∧ ∀ j u, cs[j]? = some u → w.cell? (a.add j) = some u := by
  unfold World.cells? at h
  split at h
  · rw [List.range_eq_range'] at h
    have := mapM_cells n 0 cs h
    simpa using this
  · cases h

theorem weightsAll_mem {H : Type} {P : Program} {e : TypeId} {ds : List (DataW H)} {d : DataW H} (h : d ∈ ds) : ∀ n ∈ d.weights P e, n ∈ DataW.weightsAll P e ds := by
  induction ds with
  | nil => cases h
  | cons a r ih =>
    intro n hn
    rcases List.mem_cons.1 h with rfl | h
    · exact List.mem_append_left _ hn
    · exact List.mem_append_right _ (ih h n hn)

theorem addr_add_add (a : Addr) (i j : Nat) : (a.add i).add j = a.add (i + j) := Go.Deep.add_add a i j

theorem atRow_below {P : Program} {e : TypeId} {α : Type} (R : Rd P e α) {s : Nat} {w w' : World} (hb : Below w.heap.size w w') {ao : Option Addr} {l : List α} (h : AtRow R.rel s w ao l) : AtRow R.rel s w' ao l := by
  intro i hi
  obtain ⟨a, ces, h1, h2, h3⟩ := h i hi
  refine ⟨a, ces, h1, fun j u hj => ?_, R.below hb h3⟩
  have := h2 j u hj
  rw [hb.cell (World.block_lt_of_cell? w _ this)]
  exact this

def Rd.sl {P : Program} {t e : TypeId} {α : Type} (h : P.underlying t = some (.slice e)) (hc : P.cellsOf t = 1) (R : Rd P e α) : Rd P t (List α) where
  rel w cs l := ∃ ao cap, cs = [.slice ao l.length cap] ∧ l.length ≤ cap ∧ cap ≤ maxLen ∧ (ao = none → cap = 0) ∧ l.length * P.bytesOf e ≤ 140737488351232 ∧ AtRow R.rel (P.cellsOf e) w ao l
  read {H enc w base spare held fuel cs x} h1 h4 := by
    rcases Go.Deep.open_slice h h1 with ⟨rfl, rfl⟩ | ⟨a, len, cap, m, n, D, Pl, rfl, _, hlc, hcm, hm, rfl, hat⟩
    · exact ⟨[], none, 0, rfl, Nat.le_refl _, by unfold maxLen; omega, fun _ => rfl, by simp, fun i hi => absurd hi (Nat.not_lt_zero _)⟩
    · have hlm : len ≤ m := by rw [hm]; split <;> omega
      have hw : ∀ i, i < len → ∀ n ∈ (D i).weights P e, n ≤ reachBytes := by
        intro i hi n hn
        refine h4 n ?_
        simp only [DataW.weights, h]
        refine List.mem_cons_of_mem _ (List.mem_append_left _ (weightsAll_mem (d := D i) ?_ n hn))
        exact List.mem_map_of_mem (List.mem_range.2 hi)
      have hsz : (len + (m - len)) * P.bytesOf e ≤ reachBytes := by
        refine h4 _ ?_
        simp only [DataW.weights, h, List.length_map, List.length_range]
        exact List.mem_cons_self
      have hsz2 : len * P.bytesOf e ≤ reachBytes := Nat.le_trans (Nat.mul_le_mul_right _ (Nat.le_add_right _ _)) hsz
      obtain ⟨l, hl, hp⟩ := choose_list (n := len) (p := fun i y => ∃ ces, (∀ j u, ces[j]? = some u → w.cell? (a.add (i * P.cellsOf e + j)) = some u) ∧ R.rel w ces y) (fun i hi => by
        obtain ⟨cs', hcs, htr⟩ := hat i (by omega)
        obtain ⟨y, hy⟩ := R.read htr (hw i hi)
        refine ⟨y, cs', fun j u hj => ?_, hy⟩
        have := (cells_some hcs).2 j u hj
        rwa [addr_add_add] at this)
      refine ⟨l, some a, cap, by rw [hl], by omega, hcm, (fun e => by cases e), ?_, fun i hi => ?_⟩
      · rw [hl]; simpa [reachBytes] using hsz2
      · obtain ⟨ces, h5, h6⟩ := hp i hi
        exact ⟨a, ces, rfl, h5, h6⟩
  below hb h1 := by
    obtain ⟨ao, cap, h2, h3, h4, h5, h6, h7⟩ := h1
    exact ⟨ao, cap, h2, h3, h4, h5, h6, atRow_below R hb h7⟩
  len h1 := by
    obtain ⟨ao, cap, h2, _⟩ := h1
    rw [h2, hc]; rfl

/-! ### structs -/
structure Fs (P : Program) (off : Nat) (fs : List Field) (α : Type) where
  n : Nat
  rel : World → List Value → α → Prop
  read : ∀ {H : Type} {enc : TypeId × Value → H} {w : World} {base : Nat} {spare : Nat → Bool} {held : Bool} {fuel : Nat} {full : List Value} {xs : List (DataW H × List MemPlace)},
    full.length = off + n → xs.length = fs.length → (∀ (i : Nat) (f : Field), fs[i]? = some f → DataW.trod enc P w base spare held fuel f.type ((full.drop f.offset).take (P.cellsOf f.type)) = xs[i]?) →
    (∀ m ∈ DataW.weightsEach P (fs.map (·.type)) (xs.map (·.1)), m ≤ reachBytes) → ∃ a, rel w (full.drop off) a
  below : ∀ {w w' : World} {cs : List Value} {a : α}, Below w.heap.size w w' → rel w cs a → rel w' cs a
  len : ∀ {w : World} {cs : List Value} {a : α}, rel w cs a → cs.length = n

def Fs.nil {P : Program} {off : Nat} : Fs P off [] Unit where
  n := 0
  rel _ cs _ := cs = []
  read h _ _ _ := ⟨(), List.drop_eq_nil_of_le (by omega)⟩
  below _ h := h
  len h := by rw [h]; rfl

def Fs.cons {P : Program} {off : Nat} {f : Field} {fs : List Field} {α β : Type} (R : Rd P f.type α) (hoff : f.offset = off) (F : Fs P (off + P.cellsOf f.type) fs β) : Fs P off (f :: fs) (α × β) where
  n := P.cellsOf f.type + F.n
  rel w cs a := ∃ c1 c2, cs = c1 ++ c2 ∧ R.rel w c1 a.1 ∧ F.rel w c2 a.2
  read {H enc w base spare held fuel full xs} h1 h2 h3 h4 := by
    match xs, h2 with
    | y :: ys, h2 =>
      have h5 := h3 0 f rfl
      rw [hoff] at h5
      obtain ⟨a, ha⟩ := R.read (by simpa using h5) (fun n hn => h4 n (by simp only [List.map_cons, DataW.weightsEach]; exact List.mem_append_left _ hn))
      obtain ⟨b, hb⟩ := F.read (full := full) (xs := ys) (by omega) (by simpa using h2) (fun i g hg => by simpa using h3 (i + 1) g (by simpa using hg))
        (fun n hn => h4 n (by simp only [List.map_cons, DataW.weightsEach]; exact List.mem_append_right _ hn))
      refine ⟨(a, b), _, _, ?_, ha, hb⟩
      rw [← List.drop_drop, List.take_append_drop]
  below hb h := by
    obtain ⟨c1, c2, h1, h2, h3⟩ := h
    exact ⟨c1, c2, h1, R.below hb h2, F.below hb h3⟩
  len h := by
    obtain ⟨c1, c2, h1, h2, h3⟩ := h
    rw [h1, List.length_append, R.len h2, F.len h3]

def Rd.struct {P : Program} {t : TypeId} {fs : Array Field} {α : Type} (h : P.underlying t = some (.struct fs)) (F : Fs P 0 fs.toList α) (hn : F.n = P.cellsOf t) : Rd P t α where
  rel := F.rel
  read h1 h4 := by
    obtain ⟨xs, n, _, rfl, hl, hlen, hf⟩ := DataW.trod_struct h h1
    have := F.read (full := _) (xs := xs) (by rw [hl, hn]; omega) (by simpa using hlen) (fun i f hi => hf i f (by simpa using hi))
      (fun m hm => h4 m (by simp only [DataW.weights, h]; exact hm))
    simpa using this
  below := F.below
  len h1 := (F.len h1).trans hn

/-! ### arrays -/
theorem mapM_range {α : Type} {f : Nat → Option α} : ∀ (n k : Nat) (xs : List α), (List.range' k n).mapM f = some xs → xs.length = n ∧ ∀ i, i < n → f (k + i) = xs[i]? := by
  intro n
  induction n with
  | zero => intro k xs h; simp at h; subst h; simp
  | succ n ih =>
    intro k xs h
    rw [List.range'_succ, List.mapM_cons] at h
    simp only [Option.bind_eq_bind, Option.bind_eq_some_iff] at h
    obtain ⟨v, hv, vs, hvs, h2⟩ := h
    cases h2
    obtain ⟨h3, h4⟩ := ih _ _ hvs
    refine ⟨by simp [h3], fun i hi => ?_⟩
    cases i with
    | zero => simpa using hv
    | succ i =>
      have := h4 i (by omega)
      rw [show k + (i + 1) = k + 1 + i by omega, this]; rfl

def Rd.arr {P : Program} {t e : TypeId} {n : Nat} {α : Type} (h : P.underlying t = some (.array n e)) (R : Rd P e α) : Rd P t (List α) where
  rel w cs l := l.length = n ∧ cs.length = P.cellsOf t ∧ ∀ i (hi : i < l.length), R.rel w ((cs.drop (i * P.cellsOf e)).take (P.cellsOf e)) l[i]
  read {H enc w base spare held fuel cs x} h1 h4 := by
    cases fuel with
    | zero => simp [DataW.trod] at h1
    | succ fuel =>
      unfold DataW.trod at h1
      rw [h] at h1
      have h2 : (if cs.length = P.cellsOf t then ((List.range n).mapM fun i => DataW.trod enc P w base spare held fuel e ((cs.drop (i * P.cellsOf e)).take (P.cellsOf e))).map fun xs => (DataW.agg (xs.map (·.1)), xs.flatMap (·.2)) else none) = some x := by
        revert h1
        split <;> simp_all
      split at h2
      · rename_i hl
        obtain ⟨xs, hxs, rfl⟩ := Option.map_eq_some_iff.1 h2
        rw [List.range_eq_range'] at hxs
        obtain ⟨hlen, hat⟩ := mapM_range n 0 xs hxs
        obtain ⟨l, hl2, hp⟩ := choose_list (n := n) (p := fun i y => R.rel w ((cs.drop (i * P.cellsOf e)).take (P.cellsOf e)) y) (fun i hi => by
          have h5 := hat i hi
          rw [Nat.zero_add, List.getElem?_eq_getElem (by omega)] at h5
          refine R.read h5 (fun m hm => h4 m ?_)
          simp only [DataW.weights, h]
          exact weightsAll_mem (d := xs[i].1) (List.mem_map_of_mem (List.getElem_mem _)) m hm)
        exact ⟨l, hl2, hl, hp⟩
      · cases h2
  below hb h1 := ⟨h1.1, h1.2.1, fun i hi => R.below hb (h1.2.2 i hi)⟩
  len h1 := h1.2.1

/-! ### for the rows -/
/-- Where a slice's elements lie, if there is one. -/
theorem atRow_addr {α : Type} {rel : World → List Value → α → Prop} {s : Nat} {w : World} {ao : Option Addr} {l : List α} (h : AtRow rel s w ao l) (hs : ∀ ces a, rel w ces a → ces.length = s) (hpos : 0 < s) (hne : 0 < l.length) :
    ∃ b o, ao = some ⟨b, o, none⟩ ∧ ∀ i (hi : i < l.length), ∃ ces, (∀ j u, ces[j]? = some u → w.cell? ⟨b, o + (i * s + j), none⟩ = some u) ∧ rel w ces l[i] := by
  obtain ⟨a, ces, rfl, h1, h2⟩ := h 0 hne
  have hl := hs _ _ h2
  have h3 := h1 0 ces[0] (by rw [List.getElem?_eq_getElem])
  have e0 : a.add (0 * s + 0) = a := by simp [Addr.add]
  rw [e0] at h3
  have hsp : a.spot = none := by
    unfold World.cell? at h3
    split at h3
    · cases hq : a.spot with
      | none => rfl
      | some _ => simp [hq] at h3
    · cases h3
  obtain ⟨b, o, sp⟩ := a
  simp at hsp
  subst hsp
  refine ⟨b, o, rfl, fun i hi => ?_⟩
  obtain ⟨a', ces', h4, h5, h6⟩ := h i hi
  cases h4
  refine ⟨ces', fun j u hj => ?_, h6⟩
  have := h5 j u hj
  unfold Addr.add at this
  split at this
  · rename_i e; rw [e]; exact this
  · exact this
end Cv
