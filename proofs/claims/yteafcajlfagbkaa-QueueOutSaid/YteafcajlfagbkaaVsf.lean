/- DERIVED. The walk over what is owned: slices.SortFunc at structs (the shelf's theorem made a contract). No translation is named here. -/
import Derived.Test.YteafcajlfagbkaaVs
import Derived.Test.YteafcajlfagbkaaVrd
import Derived.Shelf.SlSortCmp.WholeK
import Derived.Shelf.SlSortCmp.NoneTotal
import Derived.Sort.OwnSortedInts
namespace Sl
set_option linter.unusedSimpArgs false
set_option linter.unusedVariables false
open Go Go.RowKit Cv Go.Sort Go.Shelf Go.Proofs
theorem holds_block {w : World} {g : Nat} {cur : Array Value} {e : TypeId} {C : List Value} (hb : w.heap[g]? = some (.cells cur e (0, 0))) (ht : cur.toList.take C.length = C) : Holds id w g 0 C.toArray := by
  intro j hj
  have hj' : j < C.length := by simpa using hj
  refine ⟨?_, by simp [World.frozen?, hb]⟩
  have h1 : (cur.toList.take C.length)[j]? = C[j]? := by rw [ht]
  rw [List.getElem?_take_of_lt hj'] at h1
  simp only [World.cell?, hb, Nat.zero_add]
  simp only [Option.isSome_none, Bool.false_eq_true, if_false]
  rw [← Array.getElem?_toList, h1]
  simp [hj']
theorem heap_sortK {w : World} {g n : Nat} {os : Array Obj} {cur : Array Value} {e : TypeId} {fr : Nat × Nat} (d : Array Value) (hb : w.heap[g]? = some (.cells cur e fr)) :
    (grow (putRow id (Sort.ahead w n) g 0 d) os).heap[g]? = some (.cells (putCells id 0 d cur) e fr) := by
  have hg : g < w.heap.size := (Array.getElem?_eq_some_iff.1 hb).1
  rw [heap_grow_old _ _ (by simpa using hg)]
  simp [putRow, mapBlock, Sort.ahead, Array.getElem?_modify, hb, onCells]
theorem grown_sortK {w : World} {g n : Nat} {os : Array Obj} (d : Array Value) : w.grownBy (grow (putRow id (Sort.ahead w n) g 0 d) os) (some g) := by
  refine ⟨rfl, rfl, rfl, by simp, fun k hk hne => ?_⟩
  rw [heap_grow_old _ _ (by simpa using hk)]
  have : g ≠ k := fun e => hne (by rw [e])
  simp [putRow, mapBlock, Sort.ahead, Array.getElem?_modify, this]
theorem take_sortK (cur : Array Value) (C : List Value) (h : C.length ≤ cur.size) : (putCells id 0 C.toArray cur).toList.take C.length = C := by
  apply List.ext_getElem?
  intro j
  by_cases hj : j < C.length
  · rw [List.getElem?_take_of_lt hj, Array.getElem?_toList]
    simp [putCells, hj, show j < cur.size by omega]
  · rw [List.getElem?_take_eq_none (by omega), List.getElem?_eq_none (by omega)]
theorem flatK_list {α : Type} [Inhabited α] {enc : α → List Value} {k : Nat} (hk : ∀ x, (enc x).length = k) (l : List α) : flatK enc k l.toArray = (flat enc l).toArray := by
  apply Array.ext
  · rw [size_flatK, List.size_toArray, List.size_toArray, length_flat hk]
  · intro t h1 h2
    rw [size_flatK, List.size_toArray] at h1
    have e1 := get_flatK enc k l.toArray t (by simpa using h1)
    rw [getElem!_pos _ t (by rw [size_flatK, List.size_toArray]; exact h1)] at e1
    rw [e1]
    have hk0 : 0 < k := by
      rcases Nat.eq_zero_or_pos k with e | e
      · subst e; simp at h1
      · exact e
    have hi : t / k < l.length := Nat.div_lt_of_lt_mul (by rw [Nat.mul_comm]; exact h1)
    have hm := Nat.mod_lt t hk0
    have ht := tk_flat (enc := enc) (sz := k) (l := l) hk (t / k) hi
    have hdm : t / k * k + t % k = t := by rw [Nat.mul_comm]; exact Nat.div_add_mod t k
    have := ht.get (t % k) _ (List.getElem?_eq_getElem (by rw [hk]; exact hm))
    rw [hdm] at this
    have e3 : l.toArray[t / k]! = l[t / k] := by rw [getElem!_pos _ _ (by simpa using hi)]; simp
    rw [e3, getElem!_pos _ _ (by rw [hk]; exact hm)]
    simp only [List.getElem_toArray]
    exact (List.getElem_eq_iff _).2 this |>.symm
/-- What leaves all old blocks alone is a growing. -/
theorem grow_of {W w : World} (h : Sy W [old W] w) : ∃ q os, w = grow (W.drewN q) os := by
  have hb := below_of_old h
  have hs := h.1
  have ho' : ∀ k o, W.heap[k]? = some o → w.heap[k]? = some o := fun k o e => by
    rw [hb.block k (Array.getElem?_eq_some_iff.1 e).1]; exact e
  clear h hb
  refine ⟨w.drawn - W.drawn, w.heap.extract W.heap.size w.heap.size, ?_⟩
  have hh : w.heap = W.heap ++ w.heap.extract W.heap.size w.heap.size := by
    apply Array.ext
    · have := hs.size
      simp; omega
    · intro i h1 h2
      by_cases hi : i < W.heap.size
      · rw [Array.getElem_append_left hi]
        have := ho' i W.heap[i] (Array.getElem?_eq_getElem hi)
        rw [Array.getElem?_eq_getElem h1] at this
        injection this
      · rw [Array.getElem_append_right (by omega), Array.getElem_extract]
        congr 1
        omega
  have hd : w.drawn = W.drawn + (w.drawn - W.drawn) := by have := hs.drawn; omega
  have h1 := hs.os
  have h2 := hs.tape
  have h3 := hs.output
  clear hs ho'
  cases w
  simp only at hh hd h1 h2 h3
  unfold grow World.drewN
  simp only [World.mk.injEq]
  exact ⟨hh, h2, hd, h1, h3⟩
section
variable {P : Program} {ρ : Ren} {α : Type} [Inhabited α] {e : TypeId}
/-- slices.SortFunc at structs of k cells: the row holds its items in order. -/
theorem sortf_spec (lays : SlLaysF0.n6 P ρ) (k : Nat) (hk0 : 0 < k) (aE : ∀ w, (isAgg (ρ.t 24)).run P w = .ok true w) (zE : ∀ w, (Go.sizeOf (ρ.t 24)).run P w = .ok k w) (enc : α → List Value) (hk : ∀ x, (enc x).length = k) (h1 : ∀ x, ∀ v ∈ enc x, v.oneCell' = true)
    (cf : α → α → Int) (hO : SWO (ltOf cf)) (g : Nat) (eg : ∀ args w, (callFunc g args).run P w = .ok (.enter g args) w)
    (hc : ∀ x y F, Sp P g [.agg (enc x).toArray, .agg (enc y).toArray] F fun r M => r = .int .i64 (cf x y) ∧ M = F) (a : Option Addr) (c : Nat) (l : List α) (F : List HP) (hll : l.length ≤ 4611686018427387903) :
    Sp P (ρ.f 6) [.slice a l.length c, .func (.func g) #[] #[]] (row e k (.slice a l.length c) l.length (flat enc l) :: F) fun r M => r = .tuple #[] ∧ ∃ l' : List α, l'.Perm l ∧ l'.Pairwise (fun x y => ltOf cf y x = false) ∧ M = row e k (.slice a l.length c) l.length (flat enc l') :: F := by
  refine ⟨fun w0 w s => ?_⟩
  by_cases h0 : l.length = 0
  · obtain rfl : l = [] := List.eq_nil_of_length_eq_zero h0
    refine (AnyF.slices_SortFunc_none lays a c _ w).mono ?_
    rintro e w' ⟨rfl, rfl⟩
    exact ⟨_, _, rfl, ⟨rfl, [], .refl _, List.Pairwise.nil, rfl⟩, s⟩
  · obtain ⟨b, cur, rfl, hb1, hb2, hb3, hb4, hs⟩ := s.2.row_open (by omega)
    have hb := Sy.get ⟨s.1, hs⟩
    have hfl : (flat enc l).length = l.length * k := length_flat hk l
    have hH : HoldsK enc k w b 0 l.toArray := by
      unfold HoldsK
      rw [flatK_list hk]
      exact holds_block hb (by rw [hfl]; exact hb4)
    have hcmp : CmpLays P g #[] enc k cf b 0 l.toArray.size w := fun m os dk _ x y => by
      refine ((hc x y [old _]).run _ _ (old_sy _)).mono ?_
      rintro e w' ⟨r, L', he, ⟨rfl, rfl⟩, hsy⟩
      exact ⟨he, grow_of hsy⟩
    have := AnyQ.slices_SortFunc lays k aE zE enc hk h1 cf hO g #[] b 0 c l.toArray w eg hcmp hH (Array.getElem?_eq_some_iff.1 hb).1 (by simp; omega)
    refine this.mono ?_
    rintro e w' ⟨rfl, d', n, os, hp, hso, rfl⟩
    obtain ⟨l', rfl⟩ : ∃ l' : List α, d' = l'.toArray := ⟨d'.toList, rfl⟩
    obtain ⟨hp1, -, hp3⟩ := hp
    simp only [List.size_toArray] at hp1 hso hp3
    have hperm : l'.Perm l := by
      have e1 : (l'.toArray.extract 0 l.length).toList = l' := by simp [← hp1]
      have e2 : (l.toArray.extract 0 l.length).toList = l := by simp
      rw [e1, e2] at hp3
      exact hp3
    refine ⟨_, _, rfl, ⟨rfl, l', hperm, ?_, rfl⟩, ?_⟩
    · rw [List.pairwise_iff_getElem]
      intro i j hi hj hij
      have := hso i j (Nat.zero_le _) hij (by omega)
      rw [getElem!_pos _ _ (by simpa using hj), getElem!_pos _ _ (by simpa using hi)] at this
      simpa using this
    · unfold sortWorldK putRowK
      rw [flatK_list hk]
      have hg := Sy.grown ⟨s.1, hs⟩ (grown_sortK (n := n) (os := os) (flat enc l').toArray) (heap_sortK (n := n) (os := os) (flat enc l').toArray hb) (Nat.le_add_right _ _)
      have hfl' : (flat enc l').length = l.length * k := by rw [length_flat hk l', hp1]
      have hcap : l.length * k ≤ c * k := Nat.mul_le_mul_right k hb1
      have e1 := take_sortK cur.toArray (flat enc l') (by rw [hfl']; simp; omega)
      rw [hfl'] at e1
      refine hg.ent ?_
      have e2 := ent_close (e := e) (sz := k) (n := l.length) (cap := c) (g := b) (cur := (Sort.putCells id 0 (flat enc l').toArray cur.toArray).toList) (L := F) hb1 hb2 (by simp [Sort.putCells, hb3]) Ent.rfl
      rw [e1] at e2
      simpa using e2
end
end Sl
