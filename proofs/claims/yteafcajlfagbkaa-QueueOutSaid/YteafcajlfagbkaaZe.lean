/- DERIVED. Queues by time as lists in order: what is hidden behind them. -/
import Derived.Test.YteafcajlfagbkaaZd
import Derived.Test.YteafcajlfagbkaaVp
namespace Go.Proofs.Yteafcajlfagbkaa
set_option linter.unusedSimpArgs false
set_option linter.unusedVariables false
open Go Sl Cv Go.RowKit
def tkv (Q : List TM) : List (Int × TM) := Q.map fun x => (x.item, x)
/-- A list in order. -/
structure QOk (Q : List TM) (t : Int) : Prop where
  asc : Q.Pairwise (fun x y => ¬ Le y x)
  nd : (Q.map TM.item).Nodup
  t0 : 0 ≤ t
  tq : ∀ x ∈ Q, x.turn < t
  rng : ∀ x ∈ Q, 0 ≤ x.at_ ∧ x.at_ ≤ 4611686018427387904
  ql : Q.length ≤ 65536
/-- The row and the map behind it. -/
structure TOk (Q : List TM) (t : Int) (b : Nat) (R : List TM) (kv : List (Int × TM)) : Prop where
  hp : Hn R R.length
  kvp : kv.Perm (tkv Q)
  live : ∀ x ∈ Q, x ∈ R
  bd : 2 * R.length ≤ b + Q.length
  tb : t ≤ b
theorem tkv_keys (Q : List TM) : (tkv Q).map Prod.fst = Q.map TM.item := by simp [tkv]
theorem kdel_fil {ν : Type} : ∀ {l : List (Int × ν)} (k : Int), (l.map Prod.fst).Nodup → kdel l k = l.filter (fun p => decide (p.1 ≠ k))
  | [], _, _ => rfl
  | (a, v) :: l, k, h => by
    have h' := List.nodup_cons.1 h
    by_cases e : a = k
    · subst e
      have : l.filter (fun p => decide (p.1 ≠ a)) = l := List.filter_eq_self.2 fun p hp => by
        have : p.1 ≠ a := fun e => h'.1 (List.mem_map.2 ⟨p, hp, e⟩)
        simpa using this
      simp only [kdel, List.filter_cons, ne_eq, not_true_eq_false, decide_false, Bool.false_eq_true, if_false, if_true]
      exact this.symm
    · simp only [kdel, List.filter_cons, e, ne_eq, not_false_eq_true, decide_true, if_true, if_false]
      rw [kdel_fil k h'.2]
section
variable {Q : List TM} {t : Int} {b : Nat} {R R2 : List TM} {kv : List (Int × TM)} {x : TM} {y : Int}
theorem TOk.nd (h : TOk Q t b R kv) (q : QOk Q t) : (kv.map Prod.fst).Nodup := (h.kvp.map Prod.fst).nodup_iff.2 (by rw [tkv_keys]; exact q.nd)
theorem TOk.yes (h : TOk Q t b R kv) (q : QOk Q t) (hx : x ∈ Q) : kget kv x.item = some x := kget_of_mem (h.nd q) (h.kvp.mem_iff.2 (List.mem_map.2 ⟨x, hx, rfl⟩))
theorem TOk.no (h : TOk Q t b R kv) (hx : y ∉ Q.map TM.item) : kget kv y = none := kget_none (fun hm => hx (by rw [← tkv_keys]; exact (h.kvp.map Prod.fst).mem_iff.1 hm))
theorem TOk.len (h : TOk Q t b R kv) : kv.length = Q.length := by rw [h.kvp.length_eq]; simp [tkv]
theorem TOk.got (h : TOk Q t b R kv) {v : TM} (hg : kget kv y = some v) : v ∈ Q ∧ v.item = y := by
  have := h.kvp.mem_iff.1 (kget_some_mem hg)
  obtain ⟨z, hz, e⟩ := List.mem_map.1 this
  injection e with e1 e2
  subst e2
  exact ⟨hz, e1⟩
theorem TOk.first (h : TOk Q t b R kv) (q : QOk Q t) (hx : R.getD 0 d0 ∈ Q) : Q.getD 0 d0 = R.getD 0 d0 := by
  match Q, hx, h, q with
  | [], hx, _, _ => cases hx
  | z :: Q, hx, h, q =>
    show z = _
    rcases List.mem_cons.1 hx with e | e
    · exact e.symm
    · have h1 := (List.pairwise_cons.1 q.asc).1 _ e
      obtain ⟨i, hi, ei⟩ := List.getElem_of_mem (h.live z List.mem_cons_self)
      have h2 := h.hp.least i hi
      rw [gt hi, ei] at h2
      exact absurd h2 h1
theorem TOk.dead (h : TOk Q t b R kv) (hx : R.getD 0 d0 ∉ Q) (hp : R.Perm (R.getD 0 d0 :: R2)) (hh : Hn R2 R2.length) : TOk Q t b R2 kv := by
  refine ⟨hh, h.kvp, fun z hz => ?_, ?_, h.tb⟩
  · rcases List.mem_cons.1 (hp.mem_iff.1 (h.live z hz)) with e | e
    · exact absurd hz (e ▸ hx)
    · exact e
  · have := hp.length_eq
    have := h.bd
    simp at *
    omega
theorem TOk.take (h : TOk (x :: Q) t b R kv) (q : QOk (x :: Q) t) (hp : R.Perm (x :: R2)) (hh : Hn R2 R2.length) : TOk Q t b R2 (kdel kv x.item) := by
  have hne := List.nodup_cons.1 q.nd
  refine ⟨hh, ?_, fun z hz => ?_, ?_, h.tb⟩
  · rw [kdel_fil _ (h.nd q)]
    refine (h.kvp.filter _).trans ?_
    have e : (tkv Q).filter (fun p => decide (p.1 ≠ x.item)) = tkv Q := List.filter_eq_self.2 fun p hp => by
      obtain ⟨z, hz, rfl⟩ := List.mem_map.1 hp
      have : z.item ≠ x.item := fun e => hne.1 (List.mem_map.2 ⟨z, hz, e⟩)
      simpa using this
    have e2 : (tkv (x :: Q)).filter (fun p => decide (p.1 ≠ x.item)) = tkv Q := by
      show List.filter _ ((x.item, x) :: tkv Q) = _
      rw [List.filter_cons, if_neg (by simp)]
      exact e
    rw [e2]
  · rcases List.mem_cons.1 (hp.mem_iff.1 (h.live z (List.mem_cons_of_mem _ hz))) with e | e
    · subst e; exact absurd (List.mem_map.2 ⟨_, hz, rfl⟩) hne.1
    · exact e
  · have := hp.length_eq
    have := h.bd
    simp at *
    omega
def drq (Q : List TM) (y : Int) : List TM := Q.filter fun x => decide (x.item ≠ y)
theorem drq_len : ∀ {Q : List TM} {y : Int}, (Q.map TM.item).Nodup → Q.length ≤ (drq Q y).length + 1
  | [], _, _ => by simp
  | x :: Q, y, h => by
    have h' := List.nodup_cons.1 h
    unfold drq
    rw [List.filter_cons]
    by_cases e : x.item = y
    · have : Q.filter (fun x => decide (x.item ≠ y)) = Q := List.filter_eq_self.2 fun p hp => by
        have : p.item ≠ y := fun e2 => h'.1 (List.mem_map.2 ⟨p, hp, e2.trans e.symm⟩)
        simpa using this
      rw [if_neg (by simpa using e), this]; simp
    · rw [if_pos (by simpa using e)]
      have := drq_len (Q := Q) (y := y) h'.2
      unfold drq at this
      simp only [List.length_cons]; omega
theorem TOk.drop (h : TOk Q t b R kv) (q : QOk Q t) (y : Int) : TOk (drq Q y) t (b + 1) R (kdel kv y) := by
  refine ⟨h.hp, ?_, fun z hz => h.live z (List.mem_filter.1 hz).1, ?_, by have := h.tb; omega⟩
  · rw [kdel_fil _ (h.nd q)]
    refine (h.kvp.filter _).trans ?_
    rw [tkv, tkv, drq, List.filter_map]
    exact .refl _
  · have := h.bd
    have := drq_len (y := y) q.nd
    omega
theorem QOk.drop (q : QOk Q t) (y : Int) : QOk (drq Q y) t := by
  have hs : (drq Q y).Sublist Q := List.filter_sublist
  exact ⟨q.asc.sublist hs, q.nd.sublist (hs.map _), q.t0, fun x hx => q.tq x (hs.subset hx), fun x hx => q.rng x (hs.subset hx), Nat.le_trans hs.length_le q.ql⟩
theorem QOk.tail (q : QOk (x :: Q) t) : QOk Q t := by
  have hs : Q.Sublist (x :: Q) := List.sublist_cons_self _ _
  exact ⟨q.asc.sublist hs, q.nd.sublist (hs.map _), q.t0, fun x hx => q.tq x (hs.subset hx), fun x hx => q.rng x (hs.subset hx), Nat.le_trans hs.length_le q.ql⟩
/-- Where one of a tick goes in. -/
def insq (Q : List TM) (x : TM) : List TM := Q.takeWhile (fun z => decide (z.at_ ≤ x.at_)) ++ x :: Q.dropWhile (fun z => decide (z.at_ ≤ x.at_))
theorem insq_perm (Q : List TM) (x : TM) : (insq Q x).Perm (x :: Q) := by
  unfold insq
  refine List.perm_middle.trans ?_
  rw [List.takeWhile_append_dropWhile]
theorem asc_at {x y : TM} (h : ¬ Le y x) : x.at_ ≤ y.at_ := by unfold Le at h; omega
theorem drop_gt : ∀ {Q : List TM} {a : Int}, Q.Pairwise (fun x y => ¬ Le y x) → ∀ z ∈ Q.dropWhile (fun z => decide (z.at_ ≤ a)), a < z.at_
  | [], _, _, z, hz => by cases hz
  | x :: Q, a, h, z, hz => by
    have h' := List.pairwise_cons.1 h
    rw [List.dropWhile_cons] at hz
    by_cases e : x.at_ ≤ a
    · rw [if_pos (by simpa using e)] at hz
      exact drop_gt h'.2 z hz
    · rw [if_neg (by simpa using e)] at hz
      rcases List.mem_cons.1 hz with rfl | hz
      · omega
      · have := asc_at (h'.1 z hz); omega
theorem take_le {a : Int} : ∀ (Q : List TM), ∀ z ∈ Q.takeWhile (fun z => decide (z.at_ ≤ a)), z.at_ ≤ a
  | [], _, hz => by cases hz
  | x :: Q, z, hz => by
    rw [List.takeWhile_cons] at hz
    by_cases e : x.at_ ≤ a
    · rw [if_pos (by simpa using e)] at hz
      rcases List.mem_cons.1 hz with rfl | hz
      · exact e
      · exact take_le Q z hz
    · rw [if_neg (by simpa using e)] at hz; cases hz
theorem QOk.put (q : QOk Q t) (h : y ∉ Q.map TM.item) {a : Int} (ha : 0 ≤ a ∧ a ≤ 4611686018427387904) (hl : Q.length < 65536) : QOk (insq Q ⟨a, t, y⟩) (t + 1) := by
  have hp := insq_perm Q ⟨a, t, y⟩
  refine ⟨?_, ?_, by have := q.t0; omega, fun x hx => ?_, fun x hx => ?_, ?_⟩
  · have h1 := drop_gt (a := a) q.asc
    have h0 : ∀ z ∈ Q.takeWhile (fun z => decide (z.at_ ≤ a)), z.at_ ≤ a := fun z hz => take_le _ z hz
    have hq := q.asc
    rw [← List.takeWhile_append_dropWhile (p := fun z => decide (z.at_ ≤ a)) (l := Q)] at hq
    have hq' := List.pairwise_append.1 hq
    refine List.pairwise_append.2 ⟨hq'.1, List.pairwise_cons.2 ⟨fun z hz => ?_, hq'.2.1⟩, fun z hz u hu => ?_⟩
    · have := h1 z hz
      unfold Le; dsimp only; omega
    · rcases List.mem_cons.1 hu with rfl | hu
      · have := h0 z hz
        have := q.tq z ((List.takeWhile_sublist _).subset hz)
        unfold Le; dsimp only; omega
      · exact hq'.2.2 z hz u hu
  · rw [(hp.map TM.item).nodup_iff]
    exact List.nodup_cons.2 ⟨h, q.nd⟩
  · rcases List.mem_cons.1 (hp.mem_iff.1 hx) with rfl | hx
    · show t < t + 1; omega
    · have := q.tq x hx; omega
  · rcases List.mem_cons.1 (hp.mem_iff.1 hx) with rfl | hx
    · exact ha
    · exact q.rng x hx
  · rw [hp.length_eq]; simp; omega
theorem TOk.put (h : TOk Q t b R kv) (q : QOk Q t) (hy : y ∉ Q.map TM.item) {a : Int} (hp : R2.Perm (R ++ [⟨a, t, y⟩])) (hh : Hn R2 R2.length) : TOk (insq Q ⟨a, t, y⟩) (t + 1) (b + 1) R2 (kput kv y ⟨a, t, y⟩) := by
  have hi := insq_perm Q ⟨a, t, y⟩
  refine ⟨hh, ?_, fun z hz => ?_, ?_, by have := h.tb; omega⟩
  · rw [kput_fresh _ (fun hm => hy (by rw [← tkv_keys]; exact (h.kvp.map Prod.fst).mem_iff.1 hm))]
    refine List.perm_append_comm.trans ?_
    refine (List.Perm.cons _ h.kvp).trans ?_
    exact (hi.map (fun x : TM => (x.item, x))).symm
  · rw [hp.mem_iff]
    rcases List.mem_cons.1 (hi.mem_iff.1 hz) with rfl | hz
    · simp
    · simp [h.live z hz]
  · have := h.bd
    rw [hp.length_eq, hi.length_eq]
    simp; omega
end
/-- What stands behind a queue. -/
structure TW (Q : List TM) (t : Int) (b : Nat) where
  m : Nat
  a : Option Addr
  c : Nat
  R : List TM
  kv : List (Int × TM)
  ok : TOk Q t b R kv
abbrev tmw (p : Nat) (Q : List TM) (t : Int) {b : Nat} (w : TW Q t b) (F : List HP) : List HP := tms p w.m w.a w.c w.R w.kv t F
structure TIM (p : Nat) (Q : List TM) (t : Int) (b : Nat) (h : PH) : Prop where
  is : ∃ w : TW Q t b, Sat h (tmw p Q t w [])
theorem tshut {p : Nat} {Q : List TM} {t : Int} {b : Nat} (w : TW Q t b) (F : List HP) : Ent (tmw p Q t w F) (TIM p Q t b :: F) := Ent.exI (A := TIM p Q t b) (B := tmw p Q t w []) fun _ s => ⟨⟨w, s⟩⟩
theorem tsp {p : Nat} {Q : List TM} {t : Int} {b : Nat} {F : List HP} {f : FuncId} {args : List Value} {Post : Value → List HP → Prop} (H : ∀ w : TW Q t b, Sp Try.prog f args (tmw p Q t w F) Post) : Sp Try.prog f args (TIM p Q t b :: F) Post := Sp.exI (fun _ a => a.is) H
theorem tle {p : Nat} {Q : List TM} {t : Int} {b b' : Nat} (h : b ≤ b') {F : List HP} : Ent (TIM p Q t b :: F) (TIM p Q t b' :: F) := fun _ s => by
  obtain ⟨S, ⟨w, hw⟩, hl⟩ := s
  exact ⟨S, ⟨⟨⟨w.m, w.a, w.c, w.R, w.kv, w.ok.hp, w.ok.kvp, w.ok.live, by have := w.ok.bd; omega, by have := w.ok.tb; omega⟩, hw⟩⟩, hl⟩
end Go.Proofs.Yteafcajlfagbkaa
