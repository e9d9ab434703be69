/- DERIVED. Queues by turn: items by turns. -/
import Derived.Test.YteafcajlfagbkaaTy
import Derived.Test.YteafcajlfagbkaaVcc
import Derived.Test.YteafcajlfagbkaaVe
--
namespace Go.Proofs.Yteafcajlfagbkaa
set_option linter.unusedSimpArgs false
set_option linter.unusedVariables false
open Go Sl Cv Go.RowKit
abbrev ad (b : Nat) : Addr := ⟨b, 0, none⟩
abbrev ptr (b : Nat) : Value := .pointer (some (ad b))
abbrev nilp : Value := .pointer none
abbrev irow (a : Option Addr) (c : Nat) (l : List Int) : HP := row 3 1 (.slice a l.length c) l.length (ints l)
instance kInt : KOk Try.prog 3 Int (Value.int .i64) := ⟨int_law Try.underlying3⟩
/-- Turns and their items. -/
abbrev LL := List (Int × Int)
def tsw (L : LL) : LL := L.map fun p => (p.2, p.1)
abbrev imap (m : Nat) (kv : LL) : HP := mp m (Value.int .i64) (Value.int .i64) kv
abbrev tq (p m1 m2 : Nat) (fr ut : Int) (L : LL) (F : List HP) : List HP :=
  blk p (.cells [Value.map (some m1), .map (some m2), .int .i64 fr, .int .i64 ut].toArray 65 (0, 0)) :: imap m1 (tsw L) :: imap m2 L :: F
/-- How the turns stand. -/
structure TI (fr ut : Int) (L : LL) : Prop where
  lo : 0 ≤ fr
  hi : ut < 4611686018427387904
  asc : (L.map Prod.fst).Pairwise (· < ·)
  rng : ∀ p ∈ L, fr ≤ p.1 ∧ p.1 < ut
  nd : (L.map Prod.snd).Nodup
def its (L : LL) : List Int := L.map Prod.snd
def rem (L : LL) (x : Int) : LL := L.filter fun p => decide (p.2 ≠ x)
theorem TI.fnd {fr ut : Int} {L : LL} (h : TI fr ut L) : (L.map Prod.fst).Nodup := h.asc.imp (fun h => by omega)
theorem tsw_keys (L : LL) : (tsw L).map Prod.fst = its L := by simp [tsw, its]
theorem tget_some {L : LL} (hd : (L.map Prod.snd).Nodup) {t x : Int} (h : (t, x) ∈ L) : kget (tsw L) x = some t :=
  kget_of_mem (by rw [tsw_keys]; exact hd) (List.mem_map.2 ⟨(t, x), h, rfl⟩)
theorem tget_none {L : LL} {x : Int} (h : x ∉ its L) : kget (tsw L) x = none := kget_none (by rw [tsw_keys]; exact h)
theorem tput {L : LL} {x t : Int} (h : x ∉ its L) : kput (tsw L) x t = tsw (L ++ [(t, x)]) := by
  rw [kput_fresh _ (by rw [tsw_keys]; exact h)]; simp [tsw]
theorem TI.put {fr ut : Int} {L : LL} (h : TI fr ut L) (x : Int) : kput L ut x = L ++ [(ut, x)] :=
  kput_fresh _ (fun hm => by obtain ⟨p, hp, e⟩ := List.mem_map.1 hm; have := h.rng p hp; omega)
theorem tdel : ∀ {L : LL} {x : Int}, (L.map Prod.snd).Nodup → kdel (tsw L) x = tsw (rem L x)
  | [], _, _ => rfl
  | (t, y) :: L, x, hd => by
    have hd' := List.nodup_cons.1 hd
    by_cases e : y = x
    · subst e
      have : rem L y = L := List.filter_eq_self.2 fun p hp => by
        have : p.2 ≠ y := fun e => hd'.1 (List.mem_map.2 ⟨p, hp, e⟩)
        simpa using this
      have h2 : rem ((t, y) :: L) y = L := by rw [rem, List.filter_cons]; simp only [ne_eq, not_true_eq_false, decide_false, Bool.false_eq_true, if_false]; exact this
      rw [h2]
      simp [tsw, kdel]
    · have h2 : rem ((t, y) :: L) x = (t, y) :: rem L x := by rw [rem, List.filter_cons]; simp [e, rem]
      rw [h2]
      have := tdel (L := L) (x := x) hd'.2
      simp only [tsw, List.map_cons, kdel, e, if_false] at this ⊢
      rw [this]
theorem kdel_rem : ∀ {L : LL} {t x : Int}, (L.map Prod.fst).Nodup → (L.map Prod.snd).Nodup → (t, x) ∈ L → kdel L t = rem L x
  | [], _, _, _, _, h => by simp at h
  | (s, y) :: L, t, x, hf, hd, h => by
    have hd' := List.nodup_cons.1 hd
    have hf' := List.nodup_cons.1 hf
    by_cases e : s = t
    · subst e
      have hyx : y = x := by
        rcases List.mem_cons.1 h with h | h
        · simpa using (Prod.mk.injEq _ _ _ _ ▸ h : s = s ∧ x = y).2.symm
        · exact absurd (List.mem_map.2 ⟨_, h, rfl⟩) hf'.1
      subst hyx
      have : rem L y = L := List.filter_eq_self.2 fun p hp => by
        have : p.2 ≠ y := fun e => hd'.1 (List.mem_map.2 ⟨p, hp, e⟩)
        simpa using this
      rw [rem, List.filter_cons]
      simp only [kdel, if_true, ne_eq, not_true_eq_false, decide_false, Bool.false_eq_true, if_false]
      exact this.symm
    · have hm : (t, x) ∈ L := by
        rcases List.mem_cons.1 h with h | h
        · exact absurd (by rw [Prod.mk.injEq] at h; exact h.1.symm) e
        · exact h
      have hyx : y ≠ x := fun e => hd'.1 (List.mem_map.2 ⟨_, hm, e.symm⟩)
      have := kdel_rem hf'.2 hd'.2 hm
      rw [rem, List.filter_cons]
      simp [kdel, e, hyx, this, rem]
theorem rem_keep {fr ut : Int} {L : LL} (h : TI fr ut L) (x : Int) : TI fr ut (rem L x) :=
  ⟨h.lo, h.hi, h.asc.sublist ((List.filter_sublist).map _), fun p hp => h.rng p (List.mem_filter.1 hp).1, h.nd.sublist ((List.filter_sublist).map _)⟩
theorem TI.more {fr ut : Int} {L : LL} (h : TI fr ut L) (hfr : fr ≤ ut) {x : Int} (hx : x ∉ its L) (hb : ut + 1 < 4611686018427387904) : TI fr (ut + 1) (L ++ [(ut, x)]) := by
  refine ⟨h.lo, hb, ?_, ?_, ?_⟩
  · rw [List.map_append]
    refine List.pairwise_append.2 ⟨h.asc, List.pairwise_singleton _ _, ?_⟩
    intro a ha b hb
    obtain ⟨p, hp, rfl⟩ := List.mem_map.1 ha
    simp at hb
    subst hb
    exact (h.rng p hp).2
  · intro p hp
    rcases List.mem_append.1 hp with hp | hp
    · have := h.rng p hp; omega
    · simp at hp; subst hp; exact ⟨hfr, by show ut < ut + 1; omega⟩
  · rw [List.map_append]
    refine List.nodup_append.2 ⟨h.nd, by simp, ?_⟩
    intro a ha b hb
    simp at hb
    subst hb
    exact fun e => hx (e ▸ ha)
theorem TI.tail {fr ut t x : Int} {L : LL} (h : TI fr ut ((t, x) :: L)) : TI t ut L := by
  have h1 := h.rng (t, x) (by simp)
  have h2 := List.pairwise_cons.1 h.asc
  exact ⟨by have := h.lo; have := h1.1; simp at this; omega, h.hi, h2.2, fun p hp => ⟨by have := h2.1 p.1 (List.mem_map.2 ⟨p, hp, rfl⟩); omega, (h.rng p (by simp [hp])).2⟩, (List.nodup_cons.1 h.nd).2⟩
theorem TI.head {fr ut t x : Int} {L : LL} (h : TI fr ut ((t, x) :: L)) : TI t ut ((t, x) :: L) := by
  have h1 := h.rng (t, x) (by simp)
  have h2 := List.pairwise_cons.1 h.asc
  refine ⟨by have := h.lo; have := h1.1; simp at this; omega, h.hi, h.asc, fun p hp => ?_, h.nd⟩
  rcases List.mem_cons.1 hp with rfl | hp
  · exact ⟨Int.le_refl _, h1.2⟩
  · exact ⟨by have := h2.1 p.1 (List.mem_map.2 ⟨p, hp, rfl⟩); omega, (h.rng p (by simp [hp])).2⟩
section
variable (p m1 m2 : Nat) (fr ut : Int) (L : LL) (F : List HP) (x : Int)
theorem tnew_spec : Sp Try.prog 8 [] F fun r M => ∃ p m1 m2, r = ptr p ∧ M = tq p m1 m2 0 0 [] F := by
  refine y_of Try.func8 rfl Try.ntmps8 rfl fun w0 => ?_
  (repeat' (first | (show KQ (WL _ _ _ _ _) _ _ _ _; first | refine yW p_asg ?_ | refine yW p_bld ?_ | (refine yX ?_; first | (refine w_bx ?_; intro q) | (refine w_mm (ek := Value.int .i64) (ev := Value.int .i64) ?_; intro q) | fail) | fail) | refine yE ?_ | fail))
  rename_i q1 q2
  (refine y_fin ?_; exact ⟨_, ⟨q, q1, q2, rfl, rfl⟩, Ent.auto⟩)
theorem thas_spec (hT : TI fr ut L) : Sp Try.prog 31 [ptr p, .int .i64 x] (tq p m1 m2 fr ut L F) fun r M => r = .bool (decide (x ∈ its L)) ∧ M = tq p m1 m2 fr ut L F := by
  by_cases h : x ∈ its L
  · obtain ⟨⟨t, y⟩, hm, rfl⟩ := List.mem_map.1 h
    have hg := tget_some hT.nd hm
    refine y_of Try.func31 rfl Try.ntmps31 rfl fun w0 => ?_
    (repeat' (first | (show KQ (WL _ _ _ _ _) _ _ _ _; first | refine yW p_move ?_ | refine yW p_asg ?_ | refine yA ?_ | refine yW p_ld ?_ | refine yW p_lda ?_ | refine yB ?_ | refine yW p_nil ?_ | refine yW p_nilf ?_ | refine yW p_ext ?_ | refine yW p_lookt ?_ | refine yW p_lookf ?_ | refine yW p_look1 ?_ | refine yW p_look0 ?_ | fail) | (show KQ (CD _ _ _ _ _) _ _ _ _; first | refine yT ?_ | refine yF ?_ | fail) | ((first | refine yC ?_ ?_) <;> (intro hc; (try simp only [hcS] at hc); try exact dD)) | refine yE ?_ | fail))
    all_goals (refine y_fin ?_; exact ⟨_, ⟨by rw [decide_eq_true h]; rfl, rfl⟩, Ent.auto⟩)
  · have hg := tget_none h
    refine y_of Try.func31 rfl Try.ntmps31 rfl fun w0 => ?_
    (repeat' (first | (show KQ (WL _ _ _ _ _) _ _ _ _; first | refine yW p_move ?_ | refine yW p_asg ?_ | refine yA ?_ | refine yW p_ld ?_ | refine yW p_lda ?_ | refine yB ?_ | refine yW p_nil ?_ | refine yW p_nilf ?_ | refine yW p_ext ?_ | refine yW p_lookt ?_ | refine yW p_lookf ?_ | refine yW p_look1 ?_ | refine yW p_look0 ?_ | fail) | (show KQ (CD _ _ _ _ _) _ _ _ _; first | refine yT ?_ | refine yF ?_ | fail) | ((first | refine yC ?_ ?_) <;> (intro hc; (try simp only [hcS] at hc); try exact dD)) | refine yE ?_ | fail))
    all_goals (refine y_fin ?_; exact ⟨_, ⟨by rw [decide_eq_false h]; rfl, rfl⟩, Ent.auto⟩)
theorem tput_there (hT : TI fr ut L) (h : x ∈ its L) : Sp Try.prog 11 [ptr p, .int .i64 x] (tq p m1 m2 fr ut L F) fun r M => r = .int .i64 40 ∧ M = tq p m1 m2 fr ut L F := by
  refine y_of Try.func11 rfl Try.ntmps11 rfl fun w0 => ?_
  (repeat' (first | (show KQ (WL _ _ _ _ _) _ _ _ _; first | refine yW p_move ?_ | refine yW p_asg ?_ | refine yA ?_ | refine yW p_ld ?_ | refine yW p_lda ?_ | refine yB ?_ | refine yW p_nil ?_ | refine yW p_nilf ?_ | refine yW p_ext ?_ | refine yW p_len ?_ | refine yW p_lens ?_ | refine yW p_lenm ?_ | (refine yX ?_; first | refine w_st ?_ | refine w_str ?_ | refine w_stra ?_ | (refine w_me ?_; intro v0 born) | refine w_es ?_ | (refine w_call (thas_spec p m1 m2 fr ut L _ x hT) ?_; rintro r L ⟨rfl, rfl⟩) | fail) | fail) | (show KQ (CD _ _ _ _ _) _ _ _ _; first | refine yT ?_ | refine yF ?_ | fail) | ((first | refine yC ?_ ?_) <;> (intro hc; (try simp only [hcS] at hc); try exact dD)) | refine yE ?_ | fail))
  all_goals (refine y_fin ?_; exact ⟨_, ⟨rfl, rfl⟩, Ent.auto⟩)
theorem tput_many (hT : TI fr ut L) (h : x ∉ its L) (hl : 65536 ≤ L.length) : Sp Try.prog 11 [ptr p, .int .i64 x] (tq p m1 m2 fr ut L F) fun r M => r = .int .i64 3 ∧ M = tq p m1 m2 fr ut L F := by
  have hl2 : (tsw L).length = L.length := by simp [tsw]
  refine y_of Try.func11 rfl Try.ntmps11 rfl fun w0 => ?_
  (repeat' (first | (show KQ (WL _ _ _ _ _) _ _ _ _; first | refine yW p_move ?_ | refine yW p_asg ?_ | refine yA ?_ | refine yW p_ld ?_ | refine yW p_lda ?_ | refine yB ?_ | refine yW p_nil ?_ | refine yW p_nilf ?_ | refine yW p_ext ?_ | refine yW p_len ?_ | refine yW p_lens ?_ | refine yW p_lenm ?_ | (refine yX ?_; first | refine w_st ?_ | refine w_str ?_ | refine w_stra ?_ | (refine w_me ?_; intro v0 born) | refine w_es ?_ | (refine w_call (thas_spec p m1 m2 fr ut L _ x hT) ?_; rintro r L ⟨rfl, rfl⟩) | fail) | fail) | (show KQ (CD _ _ _ _ _) _ _ _ _; first | refine yT ?_ | refine yF ?_ | fail) | ((first | refine yC ?_ ?_) <;> (intro hc; (try simp only [hcS] at hc); try exact dD)) | refine yE ?_ | fail))
  all_goals (refine y_fin ?_; exact ⟨_, ⟨rfl, rfl⟩, Ent.auto⟩)
set_option maxHeartbeats 4000000 in
theorem tput_new (hT : TI fr ut L) (h : x ∉ its L) (hl : L.length < 65536) (hfr : fr ≤ ut) : Sp Try.prog 11 [ptr p, .int .i64 x] (tq p m1 m2 fr ut L F) fun r M => r = .int .i64 0 ∧ M = tq p m1 m2 fr (ut + 1) (L ++ [(ut, x)]) F := by
  have hl2 : (tsw L).length = L.length := by simp [tsw]
  have hlo := hT.lo
  have hhi := hT.hi
  refine y_of Try.func11 rfl Try.ntmps11 rfl fun w0 => ?_
  (repeat' (first | (show KQ (WL _ _ _ _ _) _ _ _ _; first | refine yW p_move ?_ | refine yW p_asg ?_ | refine yA ?_ | refine yW p_ld ?_ | refine yW p_lda ?_ | refine yB ?_ | refine yW p_nil ?_ | refine yW p_nilf ?_ | refine yW p_ext ?_ | refine yW p_len ?_ | refine yW p_lens ?_ | refine yW p_lenm ?_ | (refine yX ?_; first | refine w_st ?_ | refine w_str ?_ | refine w_stra ?_ | (refine w_me ?_; intro v0 born) | refine w_es ?_ | (refine w_call (thas_spec p m1 m2 fr ut L _ x hT) ?_; rintro r L ⟨rfl, rfl⟩) | fail) | fail) | (show KQ (CD _ _ _ _ _) _ _ _ _; first | refine yT ?_ | refine yF ?_ | fail) | ((first | refine yC ?_ ?_) <;> (intro hc; (try simp only [hcS] at hc); try exact dD)) | refine yE ?_ | (refine y_cr ?_; refine kq_draw 7 (blk p (.cells [Value.map (some m1), .map (some m2), .int .i64 fr, .int .i64 ut].toArray 65 (0, 0)) :: F) 24 ?_; (all_goals refine kq_take 0 rfl p_move ?_); (all_goals (first | refine kq_take 1 rfl p_nil ?_ | refine kq_take 1 rfl p_nilf ?_)); (all_goals refine tkf 2 ?_); (all_goals refine tkl 3 ?_); (all_goals refine kq_take 4 rfl p_move ?_); (all_goals refine kq_take 5 rfl p_move ?_); (all_goals (first | refine kq_take 6 rfl p_nil ?_ | refine kq_take 6 rfl p_nilf ?_)); (all_goals refine tkf 7 ?_); (all_goals refine tkl 8 ?_); (all_goals refine kq_take 9 rfl p_move ?_); (all_goals (first | refine kq_take 10 rfl p_nil ?_ | refine kq_take 10 rfl p_nilf ?_)); (all_goals refine tkf 11 ?_); (all_goals refine tkl 12 ?_); (all_goals refine kq_take 13 rfl p_move ?_); (all_goals (first | refine kq_take 14 rfl p_nil ?_ | refine kq_take 14 rfl p_nilf ?_)); (all_goals refine tkf 15 ?_); (all_goals refine tkl 16 ?_); (all_goals refine kq_take 17 rfl p_move ?_); (all_goals (refine kq_each [18] ⟨?_, trivial⟩; (refine kq_op ?_; first | (refine w_me ?_; intro v0 born)))); (all_goals refine kq_take 19 rfl p_ext ?_); (all_goals (refine kq_each [20] ⟨?_, trivial⟩; (refine kq_op ?_; first | refine w_es ?_))); (all_goals (refine kq_each [21] ⟨?_, trivial⟩; (refine kq_op ?_; first | (refine w_me ?_; intro v0 born)))); (all_goals refine kq_take 22 rfl p_ext ?_); (all_goals (refine kq_each [23] ⟨?_, trivial⟩; (refine kq_op ?_; first | refine w_es ?_))); (all_goals refine kq_done ?_)) | fail))
  all_goals (rw [tput h, hT.put])
  all_goals (refine y_fin ?_; exact ⟨_, ⟨rfl, rfl⟩, Ent.auto⟩)
theorem tdrop_no (hT : TI fr ut L) (h : x ∉ its L) : Sp Try.prog 20 [ptr p, .int .i64 x] (tq p m1 m2 fr ut L F) fun r M => r = .bool false ∧ M = tq p m1 m2 fr ut L F := by
  refine y_of Try.func20 rfl Try.ntmps20 rfl fun w0 => ?_
  (repeat' (first | (show KQ (WL _ _ _ _ _) _ _ _ _; first | refine yW p_move ?_ | refine yW p_asg ?_ | refine yA ?_ | refine yW p_ld ?_ | refine yW p_lda ?_ | refine yW p_nil ?_ | refine yW p_nilf ?_ | refine yW p_nott ?_ | refine yW p_notf ?_ | refine yW p_not ?_ | refine yW p_neg ?_ | refine yW p_lookt ?_ | refine yW p_lookf ?_ | refine yW p_look1 ?_ | refine yW p_look0 ?_ | (refine yX ?_; first | refine w_md ?_ | (refine w_call (thas_spec p m1 m2 fr ut L _ x hT) ?_; rintro r L ⟨rfl, rfl⟩) | fail) | fail) | (show KQ (CD _ _ _ _ _) _ _ _ _; first | refine yT ?_ | refine yF ?_ | fail) | ((first | refine yC ?_ ?_) <;> (intro hc; (try simp only [hcS] at hc); try exact dD)) | refine yE ?_ | fail))
  all_goals (refine y_fin ?_; exact ⟨_, ⟨rfl, rfl⟩, Ent.auto⟩)
theorem tdrop_yes (hT : TI fr ut L) (h : x ∈ its L) : Sp Try.prog 20 [ptr p, .int .i64 x] (tq p m1 m2 fr ut L F) fun r M => r = .bool true ∧ M = tq p m1 m2 fr ut (rem L x) F := by
  have h' := h
  obtain ⟨⟨t, y⟩, hm, e⟩ := List.mem_map.1 h
  obtain rfl : y = x := e
  have hg := tget_some hT.nd hm
  refine y_of Try.func20 rfl Try.ntmps20 rfl fun w0 => ?_
  (repeat' (first | (show KQ (WL _ _ _ _ _) _ _ _ _; first | refine yW p_move ?_ | refine yW p_asg ?_ | refine yA ?_ | refine yW p_ld ?_ | refine yW p_lda ?_ | refine yW p_nil ?_ | refine yW p_nilf ?_ | refine yW p_nott ?_ | refine yW p_notf ?_ | refine yW p_not ?_ | refine yW p_neg ?_ | refine yW p_lookt ?_ | refine yW p_lookf ?_ | refine yW p_look1 ?_ | refine yW p_look0 ?_ | (refine yX ?_; first | refine w_md ?_ | (refine w_call (thas_spec p m1 m2 fr ut L _ y hT) ?_; rintro r L ⟨rfl, rfl⟩) | fail) | fail) | (show KQ (CD _ _ _ _ _) _ _ _ _; first | refine yT ?_ | refine yF ?_ | fail) | ((first | refine yC ?_ ?_) <;> (intro hc; (try simp only [hcS] at hc); try exact dD)) | refine yE ?_ | (refine y_cr ?_; refine kq_draw 3 (blk p (.cells [Value.map (some m1), .map (some m2), .int .i64 fr, .int .i64 ut].toArray 65 (0, 0)) :: imap m1 (tsw L) :: F) 11 ?_; (all_goals refine kq_take 0 rfl p_move ?_); (all_goals (first | refine kq_take 1 rfl p_nil ?_ | refine kq_take 1 rfl p_nilf ?_)); (all_goals refine tkf 2 ?_); (all_goals refine tkl 3 ?_); (all_goals refine kq_take 4 rfl p_move ?_); (all_goals (first | refine kq_take 5 rfl p_nil ?_ | refine kq_take 5 rfl p_nilf ?_)); (all_goals refine tkf 6 ?_); (all_goals refine tkl 7 ?_); (all_goals refine kq_take 8 rfl p_move ?_); (all_goals (first | refine kq_take 9 rfl p_lookt ?_ | refine kq_take 9 rfl p_lookf ?_ | refine kq_take 9 rfl p_look1 ?_ | refine kq_take 9 rfl p_look0 ?_)); (all_goals (refine kq_each [10] ⟨?_, trivial⟩; (refine kq_op ?_; first | refine w_md ?_))); (all_goals refine kq_done ?_)) | fail))
  all_goals (rw [tdel hT.nd, kdel_rem hT.fnd hT.nd hm])
  all_goals (refine y_fin ?_; exact ⟨_, ⟨rfl, rfl⟩, Ent.auto⟩)
end
end Go.Proofs.Yteafcajlfagbkaa
