/- DERIVED. Tokens (chapter 6): Cancel, Let, Make, New, Clone, over a list of tokens. -/
import Derived.Test.YtjjpadifidbkhaaTokB
namespace Go.Proofs.Ytjjpadifidbkhaa
open Go.RowKit Cv

section
variable {B : Nat} {w : World} {p : Nat} {v : Value} {l : List T3}

set_option maxHeartbeats 1600000 in
theorem cancel_in (h : Tok B w p v l) {n : Int} (hn : Tk.ok l n) :
    Calls Try.prog 8 #[.pointer (some ⟨p, 0, none⟩), .int .i64 n] w fun e w' => ∃ r, e = .returned (.tuple #[r, .int .i64 0]) ∧
      w'.ownsRow w.heap.size 3 1 r (Tk.cancel l n).2.length (ints (Tk.cancel l n).2) ∧ Tok B w' p v (Tk.cancel l n).1 ∧ Fr (tfoot p v) w w' := by
  rcases h.shape with ⟨rfl, rfl⟩ | ⟨d, cap, rfl, _⟩
  · unfold Tk.ok at hn; simp at hn; omega
  have hb : l.length ≤ 65536 := h.len
  have hd : d < w.heap.size := (h.row.lt d rfl).2
  have hUl := Tk.under_len l n
  obtain ⟨hn1, hn2⟩ := id hn
  go_enter Try.func8, Try.ntmps8
  go_wp2_with (first
    | (go_at_call 26; refine (get_in h hn).mono ?_; rintro e w' ⟨rfl, rfl⟩)
    | (go_at_call 25; refine (under_in (h.below ((Below.refl _ _).alloc (Nat.le_refl _) _)) hn).mono ?_; rintro e w1 ⟨r1, rfl, ho1, hb1⟩)
    | (at_builtin; refine wpList_appRow rfl _ _ 29 rfl intE w.heap.size _ _ _ (row_below (World.ownsRow_lit w #[.int .i64 n] 1 (Nat.le_refl _) (by unfold maxLen; omega) rfl) hb1) rfl _ _ _ _ ho1 rfl (ints_one _) (by unfold maxLen; omega) (by omega) (by have := hb1.size; simp at this; omega) ?_; intro ao cap2 w2 ho2 hf2 hg2))
  obtain ⟨g1, cap3, e1, hg1, hg1'⟩ := ho2.form (by omega)
  simp only [Value.slice.injEq, true_and] at e1
  obtain ⟨rfl, rfl⟩ := e1
  have hF2 : Fr (tfoot p (.slice (some ⟨d, 0, none⟩) l.length cap)) w w2 :=
    (((Fr.refl _ w).alloc _).trans (Fr.of_below hb1)).trans' hf2 (fun x hx e => by
      simp [Value.ownBlock] at e; omega)
  have hT2 := h.fr (((Fr.refl (fun _ => False) w).alloc _).trans (Fr.of_below hb1)) (fun _ _ => id)
  have hT2 := hT2.fr hf2 (fun k hk e => by
    have := (h.base k hk).2
    simp [Value.ownBlock] at e; omega)
  have ho2' : w2.ownsRow w.heap.size 3 1 (.slice (some ⟨g1, 0, none⟩) (1 + (Tk.under l n).length) cap2) (1 + (Tk.under l n).length) (ints (n :: Tk.under l n)) := ho2
  clear ho2 hf2 hg2 ho1 hb1
  go_loopg [6, 21] (1 + (Tk.under l n).length) (fun g out ix wr => ∃ i : Nat, i + g = 1 + (Tk.under l n).length ∧ ix = .int .i64 i ∧ Tok B wr p (.slice (some ⟨d, 0, none⟩) l.length cap) (Tk.cancelN l n i).1 ∧
      wr.ownsRow w.heap.size 3 1 out (Tk.cancelN l n i).2.length (ints (Tk.cancelN l n i).2) ∧
      wr.ownsRow w.heap.size 3 1 (.slice (some ⟨g1, 0, none⟩) (1 + (Tk.under l n).length) cap2) (1 + (Tk.under l n).length) (ints (n :: Tk.under l n)) ∧
      ¬ out.ownBlock = some g1 ∧ Fr (tfoot p (.slice (some ⟨d, 0, none⟩) l.length cap)) w wr)
  case atStart => exact ⟨0, by omega, rfl, hT2, World.ownsRow_nil _ _ _ _, ho2', by simp [Value.ownBlock], hF2⟩
  case round =>
    obtain ⟨i, hg, rfl, hT, ho, hids, hne, hF⟩ := hrel
    have hs := hF.size
    have HG := hide hg
    obtain ⟨hl1, hl2⟩ := Tk.cancelN_len l n i
    have HL1 := hide hl1
    have hi : i ≤ 65536 := by omega
    have hg1w := (hids.lt g1 rfl).2
    clear hg hT2 ho2' hF2
    by_cases hlt : i < 1 + (Tk.under l n).length
    · obtain ⟨k, hk⟩ : ∃ k, (n :: Tk.under l n)[i]? = some k := by
        rw [List.getElem?_eq_getElem (by simp; omega)]; exact ⟨_, rfl⟩
      have hstep := hide (Tk.cancelN_succ hk)
      have hkok : Tk.ok (Tk.cancelN l n i).1 k := by
        have := Tk.under_ok hn k (List.mem_of_getElem? hk)
        unfold Tk.ok at *; omega
      have hcell : wr.cell? ⟨g1, i, none⟩ = some (.int .i64 k) := by
        rw [hids.cellAt i (by omega), ints, List.getElem?_map, hk]; rfl
      clear hk
      generalize Tk.cancelN l n i = s at *
      obtain ⟨l1, out1⟩ := s
      rw [← HL1.out] at hT
      dsimp only at hT ho hl1 hl2 hkok hstep
      obtain ⟨c0, c1, c2⟩ := hT.cells hkok
      have f2 := hT.frozenR (Tk.ix k * 3 + 2)
      have hi0 : (0 : Int) ≤ i := by omega
      have hi1 : (i : Int) < 1 + ((Tk.under l n).length : Int) := by omega
      have hlt' := hide hlt
      clear hlt
      cases hw : ((Tk.at_ l1 k).why == 0) with
      | false =>
        go_wp2_with (go_at_call 26; refine (get_in hT hkok).mono ?_; rintro e w' ⟨rfl, rfl⟩)
        go_roundg (gk - 1)
        case measure => have := HG.out; have := hlt'.out; omega
        case rel =>
          have hg := HG.out
          have hlt := hlt'.out
          have e : Tk.hit n (l1, out1) k = (l1, out1) := by rw [Tk.hit, if_neg (by simpa using hw)]
          have e2 := hstep.out.trans e
          refine ⟨i + 1, by omega, congrArg (Value.int .i64) (by omega), ?_⟩
          rw [e2]
          refine ⟨?_, ho, hids, hne, hF⟩
          rw [← HL1.out]; exact hT
      | true =>
        go_wp2_with (first
          | (go_at_call 26; refine (get_in hT hkok).mono ?_; rintro e w' ⟨rfl, rfl⟩)
          | (at_builtin; (refine wpList_app rfl _ _ 29 rfl intE w.heap.size _ _ _ ((ownsRow_setCell_below ho (by exact hd) _).alloc _) rfl ⟨_, 0, none⟩ 1 1 rfl [.int .i64 k] rfl (news_last _ _ _ _ rfl _ (by simp)) (by simp [Value.oneCell']) (by omega) (by unfold maxLen; omega) (by omega) (by simp; omega) ?_); intro g cap3 w3 ho3 hf3 hg3))
        go_roundg (gk - 1)
        case measure => have := HG.out; have := hlt'.out; omega
        case rel =>
          have hg := HG.out
          have hlt := hlt'.out
          have e : Tk.hit n (l1, out1) k = (Tk.put l1 k { Tk.at_ l1 k with why := n }, out1 ++ [k]) := by rw [Tk.hit, if_pos (by simpa using hw)]
          have e2 := hstep.out.trans e
          have hT3 := hT.store hkok 2 (by omega) (.int .i64 n) { Tk.at_ l1 k with why := n } rfl
          have hoB := ho.lt
          refine ⟨i + 1, by omega, congrArg (Value.int .i64) (by omega), ?_⟩
          rw [e2]
          refine ⟨?_, ?_, ?_, ?_, ?_⟩
          · rw [← HL1.out]
            refine (hT3.fr ((Fr.refl (fun _ => False) _).alloc _) (fun _ _ => id)).fr hf3 (fun k hk e => ?_)
            have := (hoB k e).1
            have := (h.base k (by rw [← HL1.out] at *; exact hk)).2
            omega
          · rw [List.length_append, ints_append]; exact ho3
          · exact hf3.row ((ownsRow_setCell_below hids (by exact hd) _).alloc _) (fun k hk e => hne (by rw [e]; exact hk ▸ rfl))
          · intro e
            have e' : g = g1 := by simpa [Value.ownBlock] using e
            rcases hg3 with hg3 | hg3
            · exact hne (by rw [← e']; exact hg3)
            · simp at hg3; omega
          · refine ((hF.setCell (p := ⟨d, Tk.ix k * 3 + 2, none⟩) (.inl (.inr rfl)) _).alloc _).trans' hf3 (fun x hx e => ?_)
            have := (hoB x e).1
            omega
    · go_wp2
      go_ret2
      have hg := HG.out
      have e : Tk.cancelN l n i = Tk.cancel l n := Tk.cancelN_all (by simp; omega)
      rw [e] at hT ho
      exact ⟨_, rfl, ho, hT, hF⟩

theorem cancel_out (h : Tok B w p v l) {n : Int} (hn : ¬ Tk.ok l n) :
    Calls Try.prog 8 #[.pointer (some ⟨p, 0, none⟩), .int .i64 n] w fun e w' => e = .returned (.tuple #[.slice none 0 0, .int .i64 60]) ∧ w = w' := by
  go_enter Try.func8, Try.ntmps8
  go_wp2_with (go_at_call 26; refine (get_out h hn).mono ?_; rintro e w' ⟨rfl, rfl⟩)
  go_ret2
  exact ⟨rfl, rfl⟩

set_option maxHeartbeats 1600000 in
theorem let_any (h : Tok B w p v l) (n : Int) (hh : 0 ≤ (Tk.at_ l n).holders ∧ (Tk.at_ l n).holders ≤ 1000000) :
    Calls Try.prog 10 #[.pointer (some ⟨p, 0, none⟩), .int .i64 n] w fun e w' => ∃ r, e = .returned (.tuple #[r, .int .i64 (Tk.letE l n).2.2]) ∧
      w'.ownsRow w.heap.size 3 1 r (Tk.letE l n).2.1.length (ints (Tk.letE l n).2.1) ∧ Tok B w' p v (Tk.letE l n).1 ∧ Fr (tfoot p v) w w' := by
  by_cases hn : Tk.ok l n
  · rcases h.shape with ⟨rfl, rfl⟩ | ⟨d, cap, rfl, _⟩
    · unfold Tk.ok at hn; simp at hn; omega
    obtain ⟨c0, c1, c2⟩ := h.cells hn
    have f1 := h.frozenR (Tk.ix n * 3 + 1)
    obtain ⟨h1, h2⟩ := hh
    cases hz : ((Tk.at_ l n).holders == 0) with
    | true =>
      have e : Tk.letE l n = (l, [], 61) := by rw [Tk.letE, if_neg (by simp [hn]), if_pos (by simpa using hz)]
      rw [e]
      go_enter Try.func10, Try.ntmps10
      go_wp2_with (go_at_call 26; refine (get_in h hn).mono ?_; rintro e w' ⟨rfl, rfl⟩)
      go_ret2
      exact ⟨_, rfl, World.ownsRow_nil _ _ _ _, h, Fr.refl _ _⟩
    | false =>
      have hS : Tok B (w.setCell ⟨d, Tk.ix n * 3 + 1, none⟩ (.int .i64 ((Tk.at_ l n).holders - 1))) p (.slice (some ⟨d, 0, none⟩) l.length cap) (Tk.drop l n) := h.store hn 1 (by omega) _ { Tk.at_ l n with holders := (Tk.at_ l n).holders - 1 } rfl
      have hF : Fr (tfoot p (.slice (some ⟨d, 0, none⟩) l.length cap)) w (w.setCell ⟨d, Tk.ix n * 3 + 1, none⟩ (.int .i64 ((Tk.at_ l n).holders - 1))) := (Fr.refl _ _).setCell (.inl (.inr rfl)) _
      by_cases hp : 0 < (Tk.at_ l n).holders - 1
      · have e : Tk.letE l n = (Tk.drop l n, [], 0) := by rw [Tk.letE, if_neg (by simp [hn]), if_neg (by simpa using hz), if_pos hp]
        rw [e]
        go_enter Try.func10, Try.ntmps10
        go_wp2_with (go_at_call 26; refine (get_in h hn).mono ?_; rintro e w' ⟨rfl, rfl⟩)
        go_ret2
        exact ⟨_, rfl, World.ownsRow_nil _ _ _ _, hS, hF⟩
      · have e : Tk.letE l n = ((Tk.cancel (Tk.drop l n) n).1, (Tk.cancel (Tk.drop l n) n).2, 0) := by rw [Tk.letE, if_neg (by simp [hn]), if_neg (by simpa using hz), if_neg hp]
        rw [e]
        have hn' : Tk.ok (Tk.drop l n) n := (Tk.ok_put _ _ _ _).2 hn
        go_enter Try.func10, Try.ntmps10
        go_wp2_with (first
          | (go_at_call 26; refine (get_in h hn).mono ?_; rintro e w' ⟨rfl, rfl⟩)
          | (go_at_call 8; refine (cancel_in hS hn').mono ?_; rintro e w' ⟨r, rfl, ho, hT, hf⟩))
        go_ret2
        exact ⟨_, rfl, row_base ho (fun k hk => by have := ho.lt k hk; simp at this; omega), hT, hF.trans hf⟩
  · have e : Tk.letE l n = (l, [], 60) := by rw [Tk.letE, if_pos hn]
    rw [e]
    go_enter Try.func10, Try.ntmps10
    go_wp2_with (go_at_call 26; refine (get_out h hn).mono ?_; rintro e w' ⟨rfl, rfl⟩)
    go_ret2
    exact ⟨_, rfl, World.ownsRow_nil _ _ _ _, h, Fr.refl _ _⟩

theorem new_any (w : World) (hB : B ≤ w.heap.size) :
    Calls Try.prog 6 #[] w fun e w' => e = .returned (.pointer (some ⟨w.heap.size, 0, none⟩)) ∧ Tok B w' w.heap.size (.slice none 0 0) [] ∧ w' = w.alloc (.cells #[.slice none 0 0] 56) := by
  go_enter Try.func6, Try.ntmps6
  go_wp2
  go_ret
  exact ⟨rfl, ⟨hB, heap_alloc_new w _, World.ownsRow_nil _ _ _ _, by simp⟩, rfl⟩

theorem row_ne_blk {w : World} {base : Nat} {e t : TypeId} {size : Nat} {v : Value} {n : Nat} {xs : List Value} {p : Nat} {cs : Array Value} {fr : Nat × Nat} (ho : w.ownsRow base e size v n xs) (hb : w.heap[p]? = some (.cells cs t fr)) (ht : t ≠ e) : ¬ v.ownBlock = some p := by
  intro h
  rcases ho.2 with ⟨rfl, _⟩ | ⟨g, cap, cur, rfl, _, hg, _⟩
  · cases h
  · have : g = p := by simpa [Value.ownBlock] using h
    rw [this, hb] at hg
    injection hg with hg
    injection hg with _ h2
    exact ht h2

theorem Tok.row_ne (h : Tok B w p v l) : ¬ v.ownBlock = some p := row_ne_blk h.row h.blk (by decide)

theorem blk_setCell {w : World} {p : Nat} {v u : Value} {t : TypeId} (h : w.heap[p]? = some (.cells #[v] t (0, 0))) : (w.setCell ⟨p, 0, none⟩ u).heap[p]? = some (.cells #[u] t (0, 0)) := by
  rw [heap_setCell_same w p 0 #[v] t u h]; rfl

/-- What the append of a Make leaves. -/
theorem make_end {W w3 : World} {g cap3 : Nat} {x : T3} (hT : Tok B W p v l) (hlen : l.length < 65536)
    (ho3 : w3.ownsRow B 60 3 (.slice (some ⟨g, 0, none⟩) (l.length + 1) cap3) (l.length + 1) (flat tenc l ++ tenc x)) (hf3 : Fr (fun k => v.ownBlock = some k) W w3) :
    Tok B (w3.setCell ⟨p, 0, none⟩ (.slice (some ⟨g, 0, none⟩) (l.length + 1) cap3)) p (.slice (some ⟨g, 0, none⟩) (l.length + 1) cap3) (l ++ [x]) ∧
      Fr (tfoot p v) W (w3.setCell ⟨p, 0, none⟩ (.slice (some ⟨g, 0, none⟩) (l.length + 1) cap3)) := by
  have hb3 := hf3.blk hT.blk hT.row_ne
  have hn := row_ne_blk ho3 hb3 (by decide)
  refine ⟨⟨hT.lo, blk_setCell hb3, ?_, by simp; omega⟩, ?_⟩
  · rw [flat_append, flat_one, List.length_append, List.length_singleton]
    refine (((Fr.refl (fun k => k = p) w3).setCell (p := ⟨p, 0, none⟩) (.inl rfl) _)).row ho3 (fun k hk e => hn ?_)
    rw [hk]; exact congrArg some e
  · exact (hf3.mono (fun x _ e => .inr e)).setCell (.inl (.inl rfl)) _

/-- What a Make that succeeds leaves. -/
def MakeOk (B : Nat) (w : World) (p : Nat) (v : Value) (l : List T3) (x : T3) (e : Ending) (w' : World) : Prop :=
  ∃ v', e = .returned (.tuple #[.int .i64 (l.length + 1), .int .i64 0]) ∧ Tok B w' p v' (l ++ [x]) ∧ Fr (tfoot p v) w w' ∧ (∀ k, tfoot p v' k → tfoot p v k ∨ w.heap.size ≤ k)

set_option maxHeartbeats 1600000 in
theorem make_ok (h : Tok B w p v l) {n : Int} (hn : n = 0 ∨ Tk.ok l n) (hlt : l.length < 65536) (hB : B ≤ w.heap.size) :
    Calls Try.prog 11 #[.pointer (some ⟨p, 0, none⟩), .int .i64 n] w (MakeOk B w p v l ⟨n, 0, (Tk.at_ l n).why⟩) := by
  obtain ⟨a, cap, rfl⟩ := h.lenV
  have hc := h.cell
  have hf := h.notFrozen 0
  have h65 : decide ((65536 : Int) ≤ (l.length : Int)) = false := decide_eq_false (by omega)
  have HL := hide hlt
  clear hlt
  rcases hn with rfl | hn
  · have h0 : ¬ Tk.ok l 0 := by unfold Tk.ok; omega
    have e : (Tk.at_ l 0).why = 0 := by simp [Tk.at_, h0]
    rw [e]
    clear e
    go_enter Try.func11, Try.ntmps11
    go_wp2_with (go_at_call 26; refine (get_out h h0).mono ?_; rintro e w' ⟨rfl, rfl⟩)
    have hT := h.below ((Below.refl _ _).alloc (Nat.le_refl _) (.cells #[.int .i64 0, .int .i64 0, .int .i64 0] 60))
    have hX := heap_alloc_new w (.cells #[.int .i64 0, .int .i64 0, .int .i64 0] 60)
    have hFW := (Fr.refl (tfoot p (.slice a l.length cap)) w).alloc (.cells #[.int .i64 0, .int .i64 0, .int .i64 0] 60)
    obtain ⟨W, hW⟩ : ∃ W, W = w.alloc (.cells #[.int .i64 0, .int .i64 0, .int .i64 0] 60) := ⟨_, rfl⟩
    rw [← hW] at hT hX hFW ⊢
    clear hW hc hf h
    have hq := lt_of_blk hX
    have hc := hT.cell
    have hf := hT.notFrozen 0
    have x0 : W.cell? ⟨w.heap.size, 0, none⟩ = some (.int .i64 0) := by simp [World.cell?, hX]
    have x1 : W.cell? ⟨w.heap.size, 1, none⟩ = some (.int .i64 0) := by simp [World.cell?, hX]
    have x2 : W.cell? ⟨w.heap.size, 2, none⟩ = some (.int .i64 0) := by simp [World.cell?, hX]
    have e1 := World.new_ne W _ hc
    have e2 := World.new_ne W _ x0
    have hpB := lt_of_blk hT.blk
    have HX := hide hX
    have HFW := hide hFW
    clear hX hFW
    go_region_law (refine step_app rfl _ _ 54 rfl tokE B _ _ _ (hT.row.alloc _).drew rfl ⟨_, 0, none⟩ 1 1 rfl [.int .i64 0, .int .i64 0, .int .i64 0] rfl (news_last _ _ _ _ rfl _ (by simp)) (by simp [Value.oneCell']) (by omega) (by unfold maxLen; have := HL.out; omega) (by have := HL.out; omega) (by simp; omega) ?_; intro g cap3 w3 ho3 hf3 hg3; have hf4 := (((Fr.refl (fun k => (Value.slice a l.length cap).ownBlock = some k) W).alloc _).drew).trans hf3; have hb3 := hf4.blk hT.blk hT.row_ne; have k0 : w3.cell? ⟨p, 0, none⟩ = some (.slice a l.length cap) := (by simp [World.cell?, hb3]); have k1 : w3.frozen? ⟨p, 0, none⟩ = false := (by simp [World.frozen?, hb3]); have HB3 := hide hb3; clear hb3)
    all_goals
      have HE := hide (make_end (x := ⟨0, 0, 0⟩) hT HL.out ho3 hf4)
      have hg4 : w.heap.size ≤ g ∨ (Value.slice a l.length cap).ownBlock = some g := by
        rcases hg3 with h | h
        · exact .inr h
        · left; simp at h; omega
      have HG4 := hide hg4
      clear ho3 hf3 hf4 hg3 hT hg4
      go_wp2
      go_ret2
      refine ⟨_, rfl, HE.out.1, HFW.out.trans HE.out.2, ?_⟩
      rintro k (rfl | hk)
      · exact .inl (.inl rfl)
      · have e : g = k := by simpa [Value.ownBlock] using hk
        subst e
        exact HG4.out.elim .inr (fun h => .inl (.inr h))
  · rcases h.shape with ⟨_, rfl⟩ | ⟨d, cap', e, _⟩
    · unfold Tk.ok at hn; simp at hn; omega
    simp only [Value.slice.injEq, true_and] at e
    obtain ⟨rfl, rfl⟩ := e
    obtain ⟨c0, c1, c2⟩ := h.cells hn
    have hd := World.block_lt_of_cell? w _ c2
    have hd' : d < w.heap.size := hd
    have n0 : (n == 0) = false := by unfold Tk.ok at hn; simp; omega
    obtain ⟨hn1, hn2⟩ := id hn
    go_enter Try.func11, Try.ntmps11
    go_wp2_with (go_at_call 26; refine (get_in h hn).mono ?_; rintro e w' ⟨rfl, rfl⟩)
    have hT := h.below ((Below.refl _ _).alloc (Nat.le_refl _) (.cells #[.int .i64 n, .int .i64 0, .int .i64 (Tk.at_ l n).why] 60))
    have hX := heap_alloc_new w (.cells #[.int .i64 n, .int .i64 0, .int .i64 (Tk.at_ l n).why] 60)
    have hFW := (Fr.refl (tfoot p (.slice (some ⟨d, 0, none⟩) l.length cap)) w).alloc (.cells #[.int .i64 n, .int .i64 0, .int .i64 (Tk.at_ l n).why] 60)
    obtain ⟨W, hW⟩ : ∃ W, W = w.alloc (.cells #[.int .i64 n, .int .i64 0, .int .i64 (Tk.at_ l n).why] 60) := ⟨_, rfl⟩
    rw [← hW] at hT hX hFW ⊢
    clear hW hc hf h
    have hq := lt_of_blk hX
    have hc := hT.cell
    have hf := hT.notFrozen 0
    have x0 : W.cell? ⟨w.heap.size, 0, none⟩ = some (.int .i64 n) := by simp [World.cell?, hX]
    have x1 : W.cell? ⟨w.heap.size, 1, none⟩ = some (.int .i64 0) := by simp [World.cell?, hX]
    have x2 : W.cell? ⟨w.heap.size, 2, none⟩ = some (.int .i64 (Tk.at_ l n).why) := by simp [World.cell?, hX]
    have e1 := World.new_ne W _ hc
    have e2 := World.new_ne W _ x0
    have hpB := lt_of_blk hT.blk
    have HX := hide hX
    have HFW := hide hFW
    clear hX hFW
    go_region_law (refine step_app rfl _ _ 54 rfl tokE B _ _ _ (hT.row.alloc _).drew rfl ⟨_, 0, none⟩ 1 1 rfl [.int .i64 n, .int .i64 0, .int .i64 (Tk.at_ l n).why] rfl (news_last _ _ _ _ rfl _ (by simp)) (by simp [Value.oneCell']) (by omega) (by unfold maxLen; have := HL.out; omega) (by have := HL.out; omega) (by simp; omega) ?_; intro g cap3 w3 ho3 hf3 hg3; have hf4 := (((Fr.refl (fun k => (Value.slice (some ⟨d, 0, none⟩) l.length cap).ownBlock = some k) W).alloc _).drew).trans hf3; have hb3 := hf4.blk hT.blk hT.row_ne; have k0 : w3.cell? ⟨p, 0, none⟩ = some (.slice (some ⟨d, 0, none⟩) l.length cap) := (by simp [World.cell?, hb3]); have k1 : w3.frozen? ⟨p, 0, none⟩ = false := (by simp [World.frozen?, hb3]); have HB3 := hide hb3; clear hb3)
    all_goals
      have HE := hide (make_end (x := ⟨n, 0, (Tk.at_ l n).why⟩) hT HL.out ho3 hf4)
      have hg4 : w.heap.size ≤ g ∨ (Value.slice (some ⟨d, 0, none⟩) l.length cap).ownBlock = some g := by
        rcases hg3 with h | h
        · exact .inr h
        · left; simp at h; omega
      have HG4 := hide hg4
      clear ho3 hf3 hf4 hg3 hT hg4
      go_wp2
      go_ret2
      refine ⟨_, rfl, HE.out.1, HFW.out.trans HE.out.2, ?_⟩
      rintro k (rfl | hk)
      · exact .inl (.inl rfl)
      · have e : g = k := by simpa [Value.ownBlock] using hk
        subst e
        exact HG4.out.elim .inr (fun h => .inl (.inr h))

theorem make_bad (h : Tok B w p v l) {n : Int} (hn : n ≠ 0 ∧ ¬ Tk.ok l n) :
    Calls Try.prog 11 #[.pointer (some ⟨p, 0, none⟩), .int .i64 n] w fun e w' => e = .returned (.tuple #[.int .i64 0, .int .i64 60]) ∧ w = w' := by
  have n0 : (n == 0) = false := by simpa using hn.1
  go_enter Try.func11, Try.ntmps11
  go_wp2_with (go_at_call 26; refine (get_out h hn.2).mono ?_; rintro e w' ⟨rfl, rfl⟩)
  go_ret2
  exact ⟨rfl, rfl⟩

theorem make_many (h : Tok B w p v l) {n : Int} (hn : n = 0 ∨ Tk.ok l n) (hlt : 65536 ≤ l.length) :
    Calls Try.prog 11 #[.pointer (some ⟨p, 0, none⟩), .int .i64 n] w fun e w' => e = .returned (.tuple #[.int .i64 0, .int .i64 3]) ∧ w = w' := by
  obtain ⟨a, cap, rfl⟩ := h.lenV
  have hc := h.cell
  have h65 : decide ((65536 : Int) ≤ (l.length : Int)) = true := decide_eq_true (by omega)
  clear hlt
  rcases hn with rfl | hn
  · have h0 : ¬ Tk.ok l 0 := by unfold Tk.ok; omega
    go_enter Try.func11, Try.ntmps11
    go_wp2_with (go_at_call 26; refine (get_out h h0).mono ?_; rintro e w' ⟨rfl, rfl⟩)
    go_ret2
    exact ⟨rfl, rfl⟩
  · rcases h.shape with ⟨_, rfl⟩ | ⟨d, cap', e, _⟩
    · unfold Tk.ok at hn; simp at hn; omega
    simp only [Value.slice.injEq, true_and] at e
    obtain ⟨rfl, rfl⟩ := e
    have n0 : (n == 0) = false := by unfold Tk.ok at hn; simp; omega
    obtain ⟨hn1, hn2⟩ := id hn
    go_enter Try.func11, Try.ntmps11
    go_wp2_with (go_at_call 26; refine (get_in h hn).mono ?_; rintro e w' ⟨rfl, rfl⟩)
    go_ret2
    exact ⟨rfl, rfl⟩
end
end Go.Proofs.Ytjjpadifidbkhaa
