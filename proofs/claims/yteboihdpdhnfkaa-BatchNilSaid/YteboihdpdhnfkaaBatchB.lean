/- DERIVED. Batches (chapter 13): Due, Add, Send, Clone, New over a plain state. -/
import Derived.Test.YteboihdpdhnfkaaBatchA
namespace Go.Proofs.Yteboihdpdhnfkaa
open Go.RowKit Cv

section
variable {B : Nat} {w : World} {p : Nat} {v : Value} {s : BS}

set_option maxHeartbeats 800000 in
theorem bdue_any (h : Bat B w p v s) : Calls Try.prog 9 #[.pointer (some ⟨p, 0, none⟩)] w fun e w' => e = .returned (.tuple #[.int .i64 (Bt.due s).1, .bool (Bt.due s).2]) ∧ ∃ n, w' = w.drewN n := by
  obtain ⟨c0, c1, c2, c3, c4, c5, c6⟩ := h.cells
  obtain ⟨ao, cap, rfl⟩ := slice_of_row h.row
  by_cases hl : s.L = []
  · have hl1 : ((s.L.length : Int) == 0) = true := by simp [hl]
    have e : Bt.due s = (0, false) := by simp [Bt.due, hl]
    rw [e]
    clear h hl e
    go_enter Try.func9, Try.ntmps9
    go_wp2
    go_ret2
    exact ⟨rfl, 0, rfl⟩
  · have hl1 : ((s.L.length : Int) == 0) = false := by simp; exact hl
    have e : Bt.due s = ((afterT s.first s.window).1, true) := by simp [Bt.due, hl]
    rw [e]
    clear h hl e
    go_enter Try.func9, Try.ntmps9
    go_wp2
    go_quiet ((go_at_call 23; exact quiet_same (after_any _ _ _)))
    go_wp2
    go_ret2
    exact ⟨rfl, _, rfl⟩

/-- What an Add or a Send leaves. -/
def Adds (B : Nat) (w : World) (p : Nat) (v : Value) (q : BS × List Int × Int) (e : Ending) (w' : World) : Prop :=
  ∃ r v', e = .returned (.tuple #[r, .int .i64 q.2.2]) ∧ Bat B w' p v' q.1 ∧ w'.ownsRow B 3 1 r q.2.1.length (ints q.2.1) ∧ (∀ k, v'.ownBlock = some k → (v.ownBlock = some k ∨ w.heap.size ≤ k) ∧ ¬ r.ownBlock = some k) ∧
    (∀ k, r.ownBlock = some k → v.ownBlock = some k ∨ w.heap.size ≤ k) ∧ Fr (bfoot p v) w w'

theorem adds_same (h : Bat B w p v s) (c : Int) : Adds B w p v (s, [], c) (.returned (.tuple #[.slice none 0 0, .int .i64 c])) w :=
  ⟨_, v, rfl, h, World.ownsRow_nil _ _ _ _, fun k hk => ⟨.inl hk, by simp [Value.ownBlock]⟩, by simp [Value.ownBlock], Fr.refl _ _⟩

set_option maxHeartbeats 1600000 in
theorem bsend_any (h : Bat B w p v s) (hO : Bt.Ok s) (now : Int) : Calls Try.prog 17 #[.pointer (some ⟨p, 0, none⟩), .int .i64 now] w (Adds B w p v (Bt.send s now)) := by
  have f4 := h.notFrozen 4
  by_cases hb : Bt.bad s now = 0
  · have hb1 : (Bt.bad s now != 0) = false := by simp [hb]
    obtain ⟨c0, c1, c2, c3, c4, c5, c6⟩ := h.cells
    have h1 : Bat B (w.setCell ⟨p, 4, none⟩ (.int .i64 now)) p v (Bt.at_ s now) := ⟨h.lo, set_blk h.blk _, row_set h.row h.row_ne⟩
    have hF1 : Fr (bfoot p v) w (w.setCell ⟨p, 4, none⟩ (.int .i64 now)) := (Fr.refl _ _).setCell (p := ⟨p, 4, none⟩) (.inl (.inl rfl)) _
    have hO1 : Bt.Ok (Bt.at_ s now) := ⟨hO.len, hO.win, hO.sent⟩
    cases hs : Bt.sends (Bt.at_ s now) now with
    | true =>
      have e : Bt.send s now = (Bt.force (Bt.at_ s now), s.L, 0) := by rw [Bt.send, if_neg (by simp [hb]), if_pos hs]
      rw [e]
      have hs2 : (Bt.due (Bt.at_ s now)).2 = true ∧ (Bt.due (Bt.at_ s now)).1 ≤ now := by simpa [Bt.sends] using hs
      obtain ⟨d1, d2⟩ := hs2
      have HB := hide hb
      clear hb e hs c0 c1 c2 c3 c5 c6
      go_enter Try.func17, Try.ntmps17
      go_wp2_with (first
        | (go_at_call 26; refine (bmay_any h now).mono ?_; rintro e w' ⟨rfl, rfl⟩)
        | (go_at_call 9; refine (bdue_any h1).mono ?_; rintro e w' ⟨rfl, nd, rfl⟩)
        | (go_at_call 18; refine (bforce_any (h1.below (below_drewN' (Below.refl _ _) nd)) hO1).mono ?_; rintro e w3 ⟨r, v', rfl, hT, hr, hk1, hk2, hf⟩))
      go_ret2
      exact ⟨r, v', rfl, hT, hr, fun k hk => ⟨.inl (hk2 k hk).1, (hk2 k hk).2⟩, fun k hk => .inl (hk1 k hk), (hF1.drewN nd).trans hf⟩
    | false =>
      have e : Bt.send s now = (Bt.at_ s now, [], 0) := by rw [Bt.send, if_neg (by simp [hb]), if_neg (by simp [hs])]
      rw [e]
      have HB := hide hb
      have HS := hide hs
      clear hb e c0 c1 c2 c3 c5 c6
      have h2 : ∀ nd, Bat B ((w.setCell ⟨p, 4, none⟩ (.int .i64 now)).drewN nd) p v (Bt.at_ s now) := fun nd => h1.below (below_drewN' (Below.refl _ _) nd)
      cases d1 : (Bt.due (Bt.at_ s now)).2 with
      | true =>
        have d2 : ¬ (Bt.due (Bt.at_ s now)).1 ≤ now := by simpa [Bt.sends, d1] using HS.out
        go_enter Try.func17, Try.ntmps17
        go_wp2_with (first
          | (go_at_call 26; refine (bmay_any h now).mono ?_; rintro e w' ⟨rfl, rfl⟩)
          | (go_at_call 9; refine (bdue_any h1).mono ?_; rintro e w' ⟨rfl, nd, rfl⟩))
        go_ret2
        exact ⟨_, v, rfl, h2 nd, World.ownsRow_nil _ _ _ _, fun k hk => ⟨.inl hk, by simp [Value.ownBlock]⟩, by simp [Value.ownBlock], hF1.drewN nd⟩
      | false =>
        go_enter Try.func17, Try.ntmps17
        go_wp2_with (first
          | (go_at_call 26; refine (bmay_any h now).mono ?_; rintro e w' ⟨rfl, rfl⟩)
          | (go_at_call 9; refine (bdue_any h1).mono ?_; rintro e w' ⟨rfl, nd, rfl⟩))
        go_ret2
        exact ⟨_, v, rfl, h2 nd, World.ownsRow_nil _ _ _ _, fun k hk => ⟨.inl hk, by simp [Value.ownBlock]⟩, by simp [Value.ownBlock], hF1.drewN nd⟩
  · have e : Bt.send s now = (s, [], Bt.bad s now) := by rw [Bt.send, if_pos hb]
    rw [e]
    have hb1 : (Bt.bad s now != 0) = true := by simp [hb]
    clear e hb
    go_enter Try.func17, Try.ntmps17
    go_wp2_with (go_at_call 26; refine (bmay_any h now).mono ?_; rintro e w' ⟨rfl, rfl⟩)
    go_ret2
    exact adds_same h _

set_option maxHeartbeats 1600000 in
theorem badd_bad (h : Bat B w p v s) (now run : Int) (hq : Bt.bad s now ≠ 0 ∨ run < 1 ∨ run ≤ s.last) :
    Calls Try.prog 16 #[.pointer (some ⟨p, 0, none⟩), .int .i64 now, .int .i64 run] w (Adds B w p v (Bt.add s now run)) := by
  obtain ⟨c0, c1, c2, c3, c4, c5, c6⟩ := h.cells
  clear c0 c1 c2 c3 c4 c6
  by_cases hb : Bt.bad s now = 0
  · have hb1 : (Bt.bad s now != 0) = false := by simp [hb]
    by_cases hr : run < 1
    · have e : Bt.add s now run = (s, [], 1) := by rw [Bt.add, if_neg (by simp [hb]), if_pos hr]
      rw [e]
      clear e hb hq
      go_enter Try.func16, Try.ntmps16
      go_wp2_with (go_at_call 26; refine (bmay_any h now).mono ?_; rintro e w' ⟨rfl, rfl⟩)
      go_ret2
      exact adds_same h _
    · have hl : run ≤ s.last := by omega
      have e : Bt.add s now run = (s, [], 130) := by rw [Bt.add, if_neg (by simp [hb]), if_neg hr, if_pos hl]
      rw [e]
      clear e hb hq
      go_enter Try.func16, Try.ntmps16
      go_wp2_with (go_at_call 26; refine (bmay_any h now).mono ?_; rintro e w' ⟨rfl, rfl⟩)
      go_ret2
      exact adds_same h _
  · have e : Bt.add s now run = (s, [], Bt.bad s now) := by rw [Bt.add, if_pos hb]
    rw [e]
    have hb1 : (Bt.bad s now != 0) = true := by simp [hb]
    clear e hb hq
    go_enter Try.func16, Try.ntmps16
    go_wp2_with (go_at_call 26; refine (bmay_any h now).mono ?_; rintro e w' ⟨rfl, rfl⟩)
    go_ret2
    exact adds_same h _

/-- An Add, ahead of its list. -/
def Bt.pre (s : BS) (now run : Int) : BS := { s with now := now, last := run, first := if s.L = [] then now else s.first }

theorem Bt.more_pre (s : BS) (now run : Int) : Bt.more s now run = { Bt.pre s now run with L := s.L ++ [run] } := rfl

/-- The batch with one run more. -/
def Grown (B : Nat) (w : World) (p : Nat) (v : Value) (q : BS) (W : World) : Prop :=
  ∃ v', Bat B W p v' q ∧ (∀ k, v'.ownBlock = some k → v.ownBlock = some k ∨ w.heap.size ≤ k) ∧ Fr (bfoot p v) w W

def Pred (B : Nat) (w : World) (p : Nat) (v : Value) (q : BS) (W : World) : Prop := Bat B W p v q ∧ Fr (bfoot p v) w W

theorem adds_blk {g n cap3 k : Nat} (hO : v.ownBlock = some g ∨ w.heap.size ≤ g) (e : (Value.slice (some ⟨g, 0, none⟩) n cap3).ownBlock = some k) : v.ownBlock = some k ∨ w.heap.size ≤ k := by
  have e : g = k := by simpa [Value.ownBlock] using e
  subst e
  exact hO

theorem adds_end {W w5 : World} {nq : Nat} {g n cap3 : Nat} {q : BS} {r v5 : Value} (hT : Bat B W p (.slice (some ⟨g, 0, none⟩) n cap3) q) (hO : v.ownBlock = some g ∨ w.heap.size ≤ g) (hF : Fr (bfoot p v) w W)
    (hT5 : Bat B w5 p v5 (Bt.force q)) (hr5 : w5.ownsRow B 3 1 r q.L.length (ints q.L)) (hk1 : ∀ k, r.ownBlock = some k → (Value.slice (some ⟨g, 0, none⟩) n cap3).ownBlock = some k)
    (hk2 : ∀ k, v5.ownBlock = some k → (Value.slice (some ⟨g, 0, none⟩) n cap3).ownBlock = some k ∧ ¬ r.ownBlock = some k) (hf5 : Fr (bfoot p (.slice (some ⟨g, 0, none⟩) n cap3)) (W.drewN nq) w5) :
    Adds B w p v (Bt.force q, q.L, 0) (.returned (.tuple #[r, .int .i64 0])) w5 := by
  have hk : ∀ k, (Value.slice (some ⟨g, 0, none⟩) n cap3).ownBlock = some k → v.ownBlock = some k ∨ w.heap.size ≤ k := by
    intro k e
    have e : g = k := by simpa [Value.ownBlock] using e
    subst e
    exact hO
  refine ⟨r, v5, rfl, hT5, hr5, fun k h => ⟨hk k (hk2 k h).1, (hk2 k h).2⟩, fun k h => hk k (hk1 k h), (hF.drewN nq).trans' hf5 ?_⟩
  rintro k hlt (rfl | h)
  · exact .inl rfl
  · rcases hk k h with h | h
    · exact .inr h
    · exact absurd hlt (by omega)

set_option maxHeartbeats 3200000 in
theorem badd_ok (h : Bat B w p v s) (hO : Bt.Ok s) (hlen : s.L.length < 1024) (hB : B ≤ w.heap.size) (now run : Int) (hb : Bt.bad s now = 0) (hr : ¬ run < 1) (hl : ¬ run ≤ s.last) :
    Calls Try.prog 16 #[.pointer (some ⟨p, 0, none⟩), .int .i64 now, .int .i64 run] w (Adds B w p v (Bt.add s now run)) := by
  obtain ⟨c0, c1, c2, c3, c4, c5, c6⟩ := h.cells
  have f3 := h.notFrozen 3
  have f4 := h.notFrozen 4
  have f5 := h.notFrozen 5
  have hb1 : (Bt.bad s now != 0) = false := by simp [hb]
  have HP : Hide (Pred B w p v (Bt.pre s now run) ((w.setCell ⟨p, 4, none⟩ (.int .i64 now)).setCell ⟨p, 5, none⟩ (.int .i64 run)) ∨ s.L = []) := by
    by_cases e : s.L = []
    · exact hide (.inr e)
    · refine hide (.inl ⟨⟨h.lo, ?_, row_set (row_set h.row h.row_ne) h.row_ne⟩, ((Fr.refl _ _).setCell (p := ⟨p, 4, none⟩) (.inl (.inl rfl)) _).setCell (p := ⟨p, 5, none⟩) (.inl (.inl rfl)) _⟩)
      have := set_blk (set_blk h.blk (i := 4) (.int .i64 now)) (i := 5) (.int .i64 run)
      simpa [bcells, Bt.pre, e] using this
  have HP2 : Hide (s.L = [] → Pred B w p v (Bt.pre s now run) (((w.setCell ⟨p, 4, none⟩ (.int .i64 now)).setCell ⟨p, 5, none⟩ (.int .i64 run)).setCell ⟨p, 3, none⟩ (.int .i64 now))) := by
    refine hide (fun e => ⟨⟨h.lo, ?_, row_set (row_set (row_set h.row h.row_ne) h.row_ne) h.row_ne⟩, (((Fr.refl _ _).setCell (p := ⟨p, 4, none⟩) (.inl (.inl rfl)) _).setCell (p := ⟨p, 5, none⟩) (.inl (.inl rfl)) _).setCell (p := ⟨p, 3, none⟩) (.inl (.inl rfl)) _⟩)
    have := set_blk (set_blk (set_blk h.blk (i := 4) (.int .i64 now)) (i := 5) (.int .i64 run)) (i := 3) (.int .i64 now)
    simpa [bcells, Bt.pre, e] using this
  obtain ⟨ao, cap, rfl⟩ := slice_of_row h.row
  have HA : Hide (Bt.add s now run = (if Bt.full (Bt.more s now run) then (Bt.force (Bt.more s now run), (Bt.more s now run).L, 0) else (Bt.more s now run, [], 0))) := hide (by rw [Bt.add, if_neg (by simp [hb]), if_neg hr, if_neg hl])
  clear hb
  go_enter Try.func16, Try.ntmps16
  go_upto_if 38 with (go_at_call 26; refine (bmay_any h now).mono ?_; rintro e w' ⟨rfl, rfl⟩)
  go_cut [] (fun W => Pred B w p (.slice ao s.L.length cap) (Bt.pre s now run) W)
  case first =>
    by_cases e : s.L = []
    · have hl1 : ((s.L.length : Int) == 0) = true := by simp [e]
      have P := hide (HP2.out e)
      clear e HP HP2 h
      go_wp2
      go_meet
      exact P.out
    · have hl1 : ((s.L.length : Int) == 0) = false := by simp; exact e
      have P := hide (HP.out.resolve_right e)
      clear e HP HP2 h
      go_wp2
      go_meet
      exact P.out
  case rest =>
    obtain ⟨h2, hF2⟩ := hcut
    clear HP HP2 c0 c1 c2 c3 c4 c5 c6 f3 f4 f5 hb1
    have d2 := h2.cells.2.2.1
    have hlen2 : (Bt.pre s now run).L.length < 1024 := hlen
    have ho := h2.row
    have hBc : B ≤ wc.heap.size := by have := hF2.size; omega
    have hB2 := h2.blk
    have hN2 := h2.row_ne
    have hLt := lt_of_blk hB2
    go_upto_region 12 with (at_builtin; (refine wpList_app rfl _ _ 29 rfl intsE B _ _ _ (row_alloc ho _) rfl ⟨_, 0, none⟩ 1 1 rfl [.int .i64 run] rfl (news_last _ _ _ _ rfl _ (by simp)) (by simp [Value.oneCell']) (by omega) (by unfold maxLen; omega) (by omega) (by simp; omega) ?_); intro g cap3 w3 ho3 hf3 hg3; have b3 := hide (hf3.blk (((Fr.refl (fun _ => False) wc).alloc _).blk hB2 id) hN2); have fz : w3.frozen? ⟨p, 2, none⟩ = false := (by simp [World.frozen?, b3.out]); have cz : w3.cell? ⟨p, 2, none⟩ = some (.slice ao s.L.length cap) := (by simp [World.cell?, b3.out, bcells]))
    have hp : ¬ (Value.slice (some ⟨g, 0, none⟩) ((Bt.pre s now run).L.length + 1) cap3).ownBlock = some p := by
      intro e
      have e : g = p := by simpa [Value.ownBlock] using e
      rcases hg3 with hg3 | hg3
      · exact hN2 (by rw [hg3, e])
      · simp at hg3; omega
    have hT4 : Bat B (w3.setCell ⟨p, 2, none⟩ (.slice (some ⟨g, 0, none⟩) ((Bt.pre s now run).L.length + 1) cap3)) p (.slice (some ⟨g, 0, none⟩) ((Bt.pre s now run).L.length + 1) cap3) (Bt.more s now run) := by
      refine ⟨h2.lo, ?_, ?_⟩
      · have := set_blk b3.out (i := 2) (.slice (some ⟨g, 0, none⟩) ((Bt.pre s now run).L.length + 1) cap3)
        simpa [bcells, Bt.more, Bt.pre] using this
      · have := row_set (i := 2) (p := p) (u := .slice (some ⟨g, 0, none⟩) ((Bt.pre s now run).L.length + 1) cap3) ho3 hp
        simpa [Bt.more, Bt.pre, ints] using this
    have hF4 : Fr (bfoot p (.slice ao s.L.length cap)) w (w3.setCell ⟨p, 2, none⟩ (.slice (some ⟨g, 0, none⟩) ((Bt.pre s now run).L.length + 1) cap3)) :=
      ((hF2.alloc _).trans (hf3.mono (fun k _ hk => .inr hk))).setCell (p := ⟨p, 2, none⟩) (.inl (.inl rfl)) _
    have hO4 : (Value.slice ao s.L.length cap).ownBlock = some g ∨ w.heap.size ≤ g := by
      rcases hg3 with hg3 | hg3
      · exact .inl hg3
      · right; have := hF2.size; simp at hg3; omega
    generalize hW : w3.setCell ⟨p, 2, none⟩ (.slice (some ⟨g, 0, none⟩) ((Bt.pre s now run).L.length + 1) cap3) = W at hT4 hF4 ⊢
    have HW := hide hW
    clear hW hf3 hg3 fz cz b3 ho3
    obtain ⟨e0, e1, e2, -⟩ := hT4.cells
    have HT := hide hT4
    have hO5 : Hide (Bt.Ok (Bt.more s now run)) := hide ⟨by simp [Bt.more]; omega, hO.win, hO.sent⟩
    have hfull : Bt.full (Bt.more s now run) = (decide ((Bt.more s now run).count ≤ ((Bt.pre s now run).L.length : Int) + 1) || (Bt.more s now run).window == 0) := by
      simp [Bt.full, Bt.more, Bt.pre]; rfl
    clear hT4
    by_cases g1 : (Bt.more s now run).count ≤ ((Bt.pre s now run).L.length : Int) + 1
    · have HE := hide (HA.out.trans (if_pos (by rw [hfull]; simp [g1])))
      clear hfull HA
      go_quiet (fail)
      go_wp2_with (go_at_call 18; refine (bforce_any (HT.out.below (below_drewN' (Below.refl _ _) _)) hO5.out).mono ?_; rintro e w5 ⟨r, v5, rfl, hT5, hr5, hk1, hk2, hf5⟩)
      go_ret2
      rw [HE.out]; exact adds_end HT.out hO4 hF4 hT5 hr5 hk1 hk2 hf5
    · have g1' : ((Bt.pre s now run).L.length : Int) + 1 < (Bt.more s now run).count := by omega
      cases g2 : ((Bt.more s now run).window == 0)
      · have HE := hide (HA.out.trans (if_neg (by rw [hfull, g2]; simp [g1])))
        clear hfull HA
        go_quiet (fail)
        go_wp2
        go_ret2
        rw [HE.out]
        exact ⟨_, _, rfl, HT.out.below (below_drewN' (Below.refl _ _) _), World.ownsRow_nil _ _ _ _, fun k hk => ⟨adds_blk hO4 hk, by simp [Value.ownBlock]⟩, by simp [Value.ownBlock], hF4.drewN _⟩
      · have HE := hide (HA.out.trans (if_pos (by rw [hfull, g2]; simp)))
        clear hfull HA
        go_quiet (fail)
        go_wp2_with (go_at_call 18; refine (bforce_any (HT.out.below (below_drewN' (Below.refl _ _) _)) hO5.out).mono ?_; rintro e w5 ⟨r, v5, rfl, hT5, hr5, hk1, hk2, hf5⟩)
        go_ret2
        rw [HE.out]; exact adds_end HT.out hO4 hF4 hT5 hr5 hk1 hk2 hf5
end
end Go.Proofs.Yteboihdpdhnfkaa
