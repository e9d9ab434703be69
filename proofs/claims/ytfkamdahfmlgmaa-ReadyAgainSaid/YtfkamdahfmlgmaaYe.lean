/- DERIVED. Ready ones, by any policy and picks: what each function tells. -/
import Derived.Test.YtfkamdahfmlgmaaYd
import Derived.Test.YtfkamdahfmlgmaaVcc
import Derived.Test.YtfkamdahfmlgmaaYc
import Derived.Test.YtfkamdahfmlgmaaVp
namespace Go.Proofs.Ytfkamdahfmlgmaa
set_option linter.unusedSimpArgs false
set_option linter.unusedVariables false
open Go Sl Cv Go.RowKit
abbrev rgc (q : Nat) (pol lot : Int) (pa : Option Addr) (pn pc : Nat) (a : Option Addr) (n c : Nat) : List Value := [.int .i64 pol, .int .u64 lot, .slice pa pn pc, .slice a n c, ptr q]
abbrev rd0 (r q : Nat) (pol lot : Int) (pa : Option Addr) (pc : Nat) (P : List Int) (a : Option Addr) (c : Nat) (TD : List Int) (F : List HP) : List HP :=
  blk r (.cells (rgc q pol lot pa P.length pc a TD.length c).toArray 60 (0, 0)) :: irow pa pc P :: irow a c TD :: F
/-- Who is ready. -/
structure RS where
  pol : Int
  lot : Int
  P : List Int
  TD : List Int
  L : List Int
structure ROk (S : RS) : Prop where
  pol : 0 ≤ S.pol ∧ S.pol ≤ 4
  lot : 0 ≤ S.lot ∧ S.lot < 18446744073709551616
  nd : S.L.Nodup
  len : S.L.length ≤ 65536
  td : S.TD.length ≤ 8900000000000
  pk : S.P.length ≤ 65536
structure RW (S : RS) (b : Nat) where
  q : Nat
  m1 : Nat
  m2 : Nat
  pa : Option Addr
  pc : Nat
  a : Option Addr
  c : Nat
  fr : Int
  ut : Int
  LL : LL
  ti : TI fr ut LL
  fru : fr ≤ ut
  utb : ut ≤ b
  it : its LL = S.L
abbrev rdg (r : Nat) (S : RS) {b : Nat} (w : RW S b) (F : List HP) : List HP := rd0 r w.q S.pol S.lot w.pa w.pc S.P w.a w.c S.TD (tq w.q w.m1 w.m2 w.fr w.ut w.LL F)
structure RDY (r : Nat) (S : RS) (b : Nat) (h : PH) : Prop where
  is : ∃ w : RW S b, Sat h (rdg r S w [])
theorem rshut {r : Nat} {S : RS} {b : Nat} (w : RW S b) (F : List HP) : Ent (rdg r S w F) (RDY r S b :: F) := Ent.exI (A := RDY r S b) (B := rdg r S w []) fun _ s => ⟨⟨w, s⟩⟩
theorem rsp {r : Nat} {S : RS} {b : Nat} {F : List HP} {f : FuncId} {args : List Value} {Post : Value → List HP → Prop} (H : ∀ w : RW S b, Sp Try.prog f args (rdg r S w F) Post) : Sp Try.prog f args (RDY r S b :: F) Post := Sp.exI (fun _ a => a.is) H
theorem rle {r : Nat} {S : RS} {b b' : Nat} (h : b ≤ b') {F : List HP} : Ent (RDY r S b :: F) (RDY r S b' :: F) := fun _ s => by
  obtain ⟨T, ⟨w, hw⟩, hl⟩ := s
  exact ⟨T, ⟨⟨⟨w.q, w.m1, w.m2, w.pa, w.pc, w.a, w.c, w.fr, w.ut, w.LL, w.ti, w.fru, by have := w.utb; omega, w.it⟩, hw⟩⟩, hl⟩
def pkS (S : RS) : Option Int := S.P[S.TD.length]?
def plS (S : RS) : Nat × Int := plc S.pol S.lot S.L (pkS S)
def wakeE (S : RS) (x : Int) : Int := if x ∈ S.L then 40 else if 65536 ≤ S.L.length then 3 else 0
def wakeS (S : RS) (x : Int) : RS := if x ∈ S.L ∨ 65536 ≤ S.L.length then S else { S with L := S.L ++ [x] }
def restS (S : RS) (x : Int) : RS := { S with L := S.L.filter fun y => decide (y ≠ x) }
def pickS (S : RS) : RS := { S with lot := (plS S).2, TD := S.TD ++ [((plS S).1 : Int)], L := S.L.eraseIdx (plS S).1 }
theorem ROk.wake {S : RS} (h : ROk S) (x : Int) : ROk (wakeS S x) := by
  unfold wakeS
  split
  · exact h
  · rename_i hx
    have h1 : x ∉ S.L := fun h => hx (.inl h)
    have h2 : ¬ 65536 ≤ S.L.length := fun h => hx (.inr h)
    exact ⟨h.pol, h.lot, List.nodup_append.2 ⟨h.nd, by simp, fun a ha b hb e => by simp at hb; subst hb; subst e; exact h1 ha⟩, by simp; omega, h.td, h.pk⟩
theorem ROk.rest {S : RS} (h : ROk S) (x : Int) : ROk (restS S x) := ⟨h.pol, h.lot, h.nd.filter _, Nat.le_trans (List.length_filter_le _ _) h.len, h.td, h.pk⟩
theorem ROk.plt {S : RS} (h : ROk S) (h0 : 0 < S.L.length) : (plS S).1 < S.L.length := plc_lt _ _ _ _ h0 h.len
theorem ROk.pick {S : RS} (h : ROk S) (h0 : 0 < S.L.length) (ht : S.TD.length < 8900000000000) : ROk (pickS S) :=
  ⟨h.pol, plc_lot _ _ _ _ h.lot, h.nd.sublist (List.eraseIdx_sublist _ _), by show (S.L.eraseIdx _).length ≤ 65536; rw [List.length_eraseIdx_of_lt (h.plt h0)]; have := h.len; omega, by show (S.TD ++ [_]).length ≤ _; simp; omega, h.pk⟩
theorem erase_fil {l : List Int} (hn : l.Nodup) {k : Nat} (hk : k < l.length) : l.filter (fun y => decide (y ≠ l[k])) = l.eraseIdx k := by
  have e : l = l.take k ++ l[k] :: l.drop (k + 1) := by rw [← List.drop_eq_getElem_cons hk, List.take_append_drop]
  rw [List.eraseIdx_eq_take_drop_succ]
  have hn2 : (l[k] :: (l.take k ++ l.drop (k + 1))).Nodup := by
    have h := hn
    rw [e] at h
    exact (List.perm_middle.nodup_iff).1 h
  have hni := (List.nodup_cons.1 hn2).1
  generalize l[k] = x at e hni
  have h3 : (l.take k ++ x :: l.drop (k + 1)).filter (fun y => decide (y ≠ x)) = (l.take k ++ l.drop (k + 1)).filter (fun y => decide (y ≠ x)) := by
    rw [List.filter_append, List.filter_append, List.filter_cons]; simp
  rw [e, h3]
  have e2 : (List.take k (List.take k l ++ x :: List.drop (k + 1) l)) = List.take k l := by rw [← e]
  have e4 : (List.drop (k + 1) (List.take k l ++ x :: List.drop (k + 1) l)) = List.drop (k + 1) l := by rw [← e]
  rw [e2, e4]
  exact List.filter_eq_self.2 fun y hy => by simp; rintro rfl; exact hni hy
theorem its_rem (L : LL) (x : Int) : its (rem L x) = (its L).filter fun y => decide (y ≠ x) := by simp only [its, rem, List.filter_map]; rfl
/-! ### whose turn it is -/
section
variable (r q : Nat) (pol lot : Int) (pa : Option Addr) (pc : Nat) (P : List Int) (a : Option Addr) (c : Nat) (TD : List Int) (F : List HP) (a2 : Option Addr) (c2 : Nat) (l : List Int)
set_option maxHeartbeats 4000000 in
theorem rplace_pick (x : Int) (hx : P[TD.length]? = some x) (h0 : 0 < l.length) (hl : l.length ≤ 65536) (hP : P.length ≤ 65536) : Sp Try.prog 30 [ptr r, .slice a2 l.length c2] (irow a2 c2 l :: rd0 r q pol lot pa pc P a c TD F) fun v M => v = .tuple #[.int .i64 (plc pol lot l (some x)).1, .int .u64 (plc pol lot l (some x)).2] ∧ M = irow a2 c2 l :: rd0 r q pol lot pa pc P a c TD F := by
  obtain ⟨hlt, hxx⟩ := List.getElem?_eq_some_iff.1 hx
  have hx2 : (ints P)[TD.length]? = some (.int .i64 x) := by rw [ints_at P _ hlt, hxx]
  have hpos : 0 < (ints P).length := by simp [ints]; omega
  obtain ⟨h1, h2, h3⟩ := tm_rng x h0
  have e : ((plc pol lot l (some x)).1 : Int) = if x.tmod l.length < 0 then x.tmod l.length + l.length else x.tmod l.length := by
    show ((((x.tmod l.length + l.length).tmod l.length).toNat : Nat) : Int) = _
    rw [h3]; split <;> omega
  have e2 : (plc pol lot l (some x)).2 = lot := rfl
  rw [e, e2]
  clear e e2 h3
  by_cases hn : x.tmod l.length < 0
  · rw [if_pos hn]
    refine y_of Try.func30 rfl Try.ntmps30 rfl fun w0 => ?_
    (repeat' (first | (show KQ (WL _ _ _ _ _) _ _ _ _; first | refine yW p_move ?_ | refine yW p_asg ?_ | refine yA ?_ | refine yW p_ld ?_ | refine yW p_lda ?_ | refine yB ?_ | refine yW p_nil ?_ | refine yW p_nilf ?_ | refine yW p_ext ?_ | refine yW p_idx ?_ | refine yW p_idxl ?_ | refine yW p_len ?_ | refine yW p_lens ?_ | refine yW p_lenm ?_ | fail) | (show KQ (CD _ _ _ _ _) _ _ _ _; first | refine yT ?_ | refine yF ?_ | fail) | ((first | refine yC ?_ ?_) <;> (intro hc; (try simp only [hcS] at hc); try exact dD)) | refine yE ?_ | fail))
    all_goals (refine y_cr ?_; refine kq_draw0 6 7 ?_; (all_goals refine kq_take 0 rfl p_move ?_); (all_goals refine kq_take 1 rfl p_move ?_); (all_goals (first | refine kq_take 2 rfl p_nil ?_ | refine kq_take 2 rfl p_nilf ?_)); (all_goals refine tkf 3 ?_); (all_goals refine tkl 4 ?_); (all_goals refine kq_take 5 rfl p_asg ?_); (all_goals refine kq_take 6 rfl p_asg ?_); (all_goals refine kq_done ?_))
    all_goals (repeat' (first | (show KQ (WL _ _ _ _ _) _ _ _ _; first | refine yW p_move ?_ | refine yW p_asg ?_ | refine yA ?_ | refine yW p_ld ?_ | refine yW p_lda ?_ | refine yB ?_ | refine yW p_nil ?_ | refine yW p_nilf ?_ | refine yW p_ext ?_ | refine yW p_idx ?_ | refine yW p_idxl ?_ | refine yW p_len ?_ | refine yW p_lens ?_ | refine yW p_lenm ?_ | fail) | (show KQ (CD _ _ _ _ _) _ _ _ _; first | refine yT ?_ | refine yF ?_ | fail) | ((first | refine yC ?_ ?_) <;> (intro hc; (try simp only [hcS] at hc); try exact dD)) | refine yE ?_ | fail))
    all_goals (refine y_fin ?_; exact ⟨_, ⟨rfl, rfl⟩, Ent.auto⟩)
  · rw [if_neg hn]
    refine y_of Try.func30 rfl Try.ntmps30 rfl fun w0 => ?_
    (repeat' (first | (show KQ (WL _ _ _ _ _) _ _ _ _; first | refine yW p_move ?_ | refine yW p_asg ?_ | refine yA ?_ | refine yW p_ld ?_ | refine yW p_lda ?_ | refine yB ?_ | refine yW p_nil ?_ | refine yW p_nilf ?_ | refine yW p_ext ?_ | refine yW p_idx ?_ | refine yW p_idxl ?_ | refine yW p_len ?_ | refine yW p_lens ?_ | refine yW p_lenm ?_ | fail) | (show KQ (CD _ _ _ _ _) _ _ _ _; first | refine yT ?_ | refine yF ?_ | fail) | ((first | refine yC ?_ ?_) <;> (intro hc; (try simp only [hcS] at hc); try exact dD)) | refine yE ?_ | fail))
    all_goals (refine y_cr ?_; refine kq_draw0 6 7 ?_; (all_goals refine kq_take 0 rfl p_move ?_); (all_goals refine kq_take 1 rfl p_move ?_); (all_goals (first | refine kq_take 2 rfl p_nil ?_ | refine kq_take 2 rfl p_nilf ?_)); (all_goals refine tkf 3 ?_); (all_goals refine tkl 4 ?_); (all_goals refine kq_take 5 rfl p_asg ?_); (all_goals refine kq_take 6 rfl p_asg ?_); (all_goals refine kq_done ?_))
    all_goals (repeat' (first | (show KQ (WL _ _ _ _ _) _ _ _ _; first | refine yW p_move ?_ | refine yW p_asg ?_ | refine yA ?_ | refine yW p_ld ?_ | refine yW p_lda ?_ | refine yB ?_ | refine yW p_nil ?_ | refine yW p_nilf ?_ | refine yW p_ext ?_ | refine yW p_idx ?_ | refine yW p_idxl ?_ | refine yW p_len ?_ | refine yW p_lens ?_ | refine yW p_lenm ?_ | fail) | (show KQ (CD _ _ _ _ _) _ _ _ _; first | refine yT ?_ | refine yF ?_ | fail) | ((first | refine yC ?_ ?_) <;> (intro hc; (try simp only [hcS] at hc); try exact dD)) | refine yE ?_ | fail))
    all_goals (refine y_fin ?_; exact ⟨_, ⟨rfl, rfl⟩, Ent.auto⟩)
set_option maxHeartbeats 4000000 in
theorem rplace_pol (hx : P[TD.length]? = none) (h0 : 0 < l.length) (hl : l.length ≤ 65536) (hnd : l.Nodup) (hp : 0 ≤ pol ∧ pol ≤ 4) (hlot : 0 ≤ lot ∧ lot < 18446744073709551616) : Sp Try.prog 30 [ptr r, .slice a2 l.length c2] (irow a2 c2 l :: rd0 r q pol lot pa pc P a c TD F) fun v M => v = .tuple #[.int .i64 (plc pol lot l none).1, .int .u64 (plc pol lot l none).2] ∧ M = irow a2 c2 l :: rd0 r q pol lot pa pc P a c TD F := by
  have hle : P.length ≤ TD.length := List.getElem?_eq_none_iff.1 hx
  clear hx
  have hpp : pol = 0 ∨ pol = 1 ∨ pol = 2 ∨ pol = 3 ∨ pol = 4 := by omega
  rcases hpp with rfl | rfl | rfl | rfl | rfl
  · have e : plc 0 lot l none = (0, lot) := rfl
    rw [e]
    refine y_of Try.func30 rfl Try.ntmps30 rfl fun w0 => ?_
    (repeat' (first | (show KQ (WL _ _ _ _ _) _ _ _ _; first | refine yW p_move ?_ | refine yW p_asg ?_ | refine yA ?_ | refine yW p_ld ?_ | refine yW p_lda ?_ | refine yB ?_ | refine yW p_nil ?_ | refine yW p_nilf ?_ | refine yW p_ext ?_ | refine yW p_idx ?_ | refine yW p_idxl ?_ | refine yW p_len ?_ | refine yW p_lens ?_ | refine yW p_lenm ?_ | fail) | (show KQ (CD _ _ _ _ _) _ _ _ _; first | refine yT ?_ | refine yF ?_ | fail) | ((first | refine yC ?_ ?_) <;> (intro hc; (try simp only [hcS] at hc); try exact dD)) | refine yE ?_ | fail))
    all_goals (refine y_cr ?_; refine kq_draw0 18 6 ?_; (all_goals refine kq_take 0 rfl p_move ?_); (all_goals (first | refine kq_take 1 rfl p_nil ?_ | refine kq_take 1 rfl p_nilf ?_)); (all_goals refine tkf 2 ?_); (all_goals refine tkl 3 ?_); (all_goals refine kq_take 4 rfl p_asg ?_); (all_goals refine kq_take 5 rfl p_asg ?_); (all_goals refine kq_done ?_))
    all_goals (repeat' (first | (show KQ (WL _ _ _ _ _) _ _ _ _; first | refine yW p_move ?_ | refine yW p_asg ?_ | refine yA ?_ | refine yW p_ld ?_ | refine yW p_lda ?_ | refine yB ?_ | refine yW p_nil ?_ | refine yW p_nilf ?_ | refine yW p_ext ?_ | refine yW p_idx ?_ | refine yW p_idxl ?_ | refine yW p_len ?_ | refine yW p_lens ?_ | refine yW p_lenm ?_ | fail) | (show KQ (CD _ _ _ _ _) _ _ _ _; first | refine yT ?_ | refine yF ?_ | fail) | ((first | refine yC ?_ ?_) <;> (intro hc; (try simp only [hcS] at hc); try exact dD)) | refine yE ?_ | fail))
    all_goals (refine y_fin ?_; exact ⟨_, ⟨rfl, rfl⟩, Ent.auto⟩)
  · have e : plc 1 lot l none = (l.length - 1, lot) := rfl
    have e2 : ((l.length - 1 : Nat) : Int) = (l.length : Int) - 1 := by omega
    rw [e]; dsimp only; rw [e2]
    refine y_of Try.func30 rfl Try.ntmps30 rfl fun w0 => ?_
    (repeat' (first | (show KQ (WL _ _ _ _ _) _ _ _ _; first | refine yW p_move ?_ | refine yW p_asg ?_ | refine yA ?_ | refine yW p_ld ?_ | refine yW p_lda ?_ | refine yB ?_ | refine yW p_nil ?_ | refine yW p_nilf ?_ | refine yW p_ext ?_ | refine yW p_idx ?_ | refine yW p_idxl ?_ | refine yW p_len ?_ | refine yW p_lens ?_ | refine yW p_lenm ?_ | fail) | (show KQ (CD _ _ _ _ _) _ _ _ _; first | refine yT ?_ | refine yF ?_ | fail) | ((first | refine yC ?_ ?_) <;> (intro hc; (try simp only [hcS] at hc); try exact dD)) | refine yE ?_ | fail))
    all_goals (refine y_cr ?_; refine kq_draw0 9 9 ?_; (all_goals refine kq_take 0 rfl p_move ?_); (all_goals (first | refine kq_take 1 rfl p_len ?_ | refine kq_take 1 rfl p_lens ?_ | refine kq_take 1 rfl p_lenm ?_)); (all_goals refine tkb 2 ?_); (all_goals refine kq_take 3 rfl p_move ?_); (all_goals (first | refine kq_take 4 rfl p_nil ?_ | refine kq_take 4 rfl p_nilf ?_)); (all_goals refine tkf 5 ?_); (all_goals refine tkl 6 ?_); (all_goals refine kq_take 7 rfl p_asg ?_); (all_goals refine kq_take 8 rfl p_asg ?_); (all_goals refine kq_done ?_))
    all_goals (repeat' (first | (show KQ (WL _ _ _ _ _) _ _ _ _; first | refine yW p_move ?_ | refine yW p_asg ?_ | refine yA ?_ | refine yW p_ld ?_ | refine yW p_lda ?_ | refine yB ?_ | refine yW p_nil ?_ | refine yW p_nilf ?_ | refine yW p_ext ?_ | refine yW p_idx ?_ | refine yW p_idxl ?_ | refine yW p_len ?_ | refine yW p_lens ?_ | refine yW p_lenm ?_ | fail) | (show KQ (CD _ _ _ _ _) _ _ _ _; first | refine yT ?_ | refine yF ?_ | fail) | ((first | refine yC ?_ ?_) <;> (intro hc; (try simp only [hcS] at hc); try exact dD)) | refine yE ?_ | fail))
    all_goals (refine y_fin ?_; exact ⟨_, ⟨rfl, rfl⟩, Ent.auto⟩)
  · have e : plc 2 lot l none = (partN (mixI (w64 (lot + 11400714819323198485))).toNat l.length, mixI (w64 (lot + 11400714819323198485))) := rfl
    have hmx := fun F => mix_spec F (w64 (lot + 11400714819323198485))
    obtain ⟨m, hm, hml⟩ := nat_of (mixI_rng (w64 (lot + 11400714819323198485)))
    have hpt := fun F => part_spec F m l.length hml h0 hl
    rw [e]; dsimp only
    rw [hm] at hmx ⊢
    rw [Int.toNat_natCast]
    refine y_of Try.func30 rfl Try.ntmps30 rfl fun w0 => ?_
    (repeat' (first | (show KQ (WL _ _ _ _ _) _ _ _ _; first | refine yW p_move ?_ | refine yW p_asg ?_ | refine yA ?_ | refine yW p_ld ?_ | refine yW p_lda ?_ | refine yB ?_ | refine yW p_nil ?_ | refine yW p_nilf ?_ | refine yW p_ext ?_ | refine yW p_idx ?_ | refine yW p_idxl ?_ | refine yW p_len ?_ | refine yW p_lens ?_ | refine yW p_lenm ?_ | (refine yX ?_; first | (refine w_call (hmx _) ?_; rintro r L ⟨rfl, rfl⟩) | (refine w_call (hpt _) ?_; rintro r L ⟨rfl, rfl⟩) | fail) | fail) | (show KQ (CD _ _ _ _ _) _ _ _ _; first | refine yT ?_ | refine yF ?_ | fail) | ((first | refine yC ?_ ?_) <;> (intro hc; (try simp only [hcS] at hc); try exact dD)) | refine yE ?_ | fail))
    all_goals (refine y_fin ?_; exact ⟨_, ⟨rfl, rfl⟩, Ent.auto⟩)
  · have e : plc 3 lot l none = (amin l l.length, lot) := rfl
    have hlt := amin_lt h0 _ (Nat.le_refl _)
    have hmi := fun F hr => min_spec F a2 c2 l h0 hr hl
    have hix := fun F hr => index_spec F a2 c2 l (amin l l.length) hlt hnd hr hl
    rw [e]; dsimp only
    refine y_of Try.func30 rfl Try.ntmps30 rfl fun w0 => ?_
    (repeat' (first | (show KQ (WL _ _ _ _ _) _ _ _ _; first | refine yW p_move ?_ | refine yW p_asg ?_ | refine yA ?_ | refine yW p_ld ?_ | refine yW p_lda ?_ | refine yB ?_ | refine yW p_nil ?_ | refine yW p_nilf ?_ | refine yW p_ext ?_ | refine yW p_idx ?_ | refine yW p_idxl ?_ | refine yW p_len ?_ | refine yW p_lens ?_ | refine yW p_lenm ?_ | fail) | (show KQ (CD _ _ _ _ _) _ _ _ _; first | refine yT ?_ | refine yF ?_ | fail) | ((first | refine yC ?_ ?_) <;> (intro hc; (try simp only [hcS] at hc); try exact dD)) | refine yE ?_ | fail))
    all_goals (refine y_cr ?_; refine kq_draw0 15 10 ?_; (all_goals refine kq_take 0 rfl p_move ?_); (all_goals refine kq_take 1 rfl p_move ?_); (all_goals refine kq_take 4 rfl p_move ?_); (all_goals (first | refine kq_take 5 rfl p_nil ?_ | refine kq_take 5 rfl p_nilf ?_)); (all_goals refine tkf 6 ?_); (all_goals refine tkl 7 ?_); (all_goals (refine kq_each [2] ⟨?_, trivial⟩; (refine kq_op ?_; first | (refine w_call (hmi _ ?_) ?_; (all_goals (try (focus (first | (first | (apply Reads.row; focus ((repeat (first | exact Sel.here | apply Sel.there)); done)) | (apply reads_blk; focus ((repeat (first | exact Sel.here | apply Sel.there)); done)) | ((refine Reads.ent (by assumption) ?_); ((repeat (first | with_reducible exact Ent.rfl | with_reducible exact Ent.nil | ((with_reducible apply Ent.cons); focus ((repeat (first | exact Sel.here | apply Sel.there)); done)) | with_reducible refine Ent.drop ?_)); done))) | assumption | omega)))); rintro r L ⟨rfl, rfl⟩) | (refine w_call (hix _ ?_) ?_; (all_goals (try (focus (first | (first | (apply Reads.row; focus ((repeat (first | exact Sel.here | apply Sel.there)); done)) | (apply reads_blk; focus ((repeat (first | exact Sel.here | apply Sel.there)); done)) | ((refine Reads.ent (by assumption) ?_); ((repeat (first | with_reducible exact Ent.rfl | with_reducible exact Ent.nil | ((with_reducible apply Ent.cons); focus ((repeat (first | exact Sel.here | apply Sel.there)); done)) | with_reducible refine Ent.drop ?_)); done))) | assumption | omega)))); rintro r L ⟨rfl, rfl⟩)))); (all_goals (refine kq_each [3] ⟨?_, trivial⟩; (refine kq_op ?_; first | (refine w_call (hmi _ ?_) ?_; (all_goals (try (focus (first | (first | (apply Reads.row; focus ((repeat (first | exact Sel.here | apply Sel.there)); done)) | (apply reads_blk; focus ((repeat (first | exact Sel.here | apply Sel.there)); done)) | ((refine Reads.ent (by assumption) ?_); ((repeat (first | with_reducible exact Ent.rfl | with_reducible exact Ent.nil | ((with_reducible apply Ent.cons); focus ((repeat (first | exact Sel.here | apply Sel.there)); done)) | with_reducible refine Ent.drop ?_)); done))) | assumption | omega)))); rintro r L ⟨rfl, rfl⟩) | (refine w_call (hix _ ?_) ?_; (all_goals (try (focus (first | (first | (apply Reads.row; focus ((repeat (first | exact Sel.here | apply Sel.there)); done)) | (apply reads_blk; focus ((repeat (first | exact Sel.here | apply Sel.there)); done)) | ((refine Reads.ent (by assumption) ?_); ((repeat (first | with_reducible exact Ent.rfl | with_reducible exact Ent.nil | ((with_reducible apply Ent.cons); focus ((repeat (first | exact Sel.here | apply Sel.there)); done)) | with_reducible refine Ent.drop ?_)); done))) | assumption | omega)))); rintro r L ⟨rfl, rfl⟩)))); (all_goals refine kq_take 8 rfl p_asg ?_); (all_goals refine kq_take 9 rfl p_asg ?_); (all_goals refine kq_done ?_))
    all_goals (repeat' (first | (show KQ (WL _ _ _ _ _) _ _ _ _; first | refine yW p_move ?_ | refine yW p_asg ?_ | refine yA ?_ | refine yW p_ld ?_ | refine yW p_lda ?_ | refine yB ?_ | refine yW p_nil ?_ | refine yW p_nilf ?_ | refine yW p_ext ?_ | refine yW p_idx ?_ | refine yW p_idxl ?_ | refine yW p_len ?_ | refine yW p_lens ?_ | refine yW p_lenm ?_ | fail) | (show KQ (CD _ _ _ _ _) _ _ _ _; first | refine yT ?_ | refine yF ?_ | fail) | ((first | refine yC ?_ ?_) <;> (intro hc; (try simp only [hcS] at hc); try exact dD)) | refine yE ?_ | fail))
    all_goals (refine y_fin ?_; exact ⟨_, ⟨rfl, rfl⟩, Ent.auto⟩)
  · have e : plc 4 lot l none = (amax l l.length, lot) := rfl
    have hlt := amax_lt h0 _ (Nat.le_refl _)
    have hmi := fun F hr => max_spec F a2 c2 l h0 hr hl
    have hix := fun F hr => index_spec F a2 c2 l (amax l l.length) hlt hnd hr hl
    rw [e]; dsimp only
    refine y_of Try.func30 rfl Try.ntmps30 rfl fun w0 => ?_
    (repeat' (first | (show KQ (WL _ _ _ _ _) _ _ _ _; first | refine yW p_move ?_ | refine yW p_asg ?_ | refine yA ?_ | refine yW p_ld ?_ | refine yW p_lda ?_ | refine yB ?_ | refine yW p_nil ?_ | refine yW p_nilf ?_ | refine yW p_ext ?_ | refine yW p_idx ?_ | refine yW p_idxl ?_ | refine yW p_len ?_ | refine yW p_lens ?_ | refine yW p_lenm ?_ | fail) | (show KQ (CD _ _ _ _ _) _ _ _ _; first | refine yT ?_ | refine yF ?_ | fail) | ((first | refine yC ?_ ?_) <;> (intro hc; (try simp only [hcS] at hc); try exact dD)) | refine yE ?_ | fail))
    all_goals (refine y_cr ?_; refine kq_draw0 17 10 ?_; (all_goals refine kq_take 0 rfl p_move ?_); (all_goals refine kq_take 1 rfl p_move ?_); (all_goals refine kq_take 4 rfl p_move ?_); (all_goals (first | refine kq_take 5 rfl p_nil ?_ | refine kq_take 5 rfl p_nilf ?_)); (all_goals refine tkf 6 ?_); (all_goals refine tkl 7 ?_); (all_goals (refine kq_each [2] ⟨?_, trivial⟩; (refine kq_op ?_; first | (refine w_call (hmi _ ?_) ?_; (all_goals (try (focus (first | (first | (apply Reads.row; focus ((repeat (first | exact Sel.here | apply Sel.there)); done)) | (apply reads_blk; focus ((repeat (first | exact Sel.here | apply Sel.there)); done)) | ((refine Reads.ent (by assumption) ?_); ((repeat (first | with_reducible exact Ent.rfl | with_reducible exact Ent.nil | ((with_reducible apply Ent.cons); focus ((repeat (first | exact Sel.here | apply Sel.there)); done)) | with_reducible refine Ent.drop ?_)); done))) | assumption | omega)))); rintro r L ⟨rfl, rfl⟩) | (refine w_call (hix _ ?_) ?_; (all_goals (try (focus (first | (first | (apply Reads.row; focus ((repeat (first | exact Sel.here | apply Sel.there)); done)) | (apply reads_blk; focus ((repeat (first | exact Sel.here | apply Sel.there)); done)) | ((refine Reads.ent (by assumption) ?_); ((repeat (first | with_reducible exact Ent.rfl | with_reducible exact Ent.nil | ((with_reducible apply Ent.cons); focus ((repeat (first | exact Sel.here | apply Sel.there)); done)) | with_reducible refine Ent.drop ?_)); done))) | assumption | omega)))); rintro r L ⟨rfl, rfl⟩)))); (all_goals (refine kq_each [3] ⟨?_, trivial⟩; (refine kq_op ?_; first | (refine w_call (hmi _ ?_) ?_; (all_goals (try (focus (first | (first | (apply Reads.row; focus ((repeat (first | exact Sel.here | apply Sel.there)); done)) | (apply reads_blk; focus ((repeat (first | exact Sel.here | apply Sel.there)); done)) | ((refine Reads.ent (by assumption) ?_); ((repeat (first | with_reducible exact Ent.rfl | with_reducible exact Ent.nil | ((with_reducible apply Ent.cons); focus ((repeat (first | exact Sel.here | apply Sel.there)); done)) | with_reducible refine Ent.drop ?_)); done))) | assumption | omega)))); rintro r L ⟨rfl, rfl⟩) | (refine w_call (hix _ ?_) ?_; (all_goals (try (focus (first | (first | (apply Reads.row; focus ((repeat (first | exact Sel.here | apply Sel.there)); done)) | (apply reads_blk; focus ((repeat (first | exact Sel.here | apply Sel.there)); done)) | ((refine Reads.ent (by assumption) ?_); ((repeat (first | with_reducible exact Ent.rfl | with_reducible exact Ent.nil | ((with_reducible apply Ent.cons); focus ((repeat (first | exact Sel.here | apply Sel.there)); done)) | with_reducible refine Ent.drop ?_)); done))) | assumption | omega)))); rintro r L ⟨rfl, rfl⟩)))); (all_goals refine kq_take 8 rfl p_asg ?_); (all_goals refine kq_take 9 rfl p_asg ?_); (all_goals refine kq_done ?_))
    all_goals (repeat' (first | (show KQ (WL _ _ _ _ _) _ _ _ _; first | refine yW p_move ?_ | refine yW p_asg ?_ | refine yA ?_ | refine yW p_ld ?_ | refine yW p_lda ?_ | refine yB ?_ | refine yW p_nil ?_ | refine yW p_nilf ?_ | refine yW p_ext ?_ | refine yW p_idx ?_ | refine yW p_idxl ?_ | refine yW p_len ?_ | refine yW p_lens ?_ | refine yW p_lenm ?_ | fail) | (show KQ (CD _ _ _ _ _) _ _ _ _; first | refine yT ?_ | refine yF ?_ | fail) | ((first | refine yC ?_ ?_) <;> (intro hc; (try simp only [hcS] at hc); try exact dD)) | refine yE ?_ | fail))
    all_goals (refine y_fin ?_; exact ⟨_, ⟨rfl, rfl⟩, Ent.auto⟩)
theorem rplace_spec (h0 : 0 < l.length) (hl : l.length ≤ 65536) (hnd : l.Nodup) (hp : 0 ≤ pol ∧ pol ≤ 4) (hlot : 0 ≤ lot ∧ lot < 18446744073709551616) (hP : P.length ≤ 65536) : Sp Try.prog 30 [ptr r, .slice a2 l.length c2] (irow a2 c2 l :: rd0 r q pol lot pa pc P a c TD F) fun v M => v = .tuple #[.int .i64 (plc pol lot l P[TD.length]?).1, .int .u64 (plc pol lot l P[TD.length]?).2] ∧ M = irow a2 c2 l :: rd0 r q pol lot pa pc P a c TD F := by
  cases hx : P[TD.length]? with
  | some x => exact rplace_pick r q pol lot pa pc P a c TD F a2 c2 l x hx h0 hl hP
  | none => exact rplace_pol r q pol lot pa pc P a c TD F a2 c2 l hx h0 hl hnd hp hlot
end
end Go.Proofs.Ytfkamdahfmlgmaa
