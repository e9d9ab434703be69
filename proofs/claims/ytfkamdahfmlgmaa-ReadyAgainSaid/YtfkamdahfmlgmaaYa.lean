/- DERIVED. Ready ones by turn, without picks; ready ones that are nil. -/
import Derived.Test.YtfkamdahfmlgmaaQd
import Derived.Test.YtfkamdahfmlgmaaVcc
import Derived.Test.YtfkamdahfmlgmaaVt
namespace Go.Proofs.Ytfkamdahfmlgmaa
set_option linter.unusedSimpArgs false
set_option linter.unusedVariables false
open Go Sl Cv Go.RowKit
abbrev rdc (q : Nat) (lot : Int) (a : Option Addr) (n c : Nat) : List Value := [.int .i64 0, .int .u64 lot, .slice none 0 0, .slice a n c, ptr q]
abbrev rdn (r q m1 m2 : Nat) (lot : Int) (a : Option Addr) (c : Nat) (TD : List Int) (fr ut : Int) (L : LL) (F : List HP) : List HP :=
  blk r (.cells (rdc q lot a TD.length c).toArray 60 (0, 0)) :: irow a c TD :: tq q m1 m2 fr ut L F
section
variable (r q m1 m2 : Nat) (lot : Int) (a : Option Addr) (c : Nat) (TD : List Int) (fr ut : Int) (L : LL) (F : List HP) (x t n : Int)
theorem clone0 : Sp Try.prog 27 [.slice none 0 0] F fun r M => r = .slice none 0 0 ∧ M = F := by
  refine y_of Try.func27 rfl Try.ntmps27 rfl fun w0 => ?_
  (repeat' (first | (show KQ (WL _ _ _ _ _) _ _ _ _; first | refine yW p_move ?_ | refine yW p_asg ?_ | refine yB ?_ | (refine yX ?_; first | (refine w_ap0 ?_; intro ao1 cap1) | (refine w_ap ?_; intro ao1 cap1) | (refine w_bs ?_; intro q) | fail) | fail) | (show KQ (CD _ _ _ _ _) _ _ _ _; first | refine yT ?_ | refine yF ?_ | fail) | ((first | refine yC ?_ ?_) <;> (intro hc; (try simp only [hcS] at hc); try exact dD)) | refine yE ?_ | fail))
  all_goals (refine y_fin ?_; exact ⟨_, ⟨rfl, rfl⟩, Ent.auto⟩)
theorem rnew0 : Sp Try.prog 7 [.int .i64 0, .int .u64 0, .slice none 0 0] F fun v M => ∃ r q m1 m2, v = .tuple #[ptr r, .int .i64 0] ∧ M = rdn r q m1 m2 0 none 0 [] 0 0 [] F := by
  refine y_of Try.func7 rfl Try.ntmps7 rfl fun w0 => ?_
  (repeat' (first | (show KQ (WL _ _ _ _ _) _ _ _ _; first | refine yW p_move ?_ | refine yW p_asg ?_ | refine yW p_lss ?_ | refine yW p_gtr ?_ | refine yW p_pt ?_ | refine yW p_pf ?_ | refine yW p_len ?_ | refine yW p_lens ?_ | refine yW p_lenm ?_ | refine yW p_bld ?_ | (refine yX ?_; first | (refine w_bx ?_; intro q) | (refine w_call (clone0 _) ?_; rintro r L ⟨rfl, rfl⟩) | (refine w_call (tnew_spec _) ?_; rintro r L ⟨q, m1, m2, rfl, rfl⟩) | fail) | refine yN ?_ | refine yO ?_ | fail) | (show KQ (CD _ _ _ _ _) _ _ _ _; first | refine yT ?_ | refine yF ?_ | fail) | ((first | refine yG ?_ ?_ | refine yC ?_ ?_) <;> (intro hc; (try simp only [hcS] at hc); try exact dD)) | refine yE ?_ | fail))
  rename_i r
  refine KQ.ent ?_ (ent_nil 3 1 none Ent.rfl)
  (refine y_fin ?_; exact ⟨_, ⟨q, r, m1, m2, rfl, rfl⟩, Ent.auto⟩)
theorem rwake_new (hT : TI fr ut L) (h : x ∉ its L) (hl : L.length < 65536) (hfr : fr ≤ ut) : Sp Try.prog 9 [ptr r, .int .i64 x] (rdn r q m1 m2 lot a c TD fr ut L F) fun v M => v = .int .i64 0 ∧ M = rdn r q m1 m2 lot a c TD fr (ut + 1) (L ++ [(ut, x)]) F := by
  have hp := fun F => tput_new q m1 m2 fr ut L F x hT h hl hfr
  refine y_of Try.func9 rfl Try.ntmps9 rfl fun w0 => ?_
  (repeat' (first | (show KQ (WL _ _ _ _ _) _ _ _ _; first | refine yW p_move ?_ | refine yW p_asg ?_ | refine yA ?_ | refine yW p_ld ?_ | refine yW p_lda ?_ | refine yB ?_ | refine yW p_nil ?_ | refine yW p_nilf ?_ | (refine yX ?_; first | (refine w_call (hp _) ?_; rintro r L ⟨rfl, rfl⟩) | fail) | fail) | (show KQ (CD _ _ _ _ _) _ _ _ _; first | refine yT ?_ | refine yF ?_ | fail) | ((first | refine yC ?_ ?_) <;> (intro hc; (try simp only [hcS] at hc); try exact dD)) | refine yE ?_ | fail))
  all_goals (refine y_fin ?_; exact ⟨_, ⟨rfl, rfl⟩, Ent.auto⟩)
theorem rwake_there (hT : TI fr ut L) (h : x ∈ its L) : Sp Try.prog 9 [ptr r, .int .i64 x] (rdn r q m1 m2 lot a c TD fr ut L F) fun v M => v = .int .i64 40 ∧ M = rdn r q m1 m2 lot a c TD fr ut L F := by
  have hp := fun F => tput_there q m1 m2 fr ut L F x hT h
  refine y_of Try.func9 rfl Try.ntmps9 rfl fun w0 => ?_
  (repeat' (first | (show KQ (WL _ _ _ _ _) _ _ _ _; first | refine yW p_move ?_ | refine yW p_asg ?_ | refine yA ?_ | refine yW p_ld ?_ | refine yW p_lda ?_ | refine yB ?_ | refine yW p_nil ?_ | refine yW p_nilf ?_ | (refine yX ?_; first | (refine w_call (hp _) ?_; rintro r L ⟨rfl, rfl⟩) | fail) | fail) | (show KQ (CD _ _ _ _ _) _ _ _ _; first | refine yT ?_ | refine yF ?_ | fail) | ((first | refine yC ?_ ?_) <;> (intro hc; (try simp only [hcS] at hc); try exact dD)) | refine yE ?_ | fail))
  all_goals (refine y_fin ?_; exact ⟨_, ⟨rfl, rfl⟩, Ent.auto⟩)
theorem rwake_many (hT : TI fr ut L) (h : x ∉ its L) (hl : 65536 ≤ L.length) : Sp Try.prog 9 [ptr r, .int .i64 x] (rdn r q m1 m2 lot a c TD fr ut L F) fun v M => v = .int .i64 3 ∧ M = rdn r q m1 m2 lot a c TD fr ut L F := by
  have hp := fun F => tput_many q m1 m2 fr ut L F x hT h hl
  refine y_of Try.func9 rfl Try.ntmps9 rfl fun w0 => ?_
  (repeat' (first | (show KQ (WL _ _ _ _ _) _ _ _ _; first | refine yW p_move ?_ | refine yW p_asg ?_ | refine yA ?_ | refine yW p_ld ?_ | refine yW p_lda ?_ | refine yB ?_ | refine yW p_nil ?_ | refine yW p_nilf ?_ | (refine yX ?_; first | (refine w_call (hp _) ?_; rintro r L ⟨rfl, rfl⟩) | fail) | fail) | (show KQ (CD _ _ _ _ _) _ _ _ _; first | refine yT ?_ | refine yF ?_ | fail) | ((first | refine yC ?_ ?_) <;> (intro hc; (try simp only [hcS] at hc); try exact dD)) | refine yE ?_ | fail))
  all_goals (refine y_fin ?_; exact ⟨_, ⟨rfl, rfl⟩, Ent.auto⟩)
theorem rhas_spec (hT : TI fr ut L) : Sp Try.prog 11 [ptr r, .int .i64 x] (rdn r q m1 m2 lot a c TD fr ut L F) fun v M => v = .bool (decide (x ∈ its L)) ∧ M = rdn r q m1 m2 lot a c TD fr ut L F := by
  have hp := fun F => thas_spec q m1 m2 fr ut L F x hT
  refine y_of Try.func11 rfl Try.ntmps11 rfl fun w0 => ?_
  (repeat' (first | (show KQ (WL _ _ _ _ _) _ _ _ _; first | refine yW p_move ?_ | refine yW p_asg ?_ | refine yA ?_ | refine yW p_ld ?_ | refine yW p_lda ?_ | refine yB ?_ | refine yW p_nil ?_ | refine yW p_nilf ?_ | refine yW p_pt ?_ | refine yW p_pf ?_ | (refine yX ?_; first | (refine w_call (hp _) ?_; rintro r L ⟨rfl, rfl⟩) | fail) | refine yN ?_ | refine yO ?_ | fail) | ((first | refine yG ?_ ?_) <;> (intro hc; (try simp only [hcS] at hc); try exact dD)) | refine yE ?_ | fail))
  all_goals (refine y_fin ?_; exact ⟨_, ⟨rfl, rfl⟩, Ent.auto⟩)
theorem rall_spec (hT : TI fr ut L) (hL : L.length ≤ 65536) : Sp Try.prog 16 [ptr r] (rdn r q m1 m2 lot a c TD fr ut L F) fun v M => ∃ a2 c2, v = .slice a2 L.length c2 ∧ M = lrow a2 c2 L :: rdn r q m1 m2 lot a c TD fr ut L F := by
  have hp := fun F => tall_spec q m1 m2 fr ut L F sort_ok hT hL
  refine y_of Try.func16 rfl Try.ntmps16 rfl fun w0 => ?_
  (repeat' (first | (show KQ (WL _ _ _ _ _) _ _ _ _; first | refine yW p_move ?_ | refine yW p_asg ?_ | refine yA ?_ | refine yW p_ld ?_ | refine yW p_lda ?_ | refine yB ?_ | refine yW p_nil ?_ | refine yW p_nilf ?_ | (refine yX ?_; first | (refine w_call (hp _) ?_; rintro r L ⟨a2, c2, rfl, rfl⟩) | fail) | fail) | (show KQ (CD _ _ _ _ _) _ _ _ _; first | refine yT ?_ | refine yF ?_ | fail) | ((first | refine yC ?_ ?_) <;> (intro hc; (try simp only [hcS] at hc); try exact dD)) | refine yE ?_ | fail))
  all_goals (refine y_fin ?_; exact ⟨_, ⟨a2, c2, rfl, rfl⟩, Ent.auto⟩)
theorem rturns_spec : Sp Try.prog 12 [ptr r] (rdn r q m1 m2 lot a c TD fr ut L F) fun v M => v = .int .i64 TD.length ∧ M = rdn r q m1 m2 lot a c TD fr ut L F := by
  refine y_of Try.func12 rfl Try.ntmps12 rfl fun w0 => ?_
  (repeat' (first | (show KQ (WL _ _ _ _ _) _ _ _ _; first | refine yW p_move ?_ | refine yW p_asg ?_ | refine yA ?_ | refine yW p_ld ?_ | refine yW p_lda ?_ | refine yB ?_ | refine yW p_nil ?_ | refine yW p_nilf ?_ | refine yW p_len ?_ | refine yW p_lens ?_ | refine yW p_lenm ?_ | fail) | (show KQ (CD _ _ _ _ _) _ _ _ _; first | refine yT ?_ | refine yF ?_ | fail) | ((first | refine yC ?_ ?_) <;> (intro hc; (try simp only [hcS] at hc); try exact dD)) | refine yE ?_ | fail))
  all_goals (refine y_fin ?_; exact ⟨_, ⟨rfl, rfl⟩, Ent.auto⟩)
theorem rplace0 (v : Value) : Sp Try.prog 30 [ptr r, v] (rdn r q m1 m2 lot a c TD fr ut L F) fun v M => v = .tuple #[.int .i64 0, .int .u64 lot] ∧ M = rdn r q m1 m2 lot a c TD fr ut L F := by
  refine y_of Try.func30 rfl Try.ntmps30 rfl fun w0 => ?_
  (repeat' (first | (show KQ (WL _ _ _ _ _) _ _ _ _; first | refine yW p_move ?_ | refine yW p_asg ?_ | refine yA ?_ | refine yW p_ld ?_ | refine yW p_lda ?_ | refine yB ?_ | refine yW p_nil ?_ | refine yW p_nilf ?_ | refine yW p_ext ?_ | refine yW p_idx ?_ | refine yW p_idxl ?_ | refine yW p_len ?_ | refine yW p_lens ?_ | refine yW p_lenm ?_ | fail) | (show KQ (CD _ _ _ _ _) _ _ _ _; first | refine yT ?_ | refine yF ?_ | fail) | ((first | refine yC ?_ ?_) <;> (intro hc; (try simp only [hcS] at hc); try exact dD)) | refine yE ?_ | (refine y_cr ?_; refine kq_draw0 18 6 ?_; (all_goals refine kq_take 0 rfl p_move ?_); (all_goals (first | refine kq_take 1 rfl p_nil ?_ | refine kq_take 1 rfl p_nilf ?_)); (all_goals refine tkf 2 ?_); (all_goals refine tkl 3 ?_); (all_goals refine kq_take 4 rfl p_asg ?_); (all_goals refine kq_take 5 rfl p_asg ?_); (all_goals refine kq_done ?_)) | fail))
  all_goals (refine y_fin ?_; exact ⟨_, ⟨rfl, rfl⟩, Ent.auto⟩)
theorem rpick_none (hT : TI fr ut []) : Sp Try.prog 10 [ptr r] (rdn r q m1 m2 lot a c TD fr ut [] F) fun v M => v = .tuple #[.int .i64 0, .bool false] ∧ M = rdn r q m1 m2 lot a c TD fr ut [] F := by
  have hp := fun F => rall_spec r q m1 m2 lot a c TD fr ut [] F hT (by decide)
  refine y_of Try.func10 rfl Try.ntmps10 rfl fun w0 => ?_
  (repeat' (first | (show KQ (WL _ _ _ _ _) _ _ _ _; first | refine yW p_move ?_ | refine yW p_asg ?_ | refine yA ?_ | refine yW p_ld ?_ | refine yW p_lda ?_ | refine yB ?_ | refine yW p_nil ?_ | refine yW p_nilf ?_ | refine yW p_ext ?_ | refine yW p_idx ?_ | refine yW p_idxl ?_ | refine yW p_len ?_ | refine yW p_lens ?_ | refine yW p_lenm ?_ | (refine yX ?_; first | refine w_st ?_ | refine w_str ?_ | refine w_stra ?_ | (refine w_ap0 ?_; intro ao1 cap1) | (refine w_ap ?_; intro ao1 cap1) | (refine w_bs ?_; intro q) | (refine w_call (hp _) ?_; rintro r L ⟨a2, c2, rfl, rfl⟩) | fail) | fail) | (show KQ (CD _ _ _ _ _) _ _ _ _; first | refine yT ?_ | refine yF ?_ | fail) | ((first | refine yC ?_ ?_) <;> (intro hc; (try simp only [hcS] at hc); try exact dD)) | refine yE ?_ | fail))
  all_goals (refine y_fin ?_; exact ⟨_, ⟨rfl, rfl⟩, Ent.auto⟩)
theorem rem_hd (hT : TI fr ut ((t, x) :: L)) : rem ((t, x) :: L) x = L := by
  have hd' := List.nodup_cons.1 hT.nd
  rw [rem, List.filter_cons]
  simp only [ne_eq, not_true_eq_false, decide_false, Bool.false_eq_true, if_false]
  exact List.filter_eq_self.2 fun p hp => by
    have : p.2 ≠ x := fun e => hd'.1 (List.mem_map.2 ⟨p, hp, e⟩)
    simpa using this
set_option maxHeartbeats 4000000 in
theorem rpick_some (hT : TI fr ut ((t, x) :: L)) (hL : L.length < 65536) (ht : TD.length ≤ 4000000000000) : Sp Try.prog 10 [ptr r] (rdn r q m1 m2 lot a c TD fr ut ((t, x) :: L) F) fun v M => ∃ a2 c2, v = .tuple #[.int .i64 x, .bool true] ∧ M = rdn r q m1 m2 lot a2 c2 (TD ++ [0]) fr ut L F := by
  have hp := fun F => rall_spec r q m1 m2 lot a c TD fr ut ((t, x) :: L) F hT (by simp; omega)
  have hpl := fun F v => rplace0 r q m1 m2 lot a c TD fr ut ((t, x) :: L) F v
  have hdr := fun F => tdrop_yes q m1 m2 fr ut ((t, x) :: L) F x hT (by simp [its])
  rw [rem_hd fr ut L x t hT] at hdr
  have hx : (ints (its ((t, x) :: L)))[0]? = some (.int .i64 x) := rfl
  have hpos : 0 < (ints (its ((t, x) :: L))).length := by simp [ints, its]
  have hlen : ((t, x) :: L).length = L.length + 1 := rfl
  refine y_of Try.func10 rfl Try.ntmps10 rfl fun w0 => ?_
  (repeat' (first | (show KQ (WL _ _ _ _ _) _ _ _ _; first | refine yW p_move ?_ | refine yW p_asg ?_ | refine yA ?_ | refine yW p_ld ?_ | refine yW p_lda ?_ | refine yB ?_ | refine yW p_nil ?_ | refine yW p_nilf ?_ | refine yW p_ext ?_ | refine yW p_idx ?_ | refine yW p_idxl ?_ | refine yW p_len ?_ | refine yW p_lens ?_ | refine yW p_lenm ?_ | (refine yX ?_; first | refine w_st ?_ | refine w_str ?_ | refine w_stra ?_ | (refine w_ap0 ?_; intro ao1 cap1) | (refine w_ap ?_; intro ao1 cap1) | (refine w_bs ?_; intro q) | (refine w_call (hp _) ?_; rintro r L ⟨a2, c2, rfl, rfl⟩) | (refine w_call (hpl _ _) ?_; rintro r L ⟨rfl, rfl⟩) | fail) | fail) | (show KQ (CD _ _ _ _ _) _ _ _ _; first | refine yT ?_ | refine yF ?_ | fail) | ((first | refine yC ?_ ?_) <;> (intro hc; (try simp only [hcS] at hc); try exact dD)) | refine yE ?_ | fail))
  rename_i q5
  all_goals (refine y_cr ?_; refine kq_draw 7 (blk r (.cells (rdc q5 lot ao1 (TD.length + 1) cap1).toArray 60 (0, 0)) :: lrow a2 c2 ((t, x) :: L) :: row 3 1 (.slice ao1 (TD.length + 1) cap1) (TD.length + 1) (ints TD ++ List.flatMap celv [Value.int .i64 0]) :: F) 9 ?_; (all_goals refine kq_take 0 rfl p_move ?_); (all_goals (first | refine kq_take 1 rfl p_nil ?_ | refine kq_take 1 rfl p_nilf ?_)); (all_goals refine tkf 2 ?_); (all_goals refine tkl 3 ?_); (all_goals refine kq_take 4 rfl p_move ?_); (all_goals refine kq_take 5 rfl p_move ?_); (all_goals (first | refine kq_take 6 rfl p_idx ?_ | refine kq_take 6 rfl p_idxl ?_)); (all_goals refine tkl 7 ?_); (all_goals (refine kq_each [8] ⟨?_, trivial⟩; (refine kq_op ?_; first | (refine w_call (hdr _) ?_; rintro r L ⟨rfl, rfl⟩)))); (all_goals refine kq_done ?_))
  all_goals (repeat' (first | (show KQ (WL _ _ _ _ _) _ _ _ _; first | refine yW p_move ?_ | refine yW p_asg ?_ | refine yA ?_ | refine yW p_ld ?_ | refine yW p_lda ?_ | refine yB ?_ | refine yW p_nil ?_ | refine yW p_nilf ?_ | refine yW p_ext ?_ | refine yW p_idx ?_ | refine yW p_idxl ?_ | refine yW p_len ?_ | refine yW p_lens ?_ | refine yW p_lenm ?_ | (refine yX ?_; first | refine w_st ?_ | refine w_str ?_ | refine w_stra ?_ | (refine w_ap0 ?_; intro ao1 cap1) | (refine w_ap ?_; intro ao1 cap1) | (refine w_bs ?_; intro q) | fail) | fail) | (show KQ (CD _ _ _ _ _) _ _ _ _; first | refine yT ?_ | refine yF ?_ | fail) | ((first | refine yC ?_ ?_) <;> (intro hc; (try simp only [hcS] at hc); try exact dD)) | refine yE ?_ | fail))
  all_goals (refine y_fin ?_; apply Exists.intro; apply And.intro; (focus (refine ⟨ao1, cap1, rfl, ?_⟩; unfold rdn irow; rw [List.length_append, ints_append])); exact Ent.auto)
/-! ### nobody -/
theorem rall_nil : Sp Try.prog 16 [nilp] F fun v M => v = .slice none 0 0 ∧ M = F := by
  refine y_of Try.func16 rfl Try.ntmps16 rfl fun w0 => ?_
  (repeat' (first | (show KQ (WL _ _ _ _ _) _ _ _ _; first | refine yW p_move ?_ | refine yW p_asg ?_ | refine yA ?_ | refine yW p_ld ?_ | refine yW p_lda ?_ | refine yB ?_ | refine yW p_nil ?_ | refine yW p_nilf ?_ | fail) | (show KQ (CD _ _ _ _ _) _ _ _ _; first | refine yT ?_ | refine yF ?_ | fail) | ((first | refine yC ?_ ?_) <;> (intro hc; (try simp only [hcS] at hc); try exact dD)) | refine yE ?_ | fail))
  all_goals (refine y_fin ?_; exact ⟨_, ⟨rfl, rfl⟩, Ent.auto⟩)
theorem rpick_nil : Sp Try.prog 10 [nilp] F fun v M => v = .tuple #[.int .i64 0, .bool false] ∧ M = F := by
  refine y_of Try.func10 rfl Try.ntmps10 rfl fun w0 => ?_
  (repeat' (first | (show KQ (WL _ _ _ _ _) _ _ _ _; first | refine yW p_move ?_ | refine yW p_asg ?_ | refine yA ?_ | refine yW p_ld ?_ | refine yW p_lda ?_ | refine yB ?_ | refine yW p_nil ?_ | refine yW p_nilf ?_ | refine yW p_ext ?_ | refine yW p_idx ?_ | refine yW p_idxl ?_ | refine yW p_len ?_ | refine yW p_lens ?_ | refine yW p_lenm ?_ | (refine yX ?_; first | refine w_st ?_ | refine w_str ?_ | refine w_stra ?_ | (refine w_ap0 ?_; intro ao1 cap1) | (refine w_ap ?_; intro ao1 cap1) | (refine w_bs ?_; intro q) | (refine w_call (rall_nil _) ?_; rintro r L ⟨rfl, rfl⟩) | fail) | fail) | (show KQ (CD _ _ _ _ _) _ _ _ _; first | refine yT ?_ | refine yF ?_ | fail) | ((first | refine yC ?_ ?_) <;> (intro hc; (try simp only [hcS] at hc); try exact dD)) | refine yE ?_ | fail))
  all_goals (refine y_fin ?_; exact ⟨_, ⟨rfl, rfl⟩, Ent.auto⟩)
theorem rpeek_nil : Sp Try.prog 25 [nilp] F fun v M => v = .tuple #[.int .i64 0, .bool false] ∧ M = F := by
  refine y_of Try.func25 rfl Try.ntmps25 rfl fun w0 => ?_
  (repeat' (first | (show KQ (WL _ _ _ _ _) _ _ _ _; first | refine yW p_move ?_ | refine yW p_asg ?_ | refine yW p_ld ?_ | refine yW p_lda ?_ | refine yB ?_ | refine yW p_ext ?_ | refine yW p_idx ?_ | refine yW p_idxl ?_ | refine yW p_len ?_ | refine yW p_lens ?_ | refine yW p_lenm ?_ | (refine yX ?_; first | (refine w_call (rall_nil _) ?_; rintro r L ⟨rfl, rfl⟩) | fail) | fail) | (show KQ (CD _ _ _ _ _) _ _ _ _; first | refine yT ?_ | refine yF ?_ | fail) | ((first | refine yC ?_ ?_) <;> (intro hc; (try simp only [hcS] at hc); try exact dD)) | refine yE ?_ | fail))
  all_goals (refine y_fin ?_; exact ⟨_, ⟨rfl, rfl⟩, Ent.auto⟩)
theorem rwake_nil : Sp Try.prog 9 [nilp, .int .i64 n] F fun v M => v = .int .i64 3 ∧ M = F := by
  refine y_of Try.func9 rfl Try.ntmps9 rfl fun w0 => ?_
  (repeat' (first | (show KQ (WL _ _ _ _ _) _ _ _ _; first | refine yW p_move ?_ | refine yW p_asg ?_ | refine yA ?_ | refine yW p_ld ?_ | refine yW p_lda ?_ | refine yB ?_ | refine yW p_nil ?_ | refine yW p_nilf ?_ | fail) | (show KQ (CD _ _ _ _ _) _ _ _ _; first | refine yT ?_ | refine yF ?_ | fail) | ((first | refine yC ?_ ?_) <;> (intro hc; (try simp only [hcS] at hc); try exact dD)) | refine yE ?_ | fail))
  all_goals (refine y_fin ?_; exact ⟨_, ⟨rfl, rfl⟩, Ent.auto⟩)
theorem rrest_nil : Sp Try.prog 20 [nilp, .int .i64 n] F fun v M => v = .bool false ∧ M = F := by
  refine y_of Try.func20 rfl Try.ntmps20 rfl fun w0 => ?_
  (repeat' (first | (show KQ (WL _ _ _ _ _) _ _ _ _; first | refine yW p_move ?_ | refine yW p_asg ?_ | refine yA ?_ | refine yW p_ld ?_ | refine yW p_lda ?_ | refine yB ?_ | refine yW p_nil ?_ | refine yW p_nilf ?_ | refine yW p_pt ?_ | refine yW p_pf ?_ | refine yN ?_ | refine yO ?_ | fail) | ((first | refine yG ?_ ?_) <;> (intro hc; (try simp only [hcS] at hc); try exact dD)) | refine yE ?_ | fail))
  all_goals (refine y_fin ?_; exact ⟨_, ⟨rfl, rfl⟩, Ent.auto⟩)
theorem rhas_nil : Sp Try.prog 11 [nilp, .int .i64 n] F fun v M => v = .bool false ∧ M = F := by
  refine y_of Try.func11 rfl Try.ntmps11 rfl fun w0 => ?_
  (repeat' (first | (show KQ (WL _ _ _ _ _) _ _ _ _; first | refine yW p_move ?_ | refine yW p_asg ?_ | refine yA ?_ | refine yW p_ld ?_ | refine yW p_lda ?_ | refine yB ?_ | refine yW p_nil ?_ | refine yW p_nilf ?_ | refine yW p_pt ?_ | refine yW p_pf ?_ | refine yN ?_ | refine yO ?_ | fail) | ((first | refine yG ?_ ?_) <;> (intro hc; (try simp only [hcS] at hc); try exact dD)) | refine yE ?_ | fail))
  all_goals (refine y_fin ?_; exact ⟨_, ⟨rfl, rfl⟩, Ent.auto⟩)
theorem rlen_nil : Sp Try.prog 26 [nilp] F fun v M => v = .int .i64 0 ∧ M = F := by
  refine y_of Try.func26 rfl Try.ntmps26 rfl fun w0 => ?_
  (repeat' (first | (show KQ (WL _ _ _ _ _) _ _ _ _; first | refine yW p_move ?_ | refine yW p_asg ?_ | refine yA ?_ | refine yW p_ld ?_ | refine yW p_lda ?_ | refine yB ?_ | refine yW p_nil ?_ | refine yW p_nilf ?_ | fail) | (show KQ (CD _ _ _ _ _) _ _ _ _; first | refine yT ?_ | refine yF ?_ | fail) | ((first | refine yC ?_ ?_) <;> (intro hc; (try simp only [hcS] at hc); try exact dD)) | refine yE ?_ | fail))
  all_goals (refine y_fin ?_; exact ⟨_, ⟨rfl, rfl⟩, Ent.auto⟩)
theorem rturns_nil : Sp Try.prog 12 [nilp] F fun v M => v = .int .i64 0 ∧ M = F := by
  refine y_of Try.func12 rfl Try.ntmps12 rfl fun w0 => ?_
  (repeat' (first | (show KQ (WL _ _ _ _ _) _ _ _ _; first | refine yW p_move ?_ | refine yW p_asg ?_ | refine yA ?_ | refine yW p_ld ?_ | refine yW p_lda ?_ | refine yB ?_ | refine yW p_nil ?_ | refine yW p_nilf ?_ | refine yW p_len ?_ | refine yW p_lens ?_ | refine yW p_lenm ?_ | fail) | (show KQ (CD _ _ _ _ _) _ _ _ _; first | refine yT ?_ | refine yF ?_ | fail) | ((first | refine yC ?_ ?_) <;> (intro hc; (try simp only [hcS] at hc); try exact dD)) | refine yE ?_ | fail))
  all_goals (refine y_fin ?_; exact ⟨_, ⟨rfl, rfl⟩, Ent.auto⟩)
theorem rtold_nil : Sp Try.prog 14 [nilp] F fun v M => v = .slice none 0 0 ∧ M = F := by
  refine y_of Try.func14 rfl Try.ntmps14 rfl fun w0 => ?_
  (repeat' (first | (show KQ (WL _ _ _ _ _) _ _ _ _; first | refine yW p_move ?_ | refine yW p_asg ?_ | refine yA ?_ | refine yW p_ld ?_ | refine yW p_lda ?_ | refine yB ?_ | refine yW p_nil ?_ | refine yW p_nilf ?_ | fail) | (show KQ (CD _ _ _ _ _) _ _ _ _; first | refine yT ?_ | refine yF ?_ | fail) | ((first | refine yC ?_ ?_) <;> (intro hc; (try simp only [hcS] at hc); try exact dD)) | refine yE ?_ | fail))
  all_goals (refine y_fin ?_; exact ⟨_, ⟨rfl, rfl⟩, Ent.auto⟩)
theorem rclone_nil : Sp Try.prog 22 [nilp] F fun v M => v = nilp ∧ M = F := by
  refine y_of Try.func22 rfl Try.ntmps22 rfl fun w0 => ?_
  (repeat' (first | (show KQ (WL _ _ _ _ _) _ _ _ _; first | refine yW p_move ?_ | refine yW p_asg ?_ | refine yA ?_ | refine yW p_ld ?_ | refine yW p_lda ?_ | refine yB ?_ | refine yW p_nil ?_ | refine yW p_nilf ?_ | refine yW p_idx ?_ | refine yW p_idxl ?_ | refine yW p_len ?_ | refine yW p_lens ?_ | refine yW p_lenm ?_ | (refine yX ?_; first | refine w_st ?_ | refine w_str ?_ | refine w_stra ?_ | (refine w_al ?_; intro q) | fail) | fail) | (show KQ (CD _ _ _ _ _) _ _ _ _; first | refine yT ?_ | refine yF ?_ | fail) | ((first | refine yC ?_ ?_) <;> (intro hc; (try simp only [hcS] at hc); try exact dD)) | refine yE ?_ | fail))
  all_goals (refine y_fin ?_; exact ⟨_, ⟨rfl, rfl⟩, Ent.auto⟩)
end
end Go.Proofs.Ytfkamdahfmlgmaa
