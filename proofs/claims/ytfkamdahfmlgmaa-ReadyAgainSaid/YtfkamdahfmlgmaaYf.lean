/- DERIVED. Ready ones, by any policy and picks: what each function tells, on the hidden part. -/
import Derived.Test.YtfkamdahfmlgmaaYe
import Derived.Test.YtfkamdahfmlgmaaVcc
namespace Go.Proofs.Ytfkamdahfmlgmaa
set_option linter.unusedSimpArgs false
set_option linter.unusedVariables false
open Go Sl Cv Go.RowKit
section
variable (F : List HP) (r : Nat) (S : RS) (b : Nat) (x : Int)
/-! ### New -/
theorem new_pol (pol lot : Int) (v : Value) (h : pol < 0 ∨ 4 < pol) : Sp Try.prog 7 [.int .i64 pol, .int .u64 lot, v] F fun v M => v = .tuple #[nilp, .int .i64 220] ∧ M = F := by
  by_cases h1 : pol < 0
  · refine y_of Try.func7 rfl Try.ntmps7 rfl fun w0 => ?_
    (repeat' (first | (show KQ (WL _ _ _ _ _) _ _ _ _; first | refine yW p_move ?_ | refine yW p_asg ?_ | refine yW p_lss ?_ | refine yW p_gtr ?_ | refine yW p_pt ?_ | refine yW p_pf ?_ | refine yW p_len ?_ | refine yW p_lens ?_ | refine yW p_lenm ?_ | refine yW p_bld ?_ | (refine yX ?_; first | (refine w_bx ?_; intro q) | fail) | refine yN ?_ | refine yO ?_ | fail) | (show KQ (CD _ _ _ _ _) _ _ _ _; first | refine yT ?_ | refine yF ?_ | fail) | ((first | refine yG ?_ ?_ | refine yC ?_ ?_) <;> (intro hc; (try simp only [hcS] at hc); try exact dD)) | refine yE ?_ | fail))
    all_goals (refine y_fin ?_; exact ⟨_, ⟨rfl, rfl⟩, Ent.auto⟩)
  · have h2 : 4 < pol := by omega
    refine y_of Try.func7 rfl Try.ntmps7 rfl fun w0 => ?_
    (repeat' (first | (show KQ (WL _ _ _ _ _) _ _ _ _; first | refine yW p_move ?_ | refine yW p_asg ?_ | refine yW p_lss ?_ | refine yW p_gtr ?_ | refine yW p_pt ?_ | refine yW p_pf ?_ | refine yW p_len ?_ | refine yW p_lens ?_ | refine yW p_lenm ?_ | refine yW p_bld ?_ | (refine yX ?_; first | (refine w_bx ?_; intro q) | fail) | refine yN ?_ | refine yO ?_ | fail) | (show KQ (CD _ _ _ _ _) _ _ _ _; first | refine yT ?_ | refine yF ?_ | fail) | ((first | refine yG ?_ ?_ | refine yC ?_ ?_) <;> (intro hc; (try simp only [hcS] at hc); try exact dD)) | refine yE ?_ | fail))
    all_goals (refine y_fin ?_; exact ⟨_, ⟨rfl, rfl⟩, Ent.auto⟩)
theorem new_many (pol lot : Int) (po : Option Addr) (pc n : Nat) (h : 0 ≤ pol ∧ pol ≤ 4) (hn : 65536 < n) : Sp Try.prog 7 [.int .i64 pol, .int .u64 lot, .slice po n pc] F fun v M => v = .tuple #[nilp, .int .i64 3] ∧ M = F := by
  refine y_of Try.func7 rfl Try.ntmps7 rfl fun w0 => ?_
  (repeat' (first | (show KQ (WL _ _ _ _ _) _ _ _ _; first | refine yW p_move ?_ | refine yW p_asg ?_ | refine yW p_lss ?_ | refine yW p_gtr ?_ | refine yW p_pt ?_ | refine yW p_pf ?_ | refine yW p_len ?_ | refine yW p_lens ?_ | refine yW p_lenm ?_ | refine yW p_bld ?_ | (refine yX ?_; first | (refine w_bx ?_; intro q) | fail) | refine yN ?_ | refine yO ?_ | fail) | (show KQ (CD _ _ _ _ _) _ _ _ _; first | refine yT ?_ | refine yF ?_ | fail) | ((first | refine yG ?_ ?_ | refine yC ?_ ?_) <;> (intro hc; (try simp only [hcS] at hc); try exact dD)) | refine yE ?_ | fail))
  all_goals (refine y_fin ?_; exact ⟨_, ⟨rfl, rfl⟩, Ent.auto⟩)
def rs0 (pol lot : Int) (P : List Int) : RS := ⟨pol, lot, P, [], []⟩
theorem rs0_ok {pol lot : Int} {P : List Int} (h : 0 ≤ pol ∧ pol ≤ 4) (hl : 0 ≤ lot ∧ lot < 18446744073709551616) (hP : P.length ≤ 65536) : ROk (rs0 pol lot P) := ⟨h, hl, List.nodup_nil, Nat.zero_le _, Nat.zero_le _, hP⟩
theorem new_ok (pol lot : Int) (po : Option Addr) (pc : Nat) (P : List Int) (h : 0 ≤ pol ∧ pol ≤ 4) (hP : P.length ≤ 65536) (hr : Reads F (.slice po P.length pc) P.length (ints P)) : Sp Try.prog 7 [.int .i64 pol, .int .u64 lot, .slice po P.length pc] F fun v M => ∃ r, v = .tuple #[ptr r, .int .i64 0] ∧ M = RDY r (rs0 pol lot P) 0 :: F := by
  refine Sp.post (Post := fun v M => ∃ r, v = .tuple #[ptr r, .int .i64 0] ∧ ∃ w : RW (rs0 pol lot P) 0, M = rdg r (rs0 pol lot P) w F) ?_ (by rintro v L ⟨r, rfl, w, rfl⟩; exact ⟨_, ⟨r, rfl, rfl⟩, rshut w F⟩)
  have hcl := clone_spec F po pc P hr (by omega)
  refine y_of Try.func7 rfl Try.ntmps7 rfl fun w0 => ?_
  (repeat' (first | (show KQ (WL _ _ _ _ _) _ _ _ _; first | refine yW p_move ?_ | refine yW p_asg ?_ | refine yW p_lss ?_ | refine yW p_gtr ?_ | refine yW p_pt ?_ | refine yW p_pf ?_ | refine yW p_len ?_ | refine yW p_lens ?_ | refine yW p_lenm ?_ | refine yW p_bld ?_ | (refine yX ?_; first | (refine w_bx ?_; intro q) | (refine w_call (hcl) ?_; rintro r L ⟨a2, c2, rfl, rfl⟩) | (refine w_call (tnew_spec _) ?_; rintro r L ⟨qq, m1, m2, rfl, rfl⟩) | fail) | refine yN ?_ | refine yO ?_ | fail) | (show KQ (CD _ _ _ _ _) _ _ _ _; first | refine yT ?_ | refine yF ?_ | fail) | ((first | refine yG ?_ ?_ | refine yC ?_ ?_) <;> (intro hc; (try simp only [hcS] at hc); try exact dD)) | refine yE ?_ | fail))
  refine KQ.ent ?_ (ent_nil 3 1 none Ent.rfl)
  (refine y_fin ?_; exact ⟨_, ⟨q, rfl, ⟨qq, m1, m2, a2, c2, none, 0, 0, 0, [], ⟨by decide, by decide, by simp, by simp, by simp⟩, by decide, by decide, rfl⟩, rfl⟩, Ent.auto⟩)
/-! ### Wake, Rest -/
theorem wake_spec (hS : ROk S) (hb : b ≤ 8900000000000) : Sp Try.prog 9 [ptr r, .int .i64 x] (RDY r S b :: F) fun v M => v = .int .i64 (wakeE S x) ∧ M = RDY r (wakeS S x) (b + 1) :: F := by
  refine Sp.post (Post := fun v M => v = .int .i64 (wakeE S x) ∧ ∃ w : RW (wakeS S x) (b + 1), M = rdg r (wakeS S x) w F) (rsp fun w => ?_) (by rintro v L ⟨rfl, w, rfl⟩; exact ⟨_, ⟨rfl, rfl⟩, rshut w F⟩)
  have hlen : w.LL.length = S.L.length := by rw [← its_len, w.it]
  have hut := w.utb
  unfold wakeE wakeS
  by_cases h1 : x ∈ S.L
  · have hp := fun F => tput_there w.q w.m1 w.m2 w.fr w.ut w.LL F x w.ti (by rw [w.it]; exact h1)
    rw [if_pos h1, if_pos (.inl h1)]
    refine y_of Try.func9 rfl Try.ntmps9 rfl fun w0 => ?_
    (repeat' (first | (show KQ (WL _ _ _ _ _) _ _ _ _; first | refine yW p_move ?_ | refine yW p_asg ?_ | refine yA ?_ | refine yW p_ld ?_ | refine yW p_lda ?_ | refine yB ?_ | refine yW p_nil ?_ | refine yW p_nilf ?_ | (refine yX ?_; first | (refine w_call (hp _) ?_; rintro r L ⟨rfl, rfl⟩) | fail) | fail) | (show KQ (CD _ _ _ _ _) _ _ _ _; first | refine yT ?_ | refine yF ?_ | fail) | ((first | refine yC ?_ ?_) <;> (intro hc; (try simp only [hcS] at hc); try exact dD)) | refine yE ?_ | fail))
    all_goals (refine y_fin ?_; exact ⟨_, ⟨rfl, ⟨w.q, w.m1, w.m2, w.pa, w.pc, w.a, w.c, w.fr, w.ut, w.LL, w.ti, w.fru, by omega, w.it⟩, rfl⟩, Ent.auto⟩)
  · rw [if_neg h1]
    by_cases h2 : 65536 ≤ S.L.length
    · have hp := fun F => tput_many w.q w.m1 w.m2 w.fr w.ut w.LL F x w.ti (by rw [w.it]; exact h1) (by omega)
      rw [if_pos h2, if_pos (.inr h2)]
      refine y_of Try.func9 rfl Try.ntmps9 rfl fun w0 => ?_
      (repeat' (first | (show KQ (WL _ _ _ _ _) _ _ _ _; first | refine yW p_move ?_ | refine yW p_asg ?_ | refine yA ?_ | refine yW p_ld ?_ | refine yW p_lda ?_ | refine yB ?_ | refine yW p_nil ?_ | refine yW p_nilf ?_ | (refine yX ?_; first | (refine w_call (hp _) ?_; rintro r L ⟨rfl, rfl⟩) | fail) | fail) | (show KQ (CD _ _ _ _ _) _ _ _ _; first | refine yT ?_ | refine yF ?_ | fail) | ((first | refine yC ?_ ?_) <;> (intro hc; (try simp only [hcS] at hc); try exact dD)) | refine yE ?_ | fail))
      all_goals (refine y_fin ?_; exact ⟨_, ⟨rfl, ⟨w.q, w.m1, w.m2, w.pa, w.pc, w.a, w.c, w.fr, w.ut, w.LL, w.ti, w.fru, by omega, w.it⟩, rfl⟩, Ent.auto⟩)
    · have hni : x ∉ its w.LL := by rw [w.it]; exact h1
      have hp := fun F => tput_new w.q w.m1 w.m2 w.fr w.ut w.LL F x w.ti hni (by omega) w.fru
      rw [if_neg h2, if_neg (by rintro (h | h); exact h1 h; exact h2 h)]
      refine y_of Try.func9 rfl Try.ntmps9 rfl fun w0 => ?_
      (repeat' (first | (show KQ (WL _ _ _ _ _) _ _ _ _; first | refine yW p_move ?_ | refine yW p_asg ?_ | refine yA ?_ | refine yW p_ld ?_ | refine yW p_lda ?_ | refine yB ?_ | refine yW p_nil ?_ | refine yW p_nilf ?_ | (refine yX ?_; first | (refine w_call (hp _) ?_; rintro r L ⟨rfl, rfl⟩) | fail) | fail) | (show KQ (CD _ _ _ _ _) _ _ _ _; first | refine yT ?_ | refine yF ?_ | fail) | ((first | refine yC ?_ ?_) <;> (intro hc; (try simp only [hcS] at hc); try exact dD)) | refine yE ?_ | fail))
      all_goals (refine y_fin ?_; exact ⟨_, ⟨rfl, ⟨w.q, w.m1, w.m2, w.pa, w.pc, w.a, w.c, w.fr, w.ut + 1, w.LL ++ [(w.ut, x)], w.ti.more w.fru hni (by omega), by have := w.fru; omega, by omega, by rw [its_snoc, w.it]⟩, rfl⟩, Ent.auto⟩)
theorem tdrop_spec (q m1 m2 : Nat) (fr ut : Int) (LL : LL) (hT : TI fr ut LL) : Sp Try.prog 31 [ptr q, .int .i64 x] (tq q m1 m2 fr ut LL F) fun v M => v = .bool (decide (x ∈ its LL)) ∧ M = tq q m1 m2 fr ut (rem LL x) F := by
  by_cases h : x ∈ its LL
  · rw [decide_eq_true h]; exact tdrop_yes q m1 m2 fr ut LL F x hT h
  · have e : rem LL x = LL := List.filter_eq_self.2 fun p hp => by
      have : p.2 ≠ x := fun e => h (List.mem_map.2 ⟨p, hp, e⟩)
      simpa using this
    rw [decide_eq_false h, e]; exact tdrop_no q m1 m2 fr ut LL F x hT h
theorem rest_spec : Sp Try.prog 20 [ptr r, .int .i64 x] (RDY r S b :: F) fun v M => v = .bool (decide (x ∈ S.L)) ∧ M = RDY r (restS S x) b :: F := by
  refine Sp.post (Post := fun v M => v = .bool (decide (x ∈ S.L)) ∧ ∃ w : RW (restS S x) b, M = rdg r (restS S x) w F) (rsp fun w => ?_) (by rintro v L ⟨rfl, w, rfl⟩; exact ⟨_, ⟨rfl, rfl⟩, rshut w F⟩)
  have hp := fun F => tdrop_spec F x w.q w.m1 w.m2 w.fr w.ut w.LL w.ti
  rw [w.it] at hp
  refine y_of Try.func20 rfl Try.ntmps20 rfl fun w0 => ?_
  (repeat' (first | (show KQ (WL _ _ _ _ _) _ _ _ _; first | refine yW p_move ?_ | refine yW p_asg ?_ | refine yA ?_ | refine yW p_ld ?_ | refine yW p_lda ?_ | refine yB ?_ | refine yW p_nil ?_ | refine yW p_nilf ?_ | refine yW p_pt ?_ | refine yW p_pf ?_ | (refine yX ?_; first | (refine w_call (hp _) ?_; rintro r L ⟨rfl, rfl⟩) | fail) | refine yN ?_ | refine yO ?_ | fail) | ((first | refine yG ?_ ?_) <;> (intro hc; (try simp only [hcS] at hc); try exact dD)) | refine yE ?_ | fail))
  all_goals (refine y_fin ?_; exact ⟨_, ⟨rfl, ⟨w.q, w.m1, w.m2, w.pa, w.pc, w.a, w.c, w.fr, w.ut, rem w.LL x, rem_keep w.ti x, w.fru, w.utb, by rw [its_rem, w.it]; rfl⟩, rfl⟩, Ent.auto⟩)
/-! ### what is told -/
theorem has_spec : Sp Try.prog 11 [ptr r, .int .i64 x] (RDY r S b :: F) fun v M => v = .bool (decide (x ∈ S.L)) ∧ M = RDY r S b :: F := by
  refine Sp.post (Post := fun v M => v = .bool (decide (x ∈ S.L)) ∧ ∃ w : RW S b, M = rdg r S w F) (rsp fun w => ?_) (by rintro v L ⟨rfl, w, rfl⟩; exact ⟨_, ⟨rfl, rfl⟩, rshut w F⟩)
  have hp := fun F => thas_spec w.q w.m1 w.m2 w.fr w.ut w.LL F x w.ti
  rw [w.it] at hp
  refine y_of Try.func11 rfl Try.ntmps11 rfl fun w0 => ?_
  (repeat' (first | (show KQ (WL _ _ _ _ _) _ _ _ _; first | refine yW p_move ?_ | refine yW p_asg ?_ | refine yA ?_ | refine yW p_ld ?_ | refine yW p_lda ?_ | refine yB ?_ | refine yW p_nil ?_ | refine yW p_nilf ?_ | refine yW p_pt ?_ | refine yW p_pf ?_ | (refine yX ?_; first | (refine w_call (hp _) ?_; rintro r L ⟨rfl, rfl⟩) | fail) | refine yN ?_ | refine yO ?_ | fail) | ((first | refine yG ?_ ?_) <;> (intro hc; (try simp only [hcS] at hc); try exact dD)) | refine yE ?_ | fail))
  all_goals (refine y_fin ?_; exact ⟨_, ⟨rfl, w, rfl⟩, Ent.auto⟩)
theorem tall_i (q m1 m2 : Nat) (fr ut : Int) (LL : LL) (hT : TI fr ut LL) (hL : (its LL).length ≤ 65536) : Sp Try.prog 33 [ptr q] (tq q m1 m2 fr ut LL F) fun v M => ∃ a c, v = .slice a (its LL).length c ∧ M = irow a c (its LL) :: tq q m1 m2 fr ut LL F := by
  have := tall_spec q m1 m2 fr ut LL F sort_ok hT (by rw [← its_len]; exact hL)
  unfold lrow at this
  rw [← its_len] at this
  exact this
theorem all_open (w : RW S b) (hS : ROk S) : Sp Try.prog 16 [ptr r] (rdg r S w F) fun v M => ∃ a c, v = .slice a S.L.length c ∧ M = irow a c S.L :: rdg r S w F := by
  have hp := fun F => tall_i F w.q w.m1 w.m2 w.fr w.ut w.LL w.ti (by rw [w.it]; exact hS.len)
  rw [w.it] at hp
  refine y_of Try.func16 rfl Try.ntmps16 rfl fun w0 => ?_
  (repeat' (first | (show KQ (WL _ _ _ _ _) _ _ _ _; first | refine yW p_move ?_ | refine yW p_asg ?_ | refine yA ?_ | refine yW p_ld ?_ | refine yW p_lda ?_ | refine yB ?_ | refine yW p_nil ?_ | refine yW p_nilf ?_ | (refine yX ?_; first | (refine w_call (hp _) ?_; rintro r L ⟨a2, c2, rfl, rfl⟩) | fail) | fail) | (show KQ (CD _ _ _ _ _) _ _ _ _; first | refine yT ?_ | refine yF ?_ | fail) | ((first | refine yC ?_ ?_) <;> (intro hc; (try simp only [hcS] at hc); try exact dD)) | refine yE ?_ | fail))
  all_goals (refine y_fin ?_; exact ⟨_, ⟨a2, c2, rfl, rfl⟩, Ent.auto⟩)
theorem all_spec (hS : ROk S) : Sp Try.prog 16 [ptr r] (RDY r S b :: F) fun v M => ∃ a c, v = .slice a S.L.length c ∧ M = irow a c S.L :: RDY r S b :: F := by
  refine rsp fun w => Sp.post (all_open F r S b w hS) ?_
  rintro v L ⟨a, c, rfl, rfl⟩
  exact ⟨_, ⟨a, c, rfl, rfl⟩, Ent.tail (rshut w F)⟩
theorem len_spec : Sp Try.prog 26 [ptr r] (RDY r S b :: F) fun v M => v = .int .i64 S.L.length ∧ M = RDY r S b :: F := by
  refine Sp.post (Post := fun v M => v = .int .i64 S.L.length ∧ ∃ w : RW S b, M = rdg r S w F) (rsp fun w => ?_) (by rintro v L ⟨rfl, w, rfl⟩; exact ⟨_, ⟨rfl, rfl⟩, rshut w F⟩)
  have hp := fun F => tlen_spec w.q w.m1 w.m2 w.fr w.ut w.LL F
  rw [← its_len, w.it] at hp
  refine y_of Try.func26 rfl Try.ntmps26 rfl fun w0 => ?_
  (repeat' (first | (show KQ (WL _ _ _ _ _) _ _ _ _; first | refine yW p_move ?_ | refine yW p_asg ?_ | refine yA ?_ | refine yW p_ld ?_ | refine yW p_lda ?_ | refine yB ?_ | refine yW p_nil ?_ | refine yW p_nilf ?_ | (refine yX ?_; first | (refine w_call (hp _) ?_; rintro r L ⟨rfl, rfl⟩) | fail) | fail) | (show KQ (CD _ _ _ _ _) _ _ _ _; first | refine yT ?_ | refine yF ?_ | fail) | ((first | refine yC ?_ ?_) <;> (intro hc; (try simp only [hcS] at hc); try exact dD)) | refine yE ?_ | fail))
  all_goals (refine y_fin ?_; exact ⟨_, ⟨rfl, w, rfl⟩, Ent.auto⟩)
theorem turns_spec' : Sp Try.prog 12 [ptr r] (RDY r S b :: F) fun v M => v = .int .i64 S.TD.length ∧ M = RDY r S b :: F := by
  refine Sp.post (Post := fun v M => v = .int .i64 S.TD.length ∧ ∃ w : RW S b, M = rdg r S w F) (rsp fun w => ?_) (by rintro v L ⟨rfl, w, rfl⟩; exact ⟨_, ⟨rfl, rfl⟩, rshut w F⟩)
  refine y_of Try.func12 rfl Try.ntmps12 rfl fun w0 => ?_
  (repeat' (first | (show KQ (WL _ _ _ _ _) _ _ _ _; first | refine yW p_move ?_ | refine yW p_asg ?_ | refine yA ?_ | refine yW p_ld ?_ | refine yW p_lda ?_ | refine yB ?_ | refine yW p_nil ?_ | refine yW p_nilf ?_ | refine yW p_len ?_ | refine yW p_lens ?_ | refine yW p_lenm ?_ | fail) | (show KQ (CD _ _ _ _ _) _ _ _ _; first | refine yT ?_ | refine yF ?_ | fail) | ((first | refine yC ?_ ?_) <;> (intro hc; (try simp only [hcS] at hc); try exact dD)) | refine yE ?_ | fail))
  all_goals (refine y_fin ?_; exact ⟨_, ⟨rfl, w, rfl⟩, Ent.auto⟩)
theorem told_spec (hS : ROk S) : Sp Try.prog 14 [ptr r] (RDY r S b :: F) fun v M => ∃ a c, v = .slice a S.TD.length c ∧ M = irow a c S.TD :: RDY r S b :: F := by
  refine Sp.post (Post := fun v M => ∃ a c, v = .slice a S.TD.length c ∧ ∃ w : RW S b, M = irow a c S.TD :: rdg r S w F) (rsp fun w => ?_) (by rintro v L ⟨a, c, rfl, w, rfl⟩; exact ⟨_, ⟨a, c, rfl, rfl⟩, Ent.tail (rshut w F)⟩)
  have htd := hS.td
  have hcl := fun F hr => clone_spec F w.a w.c S.TD hr (by omega)
  refine y_of Try.func14 rfl Try.ntmps14 rfl fun w0 => ?_
  (repeat' (first | (show KQ (WL _ _ _ _ _) _ _ _ _; first | refine yW p_move ?_ | refine yW p_asg ?_ | refine yA ?_ | refine yW p_ld ?_ | refine yW p_lda ?_ | refine yB ?_ | refine yW p_nil ?_ | refine yW p_nilf ?_ | (refine yX ?_; first | (refine w_call (hcl _ ?_) ?_; (all_goals (try (focus (first | (first | (apply Reads.row; focus ((repeat (first | exact Sel.here | apply Sel.there)); done)) | (apply reads_blk; focus ((repeat (first | exact Sel.here | apply Sel.there)); done)) | ((refine Reads.ent (by assumption) ?_); ((repeat (first | with_reducible exact Ent.rfl | with_reducible exact Ent.nil | ((with_reducible apply Ent.cons); focus ((repeat (first | exact Sel.here | apply Sel.there)); done)) | with_reducible refine Ent.drop ?_)); done))) | assumption | omega)))); rintro r L ⟨a2, c2, rfl, rfl⟩) | fail) | fail) | (show KQ (CD _ _ _ _ _) _ _ _ _; first | refine yT ?_ | refine yF ?_ | fail) | ((first | refine yC ?_ ?_) <;> (intro hc; (try simp only [hcS] at hc); try exact dD)) | refine yE ?_ | fail))
  all_goals (refine y_fin ?_; exact ⟨_, ⟨a2, c2, rfl, w, rfl⟩, Ent.auto⟩)
/-! ### Pick, Peek -/
theorem pick_none (hS : ROk S) (h : S.L = []) : Sp Try.prog 10 [ptr r] (RDY r S b :: F) fun v M => v = .tuple #[.int .i64 0, .bool false] ∧ M = RDY r S b :: F := by
  have hp := fun F => all_spec F r S b hS
  rw [h] at hp
  refine y_of Try.func10 rfl Try.ntmps10 rfl fun w0 => ?_
  (repeat' (first | (show KQ (WL _ _ _ _ _) _ _ _ _; first | refine yW p_move ?_ | refine yW p_asg ?_ | refine yA ?_ | refine yW p_ld ?_ | refine yW p_lda ?_ | refine yB ?_ | refine yW p_nil ?_ | refine yW p_nilf ?_ | refine yW p_ext ?_ | refine yW p_idx ?_ | refine yW p_idxl ?_ | refine yW p_len ?_ | refine yW p_lens ?_ | refine yW p_lenm ?_ | (refine yX ?_; first | refine w_st ?_ | refine w_str ?_ | refine w_stra ?_ | (refine w_ap0 ?_; intro ao1 cap1) | (refine w_ap ?_; intro ao1 cap1) | (refine w_bs ?_; intro q) | (refine w_call (hp _) ?_; rintro r L ⟨a2, c2, rfl, rfl⟩) | fail) | fail) | (show KQ (CD _ _ _ _ _) _ _ _ _; first | refine yT ?_ | refine yF ?_ | fail) | ((first | refine yC ?_ ?_) <;> (intro hc; (try simp only [hcS] at hc); try exact dD)) | refine yE ?_ | fail))
  all_goals (refine y_fin ?_; exact ⟨_, ⟨rfl, rfl⟩, Ent.auto⟩)
theorem peek_none (hS : ROk S) (h : S.L = []) : Sp Try.prog 25 [ptr r] (RDY r S b :: F) fun v M => v = .tuple #[.int .i64 0, .bool false] ∧ M = RDY r S b :: F := by
  have hp := fun F => all_spec F r S b hS
  rw [h] at hp
  refine y_of Try.func25 rfl Try.ntmps25 rfl fun w0 => ?_
  (repeat' (first | (show KQ (WL _ _ _ _ _) _ _ _ _; first | refine yW p_move ?_ | refine yW p_asg ?_ | refine yW p_ld ?_ | refine yW p_lda ?_ | refine yB ?_ | refine yW p_ext ?_ | refine yW p_idx ?_ | refine yW p_idxl ?_ | refine yW p_len ?_ | refine yW p_lens ?_ | refine yW p_lenm ?_ | (refine yX ?_; first | (refine w_call (hp _) ?_; rintro r L ⟨a2, c2, rfl, rfl⟩) | fail) | fail) | (show KQ (CD _ _ _ _ _) _ _ _ _; first | refine yT ?_ | refine yF ?_ | fail) | ((first | refine yC ?_ ?_) <;> (intro hc; (try simp only [hcS] at hc); try exact dD)) | refine yE ?_ | fail))
  all_goals (refine y_fin ?_; exact ⟨_, ⟨rfl, rfl⟩, Ent.auto⟩)
theorem peek_some (hS : ROk S) (h0 : 0 < S.L.length) : Sp Try.prog 25 [ptr r] (RDY r S b :: F) fun v M => v = .tuple #[.int .i64 (S.L.getD (plS S).1 0), .bool true] ∧ M = RDY r S b :: F := by
  have hlt := hS.plt h0
  have hlen := hS.len
  refine Sp.post (Post := fun v M => v = .tuple #[.int .i64 (S.L.getD (plS S).1 0), .bool true] ∧ ∃ w : RW S b, M = rdg r S w F) (rsp fun w => ?_) (by rintro v L ⟨rfl, w, rfl⟩; exact ⟨_, ⟨rfl, rfl⟩, rshut w F⟩)
  have hp := fun F => all_open F r S b w hS
  have hpl := fun F a2 c2 => rplace_spec r w.q S.pol S.lot w.pa w.pc S.P w.a w.c S.TD F a2 c2 S.L h0 hS.len hS.nd hS.pol hS.lot hS.pk
  have e : plc S.pol S.lot S.L S.P[S.TD.length]? = plS S := rfl
  rw [e] at hpl
  have hx := ints_at S.L _ hlt
  rw [← gd hlt] at hx
  have hpos : 0 < (ints S.L).length := by simp [ints]; omega
  generalize plS S = pp at hpl hx hlt ⊢
  refine y_of Try.func25 rfl Try.ntmps25 rfl fun w0 => ?_
  (repeat' (first | (show KQ (WL _ _ _ _ _) _ _ _ _; first | refine yW p_move ?_ | refine yW p_asg ?_ | refine yW p_ld ?_ | refine yW p_lda ?_ | refine yB ?_ | refine yW p_ext ?_ | refine yW p_idx ?_ | refine yW p_idxl ?_ | refine yW p_len ?_ | refine yW p_lens ?_ | refine yW p_lenm ?_ | (refine yX ?_; first | (refine w_call (hp _) ?_; rintro r L ⟨a2, c2, rfl, rfl⟩) | (refine w_call (hpl _ _ _) ?_; rintro r L ⟨rfl, rfl⟩) | fail) | fail) | (show KQ (CD _ _ _ _ _) _ _ _ _; first | refine yT ?_ | refine yF ?_ | fail) | ((first | refine yC ?_ ?_) <;> (intro hc; (try simp only [hcS] at hc); try exact dD)) | refine yE ?_ | fail))
  all_goals (refine y_fin ?_; exact ⟨_, ⟨rfl, w, rfl⟩, Ent.auto⟩)
set_option maxHeartbeats 8000000 in
theorem pick_some (hS : ROk S) (h0 : 0 < S.L.length) (ht : S.TD.length < 8900000000000) : Sp Try.prog 10 [ptr r] (RDY r S b :: F) fun v M => v = .tuple #[.int .i64 (S.L.getD (plS S).1 0), .bool true] ∧ M = RDY r (pickS S) b :: F := by
  have hlt := hS.plt h0
  have hlen := hS.len
  refine Sp.post (Post := fun v M => v = .tuple #[.int .i64 (S.L.getD (plS S).1 0), .bool true] ∧ ∃ w : RW (pickS S) b, M = rdg r (pickS S) w F) (rsp fun w => ?_) (by rintro v L ⟨rfl, w, rfl⟩; exact ⟨_, ⟨rfl, rfl⟩, rshut w F⟩)
  have hp := fun F => all_open F r S b w hS
  have hpl := fun F a2 c2 => rplace_spec r w.q S.pol S.lot w.pa w.pc S.P w.a w.c S.TD F a2 c2 S.L h0 hS.len hS.nd hS.pol hS.lot hS.pk
  have e : plc S.pol S.lot S.L S.P[S.TD.length]? = plS S := rfl
  rw [e] at hpl
  have hx := ints_at S.L _ hlt
  rw [← gd hlt] at hx
  have hpos : 0 < (ints S.L).length := by simp [ints]; omega
  have hW : ∀ a c, ∃ w2 : RW (pickS S) b, w2.q = w.q ∧ w2.m1 = w.m1 ∧ w2.m2 = w.m2 ∧ w2.pa = w.pa ∧ w2.pc = w.pc ∧ w2.a = a ∧ w2.c = c ∧ w2.fr = w.fr ∧ w2.ut = w.ut ∧ w2.LL = rem w.LL (S.L.getD (plS S).1 0) := fun a c =>
    ⟨⟨w.q, w.m1, w.m2, w.pa, w.pc, a, c, w.fr, w.ut, rem w.LL (S.L.getD (plS S).1 0), rem_keep w.ti _, w.fru, w.utb, by rw [its_rem, w.it, gd hlt, erase_fil hS.nd hlt]; rfl⟩, rfl, rfl, rfl, rfl, rfl, rfl, rfl, rfl, rfl, rfl⟩
  have hdr := fun F => tdrop_spec F (S.L.getD (plS S).1 0) w.q w.m1 w.m2 w.fr w.ut w.LL w.ti
  rw [w.it] at hdr
  have eP : (pickS S).pol = S.pol ∧ (pickS S).lot = (plS S).2 ∧ (pickS S).P = S.P ∧ (pickS S).TD = S.TD ++ [((plS S).1 : Int)] := ⟨rfl, rfl, rfl, rfl⟩
  unfold rdg
  obtain ⟨e1, e2, e3, e4⟩ := eP
  rw [e1, e2, e3, e4]
  clear e1 e2 e3 e4 e
  generalize pickS S = S2 at hW ⊢
  generalize plS S = pp at hpl hx hlt hdr hW ⊢
  obtain ⟨p, lot2⟩ := pp
  dsimp only at hpl hx hlt hdr hW ⊢
  have hW2 : ∀ a c M, M = rd0 r w.q S.pol lot2 w.pa w.pc S.P a c (S.TD ++ [(p : Int)]) (tq w.q w.m1 w.m2 w.fr w.ut (rem w.LL (S.L.getD p 0)) F) → ∃ w2 : RW S2 b, M = rd0 r w2.q S.pol lot2 w2.pa w2.pc S.P w2.a w2.c (S.TD ++ [(p : Int)]) (tq w2.q w2.m1 w2.m2 w2.fr w2.ut w2.LL F) := fun a c M hM => by
    obtain ⟨w2, h1, h2, h3, h4, h5, h6, h7, h8, h9, h10⟩ := hW a c
    exact ⟨w2, by rw [h1, h2, h3, h4, h5, h6, h7, h8, h9, h10]; exact hM⟩
  clear hW
  refine y_of Try.func10 rfl Try.ntmps10 rfl fun w0 => ?_
  (repeat' (first | (show KQ (WL _ _ _ _ _) _ _ _ _; first | refine yW p_move ?_ | refine yW p_asg ?_ | refine yA ?_ | refine yW p_ld ?_ | refine yW p_lda ?_ | refine yB ?_ | refine yW p_nil ?_ | refine yW p_nilf ?_ | refine yW p_ext ?_ | refine yW p_idx ?_ | refine yW p_idxl ?_ | refine yW p_len ?_ | refine yW p_lens ?_ | refine yW p_lenm ?_ | (refine yX ?_; first | refine w_st ?_ | refine w_str ?_ | refine w_stra ?_ | (refine w_ap0 ?_; intro ao1 cap1) | (refine w_ap ?_; intro ao1 cap1) | (refine w_bs ?_; intro q) | (refine w_call (hp _) ?_; rintro r L ⟨a2, c2, rfl, rfl⟩) | (refine w_call (hpl _ _ _) ?_; rintro r L ⟨rfl, rfl⟩) | fail) | fail) | (show KQ (CD _ _ _ _ _) _ _ _ _; first | refine yT ?_ | refine yF ?_ | fail) | ((first | refine yC ?_ ?_) <;> (intro hc; (try simp only [hcS] at hc); try exact dD)) | refine yE ?_ | fail))
  all_goals (refine y_cr ?_; refine kq_draw 7 (blk r (.cells (rgc w.q S.pol lot2 w.pa S.P.length w.pc ao1 (S.TD.length + 1) cap1).toArray 60 (0, 0)) :: irow a2 c2 S.L :: irow w.pa w.pc S.P :: row 3 1 (.slice ao1 (S.TD.length + 1) cap1) (S.TD.length + 1) (ints S.TD ++ List.flatMap celv [Value.int .i64 (p : Int)]) :: F) 9 ?_; (all_goals refine kq_take 0 rfl p_move ?_); (all_goals (first | refine kq_take 1 rfl p_nil ?_ | refine kq_take 1 rfl p_nilf ?_)); (all_goals refine tkf 2 ?_); (all_goals refine tkl 3 ?_); (all_goals refine kq_take 4 rfl p_move ?_); (all_goals refine kq_take 5 rfl p_move ?_); (all_goals (first | refine kq_take 6 rfl p_idx ?_ | refine kq_take 6 rfl p_idxl ?_)); (all_goals refine tkl 7 ?_); (all_goals (refine kq_each [8] ⟨?_, trivial⟩; (refine kq_op ?_; first | (refine w_call (hdr _) ?_; rintro r L ⟨rfl, rfl⟩)))); (all_goals refine kq_done ?_))
  all_goals (repeat' (first | (show KQ (WL _ _ _ _ _) _ _ _ _; first | refine yW p_move ?_ | refine yW p_asg ?_ | refine yA ?_ | refine yW p_ld ?_ | refine yW p_lda ?_ | refine yB ?_ | refine yW p_nil ?_ | refine yW p_nilf ?_ | refine yW p_ext ?_ | refine yW p_idx ?_ | refine yW p_idxl ?_ | refine yW p_len ?_ | refine yW p_lens ?_ | refine yW p_lenm ?_ | (refine yX ?_; first | refine w_st ?_ | refine w_str ?_ | refine w_stra ?_ | (refine w_ap0 ?_; intro ao1 cap1) | (refine w_ap ?_; intro ao1 cap1) | (refine w_bs ?_; intro q) | fail) | fail) | (show KQ (CD _ _ _ _ _) _ _ _ _; first | refine yT ?_ | refine yF ?_ | fail) | ((first | refine yC ?_ ?_) <;> (intro hc; (try simp only [hcS] at hc); try exact dD)) | refine yE ?_ | fail))
  all_goals refine y_fin ?_
  all_goals refine ⟨_, ⟨rfl, hW2 ao1 cap1 _ rfl⟩, ?_⟩
  all_goals (unfold rd0 irow; rw [List.length_append, ints_append]; ((repeat (first | with_reducible exact Ent.rfl | with_reducible exact Ent.nil | ((with_reducible apply Ent.cons); focus ((repeat (first | exact Sel.here | apply Sel.there)); done)) | with_reducible refine Ent.drop ?_)); done))
end
end Go.Proofs.Ytfkamdahfmlgmaa
