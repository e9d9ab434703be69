/- DERIVED. Queues by turn: the front, what is taken, what goes to the back. -/
import Derived.Test.YteafcajlfagbkaaQa
import Derived.Test.YteafcajlfagbkaaVcc
namespace Go.Proofs.Yteafcajlfagbkaa
set_option linter.unusedSimpArgs false
set_option linter.unusedVariables false
open Go Sl Cv Go.RowKit
theorem kget_low {fr ut t x : Int} {L : LL} (h : TI fr ut ((t, x) :: L)) {j : Int} (hj : j < t) : kget ((t, x) :: L) j = none :=
  kget_none (fun hm => by
    obtain ⟨p, hp, e⟩ := List.mem_map.1 hm
    have := h.head.rng p hp
    omega)
section
variable (p m1 m2 : Nat) (fr ut : Int) (L : LL) (F : List HP) (x t : Int)
set_option maxHeartbeats 4000000 in
theorem tskip_spec (hT : TI fr ut ((t, x) :: L)) : Sp Try.prog 39 [ptr p] (tq p m1 m2 fr ut ((t, x) :: L) F) fun _ M => M = tq p m1 m2 t ut ((t, x) :: L) F := by
  have hr := hT.rng (t, x) (by simp)
  dsimp only at hr
  have hlo := hT.lo
  have hhi := hT.hi
  refine y_of Try.func39 rfl Try.ntmps39 rfl fun w0 => ?_
  (repeat' (first | (show KQ (WL _ _ _ _ _) _ _ _ _; first | refine yW p_move ?_ | refine yW p_asg ?_ | refine yA ?_ | refine yW p_ld ?_ | refine yW p_lda ?_ | refine yW p_add6 ?_ | refine yW p_add ?_ | refine yW p_adds ?_ | refine yW p_lss ?_ | refine yW p_nil ?_ | refine yW p_nilf ?_ | refine yW p_ext ?_ | refine yW p_lookt ?_ | refine yW p_lookf ?_ | refine yW p_look1 ?_ | refine yW p_look0 ?_ | (refine yX ?_; first | refine w_st ?_ | refine w_str ?_ | refine w_stra ?_ | fail) | fail) | (show KQ (CD _ _ _ _ _) _ _ _ _; first | refine yT ?_ | refine yF ?_ | fail) | ((first | refine yC ?_ ?_) <;> (intro hc; (try simp only [hcS] at hc); try exact dD)) | refine yE ?_ | fail))
  refine y_loop (X := Int) fr (fun j => fr ≤ j ∧ j ≤ t) (fun _ => [(0, ptr p)]) (fun j => tq p m1 m2 j ut ((t, x) :: L) F) (fun j => (t - j).toNat) ⟨Int.le_refl _, hr.1⟩ ⟨rfl, trivial⟩ Ent.rfl ?_
  rintro K' j ⟨h1, h2⟩ hnext
  by_cases hj : j < t
  · have hg := kget_low hT hj
    (repeat' (first | (show KQ (WL _ _ _ _ _) _ _ _ _; first | refine yW p_move ?_ | refine yW p_asg ?_ | refine yA ?_ | refine yW p_ld ?_ | refine yW p_lda ?_ | refine yW p_add6 ?_ | refine yW p_add ?_ | refine yW p_adds ?_ | refine yW p_lss ?_ | refine yW p_nil ?_ | refine yW p_nilf ?_ | refine yW p_ext ?_ | refine yW p_lookt ?_ | refine yW p_lookf ?_ | refine yW p_look1 ?_ | refine yW p_look0 ?_ | (refine yX ?_; first | refine w_st ?_ | refine w_str ?_ | refine w_stra ?_ | fail) | fail) | (show KQ (CD _ _ _ _ _) _ _ _ _; first | refine yT ?_ | refine yF ?_ | fail) | ((first | refine yC ?_ ?_) <;> (intro hc; (try simp only [hcS] at hc); try exact dD)) | refine yE ?_ | (refine y_cr ?_; refine kq_draw0 0 9 ?_; (all_goals refine kq_take 0 rfl p_move ?_); (all_goals (first | refine kq_take 1 rfl p_nil ?_ | refine kq_take 1 rfl p_nilf ?_)); (all_goals refine tkf 2 ?_); (all_goals refine tkl 3 ?_); (all_goals refine kq_take 4 rfl p_move ?_); (all_goals (first | refine kq_take 5 rfl p_nil ?_ | refine kq_take 5 rfl p_nilf ?_)); (all_goals refine tkf 6 ?_); (all_goals refine tkl 7 ?_); (all_goals refine tkb 8 ?_); (all_goals refine kq_done ?_)) | (refine y_cr ?_; refine kq_draw0 1 14 ?_; (all_goals refine kq_take 0 rfl p_move ?_); (all_goals (first | refine kq_take 1 rfl p_nil ?_ | refine kq_take 1 rfl p_nilf ?_)); (all_goals refine tkf 2 ?_); (all_goals refine tkl 3 ?_); (all_goals refine kq_take 4 rfl p_move ?_); (all_goals (first | refine kq_take 5 rfl p_nil ?_ | refine kq_take 5 rfl p_nilf ?_)); (all_goals refine tkf 6 ?_); (all_goals refine tkl 7 ?_); (all_goals (first | refine kq_take 8 rfl p_lookt ?_ | refine kq_take 8 rfl p_lookf ?_ | refine kq_take 8 rfl p_look1 ?_ | refine kq_take 8 rfl p_look0 ?_)); (all_goals refine kq_take 9 rfl p_move ?_); (all_goals refine kq_take 10 rfl p_ext ?_); (all_goals refine kq_take 11 rfl p_ext ?_); (all_goals refine kq_take 12 rfl p_asg ?_); (all_goals refine kq_take 13 rfl p_asg ?_); (all_goals refine kq_done ?_)) | fail))
    all_goals exact hnext (j + 1) _ _ ⟨by omega, by omega⟩ (by omega) ⟨rfl, trivial⟩ (by ((repeat (first | with_reducible exact Ent.rfl | with_reducible exact Ent.nil | ((with_reducible apply Ent.cons); focus ((repeat (first | exact Sel.here | apply Sel.there)); done)) | with_reducible refine Ent.drop ?_)); done))
  · obtain rfl : j = t := by omega
    have hg : kget ((j, x) :: L) j = some x := by simp [kget]
    (repeat' (first | (show KQ (WL _ _ _ _ _) _ _ _ _; first | refine yW p_move ?_ | refine yW p_asg ?_ | refine yA ?_ | refine yW p_ld ?_ | refine yW p_lda ?_ | refine yW p_add6 ?_ | refine yW p_add ?_ | refine yW p_adds ?_ | refine yW p_lss ?_ | refine yW p_nil ?_ | refine yW p_nilf ?_ | refine yW p_ext ?_ | refine yW p_lookt ?_ | refine yW p_lookf ?_ | refine yW p_look1 ?_ | refine yW p_look0 ?_ | (refine yX ?_; first | refine w_st ?_ | refine w_str ?_ | refine w_stra ?_ | fail) | fail) | (show KQ (CD _ _ _ _ _) _ _ _ _; first | refine yT ?_ | refine yF ?_ | fail) | ((first | refine yC ?_ ?_) <;> (intro hc; (try simp only [hcS] at hc); try exact dD)) | refine yE ?_ | (refine y_cr ?_; refine kq_draw0 0 9 ?_; (all_goals refine kq_take 0 rfl p_move ?_); (all_goals (first | refine kq_take 1 rfl p_nil ?_ | refine kq_take 1 rfl p_nilf ?_)); (all_goals refine tkf 2 ?_); (all_goals refine tkl 3 ?_); (all_goals refine kq_take 4 rfl p_move ?_); (all_goals (first | refine kq_take 5 rfl p_nil ?_ | refine kq_take 5 rfl p_nilf ?_)); (all_goals refine tkf 6 ?_); (all_goals refine tkl 7 ?_); (all_goals refine tkb 8 ?_); (all_goals refine kq_done ?_)) | (refine y_cr ?_; refine kq_draw0 1 14 ?_; (all_goals refine kq_take 0 rfl p_move ?_); (all_goals (first | refine kq_take 1 rfl p_nil ?_ | refine kq_take 1 rfl p_nilf ?_)); (all_goals refine tkf 2 ?_); (all_goals refine tkl 3 ?_); (all_goals refine kq_take 4 rfl p_move ?_); (all_goals (first | refine kq_take 5 rfl p_nil ?_ | refine kq_take 5 rfl p_nilf ?_)); (all_goals refine tkf 6 ?_); (all_goals refine tkl 7 ?_); (all_goals (first | refine kq_take 8 rfl p_lookt ?_ | refine kq_take 8 rfl p_lookf ?_ | refine kq_take 8 rfl p_look1 ?_ | refine kq_take 8 rfl p_look0 ?_)); (all_goals refine kq_take 9 rfl p_move ?_); (all_goals refine kq_take 10 rfl p_ext ?_); (all_goals refine kq_take 11 rfl p_ext ?_); (all_goals refine kq_take 12 rfl p_asg ?_); (all_goals refine kq_take 13 rfl p_asg ?_); (all_goals refine kq_done ?_)) | fail))
    all_goals (refine y_fin ?_; exact ⟨_, rfl, Ent.auto⟩)
theorem tfront_none (hT : TI fr ut []) : Sp Try.prog 30 [ptr p] (tq p m1 m2 fr ut [] F) fun r M => r = .tuple #[.int .i64 0, .bool false] ∧ M = tq p m1 m2 fr ut [] F := by
  have hl0 : tsw [] = [] := rfl
  refine y_of Try.func30 rfl Try.ntmps30 rfl fun w0 => ?_
  (repeat' (first | (show KQ (WL _ _ _ _ _) _ _ _ _; first | refine yW p_move ?_ | refine yW p_asg ?_ | refine yA ?_ | refine yW p_ld ?_ | refine yW p_lda ?_ | refine yB ?_ | refine yW p_nil ?_ | refine yW p_nilf ?_ | refine yW p_pt ?_ | refine yW p_pf ?_ | refine yW p_len ?_ | refine yW p_lens ?_ | refine yW p_lenm ?_ | refine yW p_lookt ?_ | refine yW p_lookf ?_ | refine yW p_look1 ?_ | refine yW p_look0 ?_ | refine yN ?_ | refine yO ?_ | fail) | (show KQ (CD _ _ _ _ _) _ _ _ _; first | refine yT ?_ | refine yF ?_ | fail) | ((first | refine yG ?_ ?_ | refine yC ?_ ?_) <;> (intro hc; (try simp only [hcS] at hc); try exact dD)) | refine yE ?_ | fail))
  all_goals (refine y_fin ?_; exact ⟨_, ⟨rfl, rfl⟩, Ent.auto⟩)
theorem tfront_some (hT : TI fr ut ((t, x) :: L)) : Sp Try.prog 30 [ptr p] (tq p m1 m2 fr ut ((t, x) :: L) F) fun r M => r = .tuple #[.int .i64 x, .bool true] ∧ M = tq p m1 m2 t ut ((t, x) :: L) F := by
  have hl2 : (tsw ((t, x) :: L)).length = L.length + 1 := by simp [tsw]
  have hg : kget ((t, x) :: L) t = some x := by simp [kget]
  refine y_of Try.func30 rfl Try.ntmps30 rfl fun w0 => ?_
  (repeat' (first | (show KQ (WL _ _ _ _ _) _ _ _ _; first | refine yW p_move ?_ | refine yW p_asg ?_ | refine yA ?_ | refine yW p_ld ?_ | refine yW p_lda ?_ | refine yB ?_ | refine yW p_nil ?_ | refine yW p_nilf ?_ | refine yW p_pt ?_ | refine yW p_pf ?_ | refine yW p_len ?_ | refine yW p_lens ?_ | refine yW p_lenm ?_ | refine yW p_lookt ?_ | refine yW p_lookf ?_ | refine yW p_look1 ?_ | refine yW p_look0 ?_ | (refine yX ?_; first | (refine w_call (tskip_spec p m1 m2 fr ut L _ x t hT) ?_; rintro r L rfl) | fail) | refine yN ?_ | refine yO ?_ | fail) | (show KQ (CD _ _ _ _ _) _ _ _ _; first | refine yT ?_ | refine yF ?_ | fail) | ((first | refine yG ?_ ?_ | refine yC ?_ ?_) <;> (intro hc; (try simp only [hcS] at hc); try exact dD)) | refine yE ?_ | (refine y_cr ?_; refine kq_draw0 4 11 ?_; (all_goals refine kq_take 0 rfl p_move ?_); (all_goals (first | refine kq_take 1 rfl p_nil ?_ | refine kq_take 1 rfl p_nilf ?_)); (all_goals refine tkf 2 ?_); (all_goals refine tkl 3 ?_); (all_goals refine kq_take 4 rfl p_move ?_); (all_goals (first | refine kq_take 5 rfl p_nil ?_ | refine kq_take 5 rfl p_nilf ?_)); (all_goals refine tkf 6 ?_); (all_goals refine tkl 7 ?_); (all_goals (first | refine kq_take 8 rfl p_lookt ?_ | refine kq_take 8 rfl p_lookf ?_ | refine kq_take 8 rfl p_look1 ?_ | refine kq_take 8 rfl p_look0 ?_)); (all_goals refine kq_take 9 rfl p_asg ?_); (all_goals refine kq_take 10 rfl p_asg ?_); (all_goals refine kq_done ?_)) | fail))
  all_goals (refine y_fin ?_; exact ⟨_, ⟨rfl, rfl⟩, Ent.auto⟩)
theorem ttake_none (hT : TI fr ut []) : Sp Try.prog 13 [ptr p] (tq p m1 m2 fr ut [] F) fun r M => r = .tuple #[.int .i64 0, .bool false] ∧ M = tq p m1 m2 fr ut [] F := by
  refine y_of Try.func13 rfl Try.ntmps13 rfl fun w0 => ?_
  (repeat' (first | (show KQ (WL _ _ _ _ _) _ _ _ _; first | refine yW p_move ?_ | refine yW p_asg ?_ | refine yW p_ext ?_ | (refine yX ?_; first | (refine w_call (tfront_none p m1 m2 fr ut _ hT) ?_; rintro r L ⟨rfl, rfl⟩) | fail) | fail) | (show KQ (CD _ _ _ _ _) _ _ _ _; first | refine yT ?_ | refine yF ?_ | fail) | ((first | refine yC ?_ ?_) <;> (intro hc; (try simp only [hcS] at hc); try exact dD)) | refine yE ?_ | fail))
  all_goals (refine y_fin ?_; exact ⟨_, ⟨rfl, rfl⟩, Ent.auto⟩)
theorem rem_head (hT : TI fr ut ((t, x) :: L)) : rem ((t, x) :: L) x = L := by
  have hd' := List.nodup_cons.1 hT.nd
  rw [rem, List.filter_cons]
  simp only [ne_eq, not_true_eq_false, decide_false, Bool.false_eq_true, if_false]
  exact List.filter_eq_self.2 fun p hp => by
    have : p.2 ≠ x := fun e => hd'.1 (List.mem_map.2 ⟨p, hp, e⟩)
    simpa using this
theorem ttake_some (hT : TI fr ut ((t, x) :: L)) : Sp Try.prog 13 [ptr p] (tq p m1 m2 fr ut ((t, x) :: L) F) fun r M => r = .tuple #[.int .i64 x, .bool true] ∧ M = tq p m1 m2 t ut L F := by
  have hd := fun F => tdrop_yes p m1 m2 t ut ((t, x) :: L) F x hT.head (by simp [its])
  rw [rem_head fr ut L x t hT] at hd
  refine y_of Try.func13 rfl Try.ntmps13 rfl fun w0 => ?_
  (repeat' (first | (show KQ (WL _ _ _ _ _) _ _ _ _; first | refine yW p_move ?_ | refine yW p_asg ?_ | refine yW p_ext ?_ | (refine yX ?_; first | (refine w_call (tfront_some p m1 m2 fr ut L _ x t hT) ?_; rintro r L ⟨rfl, rfl⟩) | (refine w_call (hd _) ?_; rintro r L ⟨rfl, rfl⟩) | fail) | fail) | (show KQ (CD _ _ _ _ _) _ _ _ _; first | refine yT ?_ | refine yF ?_ | fail) | ((first | refine yC ?_ ?_) <;> (intro hc; (try simp only [hcS] at hc); try exact dD)) | refine yE ?_ | fail))
  all_goals (refine y_fin ?_; exact ⟨_, ⟨rfl, rfl⟩, Ent.auto⟩)
/-! ### no queue -/
theorem thas_nil : Sp Try.prog 31 [nilp, .int .i64 x] F fun r M => r = .bool false ∧ M = F := by
  refine y_of Try.func31 rfl Try.ntmps31 rfl fun w0 => ?_
  (repeat' (first | (show KQ (WL _ _ _ _ _) _ _ _ _; first | refine yW p_move ?_ | refine yW p_asg ?_ | refine yA ?_ | refine yW p_ld ?_ | refine yW p_lda ?_ | refine yB ?_ | refine yW p_nil ?_ | refine yW p_nilf ?_ | refine yW p_ext ?_ | refine yW p_lookt ?_ | refine yW p_lookf ?_ | refine yW p_look1 ?_ | refine yW p_look0 ?_ | fail) | (show KQ (CD _ _ _ _ _) _ _ _ _; first | refine yT ?_ | refine yF ?_ | fail) | ((first | refine yC ?_ ?_) <;> (intro hc; (try simp only [hcS] at hc); try exact dD)) | refine yE ?_ | fail))
  all_goals (refine y_fin ?_; exact ⟨_, ⟨rfl, rfl⟩, Ent.auto⟩)
theorem tfront_nil : Sp Try.prog 30 [nilp] F fun r M => r = .tuple #[.int .i64 0, .bool false] ∧ M = F := by
  refine y_of Try.func30 rfl Try.ntmps30 rfl fun w0 => ?_
  (repeat' (first | (show KQ (WL _ _ _ _ _) _ _ _ _; first | refine yW p_move ?_ | refine yW p_asg ?_ | refine yA ?_ | refine yW p_ld ?_ | refine yW p_lda ?_ | refine yB ?_ | refine yW p_nil ?_ | refine yW p_nilf ?_ | refine yW p_pt ?_ | refine yW p_pf ?_ | refine yW p_len ?_ | refine yW p_lens ?_ | refine yW p_lenm ?_ | refine yW p_lookt ?_ | refine yW p_lookf ?_ | refine yW p_look1 ?_ | refine yW p_look0 ?_ | refine yN ?_ | refine yO ?_ | fail) | (show KQ (CD _ _ _ _ _) _ _ _ _; first | refine yT ?_ | refine yF ?_ | fail) | ((first | refine yG ?_ ?_ | refine yC ?_ ?_) <;> (intro hc; (try simp only [hcS] at hc); try exact dD)) | refine yE ?_ | fail))
  all_goals (refine y_fin ?_; exact ⟨_, ⟨rfl, rfl⟩, Ent.auto⟩)
theorem ttake_nil : Sp Try.prog 13 [nilp] F fun r M => r = .tuple #[.int .i64 0, .bool false] ∧ M = F := by
  refine y_of Try.func13 rfl Try.ntmps13 rfl fun w0 => ?_
  (repeat' (first | (show KQ (WL _ _ _ _ _) _ _ _ _; first | refine yW p_move ?_ | refine yW p_asg ?_ | refine yW p_ext ?_ | (refine yX ?_; first | (refine w_call (tfront_nil _) ?_; rintro r L ⟨rfl, rfl⟩) | fail) | fail) | (show KQ (CD _ _ _ _ _) _ _ _ _; first | refine yT ?_ | refine yF ?_ | fail) | ((first | refine yC ?_ ?_) <;> (intro hc; (try simp only [hcS] at hc); try exact dD)) | refine yE ?_ | fail))
  all_goals (refine y_fin ?_; exact ⟨_, ⟨rfl, rfl⟩, Ent.auto⟩)
theorem tput_nil : Sp Try.prog 11 [nilp, .int .i64 x] F fun r M => r = .int .i64 3 ∧ M = F := by
  refine y_of Try.func11 rfl Try.ntmps11 rfl fun w0 => ?_
  (repeat' (first | (show KQ (WL _ _ _ _ _) _ _ _ _; first | refine yW p_move ?_ | refine yW p_asg ?_ | refine yA ?_ | refine yW p_ld ?_ | refine yW p_lda ?_ | refine yB ?_ | refine yW p_nil ?_ | refine yW p_nilf ?_ | refine yW p_ext ?_ | refine yW p_len ?_ | refine yW p_lens ?_ | refine yW p_lenm ?_ | (refine yX ?_; first | refine w_st ?_ | refine w_str ?_ | refine w_stra ?_ | (refine w_me ?_; intro v0 born) | refine w_es ?_ | fail) | fail) | (show KQ (CD _ _ _ _ _) _ _ _ _; first | refine yT ?_ | refine yF ?_ | fail) | ((first | refine yC ?_ ?_) <;> (intro hc; (try simp only [hcS] at hc); try exact dD)) | refine yE ?_ | fail))
  all_goals (refine y_fin ?_; exact ⟨_, ⟨rfl, rfl⟩, Ent.auto⟩)
theorem tdrop_nil : Sp Try.prog 20 [nilp, .int .i64 x] F fun r M => r = .bool false ∧ M = F := by
  refine y_of Try.func20 rfl Try.ntmps20 rfl fun w0 => ?_
  (repeat' (first | (show KQ (WL _ _ _ _ _) _ _ _ _; first | refine yW p_move ?_ | refine yW p_asg ?_ | refine yA ?_ | refine yW p_ld ?_ | refine yW p_lda ?_ | refine yW p_nil ?_ | refine yW p_nilf ?_ | refine yW p_nott ?_ | refine yW p_notf ?_ | refine yW p_not ?_ | refine yW p_neg ?_ | refine yW p_lookt ?_ | refine yW p_lookf ?_ | refine yW p_look1 ?_ | refine yW p_look0 ?_ | (refine yX ?_; first | refine w_md ?_ | (refine w_call (thas_nil _ x) ?_; rintro r L ⟨rfl, rfl⟩) | fail) | fail) | (show KQ (CD _ _ _ _ _) _ _ _ _; first | refine yT ?_ | refine yF ?_ | fail) | ((first | refine yC ?_ ?_) <;> (intro hc; (try simp only [hcS] at hc); try exact dD)) | refine yE ?_ | fail))
  all_goals (refine y_fin ?_; exact ⟨_, ⟨rfl, rfl⟩, Ent.auto⟩)
end
end Go.Proofs.Yteafcajlfagbkaa
