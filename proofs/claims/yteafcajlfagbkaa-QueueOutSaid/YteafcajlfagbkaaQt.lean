/- DERIVED. Queues by time: the row behind the heap; a queue of one item; queues that are nil. -/
import Derived.Test.YteafcajlfagbkaaQb
import Derived.Test.YteafcajlfagbkaaVcc
import Derived.Test.YteafcajlfagbkaaVj
import Derived.Test.YteafcajlfagbkaaVrd
namespace Go.Proofs.Yteafcajlfagbkaa
set_option linter.unusedSimpArgs false
set_option linter.unusedVariables false
open Go Sl Cv Go.RowKit
/-- An item, its tick and its turn. -/
structure TM where
  at_ : Int
  turn : Int
  item : Int
  deriving DecidableEq
def tme (x : TM) : List Value := [.int .i64 x.at_, .int .i64 x.turn, .int .i64 x.item]
abbrev tmv (x : TM) : Value := .agg (tme x).toArray
abbrev trow (a : Option Addr) (c : Nat) (R : List TM) : HP := row 72 3 (.slice a R.length c) R.length (flat tme R)
abbrev tmap (m : Nat) (kv : List (Int × TM)) : HP := mp m (Value.int .i64) tmv kv
def tcs (a : Option Addr) (n c m : Nat) (turn : Int) : List Value := [.slice a n c, .map (some m), .int .i64 turn]
abbrev tms (p m : Nat) (a : Option Addr) (c : Nat) (R : List TM) (kv : List (Int × TM)) (turn : Int) (F : List HP) : List HP :=
  blk p (.cells (tcs a R.length c m turn).toArray 70 (0, 0)) :: trow a c R :: tmap m kv :: F
theorem tme_len (R : List TM) : (flat tme R).length = R.length * 3 := length_flat (k := 3) (fun _ => rfl) R
theorem tme_snoc (R : List TM) (x : TM) : flat tme R ++ List.flatMap celv [Value.agg (tme x).toArray] = flat tme (R ++ [x]) := by simp [flat, celv, tme]
abbrev hif (p : Nat) : Value := .iface 75 (ptr p)
section
variable (p m : Nat) (a : Option Addr) (c : Nat) (R : List TM) (kv : List (Int × TM)) (turn : Int) (F : List HP) (x : TM) (n : Int)
theorem mnew_spec : Sp Try.prog 9 [] F fun r M => ∃ p m, r = ptr p ∧ M = tms p m none 0 [] [] 0 F := by
  refine y_of Try.func9 rfl Try.ntmps9 rfl fun w0 => ?_
  (repeat' (first | (show KQ (WL _ _ _ _ _) _ _ _ _; first | refine yW p_asg ?_ | refine yW p_bld ?_ | (refine yX ?_; first | (refine w_bx ?_; intro q) | (refine w_mm (ek := Value.int .i64) (ev := tmv) ?_; intro q) | fail) | fail) | refine yE ?_ | fail))
  rename_i q1
  refine KQ.ent ?_ (ent_nil 72 3 none Ent.rfl)
  (refine y_fin ?_; exact ⟨_, ⟨q, q1, rfl, rfl⟩, Ent.auto⟩)
theorem rlen_spec : Sp Try.prog 96 [.slice a R.length c] F fun r M => r = .int .i64 R.length ∧ M = F := by
  refine y_of Try.func96 rfl Try.ntmps96 rfl fun w0 => ?_
  (repeat' (first | (show KQ (WL _ _ _ _ _) _ _ _ _; first | refine yW p_move ?_ | refine yW p_asg ?_ | refine yW p_len ?_ | refine yW p_lens ?_ | refine yW p_lenm ?_ | fail) | refine yE ?_ | fail))
  all_goals (refine y_fin ?_; exact ⟨_, ⟨rfl, rfl⟩, Ent.auto⟩)
theorem rpush_spec (hl : R.length ≤ 5860000000000) : Sp Try.prog 100 [ptr p, .iface 72 (tmv x)] (tms p m a c R kv turn F) fun r M => ∃ a2 c2, r = .tuple #[] ∧ M = tms p m a2 c2 (R ++ [x]) kv turn F := by
  have h2 : (R ++ [x]).length = R.length + 1 := by simp
  refine y_of Try.func100 rfl Try.ntmps100 rfl fun w0 => ?_
  (repeat' (first | (show KQ (WL _ _ _ _ _) _ _ _ _; first | refine yW p_move ?_ | refine yW p_ld ?_ | refine yW p_lda ?_ | refine yW p_nil ?_ | refine yW p_nilf ?_ | refine yW p_tam ?_ | refine yW p_tas ?_ | (refine yX ?_; first | refine w_st ?_ | refine w_str ?_ | refine w_stra ?_ | (refine w_ap0 ?_; intro ao1 cap1) | (refine w_ap ?_; intro ao1 cap1) | (refine w_bs ?_; intro q) | fail) | fail) | refine yE ?_ | (refine y_cr ?_; refine kq_draw 0 (tmap m kv :: F) 10 ?_; (all_goals refine kq_take 0 rfl p_move ?_); (all_goals refine kq_take 1 rfl p_move ?_); (all_goals (first | refine kq_take 2 rfl p_nil ?_ | refine kq_take 2 rfl p_nilf ?_)); (all_goals refine kq_take 4 rfl p_move ?_); (all_goals (first | refine kq_take 5 rfl p_tam ?_ | refine kq_take 5 rfl p_tas ?_)); (all_goals (refine kq_each [3, 6] ⟨?b1_3, ?b1_6, trivial⟩; (case' b1_3 => ((refine kq_op ?_; first | refine w_pure p_ld ?_ | refine w_pure p_lda ?_); (all_goals (refine kq_each [6] ⟨?_, trivial⟩; (refine kq_op ?_; first | (refine w_bs ?_; intro q)))); (all_goals (refine kq_each [7] ⟨?_, trivial⟩; (refine kq_op ?_; first | (refine w_ap0 ?_; intro ao1 cap1) | (refine w_ap ?_; intro ao1 cap1)))); (all_goals (first | refine kq_take 8 rfl p_nil ?_ | refine kq_take 8 rfl p_nilf ?_)); (all_goals (refine kq_each [9] ⟨?_, trivial⟩; (refine kq_op ?_; first | refine w_st ?_ | refine w_str ?_ | refine w_stra ?_))); (all_goals refine kq_done ?_))); (case' b1_6 => ((refine kq_op ?_; first | (refine w_bs ?_; intro q)); (all_goals (refine kq_each [3] ⟨?_, trivial⟩; (refine kq_op ?_; first | refine w_pure p_ld ?_ | refine w_pure p_lda ?_))); (all_goals (refine kq_each [7] ⟨?_, trivial⟩; (refine kq_op ?_; first | (refine w_ap0 ?_; intro ao1 cap1) | (refine w_ap ?_; intro ao1 cap1)))); (all_goals (first | refine kq_take 8 rfl p_nil ?_ | refine kq_take 8 rfl p_nilf ?_)); (all_goals (refine kq_each [9] ⟨?_, trivial⟩; (refine kq_op ?_; first | refine w_st ?_ | refine w_str ?_ | refine w_stra ?_))); (all_goals refine kq_done ?_)))))) | fail))
  all_goals (rw [tme_snoc]; (refine y_fin ?_; apply Exists.intro; apply And.intro; (focus (refine ⟨ao1, cap1, rfl, ?_⟩; rw [tms, trow, h2])); exact Ent.auto))
theorem up_zero : Sp Try.prog 41 [hif p, .int .i64 0] F fun r M => M = F := by
  refine y_of Try.func41 rfl Try.ntmps41 rfl fun w0 => ?_
  (repeat' (first | (show KQ (WL _ _ _ _ _) _ _ _ _; first | refine yW p_move ?_ | refine yW p_asg ?_ | refine yB ?_ | refine yW p_pt ?_ | refine yW p_pf ?_ | refine yW p_nott ?_ | refine yW p_notf ?_ | refine yW p_not ?_ | refine yW p_neg ?_ | refine yN ?_ | refine yO ?_ | fail) | (show KQ (CD _ _ _ _ _) _ _ _ _; first | refine yT ?_ | refine yF ?_ | fail) | ((first | refine yG ?_ ?_ | refine yC ?_ ?_) <;> (intro hc; (try simp only [hcS] at hc); try exact dD)) | refine yE ?_ | fail))
  refine y_loop (X := Unit) () (fun _ => True) (fun _ => [(0, hif p), (1, .int .i64 0)]) (fun _ => F) (fun _ => 0) trivial ⟨rfl, rfl, trivial⟩ Ent.rfl ?_
  rintro K' ⟨⟩ - hnext
  have e : IntKind.i64.wrap (((0 : Int) - 1).tdiv 2) = 0 := by decide
  (repeat' (first | (show KQ (WL _ _ _ _ _) _ _ _ _; first | refine yW p_move ?_ | refine yW p_asg ?_ | refine yB ?_ | refine yW p_pt ?_ | refine yW p_pf ?_ | refine yW p_nott ?_ | refine yW p_notf ?_ | refine yW p_not ?_ | refine yW p_neg ?_ | refine yN ?_ | refine yO ?_ | fail) | (show KQ (CD _ _ _ _ _) _ _ _ _; first | refine yT ?_ | refine yF ?_ | fail) | ((first | refine yG ?_ ?_ | refine yC ?_ ?_) <;> (intro hc; (try simp only [hcS] at hc); try exact dD)) | refine yE ?_ | fail))
  all_goals (refine y_fin ?_; exact ⟨_, rfl, Ent.auto⟩)
theorem rpush_one : Sp Try.prog 100 [ptr p, .iface 72 (tmv x)] (tms p m a c [] kv turn F) fun r M => ∃ a2 c2, r = .tuple #[] ∧ M = tms p m a2 c2 [x] kv turn F := rpush_spec p m a c [] kv turn F x (by decide)
theorem hpush_one : Sp Try.prog 34 [hif p, .iface 72 (tmv x)] (tms p m a c [] kv turn F) fun r M => ∃ a2 c2, M = tms p m a2 c2 [x] kv turn F := by
  refine y_of Try.func34 rfl Try.ntmps34 rfl fun w0 => ?_
  (repeat' (first | (show KQ (WL _ _ _ _ _) _ _ _ _; first | refine yW p_move ?_ | refine yW p_sub6 ?_ | refine yW p_sub ?_ | (refine yX ?_; first | (refine w_invp (rpush_one p m a c kv turn _ x) ?_; rintro r L ⟨a2, c2, rfl, rfl⟩) | (refine w_invv (rlen_spec a2 c2 [x] _) ?_; rintro r L ⟨rfl, rfl⟩) | (refine w_call (up_zero p _) ?_; rintro r L rfl) | fail) | fail) | refine yE ?_ | fail))
  all_goals (refine y_fin ?_; exact ⟨_, ⟨a2, c2, rfl⟩, Ent.auto⟩)
set_option maxHeartbeats 4000000 in
theorem mput_one (at_ item : Int) (h1 : 0 ≤ at_ ∧ at_ ≤ 4611686018427387904) (ht : 0 ≤ turn ∧ turn ≤ 1000000) : Sp Try.prog 12 [ptr p, .int .i64 at_, .int .i64 item] (tms p m a c [] [] turn F) fun r M => ∃ a2 c2, r = .int .i64 0 ∧ M = tms p m a2 c2 [⟨at_, turn, item⟩] [(item, ⟨at_, turn, item⟩)] (turn + 1) F := by
  have hg : kget ([] : List (Int × TM)) item = none := rfl
  have hl0 : ([] : List (Int × TM)).length = 0 := rfl
  have hp : kput ([] : List (Int × TM)) item ⟨at_, turn, item⟩ = [(item, ⟨at_, turn, item⟩)] := rfl
  refine y_of Try.func12 rfl Try.ntmps12 rfl fun w0 => ?_
  (repeat' (first | (show KQ (WL _ _ _ _ _) _ _ _ _; first | refine yW p_move ?_ | refine yW p_asg ?_ | refine yA ?_ | refine yW p_ld ?_ | refine yW p_lda ?_ | refine yB ?_ | refine yW p_nil ?_ | refine yW p_nilf ?_ | refine yW p_ext ?_ | refine yW p_pt ?_ | refine yW p_pf ?_ | refine yW p_len ?_ | refine yW p_lens ?_ | refine yW p_lenm ?_ | refine yW p_bld ?_ | refine yW p_lookt ?_ | refine yW p_lookf ?_ | refine yW p_look1 ?_ | refine yW p_look0 ?_ | refine yW p_mif ?_ | refine yW p_mifp ?_ | refine yW p_mifs ?_ | (refine yX ?_; first | refine w_st ?_ | refine w_str ?_ | refine w_stra ?_ | (refine w_al ?_; intro q) | refine w_mu ?_ | fail) | refine yN ?_ | refine yO ?_ | fail) | (show KQ (CD _ _ _ _ _) _ _ _ _; first | refine yT ?_ | refine yF ?_ | fail) | ((first | refine yG ?_ ?_ | refine yC ?_ ?_) <;> (intro hc; (try simp only [hcS] at hc); try exact dD)) | refine yE ?_ | fail))
  all_goals rename_i q1
  all_goals (refine y_cr ?_; refine kq_draw 12 (blk p (.cells (tcs a 0 c m (turn + 1)).toArray 70 (0, 0)) :: blk q (.cells (tme ⟨at_, turn, item⟩).toArray 72 (0, 0)) :: trow a c [] :: F) 7 ?_; (all_goals refine kq_take 0 rfl p_move ?_); (all_goals (first | refine kq_take 1 rfl p_nil ?_ | refine kq_take 1 rfl p_nilf ?_)); (all_goals refine tkf 2 ?_); (all_goals refine tkl 3 ?_); (all_goals refine kq_take 4 rfl p_move ?_); (all_goals refine tkl 5 ?_); (all_goals (refine kq_each [6] ⟨?_, trivial⟩; (refine kq_op ?_; first | refine w_mu ?_))); (all_goals refine kq_done ?_))
  all_goals (rw [hp]; (repeat' (first | (show KQ (WL _ _ _ _ _) _ _ _ _; first | refine yW p_move ?_ | refine yW p_asg ?_ | refine yA ?_ | refine yW p_ld ?_ | refine yW p_lda ?_ | refine yB ?_ | refine yW p_nil ?_ | refine yW p_nilf ?_ | refine yW p_ext ?_ | refine yW p_pt ?_ | refine yW p_pf ?_ | refine yW p_len ?_ | refine yW p_lens ?_ | refine yW p_lenm ?_ | refine yW p_bld ?_ | refine yW p_lookt ?_ | refine yW p_lookf ?_ | refine yW p_look1 ?_ | refine yW p_look0 ?_ | refine yW p_mif ?_ | refine yW p_mifp ?_ | refine yW p_mifs ?_ | (refine yX ?_; first | refine w_st ?_ | refine w_str ?_ | refine w_stra ?_ | (refine w_al ?_; intro q) | refine w_mu ?_ | fail) | refine yN ?_ | refine yO ?_ | fail) | (show KQ (CD _ _ _ _ _) _ _ _ _; first | refine yT ?_ | refine yF ?_ | fail) | ((first | refine yG ?_ ?_ | refine yC ?_ ?_) <;> (intro hc; (try simp only [hcS] at hc); try exact dD)) | refine yE ?_ | fail)))
  all_goals (refine y_cr ?_; refine kq_draw 13 (blk q (.cells (tme ⟨at_, turn, item⟩).toArray 72 (0, 0)) :: F) 7 ?_; (all_goals refine kq_take 0 rfl p_move ?_); (all_goals (first | refine kq_take 1 rfl p_nil ?_ | refine kq_take 1 rfl p_nilf ?_)); (all_goals refine tkf 2 ?_); (all_goals (first | refine kq_take 3 rfl p_mif ?_ | refine kq_take 3 rfl p_mifp ?_ | refine kq_take 3 rfl p_mifs ?_)); (all_goals refine tkl 4 ?_); (all_goals (first | refine kq_take 5 rfl p_mif ?_ | refine kq_take 5 rfl p_mifp ?_ | refine kq_take 5 rfl p_mifs ?_)); (all_goals (refine kq_each [6] ⟨?_, trivial⟩; (refine kq_op ?_; first | (refine w_call (hpush_one p m a c [(item, ⟨at_, turn, item⟩)] (turn + 1) _ ⟨at_, turn, item⟩) ?_; rintro r L ⟨a2, c2, rfl⟩)))); (all_goals refine kq_done ?_))
  all_goals (repeat' (first | (show KQ (WL _ _ _ _ _) _ _ _ _; first | refine yW p_move ?_ | refine yW p_asg ?_ | refine yA ?_ | refine yW p_ld ?_ | refine yW p_lda ?_ | refine yB ?_ | refine yW p_nil ?_ | refine yW p_nilf ?_ | refine yW p_ext ?_ | refine yW p_pt ?_ | refine yW p_pf ?_ | refine yW p_len ?_ | refine yW p_lens ?_ | refine yW p_lenm ?_ | refine yW p_bld ?_ | refine yW p_lookt ?_ | refine yW p_lookf ?_ | refine yW p_look1 ?_ | refine yW p_look0 ?_ | refine yW p_mif ?_ | refine yW p_mifp ?_ | refine yW p_mifs ?_ | (refine yX ?_; first | refine w_st ?_ | refine w_str ?_ | refine w_stra ?_ | (refine w_al ?_; intro q) | refine w_mu ?_ | fail) | refine yN ?_ | refine yO ?_ | fail) | (show KQ (CD _ _ _ _ _) _ _ _ _; first | refine yT ?_ | refine yF ?_ | fail) | ((first | refine yG ?_ ?_ | refine yC ?_ ?_) <;> (intro hc; (try simp only [hcS] at hc); try exact dD)) | refine yE ?_ | fail))
  all_goals (refine y_fin ?_; exact ⟨_, ⟨a2, c2, rfl, rfl⟩, Ent.auto⟩)
set_option maxHeartbeats 4000000 in
theorem mtop_one : Sp Try.prog 35 [ptr p] (tms p m a c [x] [(x.item, x)] turn F) fun r M => r = .tuple #[tmv x, .bool true] ∧ M = tms p m a c [x] [(x.item, x)] turn F := by
  have hg : kget [(x.item, x)] x.item = some x := by simp [kget]
  have ht : Tk (flat tme [x]) 0 3 (tme x) := tk_flat (enc := tme) (sz := 3) (l := [x]) (fun _ => rfl) 0 (by simp)
  have hpos : 0 < (flat tme [x]).length := by rw [tme_len]; simp
  refine y_of Try.func35 rfl Try.ntmps35 rfl fun w0 => ?_
  refine KQ.know (fun w hw => (Reads.row (L := tms p m a c [x] [(x.item, x)] turn F) (.there .here)).spot hpos w hw) fun hsp => ?_
  (repeat' (first | (show KQ (WL _ _ _ _ _) _ _ _ _; first | refine yW p_move ?_ | refine yW p_asg ?_ | refine yA ?_ | refine yW p_ld ?_ | refine yW p_lda ?_ | refine yB ?_ | refine yW p_nil ?_ | refine yW p_nilf ?_ | refine yW p_ext ?_ | refine yW p_pt ?_ | refine yW p_pf ?_ | refine yW p_idx ?_ | refine yW p_idxl ?_ | refine yW p_len ?_ | refine yW p_lens ?_ | refine yW p_lenm ?_ | refine yW p_bld ?_ | refine yW p_lookt ?_ | refine yW p_lookf ?_ | refine yW p_look1 ?_ | refine yW p_look0 ?_ | refine yW p_mif ?_ | refine yW p_mifp ?_ | refine yW p_mifs ?_ | (refine yX ?_; first | refine w_st ?_ | refine w_str ?_ | refine w_stra ?_ | (refine w_al ?_; intro q) | fail) | refine yN ?_ | refine yO ?_ | fail) | (show KQ (CD _ _ _ _ _) _ _ _ _; first | refine yT ?_ | refine yF ?_ | fail) | ((first | refine yG ?_ ?_ | refine yC ?_ ?_) <;> (intro hc; (try simp only [hcS] at hc); try exact dD)) | refine yE ?_ | fail))
  refine y_loop (X := Unit) () (fun _ => True) (fun _ => [(0, ptr p), (2, ptr q)]) (fun _ => blk q (.cells (celv (Value.agg #[.int .i64 0, .int .i64 0, .int .i64 0])).toArray 72 (0, 0)) :: tms p m a c [x] [(x.item, x)] turn F) (fun _ => 0) trivial ⟨rfl, rfl, trivial⟩ Ent.rfl ?_
  rintro K' ⟨⟩ - hnext
  (repeat' (first | (show KQ (WL _ _ _ _ _) _ _ _ _; first | refine yW p_move ?_ | refine yW p_asg ?_ | refine yA ?_ | refine yW p_ld ?_ | refine yW p_lda ?_ | refine yB ?_ | refine yW p_nil ?_ | refine yW p_nilf ?_ | refine yW p_ext ?_ | refine yW p_pt ?_ | refine yW p_pf ?_ | refine yW p_idx ?_ | refine yW p_idxl ?_ | refine yW p_len ?_ | refine yW p_lens ?_ | refine yW p_lenm ?_ | refine yW p_bld ?_ | refine yW p_lookt ?_ | refine yW p_lookf ?_ | refine yW p_look1 ?_ | refine yW p_look0 ?_ | refine yW p_mif ?_ | refine yW p_mifp ?_ | refine yW p_mifs ?_ | (refine yX ?_; first | refine w_st ?_ | refine w_str ?_ | refine w_stra ?_ | (refine w_al ?_; intro q) | fail) | refine yN ?_ | refine yO ?_ | fail) | (show KQ (CD _ _ _ _ _) _ _ _ _; first | refine yT ?_ | refine yF ?_ | fail) | ((first | refine yG ?_ ?_ | refine yC ?_ ?_) <;> (intro hc; (try simp only [hcS] at hc); try exact dD)) | refine yE ?_ | fail))
  rename_i q4
  all_goals (refine y_cr ?_; refine kq_draw 5 (blk q (.cells (tme x).toArray 72 (0, 0)) :: tms p m a c [x] [(x.item, x)] turn F) 13 ?_; (all_goals refine kq_take 0 rfl p_move ?_); (all_goals (first | refine kq_take 1 rfl p_nil ?_ | refine kq_take 1 rfl p_nilf ?_)); (all_goals refine tkf 2 ?_); (all_goals refine tkl 3 ?_); (all_goals refine tkf 4 ?_); (all_goals refine tkl 5 ?_); (all_goals (first | refine kq_take 6 rfl p_lookt ?_ | refine kq_take 6 rfl p_lookf ?_ | refine kq_take 6 rfl p_look1 ?_ | refine kq_take 6 rfl p_look0 ?_)); (all_goals refine kq_take 7 rfl p_move ?_); (all_goals refine kq_take 8 rfl p_ext ?_); (all_goals refine kq_take 9 rfl p_ext ?_); (all_goals (refine kq_each [10] ⟨?_, trivial⟩; (refine kq_op ?_; first | (refine w_al ?_; intro q)))); (all_goals (refine kq_each [11] ⟨?_, trivial⟩; (refine kq_op ?_; first | refine w_st ?_ | refine w_str ?_ | refine w_stra ?_))); (all_goals refine kq_take 12 rfl p_asg ?_); (all_goals refine kq_done ?_))
  all_goals (repeat' (first | (show KQ (WL _ _ _ _ _) _ _ _ _; first | refine yW p_move ?_ | refine yW p_asg ?_ | refine yA ?_ | refine yW p_ld ?_ | refine yW p_lda ?_ | refine yB ?_ | refine yW p_nil ?_ | refine yW p_nilf ?_ | refine yW p_ext ?_ | refine yW p_pt ?_ | refine yW p_pf ?_ | refine yW p_idx ?_ | refine yW p_idxl ?_ | refine yW p_len ?_ | refine yW p_lens ?_ | refine yW p_lenm ?_ | refine yW p_bld ?_ | refine yW p_lookt ?_ | refine yW p_lookf ?_ | refine yW p_look1 ?_ | refine yW p_look0 ?_ | refine yW p_mif ?_ | refine yW p_mifp ?_ | refine yW p_mifs ?_ | (refine yX ?_; first | refine w_st ?_ | refine w_str ?_ | refine w_stra ?_ | (refine w_al ?_; intro q) | fail) | refine yN ?_ | refine yO ?_ | fail) | (show KQ (CD _ _ _ _ _) _ _ _ _; first | refine yT ?_ | refine yF ?_ | fail) | ((first | refine yG ?_ ?_ | refine yC ?_ ?_) <;> (intro hc; (try simp only [hcS] at hc); try exact dD)) | refine yE ?_ | fail))
  all_goals trace_state
  all_goals (refine y_fin ?_; exact ⟨_, ⟨rfl, rfl⟩, Ent.auto⟩)
end
end Go.Proofs.Yteafcajlfagbkaa
