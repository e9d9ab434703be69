/- DERIVED. Queues by time: the heap's rows: what is exchanged, what is taken from the end. -/
import Derived.Test.YteafcajlfagbkaaZa
import Derived.Test.YteafcajlfagbkaaVcc
namespace Sl
set_option linter.unusedSimpArgs false
set_option linter.unusedVariables false
open Go Go.RowKit Cv
section
variable {P : Program} {N : Nat} {E : Env} {L M : List HP} {d : Option Nat} {ty : TypeId} {pos : String} {af : Array Edge} {g : Option (Nat × Bool)} {x y : Operand} {T : TypeId} {dt : TypeDesc} {z : Value} {n b : Nat}
variable {e : TypeId} {de : TypeDesc} {ze : Value} {sz be m cap : Nat} {k : IntKind} {h : Int} {ao : Option Addr}
theorem p_rh [i : Ty P T (.slice e) z n b] [ie : Ty P e de ze sz be] (h1 : ev E x = some (.slice ao m cap) := by rfl) (h2 : ev E y = some (.int k h) := by rfl) (hb : 0 ≤ h ∧ h ≤ (cap : Int) := by omega) (ha : ∀ w, Sat (hp w) L → ao.isSome = true := by (first | (apply Reads.some; (focus (first | (apply Reads.row; focus ((repeat (first | exact Sel.here | apply Sel.there)); done)) | (apply reads_blk; focus ((repeat (first | exact Sel.here | apply Sel.there)); done)) | ((refine Reads.ent (by assumption) ?_); ((repeat (first | with_reducible exact Ent.rfl | with_reducible exact Ent.nil | ((with_reducible apply Ent.cons); focus ((repeat (first | exact Sel.here | apply Sel.there)); done)) | with_reducible refine Ent.drop ?_)); done)))); (focus (first | assumption | (simp only [ints_len]; omega) | (simp; done) | (simp; omega) | omega))) | (exact fun _ _ => by assumption))) :
    Pu P ⟨d, .slice T x none (some y) none, ty, pos, af, g⟩ N E L (.slice ao h.toNat cap) := ⟨fun a w f s => by
  obtain ⟨q, rfl⟩ := Option.isSome_iff_exists.1 (ha w s)
  have e0 : ∀ q : Addr, q.add 0 = q := fun q => by unfold Addr.add; split <;> simp_all
  simp [execOp, f.eval h1, f.eval h2, Instr.sliceAt, Instr.slice, Instr.sliceBounds, Instr.sliceBound, asIntOf, i.run_und, ie.run_size, hb.1, hb.2, e0]⟩
theorem row_cap {F : List HP} {xs : List Value} (s : Sel L (row e sz (.slice ao m cap) m xs) F) : ∀ w, Sat (hp w) L → m ≤ cap := fun w hw => by
  rcases (s.sat hw).row.lies with ⟨h0, ao', hv⟩ | ⟨gg, cap', cur, hv, _, hc, _⟩
  · omega
  · injection hv with _ _ e3; omega
theorem ent_less {xs : List Value} (j : Nat) (hj : j ≤ m) (s : Ent (row e sz (.slice ao j cap) j (xs.take (j * sz)) :: L) M) : Ent (row e sz (.slice ao m cap) m xs :: L) M := fun h hs => s h (by
  obtain ⟨S, ha, hl⟩ := hs
  refine ⟨S, ?_, hl⟩
  have hlen := ha.len
  refine ⟨by rw [List.length_take, hlen]; exact Nat.min_eq_left (Nat.mul_le_mul_right sz hj), ?_⟩
  rcases ha.lies with ⟨rfl, ao', hv⟩ | ⟨g, cap', cur, hv, hg, q1, q2, q3, q4⟩
  · injection hv with e1 e2 e3
    have : j = 0 := by omega
    subst this
    exact .inl ⟨rfl, ao', by rw [e1, e3]⟩
  · injection hv with e1 e2 e3
    exact .inr ⟨g, cap', cur, by rw [e1, e3], hg, by omega, q2, q3, by rw [← q4, List.take_take, Nat.min_eq_left (Nat.mul_le_mul_right sz hj)]⟩)
end
end Sl
namespace Go.Proofs.Yteafcajlfagbkaa
set_option linter.unusedSimpArgs false
set_option linter.unusedVariables false
open Go Sl Cv Go.RowKit
def d0 : TM := ⟨0, 0, 0⟩
def sw (R : List TM) (i k : Nat) : List TM := (R.set i (R.getD k d0)).set k (R.getD i d0)
theorem sw_len (R : List TM) (i k : Nat) : (sw R i k).length = R.length := by simp [sw]
theorem gt {R : List TM} {i : Nat} (h : i < R.length) : R.getD i d0 = R[i] := by simp [List.getD, h]
theorem sw_comm (R : List TM) (i k : Nat) : (R.set k (R.getD i d0)).set i (R.getD k d0) = sw R i k := by
  unfold sw
  by_cases h : i = k
  · subst h; simp
  · rw [List.set_comm _ _ (Ne.symm h)]
theorem splice_flat (R : List TM) (i : Nat) (v : TM) (h : i < R.length) : splice (flat tme R) (i * 3) (tme v) = flat tme (R.set i v) := by
  have e : R = R.take i ++ R[i] :: R.drop (i + 1) := by rw [← List.drop_eq_getElem_cons h, List.take_append_drop]
  have e2 : R.set i v = R.take i ++ v :: R.drop (i + 1) := by rw [List.set_eq_take_append_cons_drop, if_pos h]
  have hl : (flat tme (R.take i)).length = i * 3 := by rw [tme_len, List.length_take, Nat.min_eq_left (by omega)]
  have ef : ∀ A x B, flat tme (A ++ x :: B) = flat tme A ++ (tme x ++ flat tme B) := fun A x B => by simp [flat]
  rw [e2, ef]
  have e3 : flat tme R = flat tme (R.take i) ++ (tme R[i] ++ flat tme (R.drop (i + 1))) := by rw [← ef, ← e]
  rw [e3]
  have hv : (tme v).length = (tme R[i]).length := rfl
  unfold splice
  rw [List.take_left' hl, hv, ← List.append_assoc (flat tme _) (tme R[i]), List.drop_left' (by rw [List.length_append, hl]), List.append_assoc]
section
variable (F : List HP) (p m : Nat) (a : Option Addr) (c : Nat) (R : List TM)
set_option maxHeartbeats 4000000 in
theorem swap_spec (i k : Nat) (hi : i < R.length) (hk : k < R.length) (hl : R.length ≤ 6000000000000) : Sp Try.prog 98 [.slice a R.length c, .int .i64 i, .int .i64 k] (trow a c R :: F) fun r M => M = trow a c (sw R i k) :: F := by
  have hpos : 0 < (flat tme R).length := by rw [tme_len]; omega
  have ht1 := tk_flat (enc := tme) (sz := 3) (l := R) (fun _ => rfl) i hi
  have ht2 := tk_flat (enc := tme) (sz := 3) (l := R) (fun _ => rfl) k hk
  rw [← gt hi] at ht1
  rw [← gt hk] at ht2
  have hlen := tme_len R
  have e1 : ∀ x v, x < R.length → splice (flat tme R) (((x : Nat) : Int).toNat * 3) (celv (tmv v)) = flat tme (R.set x v) := fun x v h => by rw [Int.toNat_natCast]; exact splice_flat R x v h
  have e2 : (splice (flat tme R) (((i : Nat) : Int).toNat * 3) (celv (.agg (tme (R.getD k d0)).toArray))).length = R.length * 3 := by rw [e1 i _ hi, tme_len, List.length_set]
  have e3 : splice (splice (flat tme R) (((i : Nat) : Int).toNat * 3) (celv (tmv (R.getD k d0)))) (((k : Nat) : Int).toNat * 3) (celv (tmv (R.getD i d0))) = flat tme (sw R i k) := by rw [e1 i _ hi, Int.toNat_natCast]; exact splice_flat _ k _ (by rw [List.length_set]; exact hk)
  have e4 : trow a c (sw R i k) = row 72 3 (.slice a R.length c) R.length (splice (splice (flat tme R) (((i : Nat) : Int).toNat * 3) (celv (tmv (R.getD k d0)))) (((k : Nat) : Int).toNat * 3) (celv (tmv (R.getD i d0)))) := by rw [trow, sw_len, ← e3]
  rw [e4]
  clear e1 e3 e4 hlen
  have hlen := tme_len R
  have e5 := e2
  revert e2; intro e2
  refine y_of Try.func98 rfl Try.ntmps98 rfl fun w0 => ?_
  refine KQ.know (fun w hw => (Reads.row (L := trow a c R :: F) .here).some hpos w hw) fun hsm => ?_
  refine KQ.know (fun w hw => (Reads.row (L := trow a c R :: F) .here).spot hpos w hw) fun hsp => ?_
  (refine y_cr ?_; refine kq_draw 0 (F) 16 ?_; (all_goals refine kq_take 0 rfl p_move ?_); (all_goals refine kq_take 1 rfl p_move ?_); (all_goals refine kq_take 2 rfl p_move ?_); (all_goals refine kq_take 3 rfl p_move ?_); (all_goals refine kq_take 4 rfl p_move ?_); (all_goals refine kq_take 5 rfl p_move ?_); (all_goals (first | refine kq_take 6 rfl p_idx ?_ | refine kq_take 6 rfl p_idxl ?_)); (all_goals refine kq_take 8 rfl p_move ?_); (all_goals refine kq_take 9 rfl p_move ?_); (all_goals (first | refine kq_take 10 rfl p_idx ?_ | refine kq_take 10 rfl p_idxl ?_)); (all_goals (refine kq_each [7, 11] ⟨?b1_7, ?b1_11, trivial⟩; (case' b1_7 => ((refine kq_op ?_; first | refine w_pure p_ld ?_ | refine w_pure p_lda ?_); (all_goals (refine kq_each [11] ⟨?_, trivial⟩; (refine kq_op ?_; first | refine w_pure p_ld ?_ | refine w_pure p_lda ?_))); (all_goals (first | refine kq_take 12 rfl p_idx ?_ | refine kq_take 12 rfl p_idxl ?_)); (all_goals (refine kq_each [13] ⟨?_, trivial⟩; (refine kq_op ?_; first | refine w_st ?_ | refine w_str ?_ | refine w_stra ?_))); (all_goals (first | refine kq_take 14 rfl p_idx ?_ | refine kq_take 14 rfl p_idxl ?_)); (all_goals (refine kq_each [15] ⟨?_, trivial⟩; (refine kq_op ?_; first | refine w_st ?_ | refine w_str ?_ | refine w_stra ?_))); (all_goals refine kq_done ?_))); (case' b1_11 => ((refine kq_op ?_; first | refine w_pure p_ld ?_ | refine w_pure p_lda ?_); (all_goals (refine kq_each [7] ⟨?_, trivial⟩; (refine kq_op ?_; first | refine w_pure p_ld ?_ | refine w_pure p_lda ?_))); (all_goals (first | refine kq_take 12 rfl p_idx ?_ | refine kq_take 12 rfl p_idxl ?_)); (all_goals (refine kq_each [13] ⟨?_, trivial⟩; (refine kq_op ?_; first | refine w_st ?_ | refine w_str ?_ | refine w_stra ?_))); (all_goals (first | refine kq_take 14 rfl p_idx ?_ | refine kq_take 14 rfl p_idxl ?_)); (all_goals (refine kq_each [15] ⟨?_, trivial⟩; (refine kq_op ?_; first | refine w_st ?_ | refine w_str ?_ | refine w_stra ?_))); (all_goals refine kq_done ?_))))))
  all_goals (repeat' (first | (show KQ (WL _ _ _ _ _) _ _ _ _; first | refine yW p_move ?_ | refine yW p_ld ?_ | refine yW p_lda ?_ | refine yW p_idx ?_ | refine yW p_idxl ?_ | (refine yX ?_; first | refine w_st ?_ | refine w_str ?_ | refine w_stra ?_ | fail) | fail) | refine yE ?_ | fail))
  all_goals (refine y_fin ?_; exact ⟨_, rfl, Ent.auto⟩)
variable (kv : List (Int × TM)) (turn : Int)
theorem flat_take (k : Nat) : (flat tme R).take (k * 3) = flat tme (R.take k) := by
  have e : flat tme R = flat tme (R.take k) ++ flat tme (R.drop k) := by
    conv => lhs; rw [← List.take_append_drop k R]
    simp only [flat, List.flatMap_append]
  by_cases h : k ≤ R.length
  · rw [e, List.take_left']
    rw [tme_len, List.length_take, Nat.min_eq_left h]
  · rw [List.take_of_length_le (by rw [tme_len]; omega), List.take_of_length_le (by omega)]
set_option maxHeartbeats 4000000 in
theorem rpop_spec (hn : 0 < R.length) (hl : R.length ≤ 6000000000000) : Sp Try.prog 99 [ptr p] (tms p m a c R kv turn F) fun r M => ∃ v, r = .iface 72 v ∧ v = tmv (R.getD (R.length - 1) d0) ∧ M = tms p m a c (R.take (R.length - 1)) kv turn F := by
  have hi : R.length - 1 < R.length := by omega
  have hpos : 0 < (flat tme R).length := by rw [tme_len]; omega
  have ht1 := tk_flat (enc := tme) (sz := 3) (l := R) (fun _ => rfl) (R.length - 1) hi
  rw [← gt hi] at ht1
  have hlen := tme_len R
  have hu : (((R.length : Nat) : Int) - 1).toNat = R.length - 1 := by omega
  have ht2 : Tk (flat tme R) ((((R.length : Nat) : Int) - 1).toNat * 3) 3 (tme (R.getD (R.length - 1) d0)) := by rw [hu]; exact ht1
  clear ht1
  refine y_of Try.func99 rfl Try.ntmps99 rfl fun w0 => ?_
  refine KQ.know (fun w hw => (Reads.row (L := tms p m a c R kv turn F) (.there .here)).some hpos w hw) fun hsm => ?_
  refine KQ.know (fun w hw => (Reads.row (L := tms p m a c R kv turn F) (.there .here)).spot hpos w hw) fun hsp => ?_
  refine KQ.know (fun w hw => row_cap (L := tms p m a c R kv turn F) (.there .here) w hw) fun hcap => ?_
  (repeat' (first | (show KQ (WL _ _ _ _ _) _ _ _ _; first | refine yW p_move ?_ | refine yW p_asg ?_ | refine yW p_ld ?_ | refine yW p_lda ?_ | refine yW p_sub6 ?_ | refine yW p_sub ?_ | refine yW p_nil ?_ | refine yW p_nilf ?_ | refine yW p_idx ?_ | refine yW p_idxl ?_ | refine yW p_len ?_ | refine yW p_lens ?_ | refine yW p_lenm ?_ | refine yS ?_ | refine yW p_mif ?_ | refine yW p_mifp ?_ | refine yW p_mifs ?_ | (refine yX ?_; first | refine w_st ?_ | refine w_str ?_ | refine w_stra ?_ | (refine w_al ?_; intro q) | fail) | fail) | refine yE ?_ | fail))
  rw [hu]
  have htl : (R.take (R.length - 1)).length = R.length - 1 := by rw [List.length_take]; omega
  refine y_fin ?_
  refine ⟨tms p m a c (R.take (R.length - 1)) kv turn F, ⟨_, rfl, rfl, rfl⟩, ?_⟩
  refine Ent.trans (M := trow a c R :: blk p (.cells (tcs a (R.length - 1) c m turn).toArray 70 (0, 0)) :: tmap m kv :: F) (by ((repeat (first | with_reducible exact Ent.rfl | with_reducible exact Ent.nil | ((with_reducible apply Ent.cons); focus ((repeat (first | exact Sel.here | apply Sel.there)); done)) | with_reducible refine Ent.drop ?_)); done)) ?_
  refine ent_less (R.length - 1) (by omega) ?_
  rw [flat_take, tms, trow, htl]
  ((repeat (first | with_reducible exact Ent.rfl | with_reducible exact Ent.nil | ((with_reducible apply Ent.cons); focus ((repeat (first | exact Sel.here | apply Sel.there)); done)) | with_reducible refine Ent.drop ?_)); done)
end
end Go.Proofs.Yteafcajlfagbkaa
