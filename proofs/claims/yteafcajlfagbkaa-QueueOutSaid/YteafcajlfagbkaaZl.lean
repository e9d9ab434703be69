/- DERIVED. Queues by time: how one stands, as the law looks. -/
import Derived.Test.YteafcajlfagbkaaZk
import Derived.Test.YteafcajlfagbkaaVcc
namespace Go.Proofs.Yteafcajlfagbkaa
set_option linter.unusedSimpArgs false
set_option linter.unusedVariables false
open Go Sl Cv Go.RowKit
section
variable (a : Option Addr) (c : Nat) (D : List DT) (F : List HP) (v : Int)
set_option maxHeartbeats 4000000 in
theorem ddue_ok (hr : Reads F (.slice a D.length c) D.length (flat te D)) (n : Nat) (hn : n ≤ D.length) (h1 : ∀ j (hj : j < D.length), j < n → D[j].1 ≤ v) (h2 : ∀ h : n < D.length, v < D[n].1) (hl : D.length ≤ 1000000000) : Sp Try.prog 24 [.slice a D.length c, .int .i64 v] F fun r M => r = .int .i64 n ∧ M = F := by
  refine y_of Try.func24 rfl Try.ntmps24 rfl fun w0 => ?_
  (repeat' (first | (show KQ (WL _ _ _ _ _) _ _ _ _; first | refine yW p_move ?_ | refine yW p_asg ?_ | refine yA ?_ | refine yW p_ld ?_ | refine yW p_lda ?_ | refine yB ?_ | refine yW p_pt ?_ | refine yW p_pf ?_ | refine yW p_idx ?_ | refine yW p_idxl ?_ | refine yW p_len ?_ | refine yW p_lens ?_ | refine yW p_lenm ?_ | refine yN ?_ | refine yO ?_ | fail) | (show KQ (CD _ _ _ _ _) _ _ _ _; first | refine yT ?_ | refine yF ?_ | fail) | ((first | refine yG ?_ ?_ | refine yC ?_ ?_) <;> (intro hc; (try simp only [hcS] at hc); try exact dD)) | refine yE ?_ | fail))
  refine y_loop (X := Nat) 0 (fun k => k ≤ n) (fun k => [(0, .slice a D.length c), (1, .int .i64 v), (5, .int .i64 k)]) (fun _ => F) (fun k => D.length - k) (Nat.zero_le _) ⟨rfl, rfl, rfl, trivial⟩ (by ((repeat (first | with_reducible exact Ent.rfl | with_reducible exact Ent.nil | ((with_reducible apply Ent.cons); focus ((repeat (first | exact Sel.here | apply Sel.there)); done)) | with_reducible refine Ent.drop ?_)); done)) ?_
  rintro K' k hk hnext
  by_cases hD : k < D.length
  · have htk := tk_flat (enc := te) (sz := 2) (l := D) (fun _ => rfl) k hD
    have hpos : 0 < (flat te D).length := by rw [te_len]; omega
    obtain ⟨y, hy⟩ : ∃ y, y = D[k] := ⟨_, rfl⟩
    rw [← hy] at htk
    have hf0 : (flat te D)[k * 2]? = some (.int .i64 y.1) := htk.get 0 _ rfl
    by_cases hkn : k < n
    · have hle := h1 k hD hkn
      rw [← hy] at hle
      (repeat' (first | (show KQ (WL _ _ _ _ _) _ _ _ _; first | refine yW p_move ?_ | refine yW p_asg ?_ | refine yA ?_ | refine yW p_ld ?_ | refine yW p_lda ?_ | refine yB ?_ | refine yW p_pt ?_ | refine yW p_pf ?_ | refine yW p_idx ?_ | refine yW p_idxl ?_ | refine yW p_len ?_ | refine yW p_lens ?_ | refine yW p_lenm ?_ | refine yN ?_ | refine yO ?_ | fail) | (show KQ (CD _ _ _ _ _) _ _ _ _; first | refine yT ?_ | refine yF ?_ | fail) | ((first | refine yG ?_ ?_ | refine yC ?_ ?_) <;> (intro hc; (try simp only [hcS] at hc); try exact dD)) | refine yE ?_ | fail))
      all_goals exact hnext (k + 1) _ _ hkn (by omega) ⟨rfl, rfl, rfl, trivial⟩ (by ((repeat (first | with_reducible exact Ent.rfl | with_reducible exact Ent.nil | ((with_reducible apply Ent.cons); focus ((repeat (first | exact Sel.here | apply Sel.there)); done)) | with_reducible refine Ent.drop ?_)); done))
    · obtain rfl : k = n := by omega
      have hlt := h2 hD
      rw [← hy] at hlt
      (repeat' (first | (show KQ (WL _ _ _ _ _) _ _ _ _; first | refine yW p_move ?_ | refine yW p_asg ?_ | refine yA ?_ | refine yW p_ld ?_ | refine yW p_lda ?_ | refine yB ?_ | refine yW p_pt ?_ | refine yW p_pf ?_ | refine yW p_idx ?_ | refine yW p_idxl ?_ | refine yW p_len ?_ | refine yW p_lens ?_ | refine yW p_lenm ?_ | refine yN ?_ | refine yO ?_ | fail) | (show KQ (CD _ _ _ _ _) _ _ _ _; first | refine yT ?_ | refine yF ?_ | fail) | ((first | refine yG ?_ ?_ | refine yC ?_ ?_) <;> (intro hc; (try simp only [hcS] at hc); try exact dD)) | refine yE ?_ | fail))
      all_goals (refine y_fin ?_; exact ⟨_, ⟨rfl, rfl⟩, Ent.auto⟩)
  · obtain rfl : k = n := by omega
    (repeat' (first | (show KQ (WL _ _ _ _ _) _ _ _ _; first | refine yW p_move ?_ | refine yW p_asg ?_ | refine yA ?_ | refine yW p_ld ?_ | refine yW p_lda ?_ | refine yB ?_ | refine yW p_pt ?_ | refine yW p_pf ?_ | refine yW p_idx ?_ | refine yW p_idxl ?_ | refine yW p_len ?_ | refine yW p_lens ?_ | refine yW p_lenm ?_ | refine yN ?_ | refine yO ?_ | fail) | (show KQ (CD _ _ _ _ _) _ _ _ _; first | refine yT ?_ | refine yF ?_ | fail) | ((first | refine yG ?_ ?_ | refine yC ?_ ?_) <;> (intro hc; (try simp only [hcS] at hc); try exact dD)) | refine yE ?_ | fail))
    all_goals (refine y_fin ?_; exact ⟨_, ⟨rfl, rfl⟩, Ent.auto⟩)
end
def low2 (v : Int) : Int := IntKind.i64.wrap (v - 1)
theorem fst_at : ∀ (D : List DT) (x : Int), x ∈ D.map Prod.snd → ∃ (k : Nat) (hk : k < D.length), D[k].2 = x ∧ ∀ j (hj : j < k), (D[j]'(Nat.lt_trans hj hk)).2 ≠ x
  | [], x, h => by simp at h
  | p :: D, x, h => by
    by_cases e : p.2 = x
    · exact ⟨0, by simp, e, fun j hj => absurd hj (Nat.not_lt_zero j)⟩
    · have h' : x ∈ D.map Prod.snd := by
        rw [List.map_cons] at h
        rcases List.mem_cons.1 h with h | h
        · exact absurd h.symm e
        · exact h
      obtain ⟨k, hk, h1, h2⟩ := fst_at D x h'
      refine ⟨k + 1, by simp; omega, by simpa using h1, fun j hj => ?_⟩
      cases j with
      | zero => simpa using e
      | succ j => simpa using h2 j (by omega)
/-- All's row behind some rounds. -/
def lowD (l : List DT) (i : Nat) : List DT := (l.take i).map (fun p => (p.1, low2 p.2)) ++ l.drop i
theorem lowD_len (l : List DT) (i : Nat) : (lowD l i).length = l.length := by simp [lowD]; omega
theorem lowD_at (l : List DT) (i : Nat) (h : i < l.length) : (lowD l i)[i]? = some l[i] := by
  rw [lowD, List.getElem?_append_right (by simp; omega)]
  simp
  have : i - min i l.length = 0 := by omega
  rw [this]; simp [h]
theorem lowD_set (l : List DT) (i : Nat) (h : i < l.length) : (lowD l i).set i (l[i].1, low2 l[i].2) = lowD l (i + 1) := by
  rw [lowD, lowD, List.set_append_right _ _ (by simp; omega)]
  have e : i - ((l.take i).map fun p => (p.1, low2 p.2)).length = 0 := by simp; omega
  rw [e, List.take_succ_eq_append_getElem h, List.map_append, List.append_assoc, List.drop_eq_getElem_cons h]
  rfl
theorem te_set : ∀ (l : List DT) (i : Nat) (h : i < l.length) (y : Int), (flat te l).set (i * 2 + 1) (.int .i64 y) = flat te (l.set i (l[i].1, y))
  | [], _, h, _ => absurd h (by simp)
  | p :: l, 0, _, y => rfl
  | p :: l, i + 1, h, y => by
    have := te_set l i (by simpa using h) y
    show (.int .i64 p.1 :: .int .i64 p.2 :: flat te l : List Value).set ((i + 1) * 2 + 1) _ = .int .i64 p.1 :: .int .i64 p.2 :: flat te (l.set i _)
    rw [show (i + 1) * 2 + 1 = (i * 2 + 1) + 2 by omega, List.set_cons_succ, List.set_cons_succ, this]
    rfl
section
variable (p : Nat) (Q : List TM) (t : Int) (b : Nat) (a : Option Addr) (c : Nat) (D : List DT) (F : List HP) (x : Int)
set_option maxHeartbeats 8000000 in
theorem times_ok (hQ : QOk Q t) (hb : b ≤ 5870000000000) (hD : D = Q.map dq) : Sp Try.prog 27 [ptr p, .slice a D.length c, .int .i64 x] (TIM p Q t b :: drow a c D :: F) fun r M => r = .bool true ∧ M = TIM p Q t b :: drow a c D :: F := by
  have hlen : D.length = Q.length := by rw [hD, List.length_map]
  have hql := hQ.ql
  have ha := fun F => tall_ok p Q t b F hQ
  rw [← hD] at ha
  have hl := fun F => tlen_ok p Q t b F
  refine y_of Try.func27 rfl Try.ntmps27 rfl fun w0 => ?_
  (repeat' (first | (show KQ (WL _ _ _ _ _) _ _ _ _; first | refine yW p_move ?_ | refine yW p_asg ?_ | refine yA ?_ | refine yW p_ld ?_ | refine yW p_lda ?_ | refine yB ?_ | refine yW p_ext ?_ | refine yW p_pt ?_ | refine yW p_pf ?_ | refine yW p_nott ?_ | refine yW p_notf ?_ | refine yW p_not ?_ | refine yW p_neg ?_ | refine yW p_idx ?_ | refine yW p_idxl ?_ | refine yW p_len ?_ | refine yW p_lens ?_ | refine yW p_lenm ?_ | refine yW p_bld ?_ | (refine yX ?_; first | refine w_st ?_ | refine w_str ?_ | refine w_stra ?_ | (refine w_al ?_; intro q) | (refine w_call (ha _) ?_; rintro r L ⟨a2, c2, rfl, rfl⟩) | (refine w_call (hl _) ?_; rintro r L ⟨rfl, rfl⟩) | fail) | refine yN ?_ | refine yO ?_ | fail) | (show KQ (CD _ _ _ _ _) _ _ _ _; first | refine yT ?_ | refine yF ?_ | fail) | ((first | refine yG ?_ ?_ | refine yC ?_ ?_) <;> (intro hc; (try simp only [hcS] at hc); try exact dD)) | refine yE ?_ | fail))
  refine y_loop (X := Nat) 0 (fun i => i ≤ D.length) (fun i => [(0, ptr p), (1, .slice a D.length c), (2, .int .i64 x), (7, .slice a2 Q.length c2), (28, .slice a D.length c), (29, .int .i64 D.length), (30, .int .i64 i)]) (fun i => row 59 2 (.slice a2 Q.length c2) Q.length (flat te (lowD D i)) :: TIM p Q t b :: drow a c D :: F) (fun i => D.length - i) (Nat.zero_le _) ⟨rfl, rfl, rfl, rfl, rfl, rfl, rfl, trivial⟩ (by rw [show lowD D 0 = D by simp [lowD]]; ((repeat (first | with_reducible exact Ent.rfl | with_reducible exact Ent.nil | ((with_reducible apply Ent.cons); focus ((repeat (first | exact Sel.here | apply Sel.there)); done)) | with_reducible refine Ent.drop ?_)); done)) ?_
  rintro K' i hi hnext
  by_cases hlt : i < D.length
  · have htk := tk_flat (enc := te) (sz := 2) (l := D) (fun _ => rfl) i hlt
    have hposD : 0 < (flat te D).length := by rw [te_len]; omega
    have hll := lowD_len D i
    have hli : (lowD D i)[i]'(by omega) = D[i] := by have := lowD_at D i hlt; rw [List.getElem?_eq_getElem (by omega)] at this; exact Option.some.inj this
    have htl := tk_flat (enc := te) (sz := 2) (l := lowD D i) (fun _ => rfl) i (by omega)
    rw [hli] at htl
    have hposA : 0 < (flat te (lowD D i)).length := by rw [te_len]; omega
    have hlA : (flat te (lowD D i)).length = D.length * 2 := by rw [te_len, hll]
    have hset : (flat te (lowD D i)).set (i * 2 + 1) (.int .i64 (IntKind.i64.wrap (D[i].2 - 1))) = flat te (lowD D (i + 1)) := by
      rw [te_set _ i (by omega), hli]; exact congrArg _ (lowD_set D i hlt)
    obtain ⟨y, hy⟩ : ∃ y, y = D[i] := ⟨_, rfl⟩
    rw [← hy] at htk htl hset
    have hf1 : (flat te (lowD D i))[((i : Nat) : Int).toNat * 2 + 1]? = some (.int .i64 y.2) := htl.get 1 _ rfl
    have hkl : ((i : Nat) : Int).toNat * 2 + 1 < (flat te (lowD D i)).length := by rw [hlA]; omega
    (repeat' (first | (show KQ (WL _ _ _ _ _) _ _ _ _; first | refine yW p_move ?_ | refine yW p_asg ?_ | refine yA ?_ | refine yW p_ld ?_ | refine yW p_lda ?_ | refine yB ?_ | refine yW p_ext ?_ | refine yW p_pt ?_ | refine yW p_pf ?_ | refine yW p_nott ?_ | refine yW p_notf ?_ | refine yW p_not ?_ | refine yW p_neg ?_ | refine yW p_idx ?_ | refine yW p_idxl ?_ | refine yW p_len ?_ | refine yW p_lens ?_ | refine yW p_lenm ?_ | refine yW p_bld ?_ | (refine yX ?_; first | refine w_st ?_ | refine w_str ?_ | refine w_stra ?_ | (refine w_al ?_; intro q) | fail) | refine yN ?_ | refine yO ?_ | fail) | (show KQ (CD _ _ _ _ _) _ _ _ _; first | refine yT ?_ | refine yF ?_ | fail) | ((first | refine yG ?_ ?_ | refine yC ?_ ?_) <;> (intro hc; (try simp only [hcS] at hc); try exact dD)) | refine yE ?_ | fail))
    all_goals (refine y_cr ?_; refine kq_draw 7 (blk q (.cells (te y).toArray 47 (0, 0)) :: row 59 2 (.slice a2 Q.length c2) Q.length (flat te (lowD D i)) :: drow a c D :: F) 10 ?_; (all_goals refine kq_take 0 rfl p_move ?_); (all_goals refine kq_take 1 rfl p_move ?_); (all_goals (first | refine kq_take 2 rfl p_idx ?_ | refine kq_take 2 rfl p_idxl ?_)); (all_goals refine tkl 3 ?_); (all_goals refine tkf 4 ?_); (all_goals refine tkl 5 ?_); (all_goals refine tkf 6 ?_); (all_goals refine tkl 7 ?_); (all_goals refine kq_take 8 rfl p_bld ?_); (all_goals refine tkb 9 ?_); (all_goals refine kq_done ?_))
    all_goals (repeat' (first | (show KQ (WL _ _ _ _ _) _ _ _ _; first | refine yW p_move ?_ | refine yW p_asg ?_ | refine yA ?_ | refine yW p_ld ?_ | refine yW p_lda ?_ | refine yB ?_ | refine yW p_ext ?_ | refine yW p_pt ?_ | refine yW p_pf ?_ | refine yW p_nott ?_ | refine yW p_notf ?_ | refine yW p_not ?_ | refine yW p_neg ?_ | refine yW p_idx ?_ | refine yW p_idxl ?_ | refine yW p_len ?_ | refine yW p_lens ?_ | refine yW p_lenm ?_ | refine yW p_bld ?_ | (refine yX ?_; first | refine w_st ?_ | refine w_str ?_ | refine w_stra ?_ | (refine w_al ?_; intro q) | fail) | refine yN ?_ | refine yO ?_ | fail) | (show KQ (CD _ _ _ _ _) _ _ _ _; first | refine yT ?_ | refine yF ?_ | fail) | ((first | refine yG ?_ ?_ | refine yC ?_ ?_) <;> (intro hc; (try simp only [hcS] at hc); try exact dD)) | refine yE ?_ | fail))
    all_goals (rw [show ((i : Nat) : Int).toNat = i by omega, hset])
    all_goals exact hnext (i + 1) _ _ hlt (by omega) ⟨rfl, rfl, rfl, rfl, rfl, rfl, rfl, trivial⟩ (by ((repeat (first | with_reducible exact Ent.rfl | with_reducible exact Ent.nil | ((with_reducible apply Ent.cons); focus ((repeat (first | exact Sel.here | apply Sel.there)); done)) | with_reducible refine Ent.drop ?_)); done))
  · obtain rfl : i = D.length := by omega
    clear hnext ha hl
    by_cases h0 : Q.length = 0
    · have hx : x ∉ Q.map TM.item := by rw [List.eq_nil_of_length_eq_zero h0]; simp
      have hA := fun F => tat_no p Q t b F x hx
      have hf := fun F hr => dfind_no a c D F x hr (by omega) (fun q hq => by rw [List.eq_nil_of_length_eq_zero (hlen.trans h0)] at hq; cases hq)
      have hN := fun F => tnext_ok p Q t b F hQ hb
      simp only [List.eq_nil_of_length_eq_zero h0] at hA hN ⊢
      have e1 : ([] : List TM).getD 0 d0 = d0 := rfl
      have e2 : decide (0 < ([] : List TM).length) = false := rfl
      have e3 : d0.at_ = 0 := rfl
      have e4 : d0.item = 0 := rfl
      simp only [e1, e2, e3, e4] at hN
      have hD0 : D.length = 0 := hlen.trans h0
      (repeat' (first | (show KQ (WL _ _ _ _ _) _ _ _ _; first | refine yW p_move ?_ | refine yW p_asg ?_ | refine yA ?_ | refine yW p_ld ?_ | refine yW p_lda ?_ | refine yB ?_ | refine yW p_ext ?_ | refine yW p_pt ?_ | refine yW p_pf ?_ | refine yW p_nott ?_ | refine yW p_notf ?_ | refine yW p_not ?_ | refine yW p_neg ?_ | refine yW p_idx ?_ | refine yW p_idxl ?_ | refine yW p_len ?_ | refine yW p_lens ?_ | refine yW p_lenm ?_ | refine yW p_bld ?_ | (refine yX ?_; first | refine w_st ?_ | refine w_str ?_ | refine w_stra ?_ | (refine w_al ?_; intro q) | (refine w_call (hA _) ?_; rintro r L ⟨rfl, rfl⟩) | (refine w_call (hf _ ?_) ?_; (all_goals (try (focus (first | (first | (apply Reads.row; focus ((repeat (first | exact Sel.here | apply Sel.there)); done)) | (apply reads_blk; focus ((repeat (first | exact Sel.here | apply Sel.there)); done)) | ((refine Reads.ent (by assumption) ?_); ((repeat (first | with_reducible exact Ent.rfl | with_reducible exact Ent.nil | ((with_reducible apply Ent.cons); focus ((repeat (first | exact Sel.here | apply Sel.there)); done)) | with_reducible refine Ent.drop ?_)); done))) | assumption | omega)))); rintro r L ⟨rfl, rfl⟩) | (refine w_call (hN _) ?_; rintro r L ⟨rfl, rfl⟩) | fail) | refine yN ?_ | refine yO ?_ | fail) | (show KQ (CD _ _ _ _ _) _ _ _ _; first | refine yT ?_ | refine yF ?_ | fail) | ((first | refine yG ?_ ?_ | refine yC ?_ ?_) <;> (intro hc; (try simp only [hcS] at hc); try exact dD)) | refine yE ?_ | fail))
      all_goals (refine y_fin ?_; exact ⟨_, ⟨rfl, rfl⟩, Ent.auto⟩)
    · have hN := fun F => tnext_ok p Q t b F hQ hb
      have hD0 : 0 < D.length := by omega
      have e0 : D[0] = dq (Q.getD 0 d0) := by rw [gt (by omega)]; simp [hD]
      rw [decide_eq_true (by omega : 0 < Q.length)] at hN
      have htk0 := tk_flat (enc := te) (sz := 2) (l := D) (fun _ => rfl) 0 hD0
      rw [e0] at htk0
      generalize Q.getD 0 d0 = z at hN htk0
      have hf0 : (flat te D)[0]? = some (.int .i64 z.at_) := htk0.get 0 _ rfl
      have hf1 : (flat te D)[0 + 1]? = some (.int .i64 z.item) := htk0.get 1 _ rfl
      have hf2 : (flat te D)[1]? = some (.int .i64 z.item) := hf1
      have hposD : 0 < (flat te D).length := by rw [te_len]; omega
      clear htk0 e0
      by_cases hx : x ∈ Q.map TM.item
      · obtain ⟨k, hk, hk1, hk2⟩ := fst_at D x (by rw [hD]; simpa [dq, Function.comp_def] using hx)
        have hkq : k < Q.length := by omega
        have eD : D[k] = dq Q[k] := by simp [hD]
        have hA := fun F => tat_yes p Q t b F Q[k] hQ (List.getElem_mem _)
        have ei : Q[k].item = x := by rw [← hk1, eD]; rfl
        have hf := fun F hr => dfind_at a c D F x hr (by omega) k hk hk1 hk2
        have htk := tk_flat (enc := te) (sz := 2) (l := D) (fun _ => rfl) k hk
        rw [eD] at htk
        rw [ei] at hA
        generalize Q[k] = u at hA htk
        have hg0 : (flat te D)[k * 2]? = some (.int .i64 u.at_) := htk.get 0 _ rfl
        clear hk1 hk2 eD
        (repeat' (first | (show KQ (WL _ _ _ _ _) _ _ _ _; first | refine yW p_move ?_ | refine yW p_asg ?_ | refine yA ?_ | refine yW p_ld ?_ | refine yW p_lda ?_ | refine yB ?_ | refine yW p_ext ?_ | refine yW p_pt ?_ | refine yW p_pf ?_ | refine yW p_nott ?_ | refine yW p_notf ?_ | refine yW p_not ?_ | refine yW p_neg ?_ | refine yW p_idx ?_ | refine yW p_idxl ?_ | refine yW p_len ?_ | refine yW p_lens ?_ | refine yW p_lenm ?_ | refine yW p_bld ?_ | (refine yX ?_; first | refine w_st ?_ | refine w_str ?_ | refine w_stra ?_ | (refine w_al ?_; intro q) | (refine w_call (hA _) ?_; rintro r L ⟨rfl, rfl⟩) | (refine w_call (hf _ ?_) ?_; (all_goals (try (focus (first | (first | (apply Reads.row; focus ((repeat (first | exact Sel.here | apply Sel.there)); done)) | (apply reads_blk; focus ((repeat (first | exact Sel.here | apply Sel.there)); done)) | ((refine Reads.ent (by assumption) ?_); ((repeat (first | with_reducible exact Ent.rfl | with_reducible exact Ent.nil | ((with_reducible apply Ent.cons); focus ((repeat (first | exact Sel.here | apply Sel.there)); done)) | with_reducible refine Ent.drop ?_)); done))) | assumption | omega)))); rintro r L ⟨rfl, rfl⟩) | (refine w_call (hN _) ?_; rintro r L ⟨rfl, rfl⟩) | fail) | refine yN ?_ | refine yO ?_ | fail) | (show KQ (CD _ _ _ _ _) _ _ _ _; first | refine yT ?_ | refine yF ?_ | fail) | ((first | refine yG ?_ ?_ | refine yC ?_ ?_) <;> (intro hc; (try simp only [hcS] at hc); try exact dD)) | refine yE ?_ | fail))
        all_goals (refine y_fin ?_; exact ⟨_, ⟨rfl, rfl⟩, Ent.auto⟩)
      · have hA := fun F => tat_no p Q t b F x hx
        have hf := fun F hr => dfind_no a c D F x hr (by omega) (fun q hq e => hx (by rw [hD] at hq; obtain ⟨w, hw, rfl⟩ := List.mem_map.1 hq; exact List.mem_map.2 ⟨w, hw, e⟩))
        (repeat' (first | (show KQ (WL _ _ _ _ _) _ _ _ _; first | refine yW p_move ?_ | refine yW p_asg ?_ | refine yA ?_ | refine yW p_ld ?_ | refine yW p_lda ?_ | refine yB ?_ | refine yW p_ext ?_ | refine yW p_pt ?_ | refine yW p_pf ?_ | refine yW p_nott ?_ | refine yW p_notf ?_ | refine yW p_not ?_ | refine yW p_neg ?_ | refine yW p_idx ?_ | refine yW p_idxl ?_ | refine yW p_len ?_ | refine yW p_lens ?_ | refine yW p_lenm ?_ | refine yW p_bld ?_ | (refine yX ?_; first | refine w_st ?_ | refine w_str ?_ | refine w_stra ?_ | (refine w_al ?_; intro q) | (refine w_call (hA _) ?_; rintro r L ⟨rfl, rfl⟩) | (refine w_call (hf _ ?_) ?_; (all_goals (try (focus (first | (first | (apply Reads.row; focus ((repeat (first | exact Sel.here | apply Sel.there)); done)) | (apply reads_blk; focus ((repeat (first | exact Sel.here | apply Sel.there)); done)) | ((refine Reads.ent (by assumption) ?_); ((repeat (first | with_reducible exact Ent.rfl | with_reducible exact Ent.nil | ((with_reducible apply Ent.cons); focus ((repeat (first | exact Sel.here | apply Sel.there)); done)) | with_reducible refine Ent.drop ?_)); done))) | assumption | omega)))); rintro r L ⟨rfl, rfl⟩) | (refine w_call (hN _) ?_; rintro r L ⟨rfl, rfl⟩) | fail) | refine yN ?_ | refine yO ?_ | fail) | (show KQ (CD _ _ _ _ _) _ _ _ _; first | refine yT ?_ | refine yF ?_ | fail) | ((first | refine yG ?_ ?_ | refine yC ?_ ?_) <;> (intro hc; (try simp only [hcS] at hc); try exact dD)) | refine yE ?_ | fail))
        all_goals (refine y_fin ?_; exact ⟨_, ⟨rfl, rfl⟩, Ent.auto⟩)
end
end Go.Proofs.Yteafcajlfagbkaa
