/- DERIVED. Queues by time: all items in order; those that are due. -/
import Derived.Test.YteafcajlfagbkaaZh
import Derived.Test.YteafcajlfagbkaaVcc
namespace Go.Proofs.Yteafcajlfagbkaa
set_option linter.unusedSimpArgs false
set_option linter.unusedVariables false
open Go Sl Cv Go.RowKit
def dq (x : TM) : DT := (x.at_, x.item)
abbrev atrow (a : Option Addr) (c : Nat) (D : List DT) : HP := row 59 2 (.slice a D.length c) D.length (flat te D)
theorem itm_inj {a b : Int} (h : Value.int .i64 a = Value.int .i64 b) : a = b := by injection h
theorem te_one1 (D : List DT) (x : TM) : flat te D ++ List.flatMap celv [Value.agg #[.int .i64 x.at_, .int .i64 x.item]] = flat te (D ++ [dq x]) := by simp [flat, celv, te, dq]
section
variable (p : Nat) (Q : List TM) (t : Int) (b : Nat) (F : List HP)
set_option maxHeartbeats 8000000 in
theorem tall_ok (hQ : QOk Q t) : Sp Try.prog 29 [ptr p] (TIM p Q t b :: F) fun r M => ∃ a c, r = .slice a Q.length c ∧ M = row 59 2 (.slice a Q.length c) Q.length (flat te (Q.map dq)) :: TIM p Q t b :: F := by
  refine Sp.post (Post := fun v M => ∃ a c, v = .slice a Q.length c ∧ ∃ w : TW Q t b, M = row 59 2 (.slice a Q.length c) Q.length (flat te (Q.map dq)) :: tmw p Q t w F) (tsp fun w => ?_) (by rintro v L ⟨a, c, rfl, w, rfl⟩; exact ⟨_, ⟨a, c, rfl, rfl⟩, Ent.tail (tshut w F)⟩)
  obtain ⟨m, ra, rc, R, kv, ok⟩ := w
  dsimp only [tmw]
  have hkd := ok.nd hQ
  have hnd : kv.Nodup := List.Pairwise.of_map Prod.fst (fun a b h e => by rw [e] at h; exact absurd rfl h) hkd
  have hkl := ok.len
  have hql := hQ.ql
  have hkq : (kv.map Prod.snd).Perm Q := by
    have := ok.kvp.map Prod.snd
    simpa [tkv, Function.comp_def] using this
  have hfin : ∀ (ds : List (Int × TM)) (l' : List TM), kv.Perm ds → l'.Perm (ds.map Prod.snd) → l'.Pairwise (fun x y => ltT y x = false) → l' = Q := fun ds l' h1 h2 h3 =>
    sorted_eq (h2.trans ((h1.map Prod.snd).symm.trans hkq)) h3 hQ.asc
  refine y_of Try.func29 rfl Try.ntmps29 rfl fun w0 => ?_
  (repeat' (first | (show KQ (WL _ _ _ _ _) _ _ _ _; first | refine yW p_move ?_ | refine yW p_asg ?_ | refine yA ?_ | refine yW p_ld ?_ | refine yW p_lda ?_ | refine yB ?_ | refine yW p_nil ?_ | refine yW p_nilf ?_ | refine yW p_ext ?_ | refine yW p_idx ?_ | refine yW p_idxl ?_ | refine yW p_len ?_ | refine yW p_lens ?_ | refine yW p_lenm ?_ | refine yW p_bld ?_ | refine yW p_entry ?_ | (refine yX ?_; first | refine w_st ?_ | refine w_str ?_ | refine w_stra ?_ | (refine w_ap0 ?_; intro ao1 cap1) | (refine w_ap ?_; intro ao1 cap1) | (refine w_al ?_; intro q) | (refine w_bs ?_; intro q) | (refine w_rg ?_; intro it) | fail) | fail) | (show KQ (CD _ _ _ _ _) _ _ _ _; first | refine yT ?_ | refine yF ?_ | fail) | ((first | refine yC ?_ ?_) <;> (intro hc; (try simp only [hcS] at hc); try exact dD)) | refine yE ?_ | fail))
  refine KQ.ent ?_ (ent_nil 72 3 none Ent.rfl)
  refine y_loop (X := Option Addr × Nat × List (Int × TM)) (none, 0, []) (fun y => y.2.2.Nodup ∧ ∀ z ∈ y.2.2, z ∈ kv) (fun y => [(0, ptr p), (15, ptr it), (3, .slice y.1 y.2.2.length y.2.1)]) (fun y => itm it m (Value.int .i64) tmv kv y.2.2 :: row 72 3 (.slice y.1 y.2.2.length y.2.1) y.2.2.length (flat tme (y.2.2.map Prod.snd)) :: blk p (.cells (tcs ra R.length rc m t).toArray 70 (0, 0)) :: trow ra rc R :: F) (fun y => kv.length - y.2.2.length) ⟨List.nodup_nil, by simp⟩ ⟨rfl, rfl, rfl, trivial⟩ (by ((repeat (first | with_reducible exact Ent.rfl | with_reducible exact Ent.nil | ((with_reducible apply Ent.cons); focus ((repeat (first | exact Sel.here | apply Sel.there)); done)) | with_reducible refine Ent.drop ?_)); done)) ?_
  rintro K' ⟨a, c, ds⟩ ⟨hd, hm⟩ hnext
  dsimp only at hd hm hnext ⊢
  have hlen := nd_len hd hm
  have hS' := fun F => sort_tm a c (ds.map Prod.snd) F (by simp; omega)
  simp only [trow, List.length_map] at hS'
  (repeat' (first | (show KQ (WL _ _ _ _ _) _ _ _ _; first | refine yW p_move ?_ | refine yW p_asg ?_ | refine yA ?_ | refine yW p_ld ?_ | refine yW p_lda ?_ | refine yB ?_ | refine yW p_nil ?_ | refine yW p_nilf ?_ | refine yW p_ext ?_ | refine yW p_idx ?_ | refine yW p_idxl ?_ | refine yW p_len ?_ | refine yW p_lens ?_ | refine yW p_lenm ?_ | refine yW p_bld ?_ | refine yW p_entry ?_ | (refine yX ?_; first | refine w_st ?_ | refine w_str ?_ | refine w_stra ?_ | (refine w_ap0 ?_; intro ao1 cap1) | (refine w_ap ?_; intro ao1 cap1) | (refine w_al ?_; intro q) | (refine w_bs ?_; intro q) | (refine w_rg ?_; intro it) | (refine w_nx (itm_inj) (fun g0 g1 => ?_) (fun p g2 g3 => ?_)) | (refine w_call (hS' _) ?_; rintro r L ⟨rfl, l', hl1, hl2, rfl⟩) | fail) | fail) | (show KQ (CD _ _ _ _ _) _ _ _ _; first | refine yT ?_ | refine yF ?_ | fail) | ((first | refine yC ?_ ?_) <;> (intro hc; (try simp only [hcS] at hc); try exact dD)) | refine yE ?_ | fail))
  · have hlq := hfin ds l' g1 hl1 hl2
    have hn : ds.length = Q.length := by omega
    rw [hlq, hn]
    clear hS' hnext hl1 hl2 hlq hfin
    refine KQ.ent ?_ (Ent.sel (.there .here) (ent_itm Ent.rfl))
    refine KQ.ent ?_ (ent_nil 59 2 none Ent.rfl)
    refine y_loop (X := Option Addr × Nat × Nat) (none, 0, 0) (fun y => y.2.2 ≤ Q.length) (fun y => [(26, .slice a Q.length c), (27, .int .i64 Q.length), (28, .int .i64 y.2.2), (6, .slice y.1 y.2.2 y.2.1)]) (fun y => row 59 2 (.slice y.1 y.2.2 y.2.1) y.2.2 (flat te ((Q.map dq).take y.2.2)) :: row 72 3 (.slice a Q.length c) Q.length (flat tme Q) :: tms p m ra rc R kv t F) (fun y => Q.length - y.2.2) (Nat.zero_le _) ⟨rfl, rfl, rfl, rfl, trivial⟩ (by ((repeat (first | with_reducible exact Ent.rfl | with_reducible exact Ent.nil | ((with_reducible apply Ent.cons); focus ((repeat (first | exact Sel.here | apply Sel.there)); done)) | with_reducible refine Ent.drop ?_)); done)) ?_
    rintro K2 ⟨a2, c2, i⟩ hi hnext2
    dsimp only at hi hnext2 ⊢
    by_cases hlt : i < Q.length
    · have hpos : 0 < (flat tme Q).length := by rw [tme_len]; omega
      have htk := tk_flat (enc := tme) (sz := 3) (l := Q) (fun _ => rfl) i hlt
      have hs : (Q.map dq).take (i + 1) = (Q.map dq).take i ++ [dq Q[i]] := by rw [List.take_succ_eq_append_getElem (by simpa using hlt)]; simp
      have hs2 : (flat te ((Q.map dq).take i)) ++ List.flatMap celv [Value.agg #[.int .i64 Q[i].at_, .int .i64 Q[i].item]] = flat te ((Q.map dq).take (i + 1)) := by rw [te_one1, hs]
      generalize Q[i] = x at htk hs2
      clear hs
      refine KQ.know (fun w hw => (Reads.row (L := row 59 2 (.slice a2 i c2) i (flat te ((Q.map dq).take i)) :: row 72 3 (.slice a Q.length c) Q.length (flat tme Q) :: tms p m ra rc R kv t F) (.there .here)).spot hpos w hw) fun hsp => ?_
      (repeat' (first | (show KQ (WL _ _ _ _ _) _ _ _ _; first | refine yW p_move ?_ | refine yW p_asg ?_ | refine yA ?_ | refine yW p_ld ?_ | refine yW p_lda ?_ | refine yB ?_ | refine yW p_nil ?_ | refine yW p_nilf ?_ | refine yW p_ext ?_ | refine yW p_idx ?_ | refine yW p_idxl ?_ | refine yW p_len ?_ | refine yW p_lens ?_ | refine yW p_lenm ?_ | refine yW p_bld ?_ | refine yW p_entry ?_ | (refine yX ?_; first | refine w_st ?_ | refine w_str ?_ | refine w_stra ?_ | (refine w_ap0 ?_; intro ao1 cap1) | (refine w_ap ?_; intro ao1 cap1) | (refine w_al ?_; intro q) | (refine w_bs ?_; intro q) | (refine w_rg ?_; intro it) | fail) | fail) | (show KQ (CD _ _ _ _ _) _ _ _ _; first | refine yT ?_ | refine yF ?_ | fail) | ((first | refine yC ?_ ?_) <;> (intro hc; (try simp only [hcS] at hc); try exact dD)) | refine yE ?_ | fail))
      all_goals exact hnext2 (ao1, cap1, i + 1) _ _ hlt (by show Q.length - (i + 1) < Q.length - i; omega) ⟨rfl, rfl, rfl, rfl, trivial⟩ (by dsimp only; rw [← hs2]; ((repeat (first | with_reducible exact Ent.rfl | with_reducible exact Ent.nil | ((with_reducible apply Ent.cons); focus ((repeat (first | exact Sel.here | apply Sel.there)); done)) | with_reducible refine Ent.drop ?_)); done))
    · obtain rfl : i = Q.length := by omega
      have ht : (Q.map dq).take Q.length = Q.map dq := List.take_of_length_le (by simp)
      rw [ht]
      (repeat' (first | (show KQ (WL _ _ _ _ _) _ _ _ _; first | refine yW p_move ?_ | refine yW p_asg ?_ | refine yA ?_ | refine yW p_ld ?_ | refine yW p_lda ?_ | refine yB ?_ | refine yW p_nil ?_ | refine yW p_nilf ?_ | refine yW p_ext ?_ | refine yW p_idx ?_ | refine yW p_idxl ?_ | refine yW p_len ?_ | refine yW p_lens ?_ | refine yW p_lenm ?_ | refine yW p_bld ?_ | refine yW p_entry ?_ | (refine yX ?_; first | refine w_st ?_ | refine w_str ?_ | refine w_stra ?_ | (refine w_ap0 ?_; intro ao1 cap1) | (refine w_ap ?_; intro ao1 cap1) | (refine w_al ?_; intro q) | (refine w_bs ?_; intro q) | (refine w_rg ?_; intro it) | fail) | fail) | (show KQ (CD _ _ _ _ _) _ _ _ _; first | refine yT ?_ | refine yF ?_ | fail) | ((first | refine yC ?_ ?_) <;> (intro hc; (try simp only [hcS] at hc); try exact dD)) | refine yE ?_ | fail))
      all_goals (refine y_fin ?_; exact ⟨_, ⟨a2, c2, rfl, ⟨m, ra, rc, R, kv, ok⟩, rfl⟩, Ent.auto⟩)
  · have hs : (ds ++ [p]).map Prod.snd = ds.map Prod.snd ++ [p.2] := by simp
    have hd2 : (ds ++ [p]).Nodup := List.nodup_append.2 ⟨hd, by simp, fun x hx y hy e => g3 (by simp at hy; rw [← hy, ← e]; exact hx)⟩
    have hm2 : ∀ z ∈ ds ++ [p], z ∈ kv := fun z hz => by
      rcases List.mem_append.1 hz with h | h
      · exact hm z h
      · simp at h; rw [h]; exact g2
    have hl2 := nd_len hd2 hm2
    rw [List.length_append, List.length_singleton] at hl2
    exact hnext (ao1, cap1, ds ++ [p]) _ _ ⟨hd2, hm2⟩ (by show kv.length - (ds ++ [p]).length < kv.length - ds.length; rw [List.length_append, List.length_singleton]; omega) (by dsimp only; rw [List.length_append]; exact ⟨rfl, rfl, rfl, trivial⟩) (by dsimp only; rw [hs, List.length_append, ← tme_snoc]; ((repeat (first | with_reducible exact Ent.rfl | with_reducible exact Ent.nil | ((with_reducible apply Ent.cons); focus ((repeat (first | exact Sel.here | apply Sel.there)); done)) | with_reducible refine Ent.drop ?_)); done))
end
end Go.Proofs.Yteafcajlfagbkaa
