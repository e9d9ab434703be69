/- DERIVED. Queues by turn: all items in order. -/
import Derived.Test.YteafcajlfagbkaaQa
import Derived.Test.YteafcajlfagbkaaVcc
import Derived.Test.YteafcajlfagbkaaVu
import Derived.Test.YteafcajlfagbkaaVrd
namespace Go.Proofs.Yteafcajlfagbkaa
set_option linter.unusedSimpArgs false
set_option linter.unusedVariables false
open Go Sl Cv Go.RowKit
theorem iint {a b : Int} (h : Value.int .i64 a = Value.int .i64 b) : a = b := by injection h
abbrev lrow (a : Option Addr) (c : Nat) (L : LL) : HP := row 3 1 (.slice a L.length c) L.length (ints (its L))
section
variable (o p m1 m2 : Nat) (fr ut : Int) (L : LL) (F : List HP) (x : Int)
theorem tlen_spec : Sp Try.prog 32 [ptr p] (tq p m1 m2 fr ut L F) fun r M => r = .int .i64 L.length ∧ M = tq p m1 m2 fr ut L F := by
  have hl2 : (tsw L).length = L.length := by simp [tsw]
  refine y_of Try.func32 rfl Try.ntmps32 rfl fun w0 => ?_
  (repeat' (first | (show KQ (WL _ _ _ _ _) _ _ _ _; first | refine yW p_move ?_ | refine yW p_asg ?_ | refine yA ?_ | refine yW p_ld ?_ | refine yW p_lda ?_ | refine yB ?_ | refine yW p_nil ?_ | refine yW p_nilf ?_ | refine yW p_len ?_ | refine yW p_lens ?_ | refine yW p_lenm ?_ | fail) | (show KQ (CD _ _ _ _ _) _ _ _ _; first | refine yT ?_ | refine yF ?_ | fail) | ((first | refine yC ?_ ?_) <;> (intro hc; (try simp only [hcS] at hc); try exact dD)) | refine yE ?_ | fail))
  all_goals (refine y_fin ?_; exact ⟨_, ⟨by first | rfl | (rw [hl2]; rfl), rfl⟩, Ent.auto⟩)
set_option maxHeartbeats 4000000 in
theorem tall_spec (hS : SortOk) (hT : TI fr ut L) (hL : L.length ≤ 65536) : Sp Try.prog 33 [ptr o] (tq o m1 m2 fr ut L F) fun r M => ∃ a c, r = .slice a L.length c ∧ M = lrow a c L :: tq o m1 m2 fr ut L F := by
  have hnd : L.Nodup := List.Pairwise.of_map Prod.fst (fun a b h e => by rw [e] at h; exact absurd rfl h) hT.fnd
  have hsort : ∀ ds : LL, L.Perm ds → srt (ds.map Prod.fst) = L.map Prod.fst := fun ds h => by rw [srt_perm (h.map Prod.fst).symm, srt_asc hT.asc]
  refine y_of Try.func33 rfl Try.ntmps33 rfl fun w0 => ?_
  (repeat' (first | (show KQ (WL _ _ _ _ _) _ _ _ _; first | refine yW p_move ?_ | refine yW p_asg ?_ | refine yA ?_ | refine yW p_ld ?_ | refine yW p_lda ?_ | refine yB ?_ | refine yW p_nil ?_ | refine yW p_nilf ?_ | refine yW p_ext ?_ | refine yW p_idx ?_ | refine yW p_idxl ?_ | refine yW p_len ?_ | refine yW p_lens ?_ | refine yW p_lenm ?_ | refine yW p_lookt ?_ | refine yW p_lookf ?_ | refine yW p_look1 ?_ | refine yW p_look0 ?_ | refine yW p_entry ?_ | (refine yX ?_; first | (refine w_ap0 ?_; intro ao1 cap1) | (refine w_ap ?_; intro ao1 cap1) | (refine w_bs ?_; intro q) | (refine w_rg ?_; intro it) | fail) | fail) | (show KQ (CD _ _ _ _ _) _ _ _ _; first | refine yT ?_ | refine yF ?_ | fail) | ((first | refine yC ?_ ?_) <;> (intro hc; (try simp only [hcS] at hc); try exact dD)) | refine yE ?_ | fail))
  refine KQ.ent ?_ (ent_nil 3 1 none Ent.rfl)
  refine y_loop (X := Option Addr × Nat × LL) (none, 0, []) (fun y => y.2.2.Nodup ∧ ∀ z ∈ y.2.2, z ∈ L) (fun y => [(0, ptr o), (14, ptr it), (3, .slice y.1 y.2.2.length y.2.1)]) (fun y => itm it m2 (Value.int .i64) (Value.int .i64) L y.2.2 :: row 3 1 (.slice y.1 y.2.2.length y.2.1) y.2.2.length (ints (y.2.2.map Prod.fst)) :: blk o (.cells [Value.map (some m1), .map (some m2), .int .i64 fr, .int .i64 ut].toArray 65 (0, 0)) :: imap m1 (tsw L) :: F) (fun y => L.length - y.2.2.length) ⟨List.nodup_nil, by simp⟩ ⟨rfl, rfl, rfl, trivial⟩ (by ((repeat (first | with_reducible exact Ent.rfl | with_reducible exact Ent.nil | ((with_reducible apply Ent.cons); focus ((repeat (first | exact Sel.here | apply Sel.there)); done)) | with_reducible refine Ent.drop ?_)); done)) ?_
  rintro K' ⟨a, c, ds⟩ ⟨hd, hm⟩ hnext
  dsimp only at hd hm hnext ⊢
  have hlen := nd_len hd hm
  have hS' := fun F => hS a c (ds.map Prod.fst) F (by simp; omega)
  rw [List.length_map] at hS'
  (repeat' (first | (show KQ (WL _ _ _ _ _) _ _ _ _; first | refine yW p_move ?_ | refine yW p_asg ?_ | refine yA ?_ | refine yW p_ld ?_ | refine yW p_lda ?_ | refine yB ?_ | refine yW p_nil ?_ | refine yW p_nilf ?_ | refine yW p_ext ?_ | refine yW p_idx ?_ | refine yW p_idxl ?_ | refine yW p_len ?_ | refine yW p_lens ?_ | refine yW p_lenm ?_ | refine yW p_lookt ?_ | refine yW p_lookf ?_ | refine yW p_look1 ?_ | refine yW p_look0 ?_ | refine yW p_entry ?_ | (refine yX ?_; first | (refine w_ap0 ?_; intro ao1 cap1) | (refine w_ap ?_; intro ao1 cap1) | (refine w_bs ?_; intro q) | (refine w_rg ?_; intro it) | (refine w_nx (iint) (fun g0 g1 => ?_) (fun p g2 g3 => ?_)) | (refine w_call (hS' _) ?_; rintro r L ⟨rfl, rfl⟩) | fail) | fail) | (show KQ (CD _ _ _ _ _) _ _ _ _; first | refine yT ?_ | refine yF ?_ | fail) | ((first | refine yC ?_ ?_) <;> (intro hc; (try simp only [hcS] at hc); try exact dD)) | refine yE ?_ | fail))
  · rw [hsort ds g1, ← g0]
    refine KQ.ent ?_ (Ent.sel (.there .here) (ent_itm Ent.rfl))
    refine KQ.ent ?_ (ent_nil 3 1 none Ent.rfl)
    refine y_loop (X := Option Addr × Nat × Nat) (none, 0, 0) (fun y => y.2.2 ≤ L.length) (fun y => [(0, ptr o), (25, .slice a L.length c), (26, .int .i64 L.length), (27, .int .i64 y.2.2), (5, .slice y.1 y.2.2 y.2.1)]) (fun y => row 3 1 (.slice y.1 y.2.2 y.2.1) y.2.2 (ints ((its L).take y.2.2)) :: row 3 1 (.slice a L.length c) L.length (ints (L.map Prod.fst)) :: tq o m1 m2 fr ut L F) (fun y => L.length - y.2.2) (Nat.zero_le _) ⟨rfl, rfl, rfl, rfl, rfl, trivial⟩ (by ((repeat (first | with_reducible exact Ent.rfl | with_reducible exact Ent.nil | ((with_reducible apply Ent.cons); focus ((repeat (first | exact Sel.here | apply Sel.there)); done)) | with_reducible refine Ent.drop ?_)); done)) ?_
    rintro K2 ⟨a2, c2, i⟩ hi hnext2
    dsimp only at hi hnext2 ⊢
    have hl1 : (L.map Prod.fst).length = L.length := List.length_map _
    have hl3 : (its L).length = L.length := List.length_map _
    by_cases hlt : i < L.length
    · have hx : (ints (L.map Prod.fst))[i]? = some (.int .i64 L[i].1) := by rw [ints_at _ i (by omega)]; simp
      have hpos : 0 < (ints (L.map Prod.fst)).length := by simp [ints]; omega
      have hg : kget L L[i].1 = some L[i].2 := kget_of_mem hT.fnd (List.getElem_mem hlt)
      have hi2 : i < (its L).length := by rw [hl3]; exact hlt
      have hs : (its L).take (i + 1) = (its L).take i ++ [L[i].2] := by rw [List.take_succ_eq_append_getElem hi2]; simp [its]
      (repeat' (first | (show KQ (WL _ _ _ _ _) _ _ _ _; first | refine yW p_move ?_ | refine yW p_asg ?_ | refine yA ?_ | refine yW p_ld ?_ | refine yW p_lda ?_ | refine yB ?_ | refine yW p_nil ?_ | refine yW p_nilf ?_ | refine yW p_ext ?_ | refine yW p_idx ?_ | refine yW p_idxl ?_ | refine yW p_len ?_ | refine yW p_lens ?_ | refine yW p_lenm ?_ | refine yW p_lookt ?_ | refine yW p_lookf ?_ | refine yW p_look1 ?_ | refine yW p_look0 ?_ | refine yW p_entry ?_ | (refine yX ?_; first | (refine w_ap0 ?_; intro ao1 cap1) | (refine w_ap ?_; intro ao1 cap1) | (refine w_bs ?_; intro q) | (refine w_rg ?_; intro it) | fail) | fail) | (show KQ (CD _ _ _ _ _) _ _ _ _; first | refine yT ?_ | refine yF ?_ | fail) | ((first | refine yC ?_ ?_) <;> (intro hc; (try simp only [hcS] at hc); try exact dD)) | refine yE ?_ | fail))
      all_goals exact hnext2 (ao1, cap1, i + 1) _ _ hlt (by show L.length - (i + 1) < L.length - i; omega) ⟨rfl, rfl, rfl, rfl, rfl, trivial⟩ (by dsimp only; rw [hs, ints_append]; ((repeat (first | with_reducible exact Ent.rfl | with_reducible exact Ent.nil | ((with_reducible apply Ent.cons); focus ((repeat (first | exact Sel.here | apply Sel.there)); done)) | with_reducible refine Ent.drop ?_)); done))
    · obtain rfl : i = L.length := by omega
      have ht : (its L).take L.length = its L := by rw [← hl3]; exact List.take_length
      rw [ht]
      (repeat' (first | (show KQ (WL _ _ _ _ _) _ _ _ _; first | refine yW p_move ?_ | refine yW p_asg ?_ | refine yA ?_ | refine yW p_ld ?_ | refine yW p_lda ?_ | refine yB ?_ | refine yW p_nil ?_ | refine yW p_nilf ?_ | refine yW p_ext ?_ | refine yW p_idx ?_ | refine yW p_idxl ?_ | refine yW p_len ?_ | refine yW p_lens ?_ | refine yW p_lenm ?_ | refine yW p_lookt ?_ | refine yW p_lookf ?_ | refine yW p_look1 ?_ | refine yW p_look0 ?_ | refine yW p_entry ?_ | (refine yX ?_; first | (refine w_ap0 ?_; intro ao1 cap1) | (refine w_ap ?_; intro ao1 cap1) | (refine w_bs ?_; intro q) | (refine w_rg ?_; intro it) | fail) | fail) | (show KQ (CD _ _ _ _ _) _ _ _ _; first | refine yT ?_ | refine yF ?_ | fail) | ((first | refine yC ?_ ?_) <;> (intro hc; (try simp only [hcS] at hc); try exact dD)) | refine yE ?_ | fail))
      all_goals (refine y_fin ?_; exact ⟨_, ⟨a2, c2, rfl, rfl⟩, Ent.auto⟩)
  · have hs : (ds ++ [p]).map Prod.fst = ds.map Prod.fst ++ [p.1] := by simp
    have hd2 : (ds ++ [p]).Nodup := List.nodup_append.2 ⟨hd, by simp, fun x hx y hy e => g3 (by simp at hy; rw [← hy, ← e]; exact hx)⟩
    have hm2 : ∀ z ∈ ds ++ [p], z ∈ L := fun z hz => by
      rcases List.mem_append.1 hz with h | h
      · exact hm z h
      · simp at h; rw [h]; exact g2
    have hl2 := nd_len hd2 hm2
    rw [List.length_append, List.length_singleton] at hl2
    exact hnext (ao1, cap1, ds ++ [p]) _ _ ⟨hd2, hm2⟩ (by show L.length - (ds ++ [p]).length < L.length - ds.length; rw [List.length_append, List.length_singleton]; omega) (by dsimp only; rw [List.length_append]; exact ⟨rfl, rfl, rfl, trivial⟩) (by dsimp only; rw [hs, List.length_append, ints_append]; ((repeat (first | with_reducible exact Ent.rfl | with_reducible exact Ent.nil | ((with_reducible apply Ent.cons); focus ((repeat (first | exact Sel.here | apply Sel.there)); done)) | with_reducible refine Ent.drop ?_)); done))
end
end Go.Proofs.Yteafcajlfagbkaa
