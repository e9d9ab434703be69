/- DERIVED. The law MemoKeeps: for every input the law returns true. -/
import Derived.Test.YtlhjioapbgnjfaaM8
import Derived.Test.YtlhjioapbgnjfaaVcc
import Derived.Test.YtlhjioapbgnjfaaMd
namespace Go.Proofs.Ytlhjioapbgnjfaa
set_option linter.unusedSimpArgs false
set_option linter.unusedVariables false
open Go Sl Cv Go.RowKit
structure AM where
  kind : Int
  step : Int
  odd : Int
  key : SK
  out : OT
def aml (x : AM) : List Value := [.int .i64 x.kind, .int .i64 x.step, .int .i64 x.odd, .int .u16 x.key.1, .string x.key.2, .int .i64 x.out.v, .int .i64 x.out.k, .int .i64 x.out.c, .int .i64 x.out.r]
structure RK where
  i : Nat
  S : MS
  U : List (SK × Bool)
structure RO where
  i : Nat
  now : Int
  cur : Int
  O : List (SK × Bool)
abbrev bmap (m : Nat) (U : List (SK × Bool)) : HP := mp m skv Value.bool U
section
variable (F : List HP) (c : CF) (p : Nat)
theorem keep_no (S : MS) (k : SK) (u : OT) (hn : S.now = 0) (h : ¬ (mErr S 0 k = 0 ∧ rightO u = true ∧ keepsM S.c u.k = true)) : Sp Try.prog 11 [ptr p, .int .i64 0, skv k, .agg (otl u).toArray] (MEM p S :: F) fun r M => ∃ e, r = .tuple #[.bool false, .slice none 0 0, .int .i64 e] ∧ M = MEM p S :: F := by
  have e0 : mAt S 0 = S := by cases S; simp only [mAt] at hn ⊢; rw [hn]
  by_cases he : mErr S 0 k = 0
  · have hh : mTick S 0 = 0 ∧ chk k = 0 := by
      unfold mErr at he; split at he
      · exact ⟨by assumption, he⟩
      · exact absurd he (by assumption)
    cases hr : rightO u with
    | false => exact (keep_fail p 0 F k u S hh.1 hh.2 hr).mono fun r L ⟨h1, h2⟩ => ⟨_, h1, h2⟩
    | true =>
      cases hp : keepsM S.c u.k with
      | false => exact (keep_not p 0 F k u S hh.1 hh.2 hr hp).mono fun r L ⟨h1, h2⟩ => ⟨_, h1, by rw [h2, e0]⟩
      | true => exact absurd ⟨he, hr, hp⟩ h
  · exact (keep_err p 0 F k u S he).mono fun r L ⟨h1, h2⟩ => ⟨_, h1, h2⟩
theorem keep_yes (S : MS) (hS : MOk S) (k : SK) (u : OT) (h : mErr S 0 k = 0 ∧ rightO u = true ∧ keepsM S.c u.k = true) : MOk (mKeep S 0 k u) ∧ Sp Try.prog 11 [ptr p, .int .i64 0, skv k, .agg (otl u).toArray] (MEM p S :: F) fun r M => ∃ v, r = .tuple #[.bool true, v, .int .i64 0] ∧ M = MEM p (mKeep S 0 k u) :: F := by
  have hh : mTick S 0 = 0 ∧ chk k = 0 := by
    have he := h.1
    unfold mErr at he; split at he
    · exact ⟨by assumption, he⟩
    · exact absurd he (by assumption)
  refine ⟨hS.keep hh.1 hh.2 h.2.1 h.2.2, Sp.post (keep_ok p 0 F k u S hS hh.1 hh.2 h.2.1 h.2.2) ?_⟩
  rintro r L ⟨a, cc, rfl, rfl⟩
  exact ⟨_, ⟨_, rfl, rfl⟩, Ent.drop'⟩
set_option maxHeartbeats 4000000 in
theorem keeps_bad (hr : c.ttl < 9223372036854775808 ∧ c.neg < 9223372036854775808 ∧ c.stale < 9223372036854775808) (h : ¬ CfOk c) (v v2 : Value) : Sp Try.prog 4 [.agg (cfl c).toArray, v, v2] F fun r M => r = .bool true ∧ M = F := by
  have h1 := fun F => mnew_bad c F hr h
  refine y_of Try.func4 rfl Try.ntmps4 rfl fun w0 => ?_
  (repeat' (first | (show KQ (WL _ _ _ _ _) _ _ _ _; first | refine yW p_move ?_ | refine yW p_asg ?_ | refine yA ?_ | refine yW p_ld ?_ | refine yW p_lda ?_ | refine yB ?_ | refine yW p_ext ?_ | refine yW p_pt ?_ | refine yW p_pf ?_ | refine yW p_nott ?_ | refine yW p_notf ?_ | refine yW p_not ?_ | refine yW p_neg ?_ | refine yW p_idx ?_ | refine yW p_idxl ?_ | refine yW p_len ?_ | refine yW p_lens ?_ | refine yW p_lenm ?_ | refine yW p_bld ?_ | refine yW p_lookt ?_ | refine yW p_lookf ?_ | refine yW p_look1 ?_ | refine yW p_look0 ?_ | (refine yX ?_; first | refine w_st ?_ | refine w_str ?_ | refine w_stra ?_ | (refine w_al ?_; intro q) | (refine w_bx ?_; intro q) | refine w_mu ?_ | (refine w_call (awake_spec _) ?_; rintro r L ⟨rfl, rfl⟩) | (refine w_call (h1 _) ?_; rintro r L ⟨rfl, rfl⟩) | fail) | refine yN ?_ | refine yO ?_ | fail) | (show KQ (CD _ _ _ _ _) _ _ _ _; first | refine yT ?_ | refine yF ?_ | fail) | ((first | refine yG ?_ ?_ | refine yC ?_ ?_) <;> (intro hc; (try simp only [hcS] at hc); try exact dD)) | refine yE ?_ | fail))
  all_goals (refine y_fin ?_; exact ⟨_, ⟨rfl, rfl⟩, Ent.auto⟩)
set_option maxHeartbeats 16000000 in
theorem keeps_good (h : CfOk c) (ao : Option Addr) (cap : Nat) (l : List AM) (hr : Reads F (.slice ao l.length cap) l.length (flat aml l)) (hl : l.length ≤ 2000000000000)
    (so : Option Addr) (sc : Nat) (sl : List Int) (hsr : Reads F (.slice so sl.length sc) sl.length (ints sl)) (hsl : sl.length ≤ 18000000000000) : Sp Try.prog 4 [.agg (cfl c).toArray, .slice ao l.length cap, .slice so sl.length sc] F fun r M => r = .bool true ∧ M = F := by
  have h1 := fun F => new_ok F c h
  refine y_of Try.func4 rfl Try.ntmps4 rfl fun w0 => ?_
  (repeat' (first | (show KQ (WL _ _ _ _ _) _ _ _ _; first | refine yW p_move ?_ | refine yW p_asg ?_ | refine yA ?_ | refine yW p_ld ?_ | refine yW p_lda ?_ | refine yB ?_ | refine yW p_ext ?_ | refine yW p_pt ?_ | refine yW p_pf ?_ | refine yW p_nott ?_ | refine yW p_notf ?_ | refine yW p_not ?_ | refine yW p_neg ?_ | refine yW p_idx ?_ | refine yW p_idxl ?_ | refine yW p_len ?_ | refine yW p_lens ?_ | refine yW p_lenm ?_ | refine yW p_bld ?_ | refine yW p_lookt ?_ | refine yW p_lookf ?_ | refine yW p_look1 ?_ | refine yW p_look0 ?_ | (refine yX ?_; first | refine w_st ?_ | refine w_str ?_ | refine w_stra ?_ | (refine w_al ?_; intro q) | (refine w_bx ?_; intro q) | refine w_mu ?_ | (refine w_call (awake_spec _) ?_; rintro r L ⟨rfl, rfl⟩) | (refine w_call (h1 _) ?_; rintro r L ⟨p, rfl, rfl⟩) | (refine w_mm (ek := skv) (ev := Value.bool) ?_; intro q) | fail) | refine yN ?_ | refine yO ?_ | fail) | (show KQ (CD _ _ _ _ _) _ _ _ _; first | refine yT ?_ | refine yF ?_ | fail) | ((first | refine yG ?_ ?_ | refine yC ?_ ?_) <;> (intro hc; (try simp only [hcS] at hc); try exact dD)) | refine yE ?_ | fail))
  rename_i q0
  refine y_loop (X := RK) ⟨0, mNew0 c, []⟩ (fun y => y.i ≤ l.length ∧ MOk y.S ∧ KI y.S y.U ∧ y.S.c = c ∧ y.S.now = 0) (fun y => [(2, .slice so sl.length sc), (3, ptr q0), (7, ptr p), (9, .map (some q)), (10, .int .i64 0), (41, .slice ao l.length cap), (42, .int .i64 l.length), (43, .int .i64 y.i)]) (fun y => MEM p y.S :: bmap q y.U :: blk q0 (.cells (cfl c).toArray 23 (0, 0)) :: F) (fun y => l.length - y.i) ⟨Nat.zero_le _, mNew_ok h, KI.zero c, rfl, rfl⟩ ⟨rfl, rfl, rfl, rfl, rfl, rfl, rfl, rfl, trivial⟩ (by ((repeat (first | with_reducible exact Ent.rfl | with_reducible exact Ent.nil | ((with_reducible apply Ent.cons); focus ((repeat (first | exact Sel.here | apply Sel.there)); done)) | with_reducible refine Ent.drop ?_)); done)) ?_
  rintro K' ⟨i, S, U⟩ ⟨hi, hS, hU, hcf, hn⟩ hnext
  dsimp only at hi hS hU hcf hn hnext ⊢
  by_cases hlt : i < l.length
  · have htk := tk_flat (enc := aml) (sz := 9) (l := l) (fun _ => rfl) i hlt
    have hpos : 0 < (flat aml l).length := by rw [length_flat (k := 9) (fun _ => rfl)]; omega
    obtain ⟨x, hx⟩ : ∃ x, x = l[i] := ⟨_, rfl⟩
    rw [← hx] at htk
    by_cases hk : mErr S 0 x.key = 0 ∧ rightO x.out = true ∧ keepsM S.c x.out.k = true
    · obtain ⟨hS2, _⟩ := keep_yes F p S hS x.key x.out hk
      have hke := fun F => (keep_yes F p S hS x.key x.out hk).2
      have hU2 := hU.keep hS 0 x.key x.out
      have hle := hS2.len
      have hcc : (mKeep S 0 x.key x.out).c = c := hcf
      have hnn : (mKeep S 0 x.key x.out).now = 0 := rfl
      have hlen := fun F => len_spec p (mKeep S 0 x.key x.out) F
      rw [hcc] at hle
      obtain ⟨T, hT⟩ : ∃ T, T = mKeep S 0 x.key x.out := ⟨_, rfl⟩
      rw [← hT] at hS2 hke hU2 hle hcc hnn hlen
      (repeat' (first | (show KQ (WL _ _ _ _ _) _ _ _ _; first | refine yW p_move ?_ | refine yW p_asg ?_ | refine yA ?_ | refine yW p_ld ?_ | refine yW p_lda ?_ | refine yB ?_ | refine yW p_ext ?_ | refine yW p_pt ?_ | refine yW p_pf ?_ | refine yW p_nott ?_ | refine yW p_notf ?_ | refine yW p_not ?_ | refine yW p_neg ?_ | refine yW p_idx ?_ | refine yW p_idxl ?_ | refine yW p_len ?_ | refine yW p_lens ?_ | refine yW p_lenm ?_ | refine yW p_bld ?_ | refine yW p_lookt ?_ | refine yW p_lookf ?_ | refine yW p_look1 ?_ | refine yW p_look0 ?_ | (refine yX ?_; first | refine w_st ?_ | refine w_str ?_ | refine w_stra ?_ | (refine w_al ?_; intro q) | (refine w_bx ?_; intro q) | refine w_mu ?_ | (refine w_call (hke _) ?_; rintro r L ⟨v, rfl, rfl⟩) | fail) | refine yN ?_ | refine yO ?_ | fail) | (show KQ (CD _ _ _ _ _) _ _ _ _; first | refine yT ?_ | refine yF ?_ | fail) | ((first | refine yG ?_ ?_ | refine yC ?_ ?_) <;> (intro hc; (try simp only [hcS] at hc); try exact dD)) | refine yE ?_ | (refine y_cr ?_; refine kq_draw0 12 5 ?_; (all_goals refine kq_take 0 rfl p_move ?_); (all_goals refine tkf 2 ?_); (all_goals refine tkl 3 ?_); (all_goals (refine kq_each [1] ⟨?_, trivial⟩; (refine kq_op ?_; first | (refine w_call (hlen _) ?_; rintro r L ⟨rfl, rfl⟩)))); (all_goals refine tkb 4 ?_); (all_goals refine kq_done ?_)) | fail))
      all_goals exact hnext ⟨i + 1, T, kput U x.key true⟩ _ _ ⟨hlt, hS2, hU2, hcc, hnn⟩ (by show l.length - (i + 1) < l.length - i; omega) ⟨rfl, rfl, rfl, rfl, rfl, rfl, rfl, rfl, trivial⟩ (by ((repeat (first | with_reducible exact Ent.rfl | with_reducible exact Ent.nil | ((with_reducible apply Ent.cons); focus ((repeat (first | exact Sel.here | apply Sel.there)); done)) | with_reducible refine Ent.drop ?_)); done))
    · have hke := fun F => keep_no F p S x.key x.out hn hk
      have hle := hS.len
      have hlen := fun F => len_spec p S F
      rw [hcf] at hle
      (repeat' (first | (show KQ (WL _ _ _ _ _) _ _ _ _; first | refine yW p_move ?_ | refine yW p_asg ?_ | refine yA ?_ | refine yW p_ld ?_ | refine yW p_lda ?_ | refine yB ?_ | refine yW p_ext ?_ | refine yW p_pt ?_ | refine yW p_pf ?_ | refine yW p_nott ?_ | refine yW p_notf ?_ | refine yW p_not ?_ | refine yW p_neg ?_ | refine yW p_idx ?_ | refine yW p_idxl ?_ | refine yW p_len ?_ | refine yW p_lens ?_ | refine yW p_lenm ?_ | refine yW p_bld ?_ | refine yW p_lookt ?_ | refine yW p_lookf ?_ | refine yW p_look1 ?_ | refine yW p_look0 ?_ | (refine yX ?_; first | refine w_st ?_ | refine w_str ?_ | refine w_stra ?_ | (refine w_al ?_; intro q) | (refine w_bx ?_; intro q) | refine w_mu ?_ | (refine w_call (hke _) ?_; rintro r L ⟨e, rfl, rfl⟩) | fail) | refine yN ?_ | refine yO ?_ | fail) | (show KQ (CD _ _ _ _ _) _ _ _ _; first | refine yT ?_ | refine yF ?_ | fail) | ((first | refine yG ?_ ?_ | refine yC ?_ ?_) <;> (intro hc; (try simp only [hcS] at hc); try exact dD)) | refine yE ?_ | (refine y_cr ?_; refine kq_draw0 12 5 ?_; (all_goals refine kq_take 0 rfl p_move ?_); (all_goals refine tkf 2 ?_); (all_goals refine tkl 3 ?_); (all_goals (refine kq_each [1] ⟨?_, trivial⟩; (refine kq_op ?_; first | (refine w_call (hlen _) ?_; rintro r L ⟨rfl, rfl⟩)))); (all_goals refine tkb 4 ?_); (all_goals refine kq_done ?_)) | fail))
      all_goals exact hnext ⟨i + 1, S, U⟩ _ _ ⟨hlt, hS, hU, hcf, hn⟩ (by show l.length - (i + 1) < l.length - i; omega) ⟨rfl, rfl, rfl, rfl, rfl, rfl, rfl, rfl, trivial⟩ (by ((repeat (first | with_reducible exact Ent.rfl | with_reducible exact Ent.nil | ((with_reducible apply Ent.cons); focus ((repeat (first | exact Sel.here | apply Sel.there)); done)) | with_reducible refine Ent.drop ?_)); done))
  · obtain rfl : i = l.length := by omega
    clear hnext
    obtain ⟨c', n', K⟩ := S
    dsimp only at hcf hn
    subst hcf hn
    (repeat' (first | (show KQ (WL _ _ _ _ _) _ _ _ _; first | refine yW p_move ?_ | refine yW p_asg ?_ | refine yA ?_ | refine yW p_ld ?_ | refine yW p_lda ?_ | refine yB ?_ | refine yW p_ext ?_ | refine yW p_pt ?_ | refine yW p_pf ?_ | refine yW p_nott ?_ | refine yW p_notf ?_ | refine yW p_not ?_ | refine yW p_neg ?_ | refine yW p_idx ?_ | refine yW p_idxl ?_ | refine yW p_len ?_ | refine yW p_lens ?_ | refine yW p_lenm ?_ | refine yW p_bld ?_ | refine yW p_lookt ?_ | refine yW p_lookf ?_ | refine yW p_look1 ?_ | refine yW p_look0 ?_ | (refine yX ?_; first | refine w_st ?_ | refine w_str ?_ | refine w_stra ?_ | (refine w_al ?_; intro q) | (refine w_bx ?_; intro q) | refine w_mu ?_ | (refine w_mm (ek := skv) (ev := Value.bool) ?_; intro q) | fail) | refine yN ?_ | refine yO ?_ | fail) | (show KQ (CD _ _ _ _ _) _ _ _ _; first | refine yT ?_ | refine yF ?_ | fail) | ((first | refine yG ?_ ?_ | refine yC ?_ ?_) <;> (intro hc; (try simp only [hcS] at hc); try exact dD)) | refine yE ?_ | fail))
    rename_i qU
    have hKl : K.length ≤ 65536 := by have := hS.len; have := hS.c.e.2; dsimp only at *; omega
    refine y_loop (X := RO) ⟨0, 0, 0, []⟩ (fun y => y.i ≤ sl.length ∧ MOk ⟨c', y.cur, K⟩ ∧ y.cur ≤ y.now ∧ y.now ≤ 4611686018427387904 ∧ OO c' K y.O y.now) (fun y => [(3, ptr q0), (7, ptr p), (9, .map (some qU)), (10, .int .i64 y.now), (16, .map (some q)), (69, .slice so sl.length sc), (70, .int .i64 sl.length), (71, .int .i64 y.i)]) (fun y => MEM p ⟨c', y.cur, K⟩ :: bmap qU U :: bmap q y.O :: blk q0 (.cells (cfl c').toArray 23 (0, 0)) :: F) (fun y => sl.length - y.i) ⟨Nat.zero_le _, hS, Int.le_refl _, by decide, OO.nil _ _ _⟩ ⟨rfl, rfl, rfl, rfl, rfl, rfl, rfl, rfl, trivial⟩ (by ((repeat (first | with_reducible exact Ent.rfl | with_reducible exact Ent.nil | ((with_reducible apply Ent.cons); focus ((repeat (first | exact Sel.here | apply Sel.there)); done)) | with_reducible refine Ent.drop ?_)); done)) ?_
    rintro K2 ⟨i2, now, cur, O⟩ ⟨hi2, hS2, hcn, hnm, hO⟩ hnext
    dsimp only at hi2 hS2 hcn hnm hO hnext ⊢
    have hcur : 0 ≤ cur := hS2.now.1
    by_cases hlt2 : i2 < sl.length
    · have hx := ints_at sl i2 hlt2
      have hpos : 0 < (ints sl).length := by simp [ints]; omega
      obtain ⟨s, hs⟩ : ∃ s, s = sl[i2] := ⟨_, rfl⟩
      rw [← hs] at hx
      by_cases h0 : s < 0
      · (repeat' (first | (show KQ (WL _ _ _ _ _) _ _ _ _; first | refine yW p_move ?_ | refine yW p_asg ?_ | refine yA ?_ | refine yW p_ld ?_ | refine yW p_lda ?_ | refine yB ?_ | refine yW p_ext ?_ | refine yW p_pt ?_ | refine yW p_pf ?_ | refine yW p_nott ?_ | refine yW p_notf ?_ | refine yW p_not ?_ | refine yW p_neg ?_ | refine yW p_idx ?_ | refine yW p_idxl ?_ | refine yW p_len ?_ | refine yW p_lens ?_ | refine yW p_lenm ?_ | refine yW p_bld ?_ | refine yW p_lookt ?_ | refine yW p_lookf ?_ | refine yW p_look1 ?_ | refine yW p_look0 ?_ | (refine yX ?_; first | refine w_st ?_ | refine w_str ?_ | refine w_stra ?_ | (refine w_al ?_; intro q) | (refine w_bx ?_; intro q) | refine w_mu ?_ | fail) | refine yN ?_ | refine yO ?_ | fail) | (show KQ (CD _ _ _ _ _) _ _ _ _; first | refine yT ?_ | refine yF ?_ | fail) | ((first | refine yG ?_ ?_ | refine yC ?_ ?_) <;> (intro hc; (try simp only [hcS] at hc); try exact dD)) | refine yE ?_ | fail))
        all_goals exact hnext ⟨i2 + 1, now, cur, O⟩ _ _ ⟨hlt2, hS2, hcn, hnm, hO⟩ (by show sl.length - (i2 + 1) < sl.length - i2; omega) ⟨rfl, rfl, rfl, rfl, rfl, rfl, rfl, rfl, trivial⟩ (by ((repeat (first | with_reducible exact Ent.rfl | with_reducible exact Ent.nil | ((with_reducible apply Ent.cons); focus ((repeat (first | exact Sel.here | apply Sel.there)); done)) | with_reducible refine Ent.drop ?_)); done))
      · by_cases h2 : 4611686018427387904 - now < s
        · (repeat' (first | (show KQ (WL _ _ _ _ _) _ _ _ _; first | refine yW p_move ?_ | refine yW p_asg ?_ | refine yA ?_ | refine yW p_ld ?_ | refine yW p_lda ?_ | refine yB ?_ | refine yW p_ext ?_ | refine yW p_pt ?_ | refine yW p_pf ?_ | refine yW p_nott ?_ | refine yW p_notf ?_ | refine yW p_not ?_ | refine yW p_neg ?_ | refine yW p_idx ?_ | refine yW p_idxl ?_ | refine yW p_len ?_ | refine yW p_lens ?_ | refine yW p_lenm ?_ | refine yW p_bld ?_ | refine yW p_lookt ?_ | refine yW p_lookf ?_ | refine yW p_look1 ?_ | refine yW p_look0 ?_ | (refine yX ?_; first | refine w_st ?_ | refine w_str ?_ | refine w_stra ?_ | (refine w_al ?_; intro q) | (refine w_bx ?_; intro q) | refine w_mu ?_ | fail) | refine yN ?_ | refine yO ?_ | fail) | (show KQ (CD _ _ _ _ _) _ _ _ _; first | refine yT ?_ | refine yF ?_ | fail) | ((first | refine yG ?_ ?_ | refine yC ?_ ?_) <;> (intro hc; (try simp only [hcS] at hc); try exact dD)) | refine yE ?_ | fail))
          all_goals exact hnext ⟨i2 + 1, now, cur, O⟩ _ _ ⟨hlt2, hS2, hcn, hnm, hO⟩ (by show sl.length - (i2 + 1) < sl.length - i2; omega) ⟨rfl, rfl, rfl, rfl, rfl, rfl, rfl, rfl, trivial⟩ (by ((repeat (first | with_reducible exact Ent.rfl | with_reducible exact Ent.nil | ((with_reducible apply Ent.cons); focus ((repeat (first | exact Sel.here | apply Sel.there)); done)) | with_reducible refine Ent.drop ?_)); done))
        · have hall := fun F => all_spec' p ⟨c', cur, K⟩ F hS2
          have hO2 := hO.mono (show now ≤ now + s by omega)
          (repeat' (first | (show KQ (WL _ _ _ _ _) _ _ _ _; first | refine yW p_move ?_ | refine yW p_asg ?_ | refine yA ?_ | refine yW p_ld ?_ | refine yW p_lda ?_ | refine yB ?_ | refine yW p_ext ?_ | refine yW p_pt ?_ | refine yW p_pf ?_ | refine yW p_nott ?_ | refine yW p_notf ?_ | refine yW p_not ?_ | refine yW p_neg ?_ | refine yW p_idx ?_ | refine yW p_idxl ?_ | refine yW p_len ?_ | refine yW p_lens ?_ | refine yW p_lenm ?_ | refine yW p_bld ?_ | refine yW p_lookt ?_ | refine yW p_lookf ?_ | refine yW p_look1 ?_ | refine yW p_look0 ?_ | (refine yX ?_; first | refine w_st ?_ | refine w_str ?_ | refine w_stra ?_ | (refine w_al ?_; intro q) | (refine w_bx ?_; intro q) | refine w_mu ?_ | (refine w_call (hall _) ?_; rintro r L ⟨a2, c2, rfl, rfl⟩) | fail) | refine yN ?_ | refine yO ?_ | fail) | (show KQ (CD _ _ _ _ _) _ _ _ _; first | refine yT ?_ | refine yF ?_ | fail) | ((first | refine yG ?_ ?_ | refine yC ?_ ?_) <;> (intro hc; (try simp only [hcS] at hc); try exact dD)) | refine yE ?_ | fail))
          refine y_loop (X := RO) ⟨0, 0, cur, O⟩ (fun y => y.i ≤ K.length ∧ MOk ⟨c', y.cur, K⟩ ∧ y.cur ≤ now + s ∧ OO c' K y.O (now + s)) (fun y => [(3, ptr q0), (7, ptr p), (9, .map (some qU)), (10, .int .i64 (now + s)), (16, .map (some q)), (69, .slice so sl.length sc), (70, .int .i64 sl.length), (71, .int .i64 i2), (87, .slice a2 K.length c2), (88, .int .i64 K.length), (89, .int .i64 y.i)]) (fun y => mrow a2 c2 K :: MEM p ⟨c', y.cur, K⟩ :: bmap qU U :: bmap q y.O :: blk q0 (.cells (cfl c').toArray 23 (0, 0)) :: F) (fun y => K.length - y.i) ⟨Nat.zero_le _, hS2, by dsimp only; omega, hO2⟩ ⟨rfl, rfl, rfl, rfl, rfl, rfl, rfl, rfl, rfl, rfl, rfl, trivial⟩ (by ((repeat (first | with_reducible exact Ent.rfl | with_reducible exact Ent.nil | ((with_reducible apply Ent.cons); focus ((repeat (first | exact Sel.here | apply Sel.there)); done)) | with_reducible refine Ent.drop ?_)); done)) ?_
          rintro K3 ⟨j, _, cu, O'⟩ ⟨hj, hS3, hcu, hO3⟩ hnext3
          dsimp only at hj hS3 hcu hO3 hnext3 ⊢
          have hcu0 : 0 ≤ cu := hS3.now.1
          by_cases hlt3 : j < K.length
          · have htk := tk_flat (enc := kpl) (sz := 7) (l := K) (fun _ => rfl) j hlt3
            have hpos2 : 0 < (flat kpl K).length := by rw [kpl_len]; omega
            have hmem := List.getElem_mem hlt3
            obtain ⟨x, hxx⟩ : ∃ x, x = K[j] := ⟨_, rfl⟩
            rw [← hxx] at htk hmem
            have hat := hS3.at_ x hmem
            have hout := (hS3.out x hmem).1
            have htt : mTick ⟨c', cu, K⟩ (now + s) = 0 := by
              have h1 : 0 ≤ now + s ∧ now + s ≤ 4611686018427387904 := ⟨by omega, by omega⟩
              unfold mTick; rw [if_pos h1, if_neg (by dsimp only; omega)]
            have hlk := fun F => look_ok p ⟨c', cu, K⟩ F (now + s) x.key hS3 htt (hS3.key x hmem)
            have hfx : fnd K x.key = some x := fnd_mem hS3.nd hmem
            have hS4 := hS3.at htt
            have hput := hO3.put hS3.nd hmem
            have hval := how_val c' (now + s) x hout
            have hold := hO3.old x hmem
            dsimp only at hlk hat
            rw [hfx] at hlk
            simp only [seenO, mAt] at hlk hS4
            obtain ⟨hw, hhw⟩ : ∃ hw, hw = how c' (now + s) x := ⟨_, rfl⟩
            rw [← hhw] at hlk hput hval hold
            have hage : -9223372036854775808 ≤ now + s - x.at_ ∧ now + s - x.at_ ≤ 9223372036854775807 := ⟨by omega, by omega⟩
            clear hhw hfx htt hout hS3 hO3 hO2 hS2 hO
            have hgo : ∀ E L, Subs E [(3, ptr q0), (7, ptr p), (9, .map (some qU)), (10, .int .i64 (now + s)), (16, .map (some q)), (69, .slice so sl.length sc), (70, .int .i64 sl.length), (71, .int .i64 i2), (87, .slice a2 K.length c2), (88, .int .i64 K.length), (89, .int .i64 ((j : Int) + 1))] → Ent L (mrow a2 c2 K :: MEM p ⟨c', now + s, K⟩ :: bmap qU U :: bmap q (kput O' x.key (decide (hw = 3))) :: blk q0 (.cells (cfl c').toArray 23 (0, 0)) :: F) → KQ K3 w0 _ E L := fun E L hE hL => hnext3 ⟨j + 1, 0, now + s, kput O' x.key (decide (hw = 3))⟩ E L ⟨hlt3, hS4, Int.le_refl _, hput⟩ (by show K.length - (j + 1) < K.length - j; omega) hE hL
            clear hnext3 hnext hput hS4
            obtain ⟨xk, ⟨xv, xf, xc, xr⟩, xa⟩ := x
            dsimp only at hval hlk hage hgo hold htk
            have hb : (kget O' xk = none ∨ kget O' xk = some false) ∨ (kget O' xk = some true ∧ hw = 3) := by
              cases hg : kget O' xk with
              | none => exact .inl (.inl rfl)
              | some b =>
                cases b with
                | false => exact .inl (.inr rfl)
                | true => exact .inr ⟨rfl, hold hg⟩
            clear hold
            rcases hval with ⟨rfl, rfl, rfl, ⟨hv, rfl⟩ | ⟨hv, rfl | rfl⟩⟩ | ⟨hv, rfl | rfl⟩ <;> rcases hb with (hb | hb) | ⟨hb, hb2⟩
            all_goals first | (exfalso; omega) | skip
            all_goals (repeat' (first | (show KQ (WL _ _ _ _ _) _ _ _ _; first | refine yW p_move ?_ | refine yW p_asg ?_ | refine yA ?_ | refine yW p_ld ?_ | refine yW p_lda ?_ | refine yB ?_ | refine yW p_ext ?_ | refine yW p_pt ?_ | refine yW p_pf ?_ | refine yW p_nott ?_ | refine yW p_notf ?_ | refine yW p_not ?_ | refine yW p_neg ?_ | refine yW p_idx ?_ | refine yW p_idxl ?_ | refine yW p_len ?_ | refine yW p_lens ?_ | refine yW p_lenm ?_ | refine yW p_bld ?_ | refine yW p_lookt ?_ | refine yW p_lookf ?_ | refine yW p_look1 ?_ | refine yW p_look0 ?_ | (refine yX ?_; first | refine w_st ?_ | refine w_str ?_ | refine w_stra ?_ | (refine w_al ?_; intro q) | (refine w_bx ?_; intro q) | refine w_mu ?_ | (refine w_call (hlk _) ?_; rintro r L ⟨rfl, rfl⟩) | fail) | refine yN ?_ | refine yO ?_ | fail) | (show KQ (CD _ _ _ _ _) _ _ _ _; first | refine yT ?_ | refine yF ?_ | fail) | ((first | refine yG ?_ ?_ | refine yC ?_ ?_) <;> (intro hc; (try simp only [hcS] at hc); try exact dD)) | refine yE ?_ | fail))
            all_goals exact hgo _ _ ⟨rfl, rfl, rfl, rfl, rfl, rfl, rfl, rfl, rfl, rfl, rfl, trivial⟩ (by ((repeat (first | with_reducible exact Ent.rfl | with_reducible exact Ent.nil | ((with_reducible apply Ent.cons); focus ((repeat (first | exact Sel.here | apply Sel.there)); done)) | with_reducible refine Ent.drop ?_)); done))
          · obtain rfl : j = K.length := by omega
            clear hnext3
            (repeat' (first | (show KQ (WL _ _ _ _ _) _ _ _ _; first | refine yW p_move ?_ | refine yW p_asg ?_ | refine yA ?_ | refine yW p_ld ?_ | refine yW p_lda ?_ | refine yB ?_ | refine yW p_ext ?_ | refine yW p_pt ?_ | refine yW p_pf ?_ | refine yW p_nott ?_ | refine yW p_notf ?_ | refine yW p_not ?_ | refine yW p_neg ?_ | refine yW p_idx ?_ | refine yW p_idxl ?_ | refine yW p_len ?_ | refine yW p_lens ?_ | refine yW p_lenm ?_ | refine yW p_bld ?_ | refine yW p_lookt ?_ | refine yW p_lookf ?_ | refine yW p_look1 ?_ | refine yW p_look0 ?_ | (refine yX ?_; first | refine w_st ?_ | refine w_str ?_ | refine w_stra ?_ | (refine w_al ?_; intro q) | (refine w_bx ?_; intro q) | refine w_mu ?_ | fail) | refine yN ?_ | refine yO ?_ | fail) | (show KQ (CD _ _ _ _ _) _ _ _ _; first | refine yT ?_ | refine yF ?_ | fail) | ((first | refine yG ?_ ?_ | refine yC ?_ ?_) <;> (intro hc; (try simp only [hcS] at hc); try exact dD)) | refine yE ?_ | fail))
            all_goals exact hnext ⟨i2 + 1, now + s, cu, O'⟩ _ _ ⟨hlt2, hS3, hcu, by dsimp only; omega, hO3⟩ (by show sl.length - (i2 + 1) < sl.length - i2; omega) ⟨rfl, rfl, rfl, rfl, rfl, rfl, rfl, rfl, trivial⟩ (by ((repeat (first | with_reducible exact Ent.rfl | with_reducible exact Ent.nil | ((with_reducible apply Ent.cons); focus ((repeat (first | exact Sel.here | apply Sel.there)); done)) | with_reducible refine Ent.drop ?_)); done))
    · obtain rfl : i2 = sl.length := by omega
      clear hnext
      by_cases hu : (U.length : Int) ≤ c'.ent
      · have hkl := hU.len hS hu
        dsimp only at hkl
        have hlen := fun F => len_spec p ⟨c', cur, K⟩ F
        dsimp only at hlen
        rw [hkl] at hlen
        (repeat' (first | (show KQ (WL _ _ _ _ _) _ _ _ _; first | refine yW p_move ?_ | refine yW p_asg ?_ | refine yA ?_ | refine yW p_ld ?_ | refine yW p_lda ?_ | refine yB ?_ | refine yW p_ext ?_ | refine yW p_pt ?_ | refine yW p_pf ?_ | refine yW p_nott ?_ | refine yW p_notf ?_ | refine yW p_not ?_ | refine yW p_neg ?_ | refine yW p_idx ?_ | refine yW p_idxl ?_ | refine yW p_len ?_ | refine yW p_lens ?_ | refine yW p_lenm ?_ | refine yW p_bld ?_ | refine yW p_lookt ?_ | refine yW p_lookf ?_ | refine yW p_look1 ?_ | refine yW p_look0 ?_ | (refine yX ?_; first | refine w_st ?_ | refine w_str ?_ | refine w_stra ?_ | (refine w_al ?_; intro q) | (refine w_bx ?_; intro q) | refine w_mu ?_ | (refine w_call (hlen _) ?_; rintro r L ⟨rfl, rfl⟩) | fail) | refine yN ?_ | refine yO ?_ | fail) | (show KQ (CD _ _ _ _ _) _ _ _ _; first | refine yT ?_ | refine yF ?_ | fail) | ((first | refine yG ?_ ?_ | refine yC ?_ ?_) <;> (intro hc; (try simp only [hcS] at hc); try exact dD)) | refine yE ?_ | fail))
        all_goals (refine y_fin ?_; apply Exists.intro; apply And.intro; (focus (refine ⟨?_, rfl⟩; simp [tup])); exact Ent.auto)
      · (repeat' (first | (show KQ (WL _ _ _ _ _) _ _ _ _; first | refine yW p_move ?_ | refine yW p_asg ?_ | refine yA ?_ | refine yW p_ld ?_ | refine yW p_lda ?_ | refine yB ?_ | refine yW p_ext ?_ | refine yW p_pt ?_ | refine yW p_pf ?_ | refine yW p_nott ?_ | refine yW p_notf ?_ | refine yW p_not ?_ | refine yW p_neg ?_ | refine yW p_idx ?_ | refine yW p_idxl ?_ | refine yW p_len ?_ | refine yW p_lens ?_ | refine yW p_lenm ?_ | refine yW p_bld ?_ | refine yW p_lookt ?_ | refine yW p_lookf ?_ | refine yW p_look1 ?_ | refine yW p_look0 ?_ | (refine yX ?_; first | refine w_st ?_ | refine w_str ?_ | refine w_stra ?_ | (refine w_al ?_; intro q) | (refine w_bx ?_; intro q) | refine w_mu ?_ | fail) | refine yN ?_ | refine yO ?_ | fail) | (show KQ (CD _ _ _ _ _) _ _ _ _; first | refine yT ?_ | refine yF ?_ | fail) | ((first | refine yG ?_ ?_ | refine yC ?_ ?_) <;> (intro hc; (try simp only [hcS] at hc); try exact dD)) | refine yE ?_ | fail))
        all_goals (refine y_fin ?_; exact ⟨_, ⟨rfl, rfl⟩, Ent.auto⟩)
end
end Go.Proofs.Ytlhjioapbgnjfaa
