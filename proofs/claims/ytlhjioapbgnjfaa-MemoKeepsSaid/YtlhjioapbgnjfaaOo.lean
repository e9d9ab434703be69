/- DERIVED. Orders of keys: links, one behind the other. -/
import Derived.Test.YtlhjioapbgnjfaaTy
import Derived.Test.YtlhjioapbgnjfaaVm
namespace Go.Proofs.Ytlhjioapbgnjfaa
set_option linter.unusedSimpArgs false
set_option linter.unusedVariables false
open Go Sl Cv Go.RowKit

instance : KOk Try.prog 33 SK skv := ⟨sk_law inferInstance inferInstance inferInstance rfl rfl rfl rfl (by kernel_rfl)⟩

abbrev ad (b : Nat) : Addr := ⟨b, 0, none⟩
abbrev LL := List (SK × Nat)
def lkc (k : SK) (o n : Option Addr) : List Value := [.int .u16 k.1, .string k.2, .pointer o, .pointer n]
abbrev link (b : Nat) (k : SK) (o n : Option Addr) : HP := blk b (.cells (lkc k o n).toArray 125 (0, 0))
def hd (n : Option Addr) : LL → Option Addr
  | [] => n
  | (_, b) :: _ => some (ad b)
def lst (o : Option Addr) : LL → Option Addr
  | [] => o
  | (_, b) :: r => lst (some (ad b)) r
def nds (o : Option Addr) : LL → Option Addr → List HP
  | [], _ => []
  | (k, b) :: r, n => link b k o (hd n r) :: nds (some (ad b)) r n
theorem hd_app (n : Option Addr) (A B : LL) : hd n (A ++ B) = hd (hd n B) A := by cases A <;> rfl
theorem lst_app (o : Option Addr) (A B : LL) : lst o (A ++ B) = lst (lst o A) B := by
  induction A generalizing o with
  | nil => rfl
  | cons a A ih => exact ih _
theorem nds_app (o n : Option Addr) (A B : LL) : nds o (A ++ B) n = nds o A (hd n B) ++ nds (lst o A) B n := by
  induction A generalizing o with
  | nil => rfl
  | cons a A ih =>
    show link a.2 a.1 o (hd n (A ++ B)) :: nds _ (A ++ B) n = link a.2 a.1 o (hd (hd n B) A) :: (nds _ A _ ++ _)
    rw [ih, hd_app]; rfl

def oc (most : Int) (m : Nat) (o n : Option Addr) : List Value := [.int .i64 most, .map (some m), .pointer o, .pointer n]
abbrev ordb (p : Nat) (most : Int) (m : Nat) (o n : Option Addr) : HP := blk p (.cells (oc most m o n).toArray 121 (0, 0))
abbrev ptr (b : Nat) : Value := .pointer (some (ad b))

/-- A link that is out is put behind the others. -/
theorem last_nil (p m b : Nat) (most : Int) (k : SK) (F : List HP) : Sp Try.prog 56 [ptr p, ptr b] (ordb p most m none none :: link b k none none :: F)
    fun r L => r = .tuple #[] ∧ L = ordb p most m (some (ad b)) (some (ad b)) :: link b k none none :: F := by
  refine sp_of Try.func56 rfl Try.ntmps56 rfl fun w0 => ?_
  (repeat' (first | (show KQ _ _ _ _ _; first | refine kq_cons ?_ | refine kq_seq ?_ | refine kq_region ?_ | with_reducible refine kq_nil ?_ | with_reducible refine kq_then ?_ | with_reducible refine kq_then_ret ?_ | with_reducible refine kq_ret ?_ | with_reducible refine kq_np ?_ | with_reducible refine kq_norm ?_ | refine kq_cond_t ?_ | refine kq_cond_f ?_ | ((first | refine kq_cond (fun hc => ?_) (fun hc => ?_)) <;> ((try simp only [decide_eq_true_eq, decide_eq_false_iff_not, Bool.not_eq_true', Bool.not_eq_false', Int.not_lt, Int.not_le] at hc); try (exfalso; first | (simp at hc; done) | (simp [*] at hc; done) | omega | (simp at hc; omega))))) | (show WX _ _ _ _ _ _ _ _; first | refine w_pure p_move ?_ | refine w_pure p_fld0 ?_ | refine w_pure p_fldk ?_ | refine w_pure p_flda ?_ | refine w_pure p_fldr ?_ | refine w_pure p_ld ?_ | refine w_pure p_lda ?_ | (show WX _ _ ⟨_, .binOp _ _ _ _ _, _, _, _, _⟩ _ _ _ _ _; first | refine w_pure p_ne ?_ | refine w_pure p_neb ?_ | refine w_pure p_nen0 ?_ | refine w_pure p_nen1 ?_ | refine w_pure p_nen ?_ | refine w_pure p_nes0 ?_ | refine w_pure p_nes1 ?_ | refine w_pure p_nes ?_ | refine w_pure p_net ?_ | refine w_pure p_nea ?_) | refine w_pure p_nil ?_ | refine w_pure p_nilf ?_ | refine w_st ?_ | refine w_str ?_ | refine w_stra ?_ | fail) | fail))
  all_goals (refine kq_fin ?_; exact ⟨_, ⟨rfl, rfl⟩, Ent.auto⟩)
theorem last_one (p m b c : Nat) (most : Int) (k k' : SK) (h : Option Addr) (o : Option Addr) (F : List HP) : Sp Try.prog 56 [ptr p, ptr b] (ordb p most m h (some (ad c)) :: link c k' o none :: link b k none none :: F)
    fun r L => r = .tuple #[] ∧ L = ordb p most m h (some (ad b)) :: link c k' o (some (ad b)) :: link b k (some (ad c)) none :: F := by
  refine sp_of Try.func56 rfl Try.ntmps56 rfl fun w0 => ?_
  (repeat' (first | (show KQ _ _ _ _ _; first | refine kq_cons ?_ | refine kq_seq ?_ | refine kq_region ?_ | with_reducible refine kq_nil ?_ | with_reducible refine kq_then ?_ | with_reducible refine kq_then_ret ?_ | with_reducible refine kq_ret ?_ | with_reducible refine kq_np ?_ | with_reducible refine kq_norm ?_ | refine kq_cond_t ?_ | refine kq_cond_f ?_ | ((first | refine kq_cond (fun hc => ?_) (fun hc => ?_)) <;> ((try simp only [decide_eq_true_eq, decide_eq_false_iff_not, Bool.not_eq_true', Bool.not_eq_false', Int.not_lt, Int.not_le] at hc); try (exfalso; first | (simp at hc; done) | (simp [*] at hc; done) | omega | (simp at hc; omega))))) | (show WX _ _ _ _ _ _ _ _; first | refine w_pure p_move ?_ | refine w_pure p_fld0 ?_ | refine w_pure p_fldk ?_ | refine w_pure p_flda ?_ | refine w_pure p_fldr ?_ | refine w_pure p_ld ?_ | refine w_pure p_lda ?_ | (show WX _ _ ⟨_, .binOp _ _ _ _ _, _, _, _, _⟩ _ _ _ _ _; first | refine w_pure p_ne ?_ | refine w_pure p_neb ?_ | refine w_pure p_nen0 ?_ | refine w_pure p_nen1 ?_ | refine w_pure p_nen ?_ | refine w_pure p_nes0 ?_ | refine w_pure p_nes1 ?_ | refine w_pure p_nes ?_ | refine w_pure p_net ?_ | refine w_pure p_nea ?_) | refine w_pure p_nil ?_ | refine w_pure p_nilf ?_ | refine w_st ?_ | refine w_str ?_ | refine w_stra ?_ | fail) | fail))
  all_goals (refine kq_fin ?_; exact ⟨_, ⟨rfl, rfl⟩, Ent.auto⟩)

theorem last_spec (p m b : Nat) (most : Int) (k : SK) (A : LL) (F : List HP) : Sp Try.prog 56 [ptr p, ptr b] (ordb p most m (hd none A) (lst none A) :: pk (nds none A none) :: link b k none none :: F)
    fun r L => r = .tuple #[] ∧ L = ordb p most m (hd none (A ++ [(k, b)])) (lst none (A ++ [(k, b)])) :: pk (nds none (A ++ [(k, b)]) none) :: F := by
  rw [show lst none (A ++ [(k, b)]) = some (ad b) by rw [lst_app]; rfl]
  rcases List.eq_nil_or_concat A with rfl | ⟨A', ⟨k', c⟩, rfl⟩
  · refine Sp.post (Sp.pre (last_nil p m b most k F) (by ((repeat (first | with_reducible exact Ent.rfl | with_reducible exact Ent.nil | ((with_reducible apply Ent.cons); focus ((repeat (first | exact Sel.here | apply Sel.there)); done)) | with_reducible refine Ent.drop ?_)); done))) ?_
    rintro r L ⟨rfl, rfl⟩
    refine ⟨_, ⟨rfl, rfl⟩, ?_⟩
    show Ent _ (ordb p most m (some (ad b)) (some (ad b)) :: pk (link b k none none :: []) :: F)
    exact Ent.tail ((Ent.tail nil_pk).trans cons_pk)
  · have e1 : hd none (A' ++ [(k', c)] ++ [(k, b)]) = hd none (A' ++ [(k', c)]) := by simp only [List.append_assoc, hd_app]; rfl
    have e2 : lst none (A' ++ [(k', c)]) = some (ad c) := by simp [lst_app, lst]
    have e3 : nds none (A' ++ [(k', c)]) none = nds none A' (some (ad c)) ++ [link c k' (lst none A') none] := by rw [nds_app]; rfl
    have e4 : nds none (A' ++ [(k', c)] ++ [(k, b)]) none = nds none A' (some (ad c)) ++ [link c k' (lst none A') (some (ad b)), link b k (some (ad c)) none] := by
      rw [List.append_assoc, nds_app]; rfl
    rw [List.concat_eq_append, e1, e2, e3, e4]
    refine Sp.post (Sp.pre (last_one p m b c most k k' (hd none (A' ++ [(k', c)])) (lst none A') (pk (nds none A' (some (ad c))) :: F)) ?_) ?_
    · exact (Ent.tail (pk_app.trans (Ent.tail pk_cons))).trans (by ((repeat (first | with_reducible exact Ent.rfl | with_reducible exact Ent.nil | ((with_reducible apply Ent.cons); focus ((repeat (first | exact Sel.here | apply Sel.there)); done)) | with_reducible refine Ent.drop ?_)); done))
    · rintro r L ⟨rfl, rfl⟩
      refine ⟨_, ⟨rfl, rfl⟩, Ent.tail ?_⟩
      exact ((show Ent _ (link c k' (lst none A') (some (ad b)) :: link b k (some (ad c)) none :: pk (nds none A' (some (ad c))) :: F) by ((repeat (first | with_reducible exact Ent.rfl | with_reducible exact Ent.nil | ((with_reducible apply Ent.cons); focus ((repeat (first | exact Sel.here | apply Sel.there)); done)) | with_reducible refine Ent.drop ?_)); done)).trans ((Ent.tail (Ent.tail (nil_pk))).trans ((Ent.tail cons_pk).trans cons_pk))).trans ((show Ent _ (pk (nds none A' (some (ad c))) :: pk [link c k' (lst none A') (some (ad b)), link b k (some (ad c)) none] :: F) by ((repeat (first | with_reducible exact Ent.rfl | with_reducible exact Ent.nil | ((with_reducible apply Ent.cons); focus ((repeat (first | exact Sel.here | apply Sel.there)); done)) | with_reducible refine Ent.drop ?_)); done)).trans app_pk)

/-! A link is taken out. -/
section
variable (p m b : Nat) (most : Int) (k : SK) (F : List HP)
theorem out_one : Sp Try.prog 55 [ptr p, ptr b] (ordb p most m (some (ad b)) (some (ad b)) :: link b k none none :: F)
    fun r L => r = .tuple #[] ∧ L = ordb p most m none none :: link b k none none :: F := by
  refine sp_of Try.func55 rfl Try.ntmps55 rfl fun w0 => ?_
  (repeat' (first | (show KQ _ _ _ _ _; first | refine kq_cons ?_ | refine kq_seq ?_ | refine kq_region ?_ | with_reducible refine kq_nil ?_ | with_reducible refine kq_then ?_ | with_reducible refine kq_then_ret ?_ | with_reducible refine kq_ret ?_ | with_reducible refine kq_np ?_ | with_reducible refine kq_norm ?_ | refine kq_cond_t ?_ | refine kq_cond_f ?_ | ((first | refine kq_cond (fun hc => ?_) (fun hc => ?_)) <;> ((try simp only [decide_eq_true_eq, decide_eq_false_iff_not, Bool.not_eq_true', Bool.not_eq_false', Int.not_lt, Int.not_le] at hc); try (exfalso; first | (simp at hc; done) | (simp [*] at hc; done) | omega | (simp at hc; omega))))) | (show WX _ _ _ _ _ _ _ _; first | refine w_pure p_move ?_ | refine w_pure p_fld0 ?_ | refine w_pure p_fldk ?_ | refine w_pure p_flda ?_ | refine w_pure p_fldr ?_ | refine w_pure p_ld ?_ | refine w_pure p_lda ?_ | (show WX _ _ ⟨_, .binOp _ _ _ _ _, _, _, _, _⟩ _ _ _ _ _; first | refine w_pure p_ne ?_ | refine w_pure p_neb ?_ | refine w_pure p_nen0 ?_ | refine w_pure p_nen1 ?_ | refine w_pure p_nen ?_ | refine w_pure p_nes0 ?_ | refine w_pure p_nes1 ?_ | refine w_pure p_nes ?_ | refine w_pure p_net ?_ | refine w_pure p_nea ?_) | refine w_pure p_nil ?_ | refine w_pure p_nilf ?_ | refine w_st ?_ | refine w_str ?_ | refine w_stra ?_ | fail) | fail))
  all_goals (refine kq_fin ?_; exact ⟨_, ⟨rfl, rfl⟩, Ent.auto⟩)
theorem out_first (c : Nat) (k' : SK) (n l : Option Addr) : Sp Try.prog 55 [ptr p, ptr b] (ordb p most m (some (ad b)) l :: link b k none (some (ad c)) :: link c k' (some (ad b)) n :: F)
    fun r L => r = .tuple #[] ∧ L = ordb p most m (some (ad c)) l :: link b k none none :: link c k' none n :: F := by
  refine sp_of Try.func55 rfl Try.ntmps55 rfl fun w0 => ?_
  (repeat' (first | (show KQ _ _ _ _ _; first | refine kq_cons ?_ | refine kq_seq ?_ | refine kq_region ?_ | with_reducible refine kq_nil ?_ | with_reducible refine kq_then ?_ | with_reducible refine kq_then_ret ?_ | with_reducible refine kq_ret ?_ | with_reducible refine kq_np ?_ | with_reducible refine kq_norm ?_ | refine kq_cond_t ?_ | refine kq_cond_f ?_ | ((first | refine kq_cond (fun hc => ?_) (fun hc => ?_)) <;> ((try simp only [decide_eq_true_eq, decide_eq_false_iff_not, Bool.not_eq_true', Bool.not_eq_false', Int.not_lt, Int.not_le] at hc); try (exfalso; first | (simp at hc; done) | (simp [*] at hc; done) | omega | (simp at hc; omega))))) | (show WX _ _ _ _ _ _ _ _; first | refine w_pure p_move ?_ | refine w_pure p_fld0 ?_ | refine w_pure p_fldk ?_ | refine w_pure p_flda ?_ | refine w_pure p_fldr ?_ | refine w_pure p_ld ?_ | refine w_pure p_lda ?_ | (show WX _ _ ⟨_, .binOp _ _ _ _ _, _, _, _, _⟩ _ _ _ _ _; first | refine w_pure p_ne ?_ | refine w_pure p_neb ?_ | refine w_pure p_nen0 ?_ | refine w_pure p_nen1 ?_ | refine w_pure p_nen ?_ | refine w_pure p_nes0 ?_ | refine w_pure p_nes1 ?_ | refine w_pure p_nes ?_ | refine w_pure p_net ?_ | refine w_pure p_nea ?_) | refine w_pure p_nil ?_ | refine w_pure p_nilf ?_ | refine w_st ?_ | refine w_str ?_ | refine w_stra ?_ | fail) | (refine kq_draw1 4 11 29 ?_; (all_goals refine kq_take 0 rfl p_move ?_); (all_goals (first | refine kq_take 1 rfl p_nil ?_ | refine kq_take 1 rfl p_nilf ?_)); (all_goals (first | refine kq_take 2 rfl p_fld0 ?_ | refine kq_take 2 rfl p_fldk ?_ | refine kq_take 2 rfl p_flda ?_ | refine kq_take 2 rfl p_fldr ?_)); (all_goals (first | refine kq_take 3 rfl p_ld ?_ | refine kq_take 3 rfl p_lda ?_)); (all_goals refine kq_take 4 rfl p_move ?_); (all_goals (first | refine kq_take 5 rfl p_nil ?_ | refine kq_take 5 rfl p_nilf ?_)); (all_goals (first | refine kq_take 6 rfl p_fld0 ?_ | refine kq_take 6 rfl p_fldk ?_ | refine kq_take 6 rfl p_flda ?_ | refine kq_take 6 rfl p_fldr ?_)); (all_goals (first | refine kq_take 7 rfl p_ld ?_ | refine kq_take 7 rfl p_lda ?_)); (all_goals (first | refine kq_take 8 rfl p_nil ?_ | refine kq_take 8 rfl p_nilf ?_)); (all_goals (first | refine kq_take 9 rfl p_fld0 ?_ | refine kq_take 9 rfl p_fldk ?_ | refine kq_take 9 rfl p_flda ?_ | refine kq_take 9 rfl p_fldr ?_)); (all_goals (refine kq_each [10] ⟨?_, trivial⟩; (refine kq_op ?_; first | refine w_st ?_ | refine w_str ?_ | refine w_stra ?_))); (all_goals refine kq_done ?_)) | fail))
  all_goals (refine kq_fin ?_; exact ⟨_, ⟨rfl, rfl⟩, Ent.auto⟩)
theorem out_last (c : Nat) (k' : SK) (o h : Option Addr) : Sp Try.prog 55 [ptr p, ptr b] (ordb p most m h (some (ad b)) :: link b k (some (ad c)) none :: link c k' o (some (ad b)) :: F)
    fun r L => r = .tuple #[] ∧ L = ordb p most m h (some (ad c)) :: link b k none none :: link c k' o none :: F := by
  refine sp_of Try.func55 rfl Try.ntmps55 rfl fun w0 => ?_
  (repeat' (first | (show KQ _ _ _ _ _; first | refine kq_cons ?_ | refine kq_seq ?_ | refine kq_region ?_ | with_reducible refine kq_nil ?_ | with_reducible refine kq_then ?_ | with_reducible refine kq_then_ret ?_ | with_reducible refine kq_ret ?_ | with_reducible refine kq_np ?_ | with_reducible refine kq_norm ?_ | refine kq_cond_t ?_ | refine kq_cond_f ?_ | ((first | refine kq_cond (fun hc => ?_) (fun hc => ?_)) <;> ((try simp only [decide_eq_true_eq, decide_eq_false_iff_not, Bool.not_eq_true', Bool.not_eq_false', Int.not_lt, Int.not_le] at hc); try (exfalso; first | (simp at hc; done) | (simp [*] at hc; done) | omega | (simp at hc; omega))))) | (show WX _ _ _ _ _ _ _ _; first | refine w_pure p_move ?_ | refine w_pure p_fld0 ?_ | refine w_pure p_fldk ?_ | refine w_pure p_flda ?_ | refine w_pure p_fldr ?_ | refine w_pure p_ld ?_ | refine w_pure p_lda ?_ | (show WX _ _ ⟨_, .binOp _ _ _ _ _, _, _, _, _⟩ _ _ _ _ _; first | refine w_pure p_ne ?_ | refine w_pure p_neb ?_ | refine w_pure p_nen0 ?_ | refine w_pure p_nen1 ?_ | refine w_pure p_nen ?_ | refine w_pure p_nes0 ?_ | refine w_pure p_nes1 ?_ | refine w_pure p_nes ?_ | refine w_pure p_net ?_ | refine w_pure p_nea ?_) | refine w_pure p_nil ?_ | refine w_pure p_nilf ?_ | refine w_st ?_ | refine w_str ?_ | refine w_stra ?_ | fail) | (refine kq_draw1 1 11 7 ?_; (all_goals refine kq_take 0 rfl p_move ?_); (all_goals (first | refine kq_take 1 rfl p_nil ?_ | refine kq_take 1 rfl p_nilf ?_)); (all_goals (first | refine kq_take 2 rfl p_fld0 ?_ | refine kq_take 2 rfl p_fldk ?_ | refine kq_take 2 rfl p_flda ?_ | refine kq_take 2 rfl p_fldr ?_)); (all_goals (first | refine kq_take 3 rfl p_ld ?_ | refine kq_take 3 rfl p_lda ?_)); (all_goals refine kq_take 4 rfl p_move ?_); (all_goals (first | refine kq_take 5 rfl p_nil ?_ | refine kq_take 5 rfl p_nilf ?_)); (all_goals (first | refine kq_take 6 rfl p_fld0 ?_ | refine kq_take 6 rfl p_fldk ?_ | refine kq_take 6 rfl p_flda ?_ | refine kq_take 6 rfl p_fldr ?_)); (all_goals (first | refine kq_take 7 rfl p_ld ?_ | refine kq_take 7 rfl p_lda ?_)); (all_goals (first | refine kq_take 8 rfl p_nil ?_ | refine kq_take 8 rfl p_nilf ?_)); (all_goals (first | refine kq_take 9 rfl p_fld0 ?_ | refine kq_take 9 rfl p_fldk ?_ | refine kq_take 9 rfl p_flda ?_ | refine kq_take 9 rfl p_fldr ?_)); (all_goals (refine kq_each [10] ⟨?_, trivial⟩; (refine kq_op ?_; first | refine w_st ?_ | refine w_str ?_ | refine w_stra ?_))); (all_goals refine kq_done ?_)) | fail))
  all_goals (refine kq_fin ?_; exact ⟨_, ⟨rfl, rfl⟩, Ent.auto⟩)
theorem out_mid (c e : Nat) (k' k2 : SK) (o h n l : Option Addr) : Sp Try.prog 55 [ptr p, ptr b] (ordb p most m h l :: link b k (some (ad c)) (some (ad e)) :: link c k' o (some (ad b)) :: link e k2 (some (ad b)) n :: F)
    fun r L => r = .tuple #[] ∧ L = ordb p most m h l :: link b k none none :: link c k' o (some (ad e)) :: link e k2 (some (ad c)) n :: F := by
  refine sp_of Try.func55 rfl Try.ntmps55 rfl fun w0 => ?_
  (repeat' (first | (show KQ _ _ _ _ _; first | refine kq_cons ?_ | refine kq_seq ?_ | refine kq_region ?_ | with_reducible refine kq_nil ?_ | with_reducible refine kq_then ?_ | with_reducible refine kq_then_ret ?_ | with_reducible refine kq_ret ?_ | with_reducible refine kq_np ?_ | with_reducible refine kq_norm ?_ | refine kq_cond_t ?_ | refine kq_cond_f ?_ | ((first | refine kq_cond (fun hc => ?_) (fun hc => ?_)) <;> ((try simp only [decide_eq_true_eq, decide_eq_false_iff_not, Bool.not_eq_true', Bool.not_eq_false', Int.not_lt, Int.not_le] at hc); try (exfalso; first | (simp at hc; done) | (simp [*] at hc; done) | omega | (simp at hc; omega))))) | (show WX _ _ _ _ _ _ _ _; first | refine w_pure p_move ?_ | refine w_pure p_fld0 ?_ | refine w_pure p_fldk ?_ | refine w_pure p_flda ?_ | refine w_pure p_fldr ?_ | refine w_pure p_ld ?_ | refine w_pure p_lda ?_ | (show WX _ _ ⟨_, .binOp _ _ _ _ _, _, _, _, _⟩ _ _ _ _ _; first | refine w_pure p_ne ?_ | refine w_pure p_neb ?_ | refine w_pure p_nen0 ?_ | refine w_pure p_nen1 ?_ | refine w_pure p_nen ?_ | refine w_pure p_nes0 ?_ | refine w_pure p_nes1 ?_ | refine w_pure p_nes ?_ | refine w_pure p_net ?_ | refine w_pure p_nea ?_) | refine w_pure p_nil ?_ | refine w_pure p_nilf ?_ | refine w_st ?_ | refine w_str ?_ | refine w_stra ?_ | fail) | (refine kq_draw1 1 11 7 ?_; (all_goals refine kq_take 0 rfl p_move ?_); (all_goals (first | refine kq_take 1 rfl p_nil ?_ | refine kq_take 1 rfl p_nilf ?_)); (all_goals (first | refine kq_take 2 rfl p_fld0 ?_ | refine kq_take 2 rfl p_fldk ?_ | refine kq_take 2 rfl p_flda ?_ | refine kq_take 2 rfl p_fldr ?_)); (all_goals (first | refine kq_take 3 rfl p_ld ?_ | refine kq_take 3 rfl p_lda ?_)); (all_goals refine kq_take 4 rfl p_move ?_); (all_goals (first | refine kq_take 5 rfl p_nil ?_ | refine kq_take 5 rfl p_nilf ?_)); (all_goals (first | refine kq_take 6 rfl p_fld0 ?_ | refine kq_take 6 rfl p_fldk ?_ | refine kq_take 6 rfl p_flda ?_ | refine kq_take 6 rfl p_fldr ?_)); (all_goals (first | refine kq_take 7 rfl p_ld ?_ | refine kq_take 7 rfl p_lda ?_)); (all_goals (first | refine kq_take 8 rfl p_nil ?_ | refine kq_take 8 rfl p_nilf ?_)); (all_goals (first | refine kq_take 9 rfl p_fld0 ?_ | refine kq_take 9 rfl p_fldk ?_ | refine kq_take 9 rfl p_flda ?_ | refine kq_take 9 rfl p_fldr ?_)); (all_goals (refine kq_each [10] ⟨?_, trivial⟩; (refine kq_op ?_; first | refine w_st ?_ | refine w_str ?_ | refine w_stra ?_))); (all_goals refine kq_done ?_)) | (refine kq_draw1 4 11 29 ?_; (all_goals refine kq_take 0 rfl p_move ?_); (all_goals (first | refine kq_take 1 rfl p_nil ?_ | refine kq_take 1 rfl p_nilf ?_)); (all_goals (first | refine kq_take 2 rfl p_fld0 ?_ | refine kq_take 2 rfl p_fldk ?_ | refine kq_take 2 rfl p_flda ?_ | refine kq_take 2 rfl p_fldr ?_)); (all_goals (first | refine kq_take 3 rfl p_ld ?_ | refine kq_take 3 rfl p_lda ?_)); (all_goals refine kq_take 4 rfl p_move ?_); (all_goals (first | refine kq_take 5 rfl p_nil ?_ | refine kq_take 5 rfl p_nilf ?_)); (all_goals (first | refine kq_take 6 rfl p_fld0 ?_ | refine kq_take 6 rfl p_fldk ?_ | refine kq_take 6 rfl p_flda ?_ | refine kq_take 6 rfl p_fldr ?_)); (all_goals (first | refine kq_take 7 rfl p_ld ?_ | refine kq_take 7 rfl p_lda ?_)); (all_goals (first | refine kq_take 8 rfl p_nil ?_ | refine kq_take 8 rfl p_nilf ?_)); (all_goals (first | refine kq_take 9 rfl p_fld0 ?_ | refine kq_take 9 rfl p_fldk ?_ | refine kq_take 9 rfl p_flda ?_ | refine kq_take 9 rfl p_fldr ?_)); (all_goals (refine kq_each [10] ⟨?_, trivial⟩; (refine kq_op ?_; first | refine w_st ?_ | refine w_str ?_ | refine w_stra ?_))); (all_goals refine kq_done ?_)) | fail))
  all_goals (refine kq_fin ?_; exact ⟨_, ⟨rfl, rfl⟩, Ent.auto⟩)
end

theorem nds_cons (o n : Option Addr) (k : SK) (b : Nat) (B : LL) : nds o ((k, b) :: B) n = link b k o (hd n B) :: nds (some (ad b)) B n := rfl
theorem nds_mid (o n : Option Addr) (k : SK) (b : Nat) (A B : LL) : nds o (A ++ (k, b) :: B) n = nds o A (some (ad b)) ++ link b k (lst o A) (hd n B) :: nds (some (ad b)) B n := nds_app o n A ((k, b) :: B)

theorem out_spec (p m b : Nat) (most : Int) (k : SK) (A B : LL) (F : List HP) : Sp Try.prog 55 [ptr p, ptr b] (ordb p most m (hd none (A ++ (k, b) :: B)) (lst none (A ++ (k, b) :: B)) :: pk (nds none (A ++ (k, b) :: B) none) :: F)
    fun r L => r = .tuple #[] ∧ L = ordb p most m (hd none (A ++ B)) (lst none (A ++ B)) :: pk (nds none (A ++ B) none) :: link b k none none :: F := by
  rcases List.eq_nil_or_concat A with rfl | ⟨A', ⟨k1, c⟩, rfl⟩
  · cases B with
    | nil =>
      refine Sp.post (Sp.pre (out_one p m b most k F) (Ent.tail (pk_cons.trans (Ent.tail Ent.drop')))) ?_
      rintro r L ⟨rfl, rfl⟩
      exact ⟨_, ⟨rfl, rfl⟩, Ent.tail ((Ent.tail Ent.rfl).trans nil_pk)⟩
    | cons x B =>
      obtain ⟨k2, e⟩ := x
      refine Sp.post (Sp.pre (out_first p m b most k (pk (nds (some (ad e)) B none) :: F) e k2 (hd none B) (lst none (([] : LL) ++ (k, b) :: (k2, e) :: B))) (Ent.tail (pk_cons.trans (Ent.tail pk_cons)))) ?_
      rintro r L ⟨rfl, rfl⟩
      refine ⟨_, ⟨rfl, rfl⟩, ?_⟩
      exact (Ent.tail (Ent.tail cons_pk)).trans (Ent.tail (by ((repeat (first | with_reducible exact Ent.rfl | with_reducible exact Ent.nil | ((with_reducible apply Ent.cons); focus ((repeat (first | exact Sel.here | apply Sel.there)); done)) | with_reducible refine Ent.drop ?_)); done)))
  · rw [List.concat_eq_append]
    have e1 : ∀ B, hd none (A' ++ [(k1, c)] ++ B) = hd none (A' ++ [(k1, c)]) := fun B => by simp only [List.append_assoc, hd_app]; rfl
    have e2 : lst none (A' ++ [(k1, c)] ++ (k, b) :: B) = lst (some (ad b)) B := by simp only [lst_app, lst]
    have e3 : lst none (A' ++ [(k1, c)] ++ B) = lst (some (ad c)) B := by simp only [lst_app, lst]
    have e4 : nds none (A' ++ [(k1, c)] ++ (k, b) :: B) none = nds none A' (some (ad c)) ++ link c k1 (lst none A') (some (ad b)) :: link b k (some (ad c)) (hd none B) :: nds (some (ad b)) B none := by
      rw [List.append_assoc]; exact nds_app none none A' ((k1, c) :: (k, b) :: B)
    have e5 : nds none (A' ++ [(k1, c)] ++ B) none = nds none A' (some (ad c)) ++ link c k1 (lst none A') (hd none B) :: nds (some (ad c)) B none := by
      rw [List.append_assoc]; exact nds_app none none A' ((k1, c) :: B)
    rw [e1, e1, e2, e3, e4, e5]
    cases B with
    | nil =>
      refine Sp.post (Sp.pre (out_last p m b most k (pk (nds none A' (some (ad c))) :: F) c k1 (lst none A') (hd none (A' ++ [(k1, c)]))) ?_) ?_
      · exact (Ent.tail (pk_app.trans (Ent.tail (pk_cons.trans (Ent.tail (pk_cons.trans (Ent.tail Ent.drop'))))))).trans (Ent.tail (by ((repeat (first | with_reducible exact Ent.rfl | with_reducible exact Ent.nil | ((with_reducible apply Ent.cons); focus ((repeat (first | exact Sel.here | apply Sel.there)); done)) | with_reducible refine Ent.drop ?_)); done)))
      · rintro r L ⟨rfl, rfl⟩
        refine ⟨_, ⟨rfl, rfl⟩, Ent.tail ?_⟩
        exact (show Ent _ (link c k1 (lst none A') none :: pk (nds none A' (some (ad c))) :: link b k none none :: F) by ((repeat (first | with_reducible exact Ent.rfl | with_reducible exact Ent.nil | ((with_reducible apply Ent.cons); focus ((repeat (first | exact Sel.here | apply Sel.there)); done)) | with_reducible refine Ent.drop ?_)); done)).trans (((Ent.tail nil_pk).trans cons_pk).trans ((show Ent _ (pk (nds none A' (some (ad c))) :: pk [link c k1 (lst none A') none] :: link b k none none :: F) by ((repeat (first | with_reducible exact Ent.rfl | with_reducible exact Ent.nil | ((with_reducible apply Ent.cons); focus ((repeat (first | exact Sel.here | apply Sel.there)); done)) | with_reducible refine Ent.drop ?_)); done)).trans app_pk))
    | cons x B =>
      obtain ⟨k2, e⟩ := x
      refine Sp.post (Sp.pre (out_mid p m b most k (pk (nds none A' (some (ad c))) :: pk (nds (some (ad e)) B none) :: F) c e k1 k2 (lst none A') (hd none (A' ++ [(k1, c)])) (hd none B) (lst (some (ad b)) ((k2, e) :: B))) ?_) ?_
      · exact (Ent.tail (pk_app.trans (Ent.tail (pk_cons.trans (Ent.tail (pk_cons.trans (Ent.tail pk_cons))))))).trans (Ent.tail (by ((repeat (first | with_reducible exact Ent.rfl | with_reducible exact Ent.nil | ((with_reducible apply Ent.cons); focus ((repeat (first | exact Sel.here | apply Sel.there)); done)) | with_reducible refine Ent.drop ?_)); done)))
      · rintro r L ⟨rfl, rfl⟩
        refine ⟨_, ⟨rfl, rfl⟩, Ent.tail ?_⟩
        exact (show Ent _ (link c k1 (lst none A') (some (ad e)) :: link e k2 (some (ad c)) (hd none B) :: pk (nds (some (ad e)) B none) :: pk (nds none A' (some (ad c))) :: link b k none none :: F) by ((repeat (first | with_reducible exact Ent.rfl | with_reducible exact Ent.nil | ((with_reducible apply Ent.cons); focus ((repeat (first | exact Sel.here | apply Sel.there)); done)) | with_reducible refine Ent.drop ?_)); done)).trans ((Ent.tail cons_pk).trans (cons_pk.trans ((show Ent _ (pk (nds none A' (some (ad c))) :: pk (link c k1 (lst none A') (some (ad e)) :: link e k2 (some (ad c)) (hd none B) :: nds (some (ad e)) B none) :: link b k none none :: F) by ((repeat (first | with_reducible exact Ent.rfl | with_reducible exact Ent.nil | ((with_reducible apply Ent.cons); focus ((repeat (first | exact Sel.here | apply Sel.there)); done)) | with_reducible refine Ent.drop ?_)); done)).trans app_pk)))
end Go.Proofs.Ytlhjioapbgnjfaa
