/- DERIVED. Tokens (chapter 6): what a call of each method of *token.Tokens comes to, over a list of tokens. -/
import Derived.Test.YtjjpadifidbkhaaRows
import Derived.Test.YtjjpadifidbkhaaCvKit
import Derived.Deep.LoopGhost
namespace Go.Proofs.Ytjjpadifidbkhaa
open Go.RowKit Cv

structure T3 where
  parent : Int
  holders : Int
  why : Int
  deriving DecidableEq

def tenc (x : T3) : List Value := [.int .i64 x.parent, .int .i64 x.holders, .int .i64 x.why]
theorem tenc_len (x : T3) : (tenc x).length = 3 := rfl

namespace Tk
def ok (l : List T3) (n : Int) : Prop := 1 ≤ n ∧ n ≤ l.length
instance (l : List T3) (n : Int) : Decidable (ok l n) := inferInstanceAs (Decidable (_ ∧ _))
/-- Where token n stands in the list. -/
def ix (n : Int) : Nat := (n - 1).toNat
def at_ (l : List T3) (n : Int) : T3 := if ok l n then l.getD (ix n) ⟨0, 0, 0⟩ else ⟨0, 0, 0⟩
end Tk

structure Tok (B : Nat) (w : World) (p : Nat) (v : Value) (l : List T3) : Prop where
  lo : B ≤ p
  blk : w.heap[p]? = some (.cells #[v] 56 (0, 0))
  row : w.ownsRow B 60 3 v l.length (flat tenc l)
  len : l.length ≤ 65536

section
variable {B : Nat} {w : World} {p : Nat} {v : Value} {l : List T3}

theorem Tok.cell (h : Tok B w p v l) : w.cell? ⟨p, 0, none⟩ = some v := by
  simp [World.cell?, h.blk]

theorem Tok.notFrozen (h : Tok B w p v l) (o : Nat) : w.frozen? ⟨p, o, none⟩ = false := by
  simp [World.frozen?, h.blk]

theorem Tok.shape (h : Tok B w p v l) : (v = .slice none 0 0 ∧ l = []) ∨ ∃ d cap, v = .slice (some ⟨d, 0, none⟩) l.length cap ∧ d ≠ p := by
  rcases h.row.2 with ⟨rfl, e⟩ | ⟨g, cap, cur, rfl, _, hg, _⟩
  · exact .inl ⟨rfl, List.eq_nil_of_length_eq_zero e⟩
  · refine .inr ⟨g, cap, rfl, ?_⟩
    rintro rfl
    have := h.blk
    rw [hg] at this
    simp at this

theorem Tok.lenV (h : Tok B w p v l) : ∃ a cap, v = .slice a l.length cap := by
  rcases h.shape with ⟨rfl, rfl⟩ | ⟨d, cap, rfl, _⟩
  · exact ⟨none, 0, rfl⟩
  · exact ⟨_, cap, rfl⟩

theorem tok_at {n : Int} (hn : Tk.ok l n) : ∃ h : Tk.ix n < l.length, Tk.at_ l n = l[Tk.ix n] := by
  have : Tk.ix n < l.length := by unfold Tk.ok at hn; unfold Tk.ix; omega
  exact ⟨this, by rw [Tk.at_, if_pos hn, List.getD, List.getElem?_eq_getElem this]; rfl⟩

theorem Tok.cells {d cap : Nat} (h : Tok B w p (.slice (some ⟨d, 0, none⟩) l.length cap) l) {n : Int} (hn : Tk.ok l n) :
    w.cell? ⟨d, Tk.ix n * 3, none⟩ = some (.int .i64 (Tk.at_ l n).parent) ∧ w.cell? ⟨d, Tk.ix n * 3 + 1, none⟩ = some (.int .i64 (Tk.at_ l n).holders) ∧
    w.cell? ⟨d, Tk.ix n * 3 + 2, none⟩ = some (.int .i64 (Tk.at_ l n).why) := by
  obtain ⟨hi, e⟩ := tok_at hn
  refine ⟨?_, ?_, ?_⟩
  · rw [h.row.cellAt _ (by omega), show Tk.ix n * 3 = Tk.ix n * 3 + 0 from rfl, flat_get tenc_len l _ 0 (by omega) hi, e]; rfl
  · rw [h.row.cellAt _ (by omega), flat_get tenc_len l _ 1 (by omega) hi, e]; rfl
  · rw [h.row.cellAt _ (by omega), flat_get tenc_len l _ 2 (by omega) hi, e]; rfl

set_option maxHeartbeats 400000 in
theorem get_out (h : Tok B w p v l) {n : Int} (hn : ¬ Tk.ok l n) :
    Calls Try.prog 26 #[.pointer (some ⟨p, 0, none⟩), .int .i64 n] w fun e w' => e = .returned (.pointer none) ∧ w = w' := by
  obtain ⟨a, cap, rfl⟩ := h.lenV
  have hc := h.cell
  have hb : l.length ≤ 65536 := h.len
  clear h
  unfold Tk.ok at hn
  by_cases h1 : n < 1
  · go_enter Try.func26, Try.ntmps26
    go_wp2
    go_ret
    exact ⟨rfl, rfl⟩
  · have h2 : (l.length : Int) < n := by omega
    clear hn
    go_enter Try.func26, Try.ntmps26
    go_wp2
    go_ret
    exact ⟨rfl, rfl⟩

set_option maxHeartbeats 400000 in
theorem get_in {d cap : Nat} (h : Tok B w p (.slice (some ⟨d, 0, none⟩) l.length cap) l) {n : Int} (hn : Tk.ok l n) :
    Calls Try.prog 26 #[.pointer (some ⟨p, 0, none⟩), .int .i64 n] w fun e w' => e = .returned (.pointer (some ⟨d, Tk.ix n * 3, none⟩)) ∧ w = w' := by
  have hc := h.cell
  have hb : l.length ≤ 65536 := h.len
  clear h
  obtain ⟨hn1, hn2⟩ := hn
  have h1 : ¬ n < 1 := by omega
  have h2 : ¬ (l.length : Int) < n := by omega
  have h3 : n - 1 < l.length := by omega
  have h4 : 0 ≤ n - 1 := by omega
  go_enter Try.func26, Try.ntmps26
  go_wp2
  go_ret
  exact ⟨by rw [show Tk.ix n = n.toNat - 1 by unfold Tk.ix; omega]; rfl, rfl⟩

set_option maxHeartbeats 400000 in
theorem parent_any (h : Tok B w p v l) (n : Int) :
    Calls Try.prog 13 #[.pointer (some ⟨p, 0, none⟩), .int .i64 n] w fun e w' => e = .returned (.int .i64 (Tk.at_ l n).parent) ∧ w = w' := by
  by_cases hn : Tk.ok l n
  · rcases h.shape with ⟨rfl, rfl⟩ | ⟨d, cap, rfl, _⟩
    · unfold Tk.ok at hn; simp at hn; omega
    · obtain ⟨c0, c1, c2⟩ := h.cells hn
      go_enter Try.func13, Try.ntmps13
      go_wp2_with (go_at_call 26; refine (get_in h hn).mono ?_; rintro e w' ⟨rfl, rfl⟩)
      go_ret
      exact ⟨rfl, rfl⟩
  · have e : (Tk.at_ l n).parent = 0 := by simp [Tk.at_, hn]
    rw [e]
    go_enter Try.func13, Try.ntmps13
    go_wp2_with (go_at_call 26; refine (get_out h hn).mono ?_; rintro e w' ⟨rfl, rfl⟩)
    go_ret
    exact ⟨rfl, rfl⟩

set_option maxHeartbeats 400000 in
theorem why_any (h : Tok B w p v l) (n : Int) :
    Calls Try.prog 14 #[.pointer (some ⟨p, 0, none⟩), .int .i64 n] w fun e w' => e = .returned (.int .i64 (Tk.at_ l n).why) ∧ w = w' := by
  by_cases hn : Tk.ok l n
  · rcases h.shape with ⟨rfl, rfl⟩ | ⟨d, cap, rfl, _⟩
    · unfold Tk.ok at hn; simp at hn; omega
    · obtain ⟨c0, c1, c2⟩ := h.cells hn
      go_enter Try.func14, Try.ntmps14
      go_wp2_with (go_at_call 26; refine (get_in h hn).mono ?_; rintro e w' ⟨rfl, rfl⟩)
      go_ret
      exact ⟨rfl, rfl⟩
  · have e : (Tk.at_ l n).why = 0 := by simp [Tk.at_, hn]
    rw [e]
    go_enter Try.func14, Try.ntmps14
    go_wp2_with (go_at_call 26; refine (get_out h hn).mono ?_; rintro e w' ⟨rfl, rfl⟩)
    go_ret
    exact ⟨rfl, rfl⟩

set_option maxHeartbeats 400000 in
theorem holders_any (h : Tok B w p v l) (n : Int) :
    Calls Try.prog 24 #[.pointer (some ⟨p, 0, none⟩), .int .i64 n] w fun e w' => e = .returned (.int .i64 (Tk.at_ l n).holders) ∧ w = w' := by
  by_cases hn : Tk.ok l n
  · rcases h.shape with ⟨rfl, rfl⟩ | ⟨d, cap, rfl, _⟩
    · unfold Tk.ok at hn; simp at hn; omega
    · obtain ⟨c0, c1, c2⟩ := h.cells hn
      go_enter Try.func24, Try.ntmps24
      go_wp2_with (go_at_call 26; refine (get_in h hn).mono ?_; rintro e w' ⟨rfl, rfl⟩)
      go_ret
      exact ⟨rfl, rfl⟩
  · have e : (Tk.at_ l n).holders = 0 := by simp [Tk.at_, hn]
    rw [e]
    go_enter Try.func24, Try.ntmps24
    go_wp2_with (go_at_call 26; refine (get_out h hn).mono ?_; rintro e w' ⟨rfl, rfl⟩)
    go_ret
    exact ⟨rfl, rfl⟩

theorem is_any (h : Tok B w p v l) (n : Int) :
    Calls Try.prog 15 #[.pointer (some ⟨p, 0, none⟩), .int .i64 n] w fun e w' => e = .returned (.bool !((Tk.at_ l n).why == 0)) ∧ w = w' := by
  go_enter Try.func15, Try.ntmps15
  go_wp2_with (go_at_call 14; refine (why_any h n).mono ?_; rintro e w' ⟨rfl, rfl⟩)
  go_ret
  exact ⟨rfl, rfl⟩

theorem len_any (h : Tok B w p v l) :
    Calls Try.prog 12 #[.pointer (some ⟨p, 0, none⟩)] w fun e w' => e = .returned (.int .i64 l.length) ∧ w = w' := by
  obtain ⟨a, cap, rfl⟩ := h.lenV
  have hc := h.cell
  go_enter Try.func12, Try.ntmps12
  go_wp2
  go_ret
  exact ⟨rfl, rfl⟩

theorem Tok.below {w' : World} (h : Tok B w p v l) (hb : Below w.heap.size w w') : Tok B w' p v l :=
  ⟨h.lo, (hb.block p (lt_of_blk h.blk)).trans h.blk, (Fr.of_below (S := fun _ => False) hb).row h.row (fun _ _ => id), h.len⟩

/-! ### all that hang on one -/
namespace Tk
def underN (l : List T3) (n : Int) : Nat → List Int
  | 0 => []
  | i + 1 => if (at_ l (n + i + 1)).parent ∈ n :: underN l n i then underN l n i ++ [n + i + 1] else underN l n i
def under (l : List T3) (n : Int) : List Int := underN l n (l.length - n).toNat

theorem underN_lt (l : List T3) (n : Int) (i : Nat) : ∀ x ∈ underN l n i, n < x ∧ x ≤ n + i := by
  induction i with
  | zero => intro x hx; simp [underN] at hx
  | succ i ih =>
    intro x hx
    rw [underN] at hx
    split at hx
    · rcases List.mem_append.1 hx with hx | hx
      · have := ih x hx; omega
      · simp at hx; omega
    · have := ih x hx; omega

theorem underN_len (l : List T3) (n : Int) (i : Nat) : (underN l n i).length ≤ i := by
  induction i with
  | zero => simp [underN]
  | succ i ih => rw [underN]; split
                 · rw [List.length_append, List.length_singleton]; omega
                 · omega
end Tk

def trues (l : List Int) : List (Int × Bool) := l.map fun k => (k, true)
/-- Is k in the list? (A name that the walk does not open.) -/
def memB (k : Int) (l : List Int) : Bool := decide (k ∈ l)
theorem kget_trues (l : List Int) (k : Int) : (if false = true then Value.tuple #[((kget (trues l) k).elim (.bool false) Value.bool), .bool (kget (trues l) k).isSome] else (kget (trues l) k).elim (.bool false) Value.bool) = .bool (memB k l) := by
  simp only [Bool.false_eq_true, if_false]
  unfold memB
  induction l with
  | nil => simp [trues, kget]
  | cons a r ih =>
    by_cases h : a = k
    · subst h; simp [trues, kget]
    · simp only [trues, List.map_cons, kget, h, if_false, List.mem_cons, Ne.symm h, false_or]
      exact ih
theorem trues_keys (l : List Int) : (trues l).map Prod.fst = l := by
  unfold trues
  induction l with
  | nil => rfl
  | cons a r ih => rw [List.map_cons, List.map_cons, ih]
theorem kput_trues {l : List Int} {k : Int} (h : k ∉ l) : kput (trues l) k true = trues (l ++ [k]) := by
  rw [kput_fresh true (by rw [trues_keys]; exact h)]; simp [trues]

theorem intE : ELaw Try.prog 29 3 1 8 := ELaw.mk' Try.underlying29 (z := .int .i64 0) (by kernel_rfl) rfl (by decide)
theorem tokE : ELaw Try.prog 54 60 3 24 := ELaw.mk' Try.underlying54 (z := .agg #[.int .i64 0, .int .i64 0, .int .i64 0]) (by kernel_rfl) rfl (by decide)
theorem intK : KLaw Try.prog 3 (fun n : Int => Value.int .i64 n) := int_law Try.underlying3
theorem zeroB (w : World) : (zeroValue 4).run Try.prog w = .ok (.bool false) w := by kernel_rfl

set_option maxHeartbeats 800000 in
theorem under_in (h : Tok B w p v l) {n : Int} (hn : Tk.ok l n) :
    Calls Try.prog 25 #[.pointer (some ⟨p, 0, none⟩), .int .i64 n] w fun e w' => ∃ r, e = .returned r ∧ w'.ownsRow w.heap.size 3 1 r (Tk.under l n).length (ints (Tk.under l n)) ∧ Below w.heap.size w w' := by
  rcases h.shape with ⟨rfl, rfl⟩ | ⟨d, cap, rfl, _⟩
  · unfold Tk.ok at hn; simp at hn; omega
  have hmm := @run_makeMap Try.prog
  have hb : l.length ≤ 65536 := h.len
  obtain ⟨hn1, hn2⟩ := id hn
  go_enter Try.func25, Try.ntmps25
  go_wp2_with (first
    | (go_at_call 26; refine (get_in h hn).mono ?_; rintro e w' ⟨rfl, rfl⟩)
    | (refine wpList_update rfl _ _ _ 26 (Or.inr rfl) intK Try.underlying26 _ rfl [] (IsMap.made _ _ Value.bool) _ rfl true rfl ?_; intro w1 hm1 hf1))
  have e0 : ((l.length : Int) - n).toNat ≤ 65536 := by omega
  go_loopg [6, 7] ((l.length : Int) - n).toNat (fun g out k wr => ∃ i : Nat, n + i + 1 = l.length + 1 - g ∧ k = .int .i64 (n + i + 1) ∧ IsMap wr w.heap.size (fun n : Int => Value.int .i64 n) Value.bool (trues (n :: Tk.underN l n i)) ∧
      wr.ownsRow w.heap.size 3 1 out (Tk.underN l n i).length (ints (Tk.underN l n i)) ∧ Below w.heap.size w wr ∧ w.heap.size < wr.heap.size)
  case atStart =>
    refine ⟨0, by omega, by simp, hm1, World.ownsRow_nil _ _ _ _, ?_, ?_⟩
    · exact Fr.below ((Below.refl _ _).alloc (Nat.le_refl _) _) hf1 (by simp) (fun k e => by rw [e]; exact Nat.le_refl _)
    · have := hf1.size; simp at this; omega
  case round =>
    clear hm1 hf1
    obtain ⟨i, hg, rfl, hm, ho, hbl, hsz⟩ := hrel
    have hT := h.below hbl
    have hc := hT.cell
    have hi : i ≤ 65536 := by omega
    have hU := Tk.underN_len l n i
    have HG := hide hg
    clear hg
    by_cases hlt : n + i + 1 ≤ l.length
    · cases hmem : memB (Tk.at_ l (n + i + 1)).parent (n :: Tk.underN l n i) with
      | false =>
        go_wp2_with (first
          | (go_at_call 13; refine (parent_any hT _).mono ?_; rintro e w' ⟨rfl, rfl⟩)
          | (refine wpList_lookup rfl _ _ 26 false rfl intK Try.underlying26 _ (zeroB _) _ rfl _ hm _ rfl (.bool false) (by rw [kget_trues, hmem]) ?_))
        go_roundg (gk - 1)
        case measure => have := HG.out; omega
        case rel =>
          have hg := HG.out
          have e : Tk.underN l n (i + 1) = Tk.underN l n i := by rw [Tk.underN, if_neg (by simpa [memB] using hmem)]
          exact ⟨i + 1, by omega, congrArg (Value.int .i64) (by omega), by rw [e]; exact hm, by rw [e]; exact ho, hbl, hsz⟩
      | true =>
        go_wp2_with (first
          | (go_at_call 13; refine (parent_any hT _).mono ?_; rintro e w' ⟨rfl, rfl⟩)
          | (refine wpList_lookup rfl _ _ 26 false rfl intK Try.underlying26 _ (zeroB _) _ rfl _ hm _ rfl (.bool true) (by rw [kget_trues, hmem]) ?_)
          | (refine wpList_update rfl _ _ _ 26 (Or.inl rfl) intK Try.underlying26 _ rfl _ hm _ rfl true rfl ?_; intro w2 hm2 hf2
             have ho2 := hf2.row ho (fun k hk e => hm.ne_row ho (by rw [← e]; exact hk)))
          | (at_builtin; refine wpList_app rfl _ _ 29 rfl intE w.heap.size _ _ _ (ho2.alloc _) rfl ⟨_, 0, none⟩ 1 1 rfl [.int .i64 (n + i + 1)] rfl (news_last _ _ _ _ rfl _ (by simp)) (by simp [Value.oneCell']) (by omega) (by unfold maxLen; omega) (by omega) (by have := hf2.size; simp; omega) ?_; intro g cap w3 ho3 hf3 hg3))
        go_roundg (gk - 1)
        case measure => have := HG.out; omega
        case rel =>
          have hg := HG.out
          have e : Tk.underN l n (i + 1) = Tk.underN l n i ++ [n + i + 1] := by rw [Tk.underN, if_pos (by simpa [memB] using hmem)]
          have hk : n + i + 1 ∉ n :: Tk.underN l n i := by
            intro hk
            rcases List.mem_cons.1 hk with hk | hk
            · omega
            · have := Tk.underN_lt l n i _ hk; omega
          rw [kput_trues hk] at hm2
          refine ⟨i + 1, by omega, congrArg (Value.int .i64) (by omega), ?_, ?_, ?_, ?_⟩
          · rw [e]; exact (hm2.alloc _).fr hf3 (hm.ne_row ho)
          · rw [e, List.length_append, ints_append]; exact ho3
          · exact Fr.below ((Fr.below hbl hf2 (by omega) (by omega)).alloc (by have := hf2.size; omega) _) hf3 (by have := hf2.size; simp; omega) (fun k hk => (ho.lt k hk).1)
          · have := hf2.size; have := hf3.size; simp at this; omega
    · go_wp2
      go_ret
      have hg := HG.out
      have e : ((l.length : Int) - n).toNat = i := by omega
      exact ⟨_, rfl, by rw [Tk.under, e]; exact ho, hbl⟩
end
end Go.Proofs.Ytjjpadifidbkhaa
