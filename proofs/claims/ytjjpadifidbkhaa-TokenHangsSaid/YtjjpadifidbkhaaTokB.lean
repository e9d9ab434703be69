/- DERIVED. Tokens (chapter 6): the methods that turn tokens, over a list of tokens. -/
import Derived.Test.YtjjpadifidbkhaaTokA
namespace Go.Proofs.Ytjjpadifidbkhaa
open Go.RowKit Cv

namespace Tk
def liveN (l : List T3) : Nat → List Int
  | 0 => []
  | i + 1 => if (at_ l ((i : Int) + 1)).why = 0 then liveN l i ++ [(i : Int) + 1] else liveN l i
def live (l : List T3) : List Int := liveN l l.length
theorem liveN_len (l : List T3) (i : Nat) : (liveN l i).length ≤ i := by
  induction i with
  | zero => simp [liveN]
  | succ i ih => rw [liveN]; split
                 · rw [List.length_append, List.length_singleton]; omega
                 · omega

def put (l : List T3) (n : Int) (x : T3) : List T3 := l.set (ix n) x
theorem put_len (l : List T3) (n : Int) (x : T3) : (put l n x).length = l.length := by simp [put]
theorem ok_put (l : List T3) (n : Int) (x : T3) (m : Int) : ok (put l n x) m ↔ ok l m := by simp [ok, put]
theorem at_put {l : List T3} {n : Int} (hn : ok l n) (x : T3) {m : Int} (hm : 1 ≤ m) : at_ (put l n x) m = if m = n then x else at_ l m := by
  have h1 : ix n < l.length := by unfold ok at hn; unfold ix; omega
  by_cases h : ok l m
  · have h2 : ix m < l.length := by unfold ok at h; unfold ix; omega
    rw [at_, if_pos ((ok_put l n x m).2 h), at_, if_pos h]
    simp only [List.getD, put, List.getElem?_set, h1, if_true]
    by_cases e : m = n
    · subst e; simp
    · have : ix n ≠ ix m := by unfold ok at hn; unfold ix; omega
      simp [e, this]
  · have : m ≠ n := fun e => h (e ▸ hn)
    rw [at_, if_neg (fun h' => h ((ok_put l n x m).1 h')), at_, if_neg h, if_neg this]

/-- one step of a Cancel of n: token k -/
def hit (n : Int) (s : List T3 × List Int) (k : Int) : List T3 × List Int :=
  if (at_ s.1 k).why = 0 then (put s.1 k { at_ s.1 k with why := n }, s.2 ++ [k]) else s
def cancelN (l : List T3) (n : Int) (i : Nat) : List T3 × List Int := ((n :: under l n).take i).foldl (hit n) (l, [])
def cancel (l : List T3) (n : Int) : List T3 × List Int := (n :: under l n).foldl (hit n) (l, [])

theorem hit_len (n : Int) (s : List T3 × List Int) (k : Int) : (hit n s k).1.length = s.1.length ∧ (hit n s k).2.length ≤ s.2.length + 1 := by
  unfold hit
  split
  · simp [put_len]
  · simp
theorem foldl_hit_len (n : Int) (ks : List Int) : ∀ s : List T3 × List Int, (ks.foldl (hit n) s).1.length = s.1.length ∧ (ks.foldl (hit n) s).2.length ≤ s.2.length + ks.length := by
  induction ks with
  | nil => intro s; simp
  | cons k r ih =>
    intro s
    have h1 := ih (hit n s k)
    have h2 := hit_len n s k
    simp only [List.foldl_cons, List.length_cons]
    omega
theorem cancelN_len (l : List T3) (n : Int) (i : Nat) : (cancelN l n i).1.length = l.length ∧ (cancelN l n i).2.length ≤ i := by
  have := foldl_hit_len n ((n :: under l n).take i) (l, [])
  have h2 := List.length_take_le i (n :: under l n)
  unfold cancelN
  simp at this ⊢
  omega
theorem cancelN_succ {l : List T3} {n : Int} {i : Nat} {k : Int} (h : (n :: under l n)[i]? = some k) : cancelN l n (i + 1) = hit n (cancelN l n i) k := by
  unfold cancelN
  rw [List.take_add_one, h]
  simp [List.foldl_append]
theorem cancelN_all {l : List T3} {n : Int} {i : Nat} (h : (n :: under l n).length ≤ i) : cancelN l n i = cancel l n := by
  unfold cancelN cancel
  rw [List.take_of_length_le h]
theorem under_ok {l : List T3} {n : Int} (hn : ok l n) : ∀ k ∈ n :: under l n, ok l k := by
  intro k hk
  unfold ok at *
  rcases List.mem_cons.1 hk with rfl | hk
  · exact hn
  · have := underN_lt l n _ k hk
    omega
theorem under_len (l : List T3) (n : Int) : (under l n).length ≤ (l.length - n).toNat := underN_len l n _

def make (l : List T3) (n : Int) : List T3 × Int × Int :=
  if n ≠ 0 ∧ ¬ ok l n then (l, 0, 60) else if 65536 ≤ l.length then (l, 0, 3) else (l ++ [⟨n, 0, (at_ l n).why⟩], l.length + 1, 0)
def hold (l : List T3) (n : Int) : List T3 := if ok l n then put l n { at_ l n with holders := (at_ l n).holders + 1 } else l
def holdE (l : List T3) (n : Int) : Int := if ok l n then 0 else 60
def drop (l : List T3) (n : Int) : List T3 := put l n { at_ l n with holders := (at_ l n).holders - 1 }
def letE (l : List T3) (n : Int) : List T3 × List Int × Int :=
  if ¬ ok l n then (l, [], 60) else if (at_ l n).holders = 0 then (l, [], 61) else
  if 0 < (at_ l n).holders - 1 then (drop l n, [], 0) else ((cancel (drop l n) n).1, (cancel (drop l n) n).2, 0)
end Tk

/-- The blocks of tokens. -/
def tfoot (p : Nat) (v : Value) (k : Nat) : Prop := k = p ∨ v.ownBlock = some k

section
variable {B : Nat} {w : World} {p : Nat} {v : Value} {l : List T3}

theorem Tok.fr {w' : World} {S : Nat → Prop} (h : Tok B w p v l) (hf : Fr S w w') (hn : ∀ k, tfoot p v k → ¬ S k) : Tok B w' p v l :=
  ⟨h.lo, hf.blk h.blk (hn p (.inl rfl)), hf.row h.row (fun k hk => hn k (.inr hk)), h.len⟩

theorem Tok.base (h : Tok B w p v l) : ∀ k, tfoot p v k → B ≤ k ∧ k < w.heap.size := by
  rintro k (rfl | hk)
  · exact ⟨h.lo, lt_of_blk h.blk⟩
  · exact h.row.lt k hk

theorem Tok.store {d cap : Nat} (h : Tok B w p (.slice (some ⟨d, 0, none⟩) l.length cap) l) {n : Int} (hn : Tk.ok l n) (j : Nat) (hj : j < 3) (u : Value) (x : T3) (hx : tenc x = (tenc (Tk.at_ l n)).set j u) :
    Tok B (w.setCell ⟨d, Tk.ix n * 3 + j, none⟩ u) p (.slice (some ⟨d, 0, none⟩) l.length cap) (Tk.put l n x) := by
  obtain ⟨hi, e⟩ := tok_at hn
  have hd : p ≠ d := by
    rcases h.shape with ⟨h1, _⟩ | ⟨d', cap', h1, h2⟩
    · cases h1
    · simp only [Value.slice.injEq, Option.some.injEq, Addr.mk.injEq, and_true, true_and] at h1
      exact fun e => h2 (h1.1 ▸ e.symm)
  refine ⟨h.lo, ?_, ?_, by rw [Tk.put_len]; exact h.len⟩
  · rw [Below.heap_setCell _ _ _ _ hd]; exact h.blk
  · have := (h.row.stored (Tk.ix n * 3 + j) u).1
    rw [Tk.put_len]
    rw [flat_set tenc_len l _ j hj hi u x (by rw [← e]; exact hx)] at this
    exact this

theorem Tok.frozenR {d cap : Nat} (h : Tok B w p (.slice (some ⟨d, 0, none⟩) l.length cap) l) (o : Nat) : w.frozen? ⟨d, o, none⟩ = false := h.row.frozenAt o

set_option maxHeartbeats 800000 in
theorem live_any (h : Tok B w p v l) :
    Calls Try.prog 16 #[.pointer (some ⟨p, 0, none⟩)] w fun e w' => ∃ r, e = .returned r ∧ w'.ownsRow w.heap.size 3 1 r (Tk.live l).length (ints (Tk.live l)) ∧ Below w.heap.size w w' := by
  have hb : l.length ≤ 65536 := h.len
  go_enter Try.func16, Try.ntmps16
  go_wp2_with fail
  go_loopg [3, 4] l.length (fun g out k wr => ∃ i : Nat, i + g = l.length ∧ k = .int .i64 ((i : Int) + 1) ∧ wr.ownsRow w.heap.size 3 1 out (Tk.liveN l i).length (ints (Tk.liveN l i)) ∧ Below w.heap.size w wr)
  case atStart => exact ⟨0, by omega, by simp, World.ownsRow_nil _ _ _ _, Below.refl _ _⟩
  case round =>
    obtain ⟨i, hg, rfl, ho, hbl⟩ := hrel
    have hT := h.below hbl
    have hU := Tk.liveN_len l i
    have HG := hide hg
    have hs := hbl.size
    have hi : i ≤ 65536 := by omega
    clear hg h
    by_cases hlt : (i : Int) + 1 ≤ l.length
    · cases hw : ((Tk.at_ l ((i : Int) + 1)).why == 0) with
      | false =>
        go_wp2_with (first
          | (go_at_call 12; refine (len_any hT).mono ?_; rintro e w' ⟨rfl, rfl⟩)
          | (go_at_call 15; refine (is_any hT _).mono ?_; rintro e w' ⟨rfl, rfl⟩))
        go_roundg (gk - 1)
        case measure => have := HG.out; omega
        case rel =>
          have hg := HG.out
          have e : Tk.liveN l (i + 1) = Tk.liveN l i := by rw [Tk.liveN, if_neg (by simpa using hw)]
          exact ⟨i + 1, by omega, congrArg (Value.int .i64) (by omega), by rw [e]; exact ho, hbl⟩
      | true =>
        go_wp2_with (first
          | (go_at_call 12; refine (len_any hT).mono ?_; rintro e w' ⟨rfl, rfl⟩)
          | (go_at_call 15; refine (is_any hT _).mono ?_; rintro e w' ⟨rfl, rfl⟩)
          | (at_builtin; refine wpList_app rfl _ _ 29 rfl intE w.heap.size _ _ _ (ho.alloc _) rfl ⟨_, 0, none⟩ 1 1 rfl [.int .i64 ((i : Int) + 1)] rfl (news_last _ _ _ _ rfl _ (by simp)) (by simp [Value.oneCell']) (by omega) (by unfold maxLen; omega) (by omega) (by simp; omega) ?_; intro g cap w3 ho3 hf3 hg3))
        go_roundg (gk - 1)
        case measure => have := HG.out; omega
        case rel =>
          have hg := HG.out
          have e : Tk.liveN l (i + 1) = Tk.liveN l i ++ [(i : Int) + 1] := by rw [Tk.liveN, if_pos (by simpa using hw)]
          refine ⟨i + 1, by omega, congrArg (Value.int .i64) (by omega), ?_, ?_⟩
          · rw [e, List.length_append, ints_append]; exact ho3
          · exact Fr.below (hbl.alloc hs _) hf3 (by simp; omega) (fun k hk => (ho.lt k hk).1)
    · go_wp2_with (go_at_call 12; refine (len_any hT).mono ?_; rintro e w' ⟨rfl, rfl⟩)
      go_ret
      have hg := HG.out
      have e : l.length = i := by omega
      exact ⟨_, rfl, by rw [Tk.live, e]; exact ho, hbl⟩

set_option maxHeartbeats 800000 in
theorem hold_any (h : Tok B w p v l) (n : Int) (hh : -1000000 ≤ (Tk.at_ l n).holders ∧ (Tk.at_ l n).holders ≤ 1000000) :
    Calls Try.prog 9 #[.pointer (some ⟨p, 0, none⟩), .int .i64 n] w fun e w' => e = .returned (.int .i64 (Tk.holdE l n)) ∧ Tok B w' p v (Tk.hold l n) ∧ Fr (tfoot p v) w w' := by
  by_cases hn : Tk.ok l n
  · rcases h.shape with ⟨rfl, rfl⟩ | ⟨d, cap, rfl, _⟩
    · unfold Tk.ok at hn; simp at hn; omega
    · obtain ⟨c0, c1, c2⟩ := h.cells hn
      have f1 := h.frozenR (Tk.ix n * 3 + 1)
      obtain ⟨h1, h2⟩ := hh
      go_enter Try.func9, Try.ntmps9
      go_wp2_with (go_at_call 26; refine (get_in h hn).mono ?_; rintro e w' ⟨rfl, rfl⟩)
      go_ret
      refine ⟨by rw [Tk.holdE, if_pos hn]; rfl, ?_, ?_⟩
      · rw [Tk.hold, if_pos hn]
        exact h.store hn 1 (by omega) _ _ rfl
      · exact (Fr.refl _ _).setCell (.inl (.inr rfl)) _
  · rw [Tk.holdE, if_neg hn, Tk.hold, if_neg hn]
    go_enter Try.func9, Try.ntmps9
    go_wp2_with (go_at_call 26; refine (get_out h hn).mono ?_; rintro e w' ⟨rfl, rfl⟩)
    go_ret
    exact ⟨rfl, h, Fr.refl _ _⟩
end
end Go.Proofs.Ytjjpadifidbkhaa
