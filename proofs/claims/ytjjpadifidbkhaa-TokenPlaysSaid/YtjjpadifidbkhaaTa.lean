/- DERIVED. Tokens: the list of tokens. No program here. -/
import Derived.Test.YtjjpadifidbkhaaTy
import Derived.Test.YtjjpadifidbkhaaVm
import Derived.Test.YtjjpadifidbkhaaVy
namespace Go.Proofs.Ytjjpadifidbkhaa
open Go Sl Cv Go.RowKit
structure T3 where
  parent : Int
  holders : Int
  why : Int
  deriving DecidableEq

def tenc (x : T3) : List Value := [.int .i64 x.parent, .int .i64 x.holders, .int .i64 x.why]
theorem tenc_len (x : T3) : (tenc x).length = 3 := rfl

namespace Tk
def ok (l : List T3) (n : Int) : Prop := 1 ≤ n ∧ n ≤ l.length
instance (l : List T3) (n : Int) : Decidable (ok l n) := inferInstanceAs (Decidable (_ ∧ _))
/-- Where token n stands in the list. -/
def ix (n : Int) : Nat := (n - 1).toNat
def at_ (l : List T3) (n : Int) : T3 := if ok l n then l.getD (ix n) ⟨0, 0, 0⟩ else ⟨0, 0, 0⟩
end Tk

section
variable {l : List T3}
theorem tok_at {n : Int} (hn : Tk.ok l n) : ∃ h : Tk.ix n < l.length, Tk.at_ l n = l[Tk.ix n] := by
  have : Tk.ix n < l.length := by unfold Tk.ok at hn; unfold Tk.ix; omega
  exact ⟨this, by rw [Tk.at_, if_pos hn, List.getD, List.getElem?_eq_getElem this]; rfl⟩

end
/-! ### all that hang on one -/
namespace Tk
def underN (l : List T3) (n : Int) : Nat → List Int
  | 0 => []
  | i + 1 => if (at_ l (n + i + 1)).parent ∈ n :: underN l n i then underN l n i ++ [n + i + 1] else underN l n i
def under (l : List T3) (n : Int) : List Int := underN l n (l.length - n).toNat

theorem underN_lt (l : List T3) (n : Int) (i : Nat) : ∀ x ∈ underN l n i, n < x ∧ x ≤ n + i := by
  induction i with
  | zero => intro x hx; simp [underN] at hx
  | succ i ih =>
    intro x hx
    rw [underN] at hx
    split at hx
    · rcases List.mem_append.1 hx with hx | hx
      · have := ih x hx; omega
      · simp at hx; omega
    · have := ih x hx; omega

theorem underN_len (l : List T3) (n : Int) (i : Nat) : (underN l n i).length ≤ i := by
  induction i with
  | zero => simp [underN]
  | succ i ih => rw [underN]; split
                 · rw [List.length_append, List.length_singleton]; omega
                 · omega
end Tk

def trues (l : List Int) : List (Int × Bool) := l.map fun k => (k, true)
/-- Is k in the list? (A name that the walk does not open.) -/
def memB (k : Int) (l : List Int) : Bool := decide (k ∈ l)
theorem kget_trues (l : List Int) (k : Int) : (if false = true then Value.tuple #[((kget (trues l) k).elim (.bool false) Value.bool), .bool (kget (trues l) k).isSome] else (kget (trues l) k).elim (.bool false) Value.bool) = .bool (memB k l) := by
  simp only [Bool.false_eq_true, if_false]
  unfold memB
  induction l with
  | nil => simp [trues, kget]
  | cons a r ih =>
    by_cases h : a = k
    · subst h; simp [trues, kget]
    · simp only [trues, List.map_cons, kget, h, if_false, List.mem_cons, Ne.symm h, false_or]
      exact ih
theorem trues_keys (l : List Int) : (trues l).map Prod.fst = l := by
  unfold trues
  induction l with
  | nil => rfl
  | cons a r ih => rw [List.map_cons, List.map_cons, ih]
theorem kput_trues {l : List Int} {k : Int} (h : k ∉ l) : kput (trues l) k true = trues (l ++ [k]) := by
  rw [kput_fresh true (by rw [trues_keys]; exact h)]; simp [trues]

namespace Tk
def liveN (l : List T3) : Nat → List Int
  | 0 => []
  | i + 1 => if (at_ l ((i : Int) + 1)).why = 0 then liveN l i ++ [(i : Int) + 1] else liveN l i
def live (l : List T3) : List Int := liveN l l.length
theorem liveN_len (l : List T3) (i : Nat) : (liveN l i).length ≤ i := by
  induction i with
  | zero => simp [liveN]
  | succ i ih => rw [liveN]; split
                 · rw [List.length_append, List.length_singleton]; omega
                 · omega

def put (l : List T3) (n : Int) (x : T3) : List T3 := l.set (ix n) x
theorem put_len (l : List T3) (n : Int) (x : T3) : (put l n x).length = l.length := by simp [put]
theorem ok_put (l : List T3) (n : Int) (x : T3) (m : Int) : ok (put l n x) m ↔ ok l m := by simp [ok, put]
theorem at_put {l : List T3} {n : Int} (hn : ok l n) (x : T3) {m : Int} (hm : 1 ≤ m) : at_ (put l n x) m = if m = n then x else at_ l m := by
  have h1 : ix n < l.length := by unfold ok at hn; unfold ix; omega
  by_cases h : ok l m
  · have h2 : ix m < l.length := by unfold ok at h; unfold ix; omega
    rw [at_, if_pos ((ok_put l n x m).2 h), at_, if_pos h]
    simp only [List.getD, put, List.getElem?_set, h1, if_true]
    by_cases e : m = n
    · subst e; simp
    · have : ix n ≠ ix m := by unfold ok at hn; unfold ix; omega
      simp [e, this]
  · have : m ≠ n := fun e => h (e ▸ hn)
    rw [at_, if_neg (fun h' => h ((ok_put l n x m).1 h')), at_, if_neg h, if_neg this]

/-- one step of a Cancel of n: token k -/
def hit (n : Int) (s : List T3 × List Int) (k : Int) : List T3 × List Int :=
  if (at_ s.1 k).why = 0 then (put s.1 k { at_ s.1 k with why := n }, s.2 ++ [k]) else s
def cancelN (l : List T3) (n : Int) (i : Nat) : List T3 × List Int := ((n :: under l n).take i).foldl (hit n) (l, [])
def cancel (l : List T3) (n : Int) : List T3 × List Int := (n :: under l n).foldl (hit n) (l, [])

theorem hit_len (n : Int) (s : List T3 × List Int) (k : Int) : (hit n s k).1.length = s.1.length ∧ (hit n s k).2.length ≤ s.2.length + 1 := by
  unfold hit
  split
  · simp [put_len]
  · simp
theorem foldl_hit_len (n : Int) (ks : List Int) : ∀ s : List T3 × List Int, (ks.foldl (hit n) s).1.length = s.1.length ∧ (ks.foldl (hit n) s).2.length ≤ s.2.length + ks.length := by
  induction ks with
  | nil => intro s; simp
  | cons k r ih =>
    intro s
    have h1 := ih (hit n s k)
    have h2 := hit_len n s k
    simp only [List.foldl_cons, List.length_cons]
    omega
theorem cancelN_len (l : List T3) (n : Int) (i : Nat) : (cancelN l n i).1.length = l.length ∧ (cancelN l n i).2.length ≤ i := by
  have := foldl_hit_len n ((n :: under l n).take i) (l, [])
  have h2 := List.length_take_le i (n :: under l n)
  unfold cancelN
  simp at this ⊢
  omega
theorem cancelN_succ {l : List T3} {n : Int} {i : Nat} {k : Int} (h : (n :: under l n)[i]? = some k) : cancelN l n (i + 1) = hit n (cancelN l n i) k := by
  unfold cancelN
  rw [List.take_add_one, h]
  simp [List.foldl_append]
theorem cancelN_all {l : List T3} {n : Int} {i : Nat} (h : (n :: under l n).length ≤ i) : cancelN l n i = cancel l n := by
  unfold cancelN cancel
  rw [List.take_of_length_le h]
theorem under_ok {l : List T3} {n : Int} (hn : ok l n) : ∀ k ∈ n :: under l n, ok l k := by
  intro k hk
  unfold ok at *
  rcases List.mem_cons.1 hk with rfl | hk
  · exact hn
  · have := underN_lt l n _ k hk
    omega
theorem under_len (l : List T3) (n : Int) : (under l n).length ≤ (l.length - n).toNat := underN_len l n _

def make (l : List T3) (n : Int) : List T3 × Int × Int :=
  if n ≠ 0 ∧ ¬ ok l n then (l, 0, 60) else if 65536 ≤ l.length then (l, 0, 3) else (l ++ [⟨n, 0, (at_ l n).why⟩], l.length + 1, 0)
def hold (l : List T3) (n : Int) : List T3 := if ok l n then put l n { at_ l n with holders := (at_ l n).holders + 1 } else l
def holdE (l : List T3) (n : Int) : Int := if ok l n then 0 else 60
def drop (l : List T3) (n : Int) : List T3 := put l n { at_ l n with holders := (at_ l n).holders - 1 }
def letE (l : List T3) (n : Int) : List T3 × List Int × Int :=
  if ¬ ok l n then (l, [], 60) else if (at_ l n).holders = 0 then (l, [], 61) else
  if 0 < (at_ l n).holders - 1 then (drop l n, [], 0) else ((cancel (drop l n) n).1, (cancel (drop l n) n).2, 0)
end Tk

end Go.Proofs.Ytjjpadifidbkhaa
