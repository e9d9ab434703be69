/- DERIVED. Keys that were used last: the plain law of MemoRecent. -/
import Derived.Test.YtlhjioapbgnjfaaOv
namespace Go.Proofs.Ytlhjioapbgnjfaa
set_option linter.unusedSimpArgs false
set_option linter.unusedVariables false
open Go Sl Cv Go.RowKit
theorem fil_mem {K : List SK} {k x : SK} : x ∈ fil K k ↔ x ∈ K ∧ x ≠ k := by simp [fil]
theorem fil_rev (K : List SK) (k : SK) : fil K.reverse k = (fil K k).reverse := by simp [fil, List.filter_reverse]
theorem fil_cons_eq (K : List SK) (k : SK) : fil (k :: K) k = fil K k := by simp [fil]
theorem fil_cons_ne {K : List SK} {k x : SK} (h : x ≠ k) : fil (x :: K) k = x :: fil K k := by simp [fil, h]
theorem fil_nd {K : List SK} {k : SK} (h : K.Nodup) : (fil K k).Nodup := h.filter _
/-- Keys, the one that was used last ahead; each once. -/
def dk : List SK → List SK
  | [] => []
  | k :: r => k :: fil (dk r) k
theorem dk_mem : ∀ {R : List SK} {x : SK}, x ∈ dk R ↔ x ∈ R
  | [], x => by simp [dk]
  | k :: r, x => by
    by_cases e : x = k
    · simp [dk, e]
    · simp [dk, fil_mem, dk_mem (R := r), e]
theorem dk_nd : ∀ R : List SK, (dk R).Nodup
  | [] => List.nodup_nil
  | k :: r => List.nodup_cons.2 ⟨fun h => (fil_mem.1 h).2 rfl, fil_nd (dk_nd r)⟩
theorem dk_pre : ∀ (R : List SK) (j : Nat), dk (R.take j) <+: dk R
  | [], j => by simp [dk]
  | k :: r, 0 => by simp [dk]
  | k :: r, j + 1 => by
    rw [List.take_succ_cons, dk, dk, List.prefix_cons_inj]
    exact (dk_pre r j).filter _
theorem dk_snoc : ∀ (A : List SK) (x : SK), (dk (A ++ [x])).length ≤ (dk A).length + 1 ∧ (x ∈ A → dk (A ++ [x]) = dk A)
  | [], x => by simp [dk, fil]
  | k :: r, x => by
    obtain ⟨h1, h2⟩ := dk_snoc r x
    rw [List.cons_append, dk, dk]
    by_cases hx : x ∈ r
    · rw [h2 hx]; exact ⟨by simp, fun _ => rfl⟩
    · have hp : dk r <+: dk (r ++ [x]) := by have := dk_pre (r ++ [x]) r.length; rwa [List.take_left] at this
      obtain ⟨t, ht⟩ := hp
      have hl : t.length ≤ 1 := by rw [← ht, List.length_append] at h1; omega
      have hxt : x ∈ t := by
        have : x ∈ dk (r ++ [x]) := dk_mem.2 (by simp)
        rw [← ht] at this
        rcases List.mem_append.1 this with h | h
        · exact absurd (dk_mem.1 h) hx
        · exact h
      have hte : t = [x] := by
        match t, hl, hxt with
        | [y], _, h => simp at h; rw [h]
        | [], _, h => simp at h
        | _ :: _ :: _, h, _ => simp at h
      subst hte
      rw [← ht]
      have hf : fil (dk r ++ [x]) k = fil (dk r) k ++ fil [x] k := by simp [fil]
      rw [hf]
      by_cases e : x = k
      · subst e
        have : fil [x] x = [] := by simp [fil]
        rw [this]; exact ⟨by simp, fun _ => by simp⟩
      · have : fil [x] k = [x] := by simp [fil, e]
        rw [this]
        refine ⟨by simp, fun h => ?_⟩
        rcases List.mem_cons.1 h with h | h
        · exact absurd h e
        · exact absurd h hx
/-- A key is put ahead of a list that holds each once. -/
theorem take_fil_in : ∀ (D : List SK) (n : Nat) (k : SK), D.Nodup → k ∈ D.take n → fil (D.take n) k = (fil D k).take (n - 1)
  | [], n, k, _, h => by simp at h
  | x :: D, 0, k, _, h => by simp at h
  | x :: D, n + 1, k, hd, h => by
    have hd' := List.nodup_cons.1 hd
    rw [List.take_succ_cons] at h ⊢
    by_cases e : x = k
    · subst e
      have h1 : x ∉ D.take n := fun hh => hd'.1 (List.mem_of_mem_take hh)
      rw [fil_cons_eq, fil_cons_eq, fil_not h1, fil_not hd'.1]; simp
    · have hk : k ∈ D.take n := by
        rcases List.mem_cons.1 h with h | h
        · exact absurd h.symm e
        · exact h
      rw [fil_cons_ne e, fil_cons_ne e, take_fil_in D n k hd'.2 hk]
      cases n with
      | zero => simp at hk
      | succ n => simp
theorem take_fil_out : ∀ (D : List SK) (n : Nat) (k : SK), k ∉ D.take n → (fil D k).take n = D.take n
  | [], n, k, _ => by simp [fil]
  | x :: D, 0, k, _ => by simp
  | x :: D, n + 1, k, h => by
    rw [List.take_succ_cons] at h ⊢
    have e : x ≠ k := fun e => h (by simp [e])
    have hk : k ∉ D.take n := fun hh => h (List.mem_cons_of_mem _ hh)
    rw [fil_cons_ne e, List.take_succ_cons, take_fil_out D n k hk]
/-- What an order of n keys holds. -/
def held (n : Nat) (R : List SK) : List SK := ((dk R).take n).reverse
theorem held_use (n : Nat) (hn : 0 < n) (R : List SK) (k : SK) (hk : k.2.size ≤ 64) : (useK n (held n R) k).K = held n (k :: R) := by
  have hD := dk_nd R
  have hf : fil (held n R) k ++ [k] = (k :: fil ((dk R).take n) k).reverse := by rw [held, fil_rev]; simp
  obtain ⟨m, rfl⟩ : ∃ m, n = m + 1 := ⟨n - 1, by omega⟩
  rw [useK, if_neg (by omega), hf, held, dk, List.take_succ_cons]
  by_cases hm : k ∈ (dk R).take (m + 1)
  · have e := take_fil_in (dk R) (m + 1) k hD hm
    rw [e]
    have hl : (k :: (fil (dk R) k).take (m + 1 - 1)).reverse.length ≤ m + 1 := by simp; omega
    rw [if_pos (by exact_mod_cast hl)]
    simp
  · rw [fil_not hm]
    have ho := take_fil_out (dk R) (m + 1) k hm
    by_cases hl : (k :: (dk R).take (m + 1)).reverse.length ≤ m + 1
    · rw [if_pos (by exact_mod_cast hl)]
      have hlen : (dk R).length ≤ m := by simp at hl; omega
      have e1 : (dk R).take (m + 1) = dk R := List.take_of_length_le (by omega)
      rw [e1] at hm ⊢
      rw [fil_not hm, List.take_of_length_le hlen]
    · rw [if_neg (by intro h; exact hl (by exact_mod_cast h))]
      have hlen : m + 1 ≤ (dk R).length := by simp at hl; omega
      have e2 : (fil (dk R) k).take m = (dk R).take m := by
        have := congrArg (List.take m) ho
        rwa [List.take_take, List.take_take, Nat.min_eq_left (by omega)] at this
      rw [e2]
      have e3 : (dk R).take (m + 1) = (dk R).take m ++ [(dk R)[m]] := List.take_succ_eq_append_getElem (by omega)
      rw [List.reverse_cons, List.reverse_cons, e3, List.reverse_append]
      rfl
theorem held_len (n : Nat) (R : List SK) : (held n R).length = min n (dk R).length := by simp [held]
end Go.Proofs.Ytlhjioapbgnjfaa
