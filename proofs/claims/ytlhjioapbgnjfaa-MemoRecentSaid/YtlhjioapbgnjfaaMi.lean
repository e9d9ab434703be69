/- DERIVED. MemoRecent: how a memo stands behind what was used. -/
import Derived.Test.YtlhjioapbgnjfaaMh
namespace Go.Proofs.Ytlhjioapbgnjfaa
set_option linter.unusedSimpArgs false
set_option linter.unusedVariables false
open Go Sl Cv Go.RowKit
theorem sk_len_le : ∀ {A B : List SK}, A.Nodup → (∀ x ∈ A, x ∈ B) → A.length ≤ B.length
  | [], _, _, _ => Nat.zero_le _
  | d :: ds, B, hn, h => by
    have hn' := List.nodup_cons.1 hn
    have h1 := sk_len_le (A := ds) (B := fil B d) hn'.2 fun x hx => fil_mem.2 ⟨h x (by simp [hx]), fun e => hn'.1 (by rw [← e]; exact hx)⟩
    have h2 : (fil B d).length < B.length := List.length_filter_lt_length_iff_exists.2 ⟨d, h d (by simp), by simp⟩
    rw [List.length_cons]; omega
theorem sk_len_eq {A B : List SK} (ha : A.Nodup) (hb : B.Nodup) (h : ∀ x, x ∈ A ↔ x ∈ B) : A.length = B.length :=
  Nat.le_antisymm (sk_len_le ha fun x hx => (h x).1 hx) (sk_len_le hb fun x hx => (h x).2 hx)
/-- A memo's entries, and its keys. -/
structure MI (kv : List (SK × KP)) (K : List SK) : Prop where
  nd : (kv.map Prod.fst).Nodup
  dom : ∀ k, (kget kv k).isSome = true ↔ k ∈ K
  val : ∀ k x, kget kv k = some x → x.at_ = 0 ∧ x.out.k = 0
theorem MI.nil : MI [] [] := ⟨by simp, fun k => by simp [kget], fun k x h => by simp [kget] at h⟩
theorem MI.len {kv : List (SK × KP)} {K : List SK} (h : MI kv K) (hK : K.Nodup) : kv.length = K.length := by
  have := sk_len_eq h.nd hK fun x => by rw [← h.dom x, kget_isSome]
  simpa using this
theorem MI.put {kv : List (SK × KP)} {K : List SK} (h : MI kv K) (k : SK) (x : KP) (hx : x.at_ = 0 ∧ x.out.k = 0) : MI (kput kv k x) (fil K k ++ [k]) := by
  refine ⟨kput_nodup h.nd k x, fun y => ?_, fun y z hz => ?_⟩
  · rw [kget_kput]
    by_cases e : k = y
    · subst e; simp
    · rw [if_neg e, h.dom y, List.mem_append, fil_mem]; simp [Ne.symm e]
  · rw [kget_kput] at hz
    by_cases e : k = y
    · rw [if_pos e] at hz; injection hz with hz; rw [← hz]; exact hx
    · rw [if_neg e] at hz; exact h.val y z hz
theorem MI.del {kv : List (SK × KP)} {g : SK} {K : List SK} (h : MI kv (g :: K)) (hd : (g :: K).Nodup) : MI (kdel kv g) K := by
  have hd' := List.nodup_cons.1 hd
  refine ⟨kdel_nodup h.nd g, fun y => ?_, fun y z hz => ?_⟩
  · rw [kget_kdel h.nd]
    by_cases e : g = y
    · subst e; simp [hd'.1]
    · rw [if_neg e, h.dom y, List.mem_cons]; simp [Ne.symm e]
  · rw [kget_kdel h.nd] at hz
    by_cases e : g = y
    · rw [if_pos e] at hz; cases hz
    · rw [if_neg e] at hz; exact h.val y z hz
theorem fil_app_nd {K : List SK} {k : SK} (h : K.Nodup) : (fil K k ++ [k]).Nodup :=
  List.nodup_append.2 ⟨fil_nd h, by simp, fun a ha b hb e => by simp at hb; subst hb; subst e; exact (fil_mem.1 ha).2 rfl⟩
theorem MI.room {kv : List (SK × KP)} {K : List SK} (h : MI kv K) {most : Int} {k : SK} (hk : k.2.size ≤ 64) (hb : (useK most K k).b = false) (x : KP) (hx : x.at_ = 0 ∧ x.out.k = 0) : MI (kput kv k x) (useK most K k).K := by
  unfold useK at hb ⊢
  rw [if_neg (by omega)] at hb ⊢
  by_cases hl : ((fil K k ++ [k]).length : Int) ≤ most
  · rw [if_pos hl]; exact h.put k x hx
  · rw [if_neg hl] at hb; cases hb
theorem MI.over {kv : List (SK × KP)} {K : List SK} (h : MI kv K) (hK : K.Nodup) {most : Int} {k : SK} (hk : k.2.size ≤ 64) (hb : (useK most K k).b = true) (x : KP) (hx : x.at_ = 0 ∧ x.out.k = 0) : MI (kdel (kput kv k x) (useK most K k).g) (useK most K k).K := by
  unfold useK at hb ⊢
  rw [if_neg (by omega)] at hb ⊢
  by_cases hl : ((fil K k ++ [k]).length : Int) ≤ most
  · rw [if_pos hl] at hb; cases hb
  · rw [if_neg hl]
    have hp := h.put k x hx
    have hn := fil_app_nd (k := k) hK
    obtain ⟨g, X, e⟩ : ∃ g X, fil K k ++ [k] = g :: X := by
      cases hh : fil K k ++ [k] with
      | nil => simp at hh
      | cons g X => exact ⟨g, X, rfl⟩
    rw [e] at hp hn ⊢
    exact hp.del hn
theorem held_nd (n : Nat) (R : List SK) : (held n R).Nodup := by
  unfold held
  exact List.pairwise_reverse.2 (List.Pairwise.imp (fun h e => h e.symm) ((dk_nd R).sublist (List.take_sublist _ _)))
theorem held_touch (n : Nat) (R : List SK) (k : SK) (hm : k ∈ held n R) : fil (held n R) k ++ [k] = held n (k :: R) := by
  have hf : fil (held n R) k ++ [k] = (k :: fil ((dk R).take n) k).reverse := by rw [held, fil_rev]; simp
  have hm' : k ∈ (dk R).take n := by simpa [held] using hm
  rw [hf, take_fil_in (dk R) n k (dk_nd R) hm', held, dk]
  cases n with
  | zero => simp at hm'
  | succ m => rw [List.take_succ_cons]; simp
/-- What was seen, going back. -/
structure SI (kvs : List (SK × Bool)) (R : List SK) (j n : Nat) : Prop where
  nd : (kvs.map Prod.fst).Nodup
  mem : ∀ k, k ∈ kvs.map Prod.fst ↔ k ∈ R.take j
  le : kvs.length ≤ n
theorem SI.len {kvs : List (SK × Bool)} {R : List SK} {j n : Nat} (h : SI kvs R j n) : kvs.length = (dk (R.take j)).length := by
  have := sk_len_eq h.nd (dk_nd (R.take j)) fun x => by rw [h.mem x, dk_mem]
  simpa using this
theorem SI.zero (R : List SK) (n : Nat) : SI [] R 0 n := ⟨by simp, by simp, Nat.zero_le _⟩
theorem SI.in_ {kvs : List (SK × Bool)} {R : List SK} {j n : Nat} (h : SI kvs R j n) (hj : j < R.length) (hl : kvs.length < n) : R[j] ∈ held n R := by
  have h1 := dk_snoc (R.take j) R[j]
  have e : R.take j ++ [R[j]] = R.take (j + 1) := (List.take_succ_eq_append_getElem hj).symm
  rw [e] at h1
  have h2 := dk_pre R (j + 1)
  have h0 : R[j] ∈ R.take j ++ [R[j]] := List.mem_append_right _ (List.mem_singleton.2 rfl)
  rw [e] at h0
  have h3 : R[j] ∈ dk (R.take (j + 1)) := dk_mem.2 h0
  rw [h.len] at hl
  have h4 : dk (R.take (j + 1)) = (dk R).take (dk (R.take (j + 1))).length := List.prefix_iff_eq_take.1 h2
  rw [h4] at h3
  have h5 : (dk R).take (dk (R.take (j + 1))).length <+: (dk R).take n := List.take_prefix_take_left (by omega)
  rw [held, List.mem_reverse]
  exact h5.subset h3
theorem SI.put {kvs : List (SK × Bool)} {R : List SK} {j n : Nat} (h : SI kvs R j n) (hj : j < R.length) (hl : kvs.length < n) : SI (kput kvs R[j] true) R (j + 1) n := by
  have e : R.take (j + 1) = R.take j ++ [R[j]] := List.take_succ_eq_append_getElem hj
  refine ⟨kput_nodup h.nd _ _, fun k => ?_, ?_⟩
  · rw [kput_keys, e]
    by_cases hm : R[j] ∈ kvs.map Prod.fst
    · rw [if_pos hm, h.mem k, List.mem_append]
      constructor
      · exact .inl
      · rintro (h1 | h1)
        · exact h1
        · simp at h1; rw [h1]; exact (h.mem _).1 hm
    · rw [if_neg hm, List.mem_append, List.mem_append, h.mem k]
  · have h1 := congrArg List.length (kput_keys kvs R[j] true)
    rw [List.length_map] at h1
    rw [h1]
    split
    · simp; omega
    · simp; omega
theorem SI.end_ {kvs : List (SK × Bool)} {R : List SK} {j n : Nat} (h : SI kvs R j n) (he : j = R.length ∨ n ≤ kvs.length) (hj : j ≤ R.length) : kvs.length = (held n R).length := by
  rw [held_len]
  have h1 := h.len
  have h2 := h.le
  have h3 := (dk_pre R j).length_le
  rcases he with rfl | he
  · rw [List.take_length] at h1; omega
  · omega
end Go.Proofs.Ytlhjioapbgnjfaa
