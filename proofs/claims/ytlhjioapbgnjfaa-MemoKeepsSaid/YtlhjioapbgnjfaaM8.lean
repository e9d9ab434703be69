/- DERIVED. MemoKeeps: what was kept, and what is old, in plain words. -/
import Derived.Test.YtlhjioapbgnjfaaMq
namespace Go.Proofs.Ytlhjioapbgnjfaa
set_option linter.unusedSimpArgs false
set_option linter.unusedVariables false
open Go Sl Cv Go.RowKit
theorem sub_len : ∀ {A B : List SK}, A.Nodup → (∀ x ∈ A, x ∈ B) → A.length ≤ B.length
  | [], _, _, _ => Nat.zero_le _
  | d :: ds, B, hn, h => by
    have hn' := List.nodup_cons.1 hn
    have h1 := sub_len (A := ds) (B := fil B d) hn'.2 fun x hx => by
      simp only [fil, List.mem_filter]
      exact ⟨h x (by simp [hx]), by simp; rintro rfl; exact hn'.1 hx⟩
    have h2 : (fil B d).length < B.length := List.length_filter_lt_length_iff_exists.2 ⟨d, h d (by simp), by simp⟩
    rw [List.length_cons]; omega
/-- A memo and the keys that were kept. -/
structure KI (S : MS) (U : List (SK × Bool)) : Prop where
  nd : (U.map Prod.fst).Nodup
  sub : ∀ k ∈ kys S.K, k ∈ U.map Prod.fst
  all : (U.length : Int) ≤ S.c.ent → ∀ k ∈ U.map Prod.fst, k ∈ kys S.K
theorem KI.zero (c : CF) : KI (mNew0 c) [] := ⟨by simp, by simp [mNew0, kys], by simp⟩
theorem KI.at {S : MS} {U : List (SK × Bool)} (h : KI S U) (now : Int) : KI (mAt S now) U := ⟨h.nd, h.sub, h.all⟩
theorem KI.len {S : MS} {U : List (SK × Bool)} (h : KI S U) (hS : MOk S) (hl : (U.length : Int) ≤ S.c.ent) : S.K.length = U.length := by
  have h1 := sub_len hS.nd h.sub
  have h2 := sub_len h.nd (h.all hl)
  simp [kys] at h1 h2
  omega
theorem kput_mem (U : List (SK × Bool)) (k x : SK) : x ∈ (kput U k true).map Prod.fst ↔ x = k ∨ x ∈ U.map Prod.fst := by
  rw [kput_keys]
  split
  · constructor
    · exact .inr
    · rintro (rfl | h)
      · assumption
      · exact h
  · rw [List.mem_append, List.mem_singleton, or_comm]
theorem KI.keep {S : MS} {U : List (SK × Bool)} (h : KI S U) (hS : MOk S) (now : Int) (k : SK) (u : OT) : KI (mKeep S now k u) (kput U k true) := by
  have hn := kput_nodup h.nd k true
  have hw := wo_snoc_nd hS.nd ⟨k, u, now⟩
  have hm : ∀ x, x ∈ kys (wo S.K k ++ [(⟨k, u, now⟩ : KP)]) ↔ x = k ∨ x ∈ kys S.K := fun x => by
    rw [kys_app, kys_wo, List.mem_append]
    simp only [fil, List.mem_filter]
    by_cases e : x = k
    · simp [e, kys]
    · simp [e]; simp [kys, e]
  refine ⟨hn, fun x hx => ?_, fun hl x hx => ?_⟩
  · obtain ⟨y, hy, rfl⟩ := List.mem_map.1 hx
    rw [kput_mem]
    rcases keepK_mem hy with rfl | hy
    · exact .inl rfl
    · exact .inr (h.sub _ (List.mem_map.2 ⟨y, hy, rfl⟩))
  · have hUl : U.length ≤ (kput U k true).length := by
      have := sub_len h.nd (B := (kput U k true).map Prod.fst) fun x hx => (kput_mem U k x).2 (.inr hx)
      simpa using this
    have ha := h.all (by change ((kput U k true).length : Int) ≤ S.c.ent at hl; omega)
    have hlen : (wo S.K k ++ [(⟨k, u, now⟩ : KP)]).length ≤ (kput U k true).length := by
      have := sub_len hw (B := (kput U k true).map Prod.fst) fun x hx => (kput_mem U k x).2 (((hm x).1 hx).imp id fun hx => h.sub x hx)
      simpa [kys] using this
    have e : (mKeep S now k u).K = wo S.K k ++ [(⟨k, u, now⟩ : KP)] := by
      have : ((wo S.K k ++ [(⟨k, u, now⟩ : KP)]).length : Int) ≤ S.c.ent := by change ((kput U k true).length : Int) ≤ S.c.ent at hl; omega
      exact if_pos this
    rw [e, hm]
    exact ((kput_mem U k x).1 hx).imp id fun hx => ha x hx
/-- What was old stays old. -/
theorem how_mono (c : CF) (x : KP) {a b : Int} (hab : a ≤ b) (h : how c a x = 3) : how c b x = 3 := by
  unfold how at h ⊢
  by_cases hk : x.out.k = 0
  · rw [if_pos hk] at h ⊢
    by_cases h1 : a - x.at_ < c.ttl
    · rw [if_pos h1] at h; cases h
    · rw [if_neg h1] at h
      by_cases h2 : a - x.at_ < c.ttl + c.stale
      · rw [if_pos h2] at h; cases h
      · rw [if_neg (by omega), if_neg (by omega)]
  · rw [if_neg hk] at h ⊢
    by_cases h1 : a - x.at_ < c.neg
    · rw [if_pos h1] at h; cases h
    · rw [if_neg (by omega)]
structure OO (c : CF) (K : List KP) (O : List (SK × Bool)) (now : Int) : Prop where
  old : ∀ x ∈ K, kget O x.key = some true → how c now x = 3
theorem OO.nil (c : CF) (K : List KP) (now : Int) : OO c K [] now := ⟨fun x _ h => by simp [kget] at h⟩
theorem OO.mono {c : CF} {K : List KP} {O : List (SK × Bool)} {a b : Int} (h : OO c K O a) (hab : a ≤ b) : OO c K O b := ⟨fun x hx hg => how_mono c x hab (h.old x hx hg)⟩
theorem OO.put {c : CF} {K : List KP} {O : List (SK × Bool)} {now : Int} (h : OO c K O now) (hd : (kys K).Nodup) {x : KP} (hx : x ∈ K) : OO c K (kput O x.key (decide (how c now x = 3))) now := by
  refine ⟨fun y hy hg => ?_⟩
  rw [kget_kput] at hg
  by_cases e : x.key = y.key
  · rw [if_pos e] at hg
    have h1 := fnd_mem hd hx
    have h2 := fnd_mem hd hy
    rw [e, h2] at h1
    injection h1 with h1
    subst h1
    injection hg with hg
    exact of_decide_eq_true hg
  · rw [if_neg e] at hg
    exact h.old y hy hg
/-- How an entry is, in words of the law. -/
theorem how_val (c : CF) (now : Int) (x : KP) (hr : rightO x.out = true) :
    (x.out.k = 0 ∧ x.out.c = 0 ∧ x.out.r = 0 ∧ (now - x.at_ < c.ttl ∧ how c now x = 1 ∨ ¬ now - x.at_ < c.ttl ∧ (how c now x = 2 ∨ how c now x = 3))) ∨ (¬ x.out.k = 0 ∧ (how c now x = 1 ∨ how c now x = 3)) := by
  by_cases hk : x.out.k = 0
  · left
    have : okF x.out = true := by unfold rightO at hr; simp at hr; exact hr.1
    unfold okF at this
    rw [if_pos (.inl hk)] at this
    simp at this
    refine ⟨hk, this.1, this.2, ?_⟩
    unfold how
    rw [if_pos hk]
    by_cases h1 : now - x.at_ < c.ttl
    · rw [if_pos h1]; exact .inl ⟨h1, rfl⟩
    · rw [if_neg h1]; refine .inr ⟨h1, ?_⟩; split
      · exact .inl rfl
      · exact .inr rfl
  · right
    refine ⟨hk, ?_⟩
    unfold how
    rw [if_neg hk]
    split
    · exact .inl rfl
    · exact .inr rfl
end Go.Proofs.Ytlhjioapbgnjfaa
