/- DERIVED. Orders of keys: what they do, told by lists of keys. -/
import Derived.Test.YtlhjioapbgnjfaaOq
import Derived.Test.YtlhjioapbgnjfaaOu
namespace Go.Proofs.Ytlhjioapbgnjfaa
set_option linter.unusedSimpArgs false
set_option linter.unusedVariables false
open Go Sl Cv Go.RowKit

instance instMemSK (k : SK) (K : List SK) : Decidable (k ∈ K) := decidable_of_iff (K.any (fun x => decide (x = k)) = true) (by simp)
def fil (K : List SK) (k : SK) : List SK := K.filter (fun x => !decide (x = k))
/-- What Use does. -/
structure US where
  K : List SK
  g : SK
  b : Bool
  e : Int
def useK (most : Int) (K : List SK) (k : SK) : US :=
  if 64 < k.2.size then ⟨K, nok, false, 20⟩ else if ((fil K k ++ [k]).length : Int) ≤ most then ⟨fil K k ++ [k], nok, false, 0⟩ else ⟨(fil K k ++ [k]).tail, (fil K k ++ [k]).headD nok, true, 0⟩
theorem kget_mem {L : LL} {k : SK} : (∃ b, kget L k = some b) ↔ k ∈ Ks L := by
  rw [← Option.isSome_iff_exists]; exact kget_isSome
theorem kget_not {L : LL} {k : SK} (h : k ∉ Ks L) : kget L k = none := by
  cases hg : kget L k with
  | none => rfl
  | some b => exact absurd (kget_mem.1 ⟨b, hg⟩) h
theorem fil_not {K : List SK} {k : SK} (h : k ∉ K) : fil K k = K := List.filter_eq_self.2 fun x hx => by simp; rintro rfl; exact h hx
theorem ks_del : ∀ {L : LL} (k : SK), ((L.map Prod.fst).Nodup) → Ks (kdel L k) = fil (Ks L) k
  | [], _, _ => rfl
  | (a, u) :: r, k, h => by
    have hr := (List.nodup_cons.1 h)
    by_cases e : a = k
    · subst e
      have h1 : a ∉ Ks r := hr.1
      have h2 : kdel ((a, u) :: r) a = r := by simp [kdel]
      rw [h2]
      show Ks r = List.filter _ (a :: Ks r)
      rw [List.filter_cons]
      simp only [decide_true, Bool.not_true, Bool.false_eq_true, if_false]
      exact (fil_not h1).symm
    · have h2 : kdel ((a, u) :: r) k = (a, u) :: kdel r k := by simp [kdel, e]
      rw [h2]
      show a :: Ks (kdel r k) = List.filter _ (a :: Ks r)
      rw [List.filter_cons, ks_del k hr.2]
      simp [e, fil]
theorem ks_app (A B : LL) : Ks (A ++ B) = Ks A ++ Ks B := by simp [Ks]
theorem fil_len (K : List SK) (k : SK) : (fil K k).length ≤ K.length := List.length_filter_le _ _
theorem fil_mem_len : ∀ {K : List SK} {k : SK}, K.Nodup → k ∈ K → (fil K k).length + 1 = K.length
  | a :: K, k, hd, hm => by
    have hr := List.nodup_cons.1 hd
    by_cases e : a = k
    · subst e
      have : fil (a :: K) a = K := by
        show List.filter _ (a :: K) = K
        rw [List.filter_cons]
        simp only [decide_true, Bool.not_true, Bool.false_eq_true, if_false]
        exact fil_not hr.1
      rw [this]; rfl
    · have hm' : k ∈ K := by rcases List.mem_cons.1 hm with h | h; exact absurd h.symm e; exact h
      have h2 : fil (a :: K) k = a :: fil K k := by
        show List.filter _ (a :: K) = _
        rw [List.filter_cons]; simp [e, fil]
      rw [h2]
      have := fil_mem_len hr.2 hm'
      simp; omega

section
variable (p m : Nat) (most : Int) (kv L : LL) (F : List HP) (k : SK)
theorem has_spec (h : OI kv L) : Sp Try.prog 54 [ptr p, skv k] (ord p m most kv L F) fun r M => r = .bool (decide (k ∈ Ks L)) ∧ M = ord p m most kv L F := by
  by_cases hk : k ∈ Ks L
  · obtain ⟨b, hb⟩ := kget_mem.2 hk
    rw [decide_eq_true hk]
    exact has_yes p m most kv L F k h hb
  · rw [decide_eq_false hk]
    exact has_no p m most kv L F k h (kget_not hk)
theorem touch_spec (h : OI kv L) : Sp Try.prog 30 [ptr p, skv k] (ord p m most kv L F) fun r M => ∃ L', OI kv L' ∧ Ks L' = (if k ∈ Ks L then fil (Ks L) k ++ [k] else Ks L) ∧ r = .bool (decide (k ∈ Ks L)) ∧ M = ord p m most kv L' F := by
  by_cases hk : k ∈ Ks L
  · obtain ⟨b, hb⟩ := kget_mem.2 hk
    rw [decide_eq_true hk, if_pos hk]
    refine Sp.mono (touch_yes p m most kv L F k h hb) ?_
    rintro r M ⟨rfl, rfl⟩
    exact ⟨_, h.mv hb, by rw [ks_app, ks_del k h.nd]; rfl, rfl, rfl⟩
  · rw [decide_eq_false hk, if_neg hk]
    refine Sp.mono (touch_no p m most kv L F k h (kget_not hk)) ?_
    rintro r M ⟨rfl, rfl⟩
    exact ⟨L, h, rfl, rfl, rfl⟩
theorem drop_spec (h : OI kv L) : Sp Try.prog 47 [ptr p, skv k] (ord p m most kv L F) fun r M => ∃ kv' L', OI kv' L' ∧ Ks L' = fil (Ks L) k ∧ r = .bool (decide (k ∈ Ks L)) ∧ M = ord p m most kv' L' F := by
  by_cases hk : k ∈ Ks L
  · obtain ⟨b, hb⟩ := kget_mem.2 hk
    rw [decide_eq_true hk]
    refine Sp.mono (drop_yes p m most kv L F k h hb) ?_
    rintro r M ⟨rfl, rfl⟩
    exact ⟨_, _, h.del hb, ks_del k h.nd, rfl, rfl⟩
  · rw [decide_eq_false hk]
    refine Sp.mono (drop_no p m most kv L F k h (kget_not hk)) ?_
    rintro r M ⟨rfl, rfl⟩
    exact ⟨kv, L, h, (fil_not hk).symm, rfl, rfl⟩
theorem oldest_spec : Sp Try.prog 58 [ptr p] (ord p m most kv L F) fun r M => r = .tuple #[skv ((Ks L).headD nok), .bool (!(Ks L).isEmpty)] ∧ M = ord p m most kv L F := by
  cases L with
  | nil => exact oldest_no p m most kv F
  | cons x R => exact oldest_yes p m most kv R F x.1 x.2
theorem use_spec (h : OI kv L) (hm : 0 ≤ most) (hl : (L.length : Int) ≤ most) : Sp Try.prog 35 [ptr p, skv k] (ord p m most kv L F) fun r M => ∃ kv' L', OI kv' L' ∧ Ks L' = (useK most (Ks L) k).K ∧ r = .tuple #[skv (useK most (Ks L) k).g, .bool (useK most (Ks L) k).b, .int .i64 (useK most (Ks L) k).e] ∧ M = ord p m most kv' L' F := by
  have hnd : (Ks L).Nodup := h.nd
  by_cases hs : 64 < k.2.size
  · rw [useK, if_pos hs]
    have hc : chk k = 20 := by rw [chk, if_neg (by omega)]
    have := use_bad p m most kv L F k (by rw [hc]; decide)
    rw [hc] at this
    refine Sp.mono this ?_
    rintro r M ⟨rfl, rfl⟩
    exact ⟨kv, L, h, rfl, rfl, rfl⟩
  · rw [useK, if_neg hs]
    have hc : chk k = 0 := by rw [chk, if_pos (by omega)]
    by_cases hk : k ∈ Ks L
    · obtain ⟨b, hb⟩ := kget_mem.2 hk
      have hlen := fil_mem_len hnd hk
      rw [if_pos (by rw [List.length_append]; simp; rw [ks_len] at hlen; omega)]
      refine Sp.mono (use_old p m most kv L F k hc h hb) ?_
      rintro r M ⟨rfl, rfl⟩
      exact ⟨_, _, h.mv hb, by rw [ks_app, ks_del k h.nd]; rfl, rfl, rfl⟩
    · have hg := kget_not hk
      rw [fil_not hk]
      by_cases hle : (L.length : Int) + 1 ≤ most
      · rw [if_pos (by rw [List.length_append, ks_len]; simp; omega)]
        refine Sp.mono (use_new p m most kv L F k hc h hg hle) ?_
        rintro r M ⟨b, rfl, rfl⟩
        exact ⟨_, _, h.new b hg, by rw [ks_app]; rfl, rfl, rfl⟩
      · rw [if_neg (by rw [List.length_append, ks_len]; simp; omega)]
        refine Sp.mono (use_over p m most kv L F k hc h hg (by omega) hm) ?_
        rintro r M ⟨b, g, c, R, hR, rfl, rfl⟩
        have hn := h.new b hg
        have hgg : kget (L ++ [(k, b)]) g = some c := by rw [hR]; simp [kget]
        have hK : Ks L ++ [k] = g :: Ks R := by
          have : Ks (L ++ [(k, b)]) = g :: Ks R := by rw [hR]; rfl
          rw [ks_app] at this
          exact this
        have hgr : g ∉ Ks R := by
          have := hn.nd
          rw [hR] at this
          exact (List.nodup_cons.1 this).1
        refine ⟨_, _, hn.del hgg, ?_, by rw [hK]; rfl, rfl⟩
        rw [ks_del g hn.nd, ks_app, show Ks L ++ Ks [(k, b)] = g :: Ks R from hK, hK]
        show List.filter _ (g :: Ks R) = Ks R
        rw [List.filter_cons]
        simp only [decide_true, Bool.not_true, Bool.false_eq_true, if_false]
        exact fil_not hgr
end
end Go.Proofs.Ytlhjioapbgnjfaa
