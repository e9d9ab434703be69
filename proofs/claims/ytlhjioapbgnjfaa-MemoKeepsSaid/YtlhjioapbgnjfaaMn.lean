/- DERIVED. Memos, as lists of entries: plain part. -/
import Derived.Test.YtlhjioapbgnjfaaMh
import Derived.Test.YtlhjioapbgnjfaaVp
namespace Go.Proofs.Ytlhjioapbgnjfaa
set_option linter.unusedSimpArgs false
set_option linter.unusedVariables false
open Go Sl Cv Go.RowKit
section
variable {κ ν : Type} [DecidableEq κ]
theorem kdel_filter : ∀ {l : List (κ × ν)} (k : κ), (l.map Prod.fst).Nodup → kdel l k = l.filter (fun p => !decide (p.1 = k))
  | [], _, _ => rfl
  | (a, u) :: r, k, h => by
    have hr := List.nodup_cons.1 h
    by_cases e : a = k
    · subst e
      have h2 : kdel ((a, u) :: r) a = r := by simp [kdel]
      rw [h2, List.filter_cons]
      simp only [decide_true, Bool.not_true, Bool.false_eq_true, if_false]
      exact (List.filter_eq_self.2 fun p hp => by simp; rintro rfl; exact hr.1 (List.mem_map.2 ⟨p, hp, rfl⟩)).symm
    · have h2 : kdel ((a, u) :: r) k = (a, u) :: kdel r k := by simp [kdel, e]
      rw [h2, List.filter_cons, kdel_filter k hr.2]
      simp [e]
theorem kput_perm : ∀ {l : List (κ × ν)} (k : κ) (v : ν), (l.map Prod.fst).Nodup → (kput l k v).Perm (l.filter (fun p => !decide (p.1 = k)) ++ [(k, v)])
  | [], k, v, _ => by simp [kput]
  | (a, u) :: r, k, v, h => by
    have hr := List.nodup_cons.1 h
    by_cases e : a = k
    · subst e
      have h2 : kput ((a, u) :: r) a v = (a, v) :: r := by simp [kput]
      rw [h2, List.filter_cons]
      simp only [decide_true, Bool.not_true, Bool.false_eq_true, if_false]
      rw [List.filter_eq_self.2 fun p hp => by simp; rintro rfl; exact hr.1 (List.mem_map.2 ⟨p, hp, rfl⟩)]
      exact (List.perm_append_singleton _ _).symm
    · have h2 : kput ((a, u) :: r) k v = (a, u) :: kput r k v := by simp [kput, e]
      rw [h2, List.filter_cons]
      simp only [e, decide_false, Bool.not_false, if_true, List.cons_append]
      exact (kput_perm k v hr.2).cons _
end
def fnd (K : List KP) (k : SK) : Option KP := K.find? (fun x => decide (x.key = k))
def kys (K : List KP) : List SK := K.map KP.key
def wo (K : List KP) (k : SK) : List KP := K.filter (fun x => !decide (x.key = k))
def prs (K : List KP) : List (SK × KP) := K.map fun x => (x.key, x)
theorem prs_keys (K : List KP) : (prs K).map Prod.fst = kys K := by simp [prs, kys]
theorem prs_wo (K : List KP) (k : SK) : (prs K).filter (fun p => !decide (p.1 = k)) = prs (wo K k) := by simp only [prs, wo, List.filter_map]; rfl
theorem prs_app (A B : List KP) : prs (A ++ B) = prs A ++ prs B := by simp [prs]
theorem kys_wo (K : List KP) (k : SK) : kys (wo K k) = fil (kys K) k := by simp only [kys, wo, fil, List.filter_map]; rfl
theorem kys_app (A B : List KP) : kys (A ++ B) = kys A ++ kys B := by simp [kys]
theorem fnd_none {K : List KP} {k : SK} (h : k ∉ kys K) : fnd K k = none := by
  rw [fnd, List.find?_eq_none]; intro x hx; simp; rintro rfl; exact h (List.mem_map.2 ⟨x, hx, rfl⟩)
theorem fnd_some {K : List KP} {k : SK} {x : KP} (h : fnd K k = some x) : x ∈ K ∧ x.key = k := by
  refine ⟨List.mem_of_find?_eq_some h, by simpa using List.find?_some h⟩
theorem fnd_mem {K : List KP} (hd : (kys K).Nodup) {x : KP} (h : x ∈ K) : fnd K x.key = some x := by
  induction K with
  | nil => simp at h
  | cons y K ih =>
    have hd' := List.nodup_cons.1 hd
    by_cases e : y.key = x.key
    · have hxy : x = y := by
        rcases List.mem_cons.1 h with h | h
        · exact h
        · exact absurd (List.mem_map.2 ⟨x, h, e.symm⟩) hd'.1
      rw [fnd, List.find?_cons]; simp [hxy]
    · have hx : x ∈ K := by
        rcases List.mem_cons.1 h with h | h
        · exact absurd (by rw [h]) e
        · exact h
      have := ih hd'.2 hx
      rw [fnd, List.find?_cons]; simp only [e, decide_false]; exact this
theorem fnd_iff {K : List KP} {k : SK} : (fnd K k).isSome = true ↔ k ∈ kys K := by
  constructor
  · intro h
    obtain ⟨x, hx⟩ := Option.isSome_iff_exists.1 h
    obtain ⟨h1, rfl⟩ := fnd_some hx
    exact List.mem_map.2 ⟨x, h1, rfl⟩
  · intro h
    cases hf : fnd K k with
    | some x => rfl
    | none =>
      obtain ⟨x, hx, rfl⟩ := List.mem_map.1 h
      rw [fnd, List.find?_eq_none] at hf
      have := hf x hx
      simp at this
theorem fnd_dec (K : List KP) (k : SK) : decide (k ∈ kys K) = (fnd K k).isSome := by
  by_cases h : k ∈ kys K
  · rw [decide_eq_true h, fnd_iff.2 h]
  · rw [decide_eq_false h, fnd_none h]; rfl
/-- A memo that stands. -/
structure MS where
  c : CF
  now : Int
  K : List KP
structure MOk (S : MS) : Prop where
  c : CfOk S.c
  now : 0 ≤ S.now ∧ S.now ≤ 4611686018427387904
  nd : (kys S.K).Nodup
  len : (S.K.length : Int) ≤ S.c.ent
  at_ : ∀ x ∈ S.K, 0 ≤ x.at_ ∧ x.at_ ≤ S.now
  key : ∀ x ∈ S.K, chk x.key = 0
  out : ∀ x ∈ S.K, rightO x.out = true ∧ keepsM S.c x.out.k = true
/-- How it is laid. -/
structure MW (S : MS) where
  m : Nat
  o : Nat
  mo : Nat
  kv : List (SK × KP)
  kvo : LL
  L : LL
  oi : OI kvo L
  ks : Ks L = kys S.K
  pm : kv.Perm (prs S.K)
structure MEM (p : Nat) (S : MS) (h : PH) : Prop where
  is : ∃ w : MW S, Sat h (mem p w.m w.o w.mo S.c S.now w.kv w.kvo w.L [])
theorem MW.get {S : MS} (w : MW S) (h : MOk S) (k : SK) : kget w.kv k = fnd S.K k := by
  have hd : (w.kv.map Prod.fst).Nodup := by rw [(w.pm.map Prod.fst).nodup_iff, prs_keys]; exact h.nd
  cases hf : fnd S.K k with
  | some x =>
    obtain ⟨h1, rfl⟩ := fnd_some hf
    exact kget_of_mem hd (w.pm.mem_iff.2 (List.mem_map.2 ⟨x, h1, rfl⟩))
  | none =>
    refine kget_none fun hm => ?_
    have : k ∈ (prs S.K).map Prod.fst := (w.pm.map Prod.fst).mem_iff.1 hm
    rw [prs_keys, ← fnd_iff, hf] at this
    cases this
theorem MW.len {S : MS} (w : MW S) : w.kv.length = S.K.length ∧ w.L.length = S.K.length := by
  constructor
  · rw [w.pm.length_eq]; simp [prs]
  · rw [← ks_len, w.ks]; simp [kys]
theorem MW.nd {S : MS} (w : MW S) (h : MOk S) : (w.kv.map Prod.fst).Nodup := by rw [(w.pm.map Prod.fst).nodup_iff, prs_keys]; exact h.nd
/-! ### what is done -/
def mTick (S : MS) (now : Int) : Int := if 0 ≤ now ∧ now ≤ 4611686018427387904 then (if now < S.now then 101 else 0) else 10
def mErr (S : MS) (now : Int) (k : SK) : Int := if mTick S now = 0 then chk k else mTick S now
def mAt (S : MS) (now : Int) : MS := { S with now := now }
def sn (how age : Int) (o : OT) : Value := .agg (snl how age o).toArray
def o0 : OT := ⟨0, 0, 0, 0⟩
/-- What is seen of an entry. -/
structure SN where
  how : Int
  age : Int
  out : OT
def seenO (c : CF) (now : Int) : Option KP → SN
  | none => ⟨0, 0, o0⟩
  | some x => ⟨how c now x, now - x.at_, x.out⟩
def snv (s : SN) : Value := .agg (snl s.how s.age s.out).toArray
def useM (K : List KP) (k : SK) : List KP := match fnd K k with | none => K | some x => wo K k ++ [x]
def mTell (S : MS) (now : Int) (k : SK) : MS := { S with now := now, K := if (seenO S.c now (fnd S.K k)).how = 1 ∨ (seenO S.c now (fnd S.K k)).how = 2 then useM S.K k else S.K }
def keepK (c : CF) (K : List KP) (x : KP) : List KP := let l := wo K x.key ++ [x]; if (l.length : Int) ≤ c.ent then l else l.tail
def keepG (c : CF) (K : List KP) (x : KP) : List SK := let l := wo K x.key ++ [x]; if (l.length : Int) ≤ c.ent then [] else (kys l).take 1
def mKeep (S : MS) (now : Int) (k : SK) (u : OT) : MS := { S with now := now, K := keepK S.c S.K ⟨k, u, now⟩ }
def mDrop (S : MS) (k : SK) : MS := { S with K := wo S.K k }
theorem wo_mem {K : List KP} {k : SK} {x : KP} : x ∈ wo K k ↔ x ∈ K ∧ x.key ≠ k := by simp [wo]
theorem wo_nd {K : List KP} (h : (kys K).Nodup) (k : SK) : (kys (wo K k)).Nodup := by rw [kys_wo]; exact h.filter _
theorem wo_len (K : List KP) (k : SK) : (wo K k).length ≤ K.length := List.length_filter_le _ _
theorem wo_not {K : List KP} {k : SK} (h : k ∉ kys K) : wo K k = K := List.filter_eq_self.2 fun x hx => by simp; rintro rfl; exact h (List.mem_map.2 ⟨x, hx, rfl⟩)
theorem wo_notin (K : List KP) (k : SK) : k ∉ kys (wo K k) := by
  intro h
  obtain ⟨x, hx, e⟩ := List.mem_map.1 h
  exact (wo_mem.1 hx).2 e
theorem wo_snoc_nd {K : List KP} (h : (kys K).Nodup) (x : KP) : (kys (wo K x.key ++ [x])).Nodup := by
  rw [kys_app]
  refine List.nodup_append.2 ⟨wo_nd h _, by simp [kys], ?_⟩
  intro a ha b hb
  simp [kys] at hb
  subst hb
  rintro rfl
  exact wo_notin K x.key ha
theorem MOk.at {S : MS} (h : MOk S) {now : Int} (h0 : mTick S now = 0) : MOk (mAt S now) := by
  have : (0 ≤ now ∧ now ≤ 4611686018427387904) ∧ ¬ now < S.now := by
    unfold mTick at h0; split at h0
    · split at h0
      · cases h0
      · exact ⟨by assumption, by assumption⟩
    · cases h0
  exact ⟨h.c, this.1, h.nd, h.len, fun x hx => ⟨(h.at_ x hx).1, by have := (h.at_ x hx).2; show x.at_ ≤ now; omega⟩, h.key, h.out⟩
theorem mTick_ok {S : MS} {now : Int} (h : mTick S now = 0) : (0 ≤ now ∧ now ≤ 4611686018427387904) ∧ S.now ≤ now := by
  unfold mTick at h; split at h
  · split at h
    · cases h
    · exact ⟨by assumption, by omega⟩
  · cases h
theorem MOk.drop {S : MS} (h : MOk S) (k : SK) : MOk (mDrop S k) :=
  ⟨h.c, h.now, wo_nd h.nd k, by have := wo_len S.K k; have := h.len; show ((wo S.K k).length : Int) ≤ S.c.ent; omega, fun x hx => h.at_ x (wo_mem.1 hx).1, fun x hx => h.key x (wo_mem.1 hx).1, fun x hx => h.out x (wo_mem.1 hx).1⟩
theorem wo_in_len {K : List KP} {k : SK} (hd : (kys K).Nodup) (h : k ∈ kys K) : (wo K k).length + 1 = K.length := by
  have := fil_mem_len hd h
  rw [← kys_wo] at this
  simpa [kys] using this
theorem useM_mem {K : List KP} {k : SK} {x : KP} (h : x ∈ useM K k) : x ∈ K := by
  unfold useM at h
  split at h
  · exact h
  · rename_i y hy
    rcases List.mem_append.1 h with h | h
    · exact (wo_mem.1 h).1
    · simp at h; rw [h]; exact (fnd_some hy).1
theorem useM_nd {K : List KP} {k : SK} (hd : (kys K).Nodup) : (kys (useM K k)).Nodup := by
  unfold useM
  split
  · exact hd
  · rename_i y hy
    have e := (fnd_some hy).2
    have := wo_snoc_nd hd y
    rwa [e] at this
theorem useM_len {K : List KP} {k : SK} (hd : (kys K).Nodup) : (useM K k).length = K.length := by
  unfold useM
  split
  · rfl
  · rename_i y hy
    have := wo_in_len hd (fnd_iff.1 (by rw [hy]; rfl) : k ∈ kys K)
    simp; omega
theorem useM_keys {K : List KP} {k : SK} : kys (useM K k) = if k ∈ kys K then fil (kys K) k ++ [k] else kys K := by
  unfold useM
  split
  · rename_i h
    rw [if_neg]; intro hk; rw [← fnd_iff, h] at hk; cases hk
  · rename_i y hy
    rw [if_pos (fnd_iff.1 (by rw [hy]; rfl)), kys_app, kys_wo]
    simp [kys, (fnd_some hy).2]
theorem useM_perm {K : List KP} {k : SK} (hd : (kys K).Nodup) : K.Perm (useM K k) := by
  unfold useM
  split
  · exact .refl _
  · rename_i y hy
    obtain ⟨hm, e⟩ := fnd_some hy
    subst e
    obtain ⟨A, B, rfl⟩ := List.append_of_mem hm
    have hw : wo (A ++ y :: B) y.key = A ++ B := by
      have h1 : y.key ∉ kys (A ++ B) := by
        have : (kys (y :: (A ++ B))).Nodup := ((List.perm_middle (a := y) (l₁ := A) (l₂ := B)).map KP.key).nodup_iff.1 hd
        exact (List.nodup_cons.1 this).1
      have h2 : wo (A ++ y :: B) y.key = wo (A ++ B) y.key := by simp [wo]
      rw [h2, wo_not h1]
    rw [hw]
    exact List.perm_middle.trans (List.perm_append_singleton _ _).symm
theorem MOk.tell {S : MS} (h : MOk S) {now : Int} (h0 : mTick S now = 0) (k : SK) : MOk (mTell S now k) := by
  have ha := h.at h0
  unfold mTell
  split
  · exact ⟨ha.c, ha.now, useM_nd h.nd, by show ((useM S.K k).length : Int) ≤ _; rw [useM_len h.nd]; exact h.len, fun x hx => ha.at_ x (useM_mem hx), fun x hx => ha.key x (useM_mem hx), fun x hx => ha.out x (useM_mem hx)⟩
  · exact ha
theorem keepK_mem {c : CF} {K : List KP} {x y : KP} (h : y ∈ keepK c K x) : y = x ∨ y ∈ K := by
  have h2 : y ∈ wo K x.key ++ [x] := by
    unfold keepK at h; dsimp only at h; split at h
    · exact h
    · exact List.mem_of_mem_tail h
  rcases List.mem_append.1 h2 with h | h
  · exact .inr (wo_mem.1 h).1
  · simp at h; exact .inl h
theorem MOk.keep {S : MS} (h : MOk S) {now : Int} (h0 : mTick S now = 0) {k : SK} {u : OT} (hk : chk k = 0) (hu : rightO u = true) (hp : keepsM S.c u.k = true) : MOk (mKeep S now k u) := by
  obtain ⟨t1, t2⟩ := mTick_ok h0
  have hn := wo_snoc_nd h.nd ⟨k, u, now⟩
  have hl := h.len
  have hwl := wo_len S.K k
  refine ⟨h.c, t1, ?_, ?_, ?_, ?_, ?_⟩
  · show (kys (keepK S.c S.K ⟨k, u, now⟩)).Nodup
    unfold keepK; dsimp only; split
    · exact hn
    · unfold kys at hn ⊢; rw [List.map_tail]; exact hn.sublist (List.tail_sublist _)
  · show ((keepK S.c S.K ⟨k, u, now⟩).length : Int) ≤ S.c.ent
    unfold keepK; dsimp only; split
    · assumption
    · rw [List.length_tail]; simp; omega
  · intro x hx
    rcases keepK_mem hx with rfl | hx
    · exact ⟨t1.1, Int.le_refl _⟩
    · have := h.at_ x hx; exact ⟨this.1, by show x.at_ ≤ now; omega⟩
  · intro x hx
    rcases keepK_mem hx with rfl | hx
    · exact hk
    · exact h.key x hx
  · intro x hx
    rcases keepK_mem hx with rfl | hx
    · exact ⟨hu, hp⟩
    · exact h.out x hx
theorem keep_use (S : MS) (k : SK) (u : OT) (now : Int) (hk : chk k = 0) : (useK S.c.ent (kys S.K) k).K = kys (keepK S.c S.K ⟨k, u, now⟩) ∧ ((useK S.c.ent (kys S.K) k).b = true → (useK S.c.ent (kys S.K) k).g :: [] = keepG S.c S.K ⟨k, u, now⟩) ∧ ((useK S.c.ent (kys S.K) k).b = false → keepG S.c S.K ⟨k, u, now⟩ = [] ∧ keepK S.c S.K ⟨k, u, now⟩ = wo S.K k ++ [(⟨k, u, now⟩ : KP)]) ∧ ((useK S.c.ent (kys S.K) k).b = true → keepK S.c S.K ⟨k, u, now⟩ = (wo S.K k ++ [(⟨k, u, now⟩ : KP)]).tail) := by
  have hs : ¬ 64 < k.2.size := by intro h; rw [chk, if_neg (by omega)] at hk; cases hk
  have e : fil (kys S.K) k ++ [k] = kys (wo S.K k ++ [(⟨k, u, now⟩ : KP)]) := by rw [kys_app, kys_wo]; rfl
  have el : (fil (kys S.K) k ++ [k]).length = (wo S.K k ++ [(⟨k, u, now⟩ : KP)]).length := by rw [e]; simp [kys]
  rw [useK, if_neg hs]
  by_cases hf : ((wo S.K k ++ [(⟨k, u, now⟩ : KP)]).length : Int) ≤ S.c.ent
  · have h1 : keepK S.c S.K ⟨k, u, now⟩ = wo S.K k ++ [(⟨k, u, now⟩ : KP)] := if_pos hf
    have h2 : keepG S.c S.K ⟨k, u, now⟩ = [] := if_pos hf
    rw [if_pos (by rw [el]; exact hf), h1, h2]
    exact ⟨e, (fun h => by cases h), fun _ => ⟨rfl, rfl⟩, (fun h => by cases h)⟩
  · have h1 : keepK S.c S.K ⟨k, u, now⟩ = (wo S.K k ++ [(⟨k, u, now⟩ : KP)]).tail := if_neg hf
    have h2 : keepG S.c S.K ⟨k, u, now⟩ = (kys (wo S.K k ++ [(⟨k, u, now⟩ : KP)])).take 1 := if_neg hf
    rw [if_neg (by rw [el]; exact hf), h1, h2]
    refine ⟨?_, fun _ => ?_, (fun h => by cases h), fun _ => rfl⟩
    · show (fil (kys S.K) k ++ [k]).tail = _
      rw [e]; simp [kys, List.map_tail]
    · show [(fil (kys S.K) k ++ [k]).headD nok] = _
      rw [e]
      cases hc : kys (wo S.K k ++ [(⟨k, u, now⟩ : KP)]) with
      | nil => simp [kys] at hc
      | cons a b => rfl
end Go.Proofs.Ytlhjioapbgnjfaa
