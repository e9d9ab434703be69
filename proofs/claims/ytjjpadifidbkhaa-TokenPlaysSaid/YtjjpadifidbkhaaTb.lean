/- DERIVED. Tokens (chapter 6): the plain laws of the list of tokens: what hangs on what, and what a Cancel, a Make, a Hold and a Let keep. No program here. -/
import Derived.Test.YtjjpadifidbkhaaTa
namespace Go.Proofs.Ytjjpadifidbkhaa
namespace Tk

def par (l : List T3) (n : Int) : Int := (at_ l n).parent
def why (l : List T3) (n : Int) : Int := (at_ l n).why

/-- a is k, or k hangs on it -/
inductive Anc (l : List T3) (a : Int) : Int → Prop
  | refl : Anc l a a
  | step {k : Int} (h : ok l k) (h2 : Anc l a (par l k)) : Anc l a k

structure Inv (l : List T3) : Prop where
  par0 : ∀ n, ok l n → 0 ≤ par l n ∧ par l n < n
  down : ∀ n, ok l n → par l n ≠ 0 → why l (par l n) ≠ 0 → why l n ≠ 0
  whyOk : ∀ n, ok l n → why l n ≠ 0 → ok l (why l n) ∧ Anc l (why l n) n ∧ why l (why l n) ≠ 0
  hold : ∀ n, ok l n → 0 ≤ (at_ l n).holders

theorem at_out {l : List T3} {n : Int} (h : ¬ ok l n) : at_ l n = ⟨0, 0, 0⟩ := by rw [at_, if_neg h]

theorem inv_nil : Inv [] := by
  have : ∀ n, ¬ ok [] n := by intro n h; unfold ok at h; simp at h; omega
  exact ⟨fun n h => absurd h (this n), fun n h => absurd h (this n), fun n h => absurd h (this n), fun n h => absurd h (this n)⟩

/-! ### membership of under -/
theorem mem_underN (l : List T3) (n : Int) (i : Nat) (k : Int) : k ∈ underN l n i → n < k ∧ k ≤ n + i ∧ par l k ∈ n :: underN l n i := by
  induction i generalizing k with
  | zero => intro h; simp [underN] at h
  | succ i ih =>
    intro h
    rw [underN] at h ⊢
    split at h
    · rename_i hp
      rw [if_pos hp]
      rcases List.mem_append.1 h with h | h
      · obtain ⟨a, b, c⟩ := ih k h
        refine ⟨a, by omega, ?_⟩
        rcases List.mem_cons.1 c with c | c
        · rw [c]; exact List.mem_cons_self
        · exact List.mem_cons_of_mem _ (List.mem_append_left _ c)
      · simp at h
        subst h
        refine ⟨by omega, by omega, ?_⟩
        rcases List.mem_cons.1 hp with c | c
        · show (at_ l _).parent ∈ _; rw [c]; exact List.mem_cons_self
        · exact List.mem_cons_of_mem _ (List.mem_append_left _ c)
    · rename_i hp
      rw [if_neg hp]
      obtain ⟨a, b, c⟩ := ih k h
      exact ⟨a, by omega, c⟩

theorem underN_sub (l : List T3) (n : Int) (i j : Nat) : ∀ k ∈ underN l n i, k ∈ underN l n (i + j) := by
  induction j with
  | zero => intro k h; exact h
  | succ j ih =>
    intro k h
    rw [← Nat.add_assoc, underN]
    split
    · exact List.mem_append_left _ (ih k h)
    · exact ih k h

theorem underN_mem (l : List T3) (hp : ∀ n, ok l n → 0 ≤ par l n ∧ par l n < n) (n : Int) (i : Nat) (k : Int) (h1 : n < k) (h2 : k ≤ n + i) (hk : ok l k) (h3 : par l k ∈ n :: underN l n i) : k ∈ underN l n i := by
  obtain ⟨j, hj⟩ : ∃ j : Nat, k = n + j + 1 := ⟨(k - n - 1).toNat, by omega⟩
  have e : i = (j + 1) + (i - (j + 1)) := by omega
  rw [e]
  apply underN_sub
  rw [underN]
  have hpk := (hp k hk).2
  have : (at_ l (n + j + 1)).parent ∈ n :: underN l n j := by
    rw [← hj]
    show par l k ∈ _
    rcases List.mem_cons.1 h3 with c | c
    · rw [c]; exact List.mem_cons_self
    · refine List.mem_cons_of_mem _ ?_
      -- the parent was met before
      have : ∀ m : Nat, ∀ x ∈ underN l n m, x ≤ n + j → x ∈ underN l n j := by
        intro m
        induction m with
        | zero => intro x hx; simp [underN] at hx
        | succ m ih =>
          intro x hx hle
          by_cases hm : m + 1 ≤ j
          · have e2 : j = (m + 1) + (j - (m + 1)) := by omega
            rw [e2]; exact underN_sub _ _ _ _ _ hx
          · rw [underN] at hx
            split at hx
            · rcases List.mem_append.1 hx with hx | hx
              · exact ih x hx hle
              · simp at hx; omega
            · exact ih x hx hle
      exact this i _ c (by omega)
  rw [if_pos this, hj]
  simp

theorem under_mem {l : List T3} (hp : ∀ n, ok l n → 0 ≤ par l n ∧ par l n < n) {n k : Int} (hn : ok l n) (hk : ok l k) (h : par l k ∈ n :: under l n) : k ∈ n :: under l n := by
  have h1 : n < k := by
    have := (hp k hk).2
    rcases List.mem_cons.1 h with c | c
    · omega
    · have := underN_lt l n _ _ c; omega
  refine List.mem_cons_of_mem _ (underN_mem l hp n _ k h1 ?_ hk h)
  unfold ok at hk hn; omega

theorem under_anc {l : List T3} {n : Int} (hn : ok l n) : ∀ k ∈ n :: under l n, Anc l n k := by
  have : ∀ m : Nat, ∀ k ∈ n :: under l n, k ≤ n + m → Anc l n k := by
    intro m
    induction m with
    | zero =>
      intro k hk hle
      rcases List.mem_cons.1 hk with rfl | hk'
      · exact .refl
      · have := underN_lt l n _ _ hk'; omega
    | succ m ih =>
      intro k hk hle
      rcases List.mem_cons.1 hk with rfl | hk'
      · exact .refl
      · have hok := under_ok hn k hk
        obtain ⟨a, b, c⟩ := mem_underN l n _ k hk'
        by_cases h : par l k ≤ n + m
        · exact .step hok (ih _ c h)
        · -- the parent stands ahead of k
          exfalso
          have : ∀ q : Nat, ∀ x ∈ underN l n q, par l x < x := by
            intro q
            induction q with
            | zero => intro x hx; simp [underN] at hx
            | succ q ihq =>
              intro x hx
              rw [underN] at hx
              split at hx
              · rename_i hpq
                rcases List.mem_append.1 hx with hx | hx
                · exact ihq x hx
                · simp at hx
                  subst hx
                  show (at_ l _).parent < _
                  rcases List.mem_cons.1 hpq with e | e
                  · omega
                  · have := underN_lt l n _ _ e; omega
              · exact ihq x hx
          have := this _ k hk'
          omega
  intro k hk
  have hok := under_ok hn k hk
  exact this (k - n).toNat k hk (by unfold ok at *; rcases List.mem_cons.1 hk with h | h
                                    · omega
                                    · have := underN_lt l n _ _ h; omega)

/-! ### what a Cancel comes to -/
theorem foldl_hit (n : Int) (ks : List Int) : ∀ s : List T3 × List Int, (∀ k ∈ ks, ok s.1 k) → ks.Nodup → n ≠ 0 →
    (∀ m, at_ (ks.foldl (hit n) s).1 m = if m ∈ ks ∧ (at_ s.1 m).why = 0 then { at_ s.1 m with why := n } else at_ s.1 m) ∧
    (ks.foldl (hit n) s).2 = s.2 ++ ks.filter (fun k => decide ((at_ s.1 k).why = 0)) := by
  induction ks with
  | nil => intro s _ _ _; simp
  | cons k r ih =>
    intro s hok hd hn
    have hd' := List.nodup_cons.1 hd
    have hlen := (hit_len n s k).1
    have hk1 : ok s.1 k := hok k List.mem_cons_self
    have hok' : ∀ x ∈ r, ok (hit n s k).1 x := fun x hx => by
      have := hok x (List.mem_cons_of_mem _ hx)
      unfold ok at *; omega
    obtain ⟨h1, h2⟩ := ih (hit n s k) hok' hd'.2 hn
    have hat : ∀ m, at_ (hit n s k).1 m = if m = k ∧ (at_ s.1 k).why = 0 then { at_ s.1 k with why := n } else at_ s.1 m := by
      intro m
      unfold hit
      split
      · rename_i hw
        by_cases hm : 1 ≤ m
        · simp only []
          rw [at_put hk1 _ hm]
          simp [hw]
        · have hm' : m ≠ k := by unfold ok at hk1; omega
          have h3 : ¬ ok s.1 m := by unfold ok; omega
          have h4 : ¬ ok (put s.1 k { at_ s.1 k with why := n }) m := fun h => h3 ((ok_put _ _ _ _).1 h)
          simp [hm', at_out h3, at_out h4]
      · rename_i hw
        simp [hw]
    constructor
    · intro m
      rw [List.foldl_cons, h1 m, hat m]
      by_cases hm : m = k
      · subst hm
        have : m ∉ r := hd'.1
        by_cases hw : (at_ s.1 m).why = 0
        · simp [this, hw]
        · simp [this, hw]
      · simp [hm]
    · rw [List.foldl_cons, h2]
      have e : r.filter (fun x => decide ((at_ (hit n s k).1 x).why = 0)) = r.filter (fun x => decide ((at_ s.1 x).why = 0)) := by
        apply List.filter_congr
        intro x hx
        have : x ≠ k := fun e => hd'.1 (e ▸ hx)
        rw [hat x, if_neg (by simp [this])]
      rw [e, List.filter_cons]
      unfold hit
      split
      · rename_i hw; simp [hw]
      · rename_i hw; simp [hw]

theorem under_nodup (l : List T3) (n : Int) : (n :: under l n).Nodup := by
  have : ∀ i, (underN l n i).Nodup := by
    intro i
    induction i with
    | zero => exact List.nodup_nil
    | succ i ih =>
      rw [underN]
      split
      · refine List.nodup_append.2 ⟨ih, by simp, ?_⟩
        rintro a ha b hb rfl
        simp at hb
        have := underN_lt l n i a ha
        omega
      · exact ih
  refine List.nodup_cons.2 ⟨fun h => ?_, this _⟩
  have := underN_lt l n _ _ h
  omega

theorem cancel_at {l : List T3} {n : Int} (hn : ok l n) (m : Int) : at_ (cancel l n).1 m = if m ∈ n :: under l n ∧ why l m = 0 then { at_ l m with why := n } else at_ l m :=
  (foldl_hit n _ (l, []) (under_ok hn) (under_nodup l n) (by unfold ok at hn; omega)).1 m
theorem cancel_out {l : List T3} {n : Int} (hn : ok l n) : (cancel l n).2 = (n :: under l n).filter (fun k => decide (why l k = 0)) := by
  have := (foldl_hit n _ (l, []) (under_ok hn) (under_nodup l n) (by unfold ok at hn; omega)).2
  rw [List.nil_append] at this
  exact this
theorem cancel_len {l : List T3} {n : Int} : (cancel l n).1.length = l.length := (foldl_hit_len n _ (l, [])).1

theorem anc_congr {l l' : List T3} (hl : l'.length = l.length) (hp : ∀ m, par l' m = par l m) {a k : Int} (h : Anc l a k) : Anc l' a k := by
  induction h with
  | refl => exact .refl
  | step h h2 ih =>
    refine .step (by unfold ok at *; omega) ?_
    rw [hp]; exact ih

/-- what is cancelled stays so -/
def Stays (l l' : List T3) : Prop := ∀ m, ok l m → ok l' m ∧ (why l m ≠ 0 → why l' m ≠ 0)

theorem cancel_inv {l : List T3} (h : Inv l) {n : Int} (hn : ok l n) : Inv (cancel l n).1 ∧ Stays l (cancel l n).1 := by
  have hlen : (cancel l n).1.length = l.length := cancel_len
  have hok : ∀ m, ok (cancel l n).1 m ↔ ok l m := fun m => by unfold ok; rw [hlen]
  have hpar : ∀ m, par (cancel l n).1 m = par l m := fun m => by
    unfold par; rw [cancel_at hn]; split <;> rfl
  have hhold : ∀ m, (at_ (cancel l n).1 m).holders = (at_ l m).holders := fun m => by
    rw [cancel_at hn]; split <;> rfl
  have hn0 : n ≠ 0 := by unfold ok at hn; omega
  have hwhy : ∀ m, why (cancel l n).1 m = if m ∈ n :: under l n ∧ why l m = 0 then n else why l m := fun m => by
    rw [why, cancel_at hn]; split <;> rfl
  have hmono : ∀ m, why l m ≠ 0 → why (cancel l n).1 m = why l m := fun m hm => by
    rw [hwhy, if_neg (by simp [hm])]
  have hin : ∀ m ∈ n :: under l n, why (cancel l n).1 m ≠ 0 := fun m hm => by
    rw [hwhy]; split
    · exact hn0
    · rename_i hc; intro e; exact hc ⟨hm, e⟩
  refine ⟨⟨?_, ?_, ?_, ?_⟩, ?_⟩
  · intro m hm; rw [hpar]; exact h.par0 m ((hok m).1 hm)
  · intro m hm hp hw
    have hm' := (hok m).1 hm
    rw [hpar] at hp hw
    by_cases hq : why l (par l m) = 0
    · have hmem : par l m ∈ n :: under l n := by
        rw [hwhy] at hw
        split at hw
        · rename_i hc; exact hc.1
        · exact absurd hq hw
      exact hin m (under_mem h.par0 hn hm' hmem)
    · have := h.down m hm' hp hq
      rw [hmono m this]; exact this
  · intro m hm hw
    have hm' := (hok m).1 hm
    by_cases hq : why l m = 0
    · rw [hwhy] at hw ⊢
      split at hw
      · rename_i hc
        rw [if_pos hc]
        exact ⟨(hok n).2 hn, anc_congr hlen hpar (under_anc hn m hc.1), hin n List.mem_cons_self⟩
      · exact absurd hq hw
    · obtain ⟨a, b, c⟩ := h.whyOk m hm' hq
      rw [hmono m hq]
      exact ⟨(hok _).2 a, anc_congr hlen hpar b, by rw [hmono _ c]; exact c⟩
  · intro m hm; rw [hhold]; exact h.hold m ((hok m).1 hm)
  · intro m hm
    exact ⟨(hok m).2 hm, fun hw => by rw [hmono m hw]; exact hw⟩

theorem put_inv {l : List T3} (h : Inv l) {n : Int} (hn : ok l n) {x : T3} (h1 : x.parent = par l n) (h2 : x.why = why l n) (h3 : 0 ≤ x.holders) : Inv (put l n x) ∧ Stays l (put l n x) := by
  have hok : ∀ m, ok (put l n x) m ↔ ok l m := fun m => ok_put l n x m
  have hpar : ∀ m, par (put l n x) m = par l m := fun m => by
    by_cases hm : 1 ≤ m
    · unfold par; rw [at_put hn _ hm]; split
      · rename_i e; subst e; exact h1
      · rfl
    · have h5 : ¬ ok l m := by unfold ok; omega
      unfold par; rw [at_out h5, at_out (fun h => h5 ((hok m).1 h))]
  have hwhy : ∀ m, why (put l n x) m = why l m := fun m => by
    by_cases hm : 1 ≤ m
    · unfold why; rw [at_put hn _ hm]; split
      · rename_i e; subst e; exact h2
      · rfl
    · have h5 : ¬ ok l m := by unfold ok; omega
      unfold why; rw [at_out h5, at_out (fun h => h5 ((hok m).1 h))]
  refine ⟨⟨?_, ?_, ?_, ?_⟩, ?_⟩
  · intro m hm; rw [hpar]; exact h.par0 m ((hok m).1 hm)
  · intro m hm; rw [hpar, hwhy, hwhy]; exact h.down m ((hok m).1 hm)
  · intro m hm; rw [hwhy, hwhy]
    intro hw
    obtain ⟨a, b, c⟩ := h.whyOk m ((hok m).1 hm) hw
    exact ⟨(hok _).2 a, anc_congr (put_len l n x) hpar b, c⟩
  · intro m hm
    have hm' := (hok m).1 hm
    rw [at_put hn x hm.1]
    split
    · exact h3
    · exact h.hold m hm'
  · intro m hm
    exact ⟨(hok m).2 hm, fun hw => by rw [hwhy]; exact hw⟩

theorem hold_inv {l : List T3} (h : Inv l) (n : Int) : Inv (hold l n) ∧ Stays l (hold l n) := by
  unfold hold
  split
  · rename_i hn
    exact put_inv h hn rfl rfl (by have := h.hold n hn; simp; omega)
  · exact ⟨h, fun m hm => ⟨hm, id⟩⟩

theorem Stays.trans {a b c : List T3} (h : Stays a b) (k : Stays b c) : Stays a c := fun m hm => ⟨(k m (h m hm).1).1, fun hw => (k m (h m hm).1).2 ((h m hm).2 hw)⟩

theorem let_inv {l : List T3} (h : Inv l) (n : Int) : Inv (letE l n).1 ∧ Stays l (letE l n).1 := by
  unfold letE
  split
  · exact ⟨h, fun m hm => ⟨hm, id⟩⟩
  · rename_i hn
    have hn : ok l n := by simpa using hn
    split
    · exact ⟨h, fun m hm => ⟨hm, id⟩⟩
    · rename_i hh
      have hd : Inv (drop l n) ∧ Stays l (drop l n) := put_inv h hn rfl rfl (by have := h.hold n hn; simp; omega)
      split
      · exact hd
      · have hc := cancel_inv hd.1 ((ok_put _ _ _ _).2 hn : ok (drop l n) n)
        exact ⟨hc.1, hd.2.trans hc.2⟩

theorem at_append {l : List T3} {x : T3} {m : Int} (hm : ok l m) : at_ (l ++ [x]) m = at_ l m := by
  have h1 : ix m < l.length := by unfold ok at hm; unfold ix; omega
  have h2 : ok (l ++ [x]) m := by unfold ok at *; simp; omega
  rw [at_, if_pos h2, at_, if_pos hm]
  simp [List.getD, List.getElem?_append_left h1]

theorem at_last (l : List T3) (x : T3) : at_ (l ++ [x]) (l.length + 1) = x := by
  have h2 : ok (l ++ [x]) (l.length + 1) := by unfold ok; simp; omega
  have e : ix ((l.length : Int) + 1) = l.length := by unfold ix; omega
  rw [at_, if_pos h2, e]
  simp [List.getD]

theorem make_inv {l : List T3} (h : Inv l) (n : Int) : Inv (make l n).1 ∧ Stays l (make l n).1 := by
  unfold make
  split
  · exact ⟨h, fun m hm => ⟨hm, id⟩⟩
  · rename_i hn
    split
    · exact ⟨h, fun m hm => ⟨hm, id⟩⟩
    · have hn' : n = 0 ∨ ok l n := by
        by_cases h0 : n = 0
        · exact .inl h0
        · exact .inr (Decidable.of_not_not fun hc => hn ⟨h0, hc⟩)
      simp only []
      have cases_ : ∀ m, ok (l ++ [(⟨n, 0, (at_ l n).why⟩ : T3)]) m → ok l m ∨ m = l.length + 1 := by
        intro m hm; unfold ok at *; simp at hm; omega
      have okL : ∀ m, ok l m → ok (l ++ [(⟨n, 0, (at_ l n).why⟩ : T3)]) m := by
        intro m hm; unfold ok at *; simp; omega
      have hpar : ∀ m, ok l m → par (l ++ [(⟨n, 0, (at_ l n).why⟩ : T3)]) m = par l m := fun m hm => by unfold par; rw [at_append hm]
      have hwhy : ∀ m, ok l m → why (l ++ [(⟨n, 0, (at_ l n).why⟩ : T3)]) m = why l m := fun m hm => by unfold why; rw [at_append hm]
      have hanc : ∀ a k, ok l k → Anc l a k → Anc (l ++ [(⟨n, 0, (at_ l n).why⟩ : T3)]) a k := by
        intro a k _ hk
        induction hk with
        | refl => exact .refl
        | @step k' h1 h2 ih =>
          refine .step (okL _ h1) ?_
          rw [hpar _ h1]
          by_cases e : ok l (par l k')
          · exact ih e
          · have : a = par l k' := by
              cases h2 with
              | refl => rfl
              | step h5 _ => exact absurd h5 e
            rw [this]; exact .refl
      have pl : par (l ++ [(⟨n, 0, (at_ l n).why⟩ : T3)]) (l.length + 1) = n := by unfold par; rw [at_last]
      have wl : why (l ++ [(⟨n, 0, (at_ l n).why⟩ : T3)]) (l.length + 1) = why l n := by unfold why; rw [at_last]
      have lok : ok (l ++ [(⟨n, 0, (at_ l n).why⟩ : T3)]) (l.length + 1) := by unfold ok; simp; omega
      refine ⟨⟨?_, ?_, ?_, ?_⟩, fun m hm => ⟨okL m hm, fun hw => by rw [hwhy m hm]; exact hw⟩⟩
      · intro m hm
        rcases cases_ m hm with hm | rfl
        · rw [hpar m hm]; exact h.par0 m hm
        · rw [pl]
          rcases hn' with rfl | hn'
          · omega
          · unfold ok at hn'; omega
      · intro m hm
        rcases cases_ m hm with hm | rfl
        · rw [hpar m hm, hwhy m hm]
          intro hp hw
          have hp' := h.par0 m hm
          have : ok l (par l m) := by unfold ok at *; omega
          rw [hwhy _ this] at hw
          exact h.down m hm hp hw
        · rw [pl, wl]
          intro h0 hw
          have hnok := hn'.resolve_left h0
          rwa [hwhy n hnok] at hw
      · intro m hm
        rcases cases_ m hm with hm | rfl
        · rw [hwhy m hm]
          intro hw
          obtain ⟨a, b, c⟩ := h.whyOk m hm hw
          exact ⟨okL _ a, hanc _ _ hm b, by rw [hwhy _ a]; exact c⟩
        · rw [wl]
          intro hw
          have hnok : ok l n := by
            rcases hn' with rfl | hn'
            · exfalso; apply hw; unfold why; rw [at_out (by unfold ok; omega)]
            · exact hn'
          obtain ⟨a, b, c⟩ := h.whyOk n hnok hw
          exact ⟨okL _ a, .step lok (by rw [pl]; exact hanc _ _ hnok b), by rw [hwhy _ a]; exact c⟩
      · intro m hm
        rcases cases_ m hm with hm | rfl
        · rw [at_append hm]; exact h.hold m hm
        · rw [at_last]; simp

/-- how many hold a token at most -/
def HoldLe (l : List T3) (b : Int) : Prop := ∀ n, (at_ l n).holders ≤ b

theorem holdLe_put {l : List T3} {b : Int} (h : HoldLe l b) {n : Int} (hn : ok l n) {x : T3} (hx : x.holders ≤ b) : HoldLe (put l n x) b := by
  intro m
  by_cases hm : 1 ≤ m
  · rw [at_put hn x hm]; split
    · exact hx
    · exact h m
  · have h5 : ¬ ok l m := by unfold ok; omega
    rw [at_out (fun h => h5 ((ok_put _ _ _ _).1 h)), ← at_out h5]; exact h m

theorem holdLe_mono {l : List T3} {b c : Int} (h : HoldLe l b) (hc : b ≤ c) : HoldLe l c := fun n => Int.le_trans (h n) hc

theorem holdLe_hold {l : List T3} {b : Int} (h : HoldLe l b) (n : Int) : HoldLe (hold l n) (b + 1) := by
  unfold hold
  split
  · rename_i hn
    exact holdLe_put (holdLe_mono h (by omega)) hn (by have := h n; simp; omega)
  · exact holdLe_mono h (by omega)

theorem holdLe_cancel {l : List T3} {b : Int} (h : HoldLe l b) {n : Int} (hn : ok l n) : HoldLe (cancel l n).1 b := by
  intro m
  rw [cancel_at hn]
  split
  · exact h m
  · exact h m

theorem holdLe_let {l : List T3} {b : Int} (h : HoldLe l b) (n : Int) : HoldLe (letE l n).1 b := by
  unfold letE
  split
  · exact h
  · rename_i hn
    have hn : ok l n := by simpa using hn
    split
    · exact h
    · have hd : HoldLe (drop l n) b := holdLe_put h hn (by have := h n; simp; omega)
      split
      · exact hd
      · exact holdLe_cancel hd ((ok_put _ _ _ _).2 hn : ok (drop l n) n)

theorem holdLe_make {l : List T3} {b : Int} (h : HoldLe l b) (hb : 0 ≤ b) (n : Int) : HoldLe (make l n).1 b := by
  unfold make
  split
  · exact h
  · split
    · exact h
    · intro m
      simp only []
      by_cases hm : ok l m
      · rw [at_append hm]; exact h m
      · by_cases hm2 : m = l.length + 1
        · subst hm2; rw [at_last]; exact hb
        · rw [at_out]
          · exact hb
          · unfold ok at *; simp; omega

theorem why_out {l : List T3} {n : Int} (h : ¬ ok l n) : why l n = 0 := by unfold why; rw [at_out h]
end Tk
end Go.Proofs.Ytjjpadifidbkhaa
