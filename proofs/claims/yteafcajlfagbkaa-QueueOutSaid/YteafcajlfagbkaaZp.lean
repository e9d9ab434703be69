/- DERIVED. The law QueueOut. -/
import Derived.Test.YteafcajlfagbkaaZm
namespace Go.Proofs.Yteafcajlfagbkaa
set_option linter.unusedSimpArgs false
set_option linter.unusedVariables false
open Go Sl Cv Go.RowKit
def tin (Q : List TM) : List (Int × Int) := Q.map fun x => (x.item, x.at_)
structure RO where
  i : Nat
  a : Option Addr
  c : Nat
  ut : Int
  L : LL
  Q : List TM
  t : Int
  kv : List (Int × Int)
structure OI (l : List AM) (y : RO) : Prop where
  i : y.i ≤ l.length
  ti : TI 0 y.ut y.L
  u0 : 0 ≤ y.ut
  ui : y.ut ≤ y.i
  le : y.L.length ≤ 65536
  q : QOk y.Q y.t
  kv : y.kv.Perm (tin y.Q)
theorem qok1 : QOk [] 0 := ⟨List.Pairwise.nil, List.nodup_nil, by decide, by simp, by simp, by decide⟩
section
variable {Q : List TM} {kv : List (Int × Int)} {t y v : Int} {z : TM}
theorem tin_keys (Q : List TM) : (tin Q).map Prod.fst = Q.map TM.item := by simp [tin]
theorem tin_nd (h : kv.Perm (tin Q)) (q : (Q.map TM.item).Nodup) : (kv.map Prod.fst).Nodup := (h.map Prod.fst).nodup_iff.2 (by rw [tin_keys]; exact q)
theorem tin_none (h : kv.Perm (tin Q)) (hy : y ∉ Q.map TM.item) : kget kv y = none := kget_none (fun hm => hy (by rw [← tin_keys]; exact (h.map Prod.fst).mem_iff.1 hm))
theorem tin_some (h : kv.Perm (tin Q)) (hy : y ∈ Q.map TM.item) : ∃ a, kget kv y = some a := by
  have : y ∈ kv.map Prod.fst := (h.map Prod.fst).mem_iff.2 (by rw [tin_keys]; exact hy)
  rw [← kget_isSome] at this
  exact Option.isSome_iff_exists.1 this
theorem tin_get (h : kv.Perm (tin (z :: Q))) (q : ((z :: Q).map TM.item).Nodup) : kget kv z.item = some z.at_ := kget_of_mem (tin_nd h q) (h.mem_iff.2 List.mem_cons_self)
theorem tin_del (h : kv.Perm (tin (z :: Q))) (q : ((z :: Q).map TM.item).Nodup) : (kdel kv z.item).Perm (tin Q) := by
  have hne := List.nodup_cons.1 q
  rw [kdel_fil _ (tin_nd h q)]
  refine (h.filter _).trans ?_
  have e : (tin Q).filter (fun p => decide (p.1 ≠ z.item)) = tin Q := List.filter_eq_self.2 fun p hp => by
    obtain ⟨u, hu, rfl⟩ := List.mem_map.1 hp
    have : u.item ≠ z.item := fun e => hne.1 (List.mem_map.2 ⟨u, hu, e⟩)
    simpa using this
  have e2 : (tin (z :: Q)).filter (fun p => decide (p.1 ≠ z.item)) = tin Q := by
    show List.filter _ ((z.item, z.at_) :: tin Q) = _
    rw [List.filter_cons, if_neg (by simp)]
    exact e
  rw [e2]
theorem tin_put (h : kv.Perm (tin Q)) (hy : y ∉ Q.map TM.item) : (kput kv y v).Perm (tin (insq Q ⟨v, t, y⟩)) := by
  rw [kput_fresh _ (fun hm => hy (by rw [← tin_keys]; exact (h.map Prod.fst).mem_iff.1 hm))]
  refine List.perm_append_comm.trans ?_
  refine (List.Perm.cons _ h).trans ?_
  exact ((insq_perm Q ⟨v, t, y⟩).map (fun x : TM => (x.item, x.at_))).symm
end
section
variable (p m1 m2 : Nat) (fr ut : Int) (L : LL) (Q : List TM) (t : Int) (b : Nat) (x v : Int)
theorem put_turn (hT : TI fr ut L) (hfr : fr ≤ ut) (hL : L.length ≤ 65536) : (∃ e : Int, e ≠ 0 ∧ ∀ F, Sp Try.prog 11 [ptr p, .int .i64 x] (tq p m1 m2 fr ut L F) fun r M => r = .int .i64 e ∧ M = tq p m1 m2 fr ut L F) ∨ (x ∉ its L ∧ L.length < 65536 ∧ ∀ F, Sp Try.prog 11 [ptr p, .int .i64 x] (tq p m1 m2 fr ut L F) fun r M => r = .int .i64 0 ∧ M = tq p m1 m2 fr (ut + 1) (L ++ [(ut, x)]) F) := by
  by_cases hx : x ∈ its L
  · exact .inl ⟨40, by decide, fun F => tput_there p m1 m2 fr ut L F x hT hx⟩
  · by_cases hl : L.length < 65536
    · exact .inr ⟨hx, hl, fun F => tput_new p m1 m2 fr ut L F x hT hx hl hfr⟩
    · exact .inl ⟨3, by decide, fun F => tput_many p m1 m2 fr ut L F x hT hx (by omega)⟩
theorem put_time (hQ : QOk Q t) (hb : b ≤ 5870000000000) : (∃ f : Int, f ≠ 0 ∧ (f ≠ 1 ∨ v < 0 ∨ 4611686018427387904 < v) ∧ ∀ F, Sp Try.prog 12 [ptr p, .int .i64 v, .int .i64 x] (TIM p Q t b :: F) fun r M => r = .int .i64 f ∧ M = TIM p Q t (b + 1) :: F) ∨ ((0 ≤ v ∧ v ≤ 4611686018427387904) ∧ x ∉ Q.map TM.item ∧ Q.length < 65536 ∧ ∀ F, Sp Try.prog 12 [ptr p, .int .i64 v, .int .i64 x] (TIM p Q t b :: F) fun r M => r = .int .i64 0 ∧ M = TIM p (insq Q ⟨v, t, x⟩) (t + 1) (b + 1) :: F) := by
  have hup : ∀ (f : Int), (∀ F, Sp Try.prog 12 [ptr p, .int .i64 v, .int .i64 x] (TIM p Q t b :: F) fun r M => r = .int .i64 f ∧ M = TIM p Q t b :: F) → ∀ F, Sp Try.prog 12 [ptr p, .int .i64 v, .int .i64 x] (TIM p Q t b :: F) fun r M => r = .int .i64 f ∧ M = TIM p Q t (b + 1) :: F := fun f h F =>
    Sp.post (h F) (by rintro r M ⟨rfl, rfl⟩; exact ⟨_, ⟨rfl, rfl⟩, tle (Nat.le_succ b)⟩)
  by_cases ha : 0 ≤ v ∧ v ≤ 4611686018427387904
  · by_cases hx : x ∈ Q.map TM.item
    · obtain ⟨z, hz, rfl⟩ := List.mem_map.1 hx
      exact .inl ⟨40, by decide, .inl (by decide), hup 40 fun F => zput_there p Q t b F z hQ v ha hz⟩
    · by_cases hl : Q.length < 65536
      · exact .inr ⟨ha, hx, hl, fun F => zput_yes p Q t b F x hQ hb v ha hx hl⟩
      · exact .inl ⟨3, by decide, .inl (by decide), hup 3 fun F => zput_many p Q t b F x v ha hx (by omega)⟩
  · exact .inl ⟨1, by decide, .inr (by omega), hup 1 fun F => zput_arg p (TIM p Q t b :: F) x v (by omega)⟩
end
end Go.Proofs.Yteafcajlfagbkaa
