/- DERIVED. TokenHangs: whatever is made, held, let go and cancelled: what hangs on a cancelled token is cancelled, what is cancelled stays so. -/
import Derived.Test.YtjjpadifidbkhaaTokAwake
import Derived.Test.YtjjpadifidbkhaaTokP
import Derived.Test.YtjjpadifidbkhaaCvRd
namespace Go.Proofs.Ytjjpadifidbkhaa
open Go.RowKit Cv

def scriptR : Rd Try.prog 22 (List (Int × Int × Unit)) :=
  Rd.sl Try.underlying22 (by kernel_rfl) (Rd.struct Try.underlying28 (.cons (Rd.int Try.underlying3 (by kernel_rfl)) rfl (.cons (Rd.int Try.underlying3 (by kernel_rfl)) rfl .nil)) (by kernel_rfl))

/-- What an act leaves of the tokens. -/
def Done (B : Nat) (w : World) (p : Nat) (v : Value) (l : List T3) (b : Int) (w' : World) : Prop :=
  ∃ v' l', Tok B w' p v' l' ∧ Tk.Inv l' ∧ Tk.Stays l l' ∧ Tk.HoldLe l' (b + 1) ∧ Fr (tfoot p v) w w'

def Acted (B : Nat) (w : World) (p : Nat) (v : Value) (l : List T3) (b : Int) (e : Ending) (w' : World) : Prop := (∃ r, e = .returned r) ∧ Done B w p v l b w'

section
variable {B : Nat} {w : World} {p : Nat} {v : Value} {l : List T3} {b : Int}

theorem act_cancel (h : Tok B w p v l) (hI : Tk.Inv l) (hb : Tk.HoldLe l b) (n : Int) : Calls Try.prog 8 #[.pointer (some ⟨p, 0, none⟩), .int .i64 n] w (Acted B w p v l b) := by
  by_cases hn : Tk.ok l n
  · refine (cancel_in h hn).mono ?_
    rintro e w' ⟨r, rfl, _, hT, hf⟩
    have := Tk.cancel_inv hI hn
    exact ⟨⟨_, rfl⟩, v, _, hT, this.1, this.2, Tk.holdLe_mono (Tk.holdLe_cancel hb hn) (by omega), hf⟩
  · refine (cancel_out h hn).mono ?_
    rintro e w' ⟨rfl, rfl⟩
    exact ⟨⟨_, rfl⟩, v, l, h, hI, fun m hm => ⟨hm, id⟩, Tk.holdLe_mono hb (by omega), Fr.refl _ _⟩

theorem act_hold (h : Tok B w p v l) (hI : Tk.Inv l) (hb : Tk.HoldLe l b) (hb2 : b ≤ 1000000) (n : Int) : Calls Try.prog 9 #[.pointer (some ⟨p, 0, none⟩), .int .i64 n] w (Acted B w p v l b) := by
  have h0 : 0 ≤ (Tk.at_ l n).holders := by
    by_cases hn : Tk.ok l n
    · exact hI.hold n hn
    · rw [Tk.at_out hn]; exact Int.le_refl _
  have h1 := hb n
  refine (hold_any h n ⟨by omega, by omega⟩).mono ?_
  rintro e w' ⟨rfl, hT, hf⟩
  have := Tk.hold_inv hI n
  exact ⟨⟨_, rfl⟩, v, _, hT, this.1, this.2, Tk.holdLe_hold hb n, hf⟩

theorem act_let (h : Tok B w p v l) (hI : Tk.Inv l) (hb : Tk.HoldLe l b) (hb2 : b ≤ 1000000) (n : Int) : Calls Try.prog 10 #[.pointer (some ⟨p, 0, none⟩), .int .i64 n] w (Acted B w p v l b) := by
  have h0 : 0 ≤ (Tk.at_ l n).holders := by
    by_cases hn : Tk.ok l n
    · exact hI.hold n hn
    · rw [Tk.at_out hn]; exact Int.le_refl _
  have h1 := hb n
  refine (let_any h n ⟨h0, by omega⟩).mono ?_
  rintro e w' ⟨r, rfl, _, hT, hf⟩
  have := Tk.let_inv hI n
  exact ⟨⟨_, rfl⟩, v, _, hT, this.1, this.2, Tk.holdLe_mono (Tk.holdLe_let hb n) (by omega), hf⟩

theorem act_make (h : Tok B w p v l) (hI : Tk.Inv l) (hb : Tk.HoldLe l b) (hb0 : 0 ≤ b) (hB : B ≤ w.heap.size) (n : Int) : Calls Try.prog 11 #[.pointer (some ⟨p, 0, none⟩), .int .i64 n] w (Acted B w p v l b) := by
  have hm := Tk.make_inv hI n
  have hm2 := Tk.holdLe_make hb hb0 n
  by_cases hn : n ≠ 0 ∧ ¬ Tk.ok l n
  · refine (make_bad h hn).mono ?_
    rintro e w' ⟨rfl, rfl⟩
    exact ⟨⟨_, rfl⟩, v, l, h, hI, fun m hm => ⟨hm, id⟩, Tk.holdLe_mono hb (by omega), Fr.refl _ _⟩
  · have hn' : n = 0 ∨ Tk.ok l n := by
      by_cases h0 : n = 0
      · exact .inl h0
      · exact .inr (Decidable.of_not_not fun hc => hn ⟨h0, hc⟩)
    by_cases hl : 65536 ≤ l.length
    · refine (make_many h hn' hl).mono ?_
      rintro e w' ⟨rfl, rfl⟩
      exact ⟨⟨_, rfl⟩, v, l, h, hI, fun m hm => ⟨hm, id⟩, Tk.holdLe_mono hb (by omega), Fr.refl _ _⟩
    · have e : Tk.make l n = (l ++ [⟨n, 0, (Tk.at_ l n).why⟩], (l.length : Int) + 1, 0) := by rw [Tk.make, if_neg hn, if_neg hl]
      rw [e] at hm hm2
      refine (make_ok h hn' (by omega) hB).mono ?_
      rintro e w' ⟨v', rfl, hT, hf, _⟩
      exact ⟨⟨_, rfl⟩, v', _, hT, hm.1, hm.2, Tk.holdLe_mono hm2 (by omega), hf⟩
end

/-- What was seen as cancelled is so. -/
def WasOk (kv : List (Int × Bool)) (l : List T3) : Prop := ∀ x, kget kv x = some true → Tk.why l x ≠ 0

theorem wasOk_stays {kv : List (Int × Bool)} {l l' : List T3} (h : WasOk kv l) (hs : Tk.Stays l l') : WasOk kv l' := by
  intro x hx
  have h1 := h x hx
  have hok : Tk.ok l x := Decidable.of_not_not fun hc => h1 (Tk.why_out hc)
  exact (hs x hok).2 h1

theorem wasOk_put {kv : List (Int × Bool)} {l : List T3} (h : WasOk kv l) {n : Int} {b : Bool} (hb : b = true → Tk.why l n ≠ 0) : WasOk (kput kv n b) l := by
  intro x hx
  rw [kget_kput] at hx
  split at hx
  · rename_i e; subst e; exact hb (by simpa using hx)
  · exact h x hx

theorem boolGet (kv : List (Int × Bool)) (n : Int) : (if false = true then Value.tuple #[((kget kv n).elim (.bool false) Value.bool), .bool (kget kv n).isSome] else (kget kv n).elim (.bool false) Value.bool) = .bool ((kget kv n).getD false) := by
  cases kget kv n <;> rfl

theorem anc_pos {l : List T3} {a k : Int} (ha : Tk.ok l a) (h : Tk.Anc l a k) : 1 ≤ k := by
  cases h with
  | refl => exact ha.1
  | step h _ => exact h.1

set_option maxRecDepth 100000 in
set_option maxHeartbeats 3200000 in
theorem hangs_walk (w : World) (ao : Option Addr) (cap : Nat) (sc : List (Int × Int × Unit)) (hs : scriptR.rel w [.slice ao sc.length cap] sc) :
    Calls Try.prog 3 #[.slice ao sc.length cap] w fun e w' => e = .returned (.bool true) ∧ Below w.heap.size w w' := by
  have hmm := @run_makeMap Try.prog
  by_cases hlen : 3000 < sc.length
  · have h3 : decide ((3000 : Int) < (sc.length : Int)) = true := decide_eq_true (by omega)
    clear hlen hs
    go_enter Try.func3, Try.ntmps3
    go_wp2_with fail
    refine (new_any (B := w.heap.size) w (Nat.le_refl _)).mono ?_
    rintro e w1 ⟨rfl, hT1, hw1⟩
    have hb1 : Below w.heap.size w w1 := by rw [hw1]; exact (Below.refl _ _).alloc (Nat.le_refl _) _
    clear hw1
    go_wp2_with fail
    refine (awake_any _).mono ?_
    rintro e w2 ⟨rfl, hb2⟩
    go_wp2_with fail
    refine (awake_any _).mono ?_
    rintro e w3 ⟨rfl, hb3⟩
    go_wp2_with fail
    go_ret
    exact ⟨rfl, (hb1.trans (hb2.mono hb1.size)).trans (hb3.mono (Nat.le_trans hb1.size hb2.size))⟩
  · have h3 : decide ((3000 : Int) < (sc.length : Int)) = false := decide_eq_false (by omega)
    have HL := hide hlen
    clear hlen
    go_enter Try.func3, Try.ntmps3
    go_wp2_with fail
    refine (new_any (B := w.heap.size) w (Nat.le_refl _)).mono ?_
    rintro e w1 ⟨rfl, hT1, hw1⟩
    have hb1 : Below w.heap.size w w1 := by rw [hw1]; exact (Below.refl _ _).alloc (Nat.le_refl _) _
    clear hw1
    go_wp2_with fail
    refine (awake_any _).mono ?_
    rintro e w2 ⟨rfl, hb2⟩
    have hT2 := hT1.below hb2
    have hb3 := hb1.trans (hb2.mono hb1.size)
    clear hT1 hb1 hb2
    go_wp2_with fail
    have hm3 := IsMap.made w2 (fun n : Int => Value.int .i64 n) Value.bool
    obtain ⟨m, hm⟩ : ∃ m, m = w2.heap.size := ⟨_, rfl⟩
    have hwm : w.heap.size ≤ m := by have := hb3.size; omega
    have hb4 := hb3.alloc hb3.size (.map #[] 0)
    have hT4 := hT2.below ((Below.refl _ _).alloc (Nat.le_refl _) (.map #[] 0))
    rw [← hm] at hm3 ⊢
    clear hb3 hT2 hmm hm
    have hHs := hide hs
    clear hs
    go_loopg [23] sc.length (fun g ix wr => ∃ (i : Nat) (v : Value) (l : List T3) (kv : List (Int × Bool)), i + g = sc.length ∧ ix = .int .i64 i ∧ Tok w.heap.size wr w.heap.size v l ∧ IsMap wr m (fun n : Int => Value.int .i64 n) Value.bool kv ∧
        Tk.Inv l ∧ Tk.HoldLe l i ∧ WasOk kv l ∧ Below w.heap.size w wr)
    case atStart => exact ⟨0, _, [], [], by omega, rfl, hT4, hm3, Tk.inv_nil, fun n => by simp [Tk.at_], fun x hx => by simp [kget] at hx, hb4⟩
    case round =>
      clear hT4 hm3 hb4
      obtain ⟨i, v, l, kv, hg, rfl, hT, hM, hI, hH, hW, hB⟩ := hrel
      have HG := hide hg
      have hi : i ≤ 3000 := by have := HL.out; omega
      have hsz := hB.size
      clear hg
      by_cases hlt : i < sc.length
      · -- the act's two numbers
        obtain ⟨ao', cap', e1, hc1, hc2, hc3, hc4, hAt⟩ := hHs.out
        simp only [List.cons.injEq, Value.slice.injEq, true_and, and_true] at e1
        obtain ⟨rfl, rfl⟩ := e1
        obtain ⟨b, o, rfl, hAt2⟩ := atRow_addr (s := 2) hAt (fun ces a h => (Rd.len _ h).trans (by kernel_rfl)) (by omega) (by omega)
        obtain ⟨ces, hcells, c1, c2, rfl, ⟨rfl, hwf1⟩, c3, c4, rfl, ⟨rfl, hwf2⟩, rfl⟩ := hAt2 i hlt
        have q0 := hcells 0 _ rfl
        have q1 := hcells 1 _ rfl
        generalize (sc[i]).1 = kind at *
        generalize (sc[i]).2.1 = n at *
        have hb0 : b < w.heap.size := World.block_lt_of_cell? w _ q0
        have r0 : wr.cell? ⟨b, o + i * 2, none⟩ = some (.int .i64 kind) := (hB.cell hb0).trans q0
        have r1 : wr.cell? ⟨b, o + i * 2 + 1, none⟩ = some (.int .i64 n) := (hB.cell hb0).trans q1
        clear q0 q1 hcells hAt2 hAt
        have hi0 : (0 : Int) ≤ i := by omega
        have hi1 : (i : Int) < (sc.length : Int) := by omega
        go_upto_block 2 with fail
        have hB1 := hB.alloc hsz (.cells #[.int .i64 kind, .int .i64 n] 28)
        have hbl := (Below.refl wr.heap.size wr).alloc (Nat.le_refl _) (.cells #[.int .i64 kind, .int .i64 n] 28)
        have hT1 := hT.below hbl
        have hM1 := hM.below hbl
        have hX := heap_alloc_new wr (.cells #[.int .i64 kind, .int .i64 n] 28)
        obtain ⟨W, hWd⟩ : ∃ W, W = wr.alloc (.cells #[.int .i64 kind, .int .i64 n] 28) := ⟨_, rfl⟩
        rw [← hWd] at hB1 hT1 hM1 hX ⊢
        generalize wr.heap.size = q at *
        clear hWd hbl r0 r1 hB hT hM hsz
        have x1 : W.cell? ⟨q, 1, none⟩ = some (.int .i64 n) := by simp [World.cell?, hX]
        clear hX
        go_cut [] (fun W2 => ∃ v' l', Tok w.heap.size W2 w.heap.size v' l' ∧ IsMap W2 m (fun n : Int => Value.int .i64 n) Value.bool kv ∧ Tk.Inv l' ∧ Tk.HoldLe l' ((i : Int) + 1) ∧ WasOk kv l' ∧ Below w.heap.size w W2)
        case first =>
          have hH1 : ((i : Int)) ≤ 1000000 := by omega
          go_wp2_with (first
            | (go_at_call 8; refine (act_cancel hT1 hI hH _).mono ?_; rintro e w3 ⟨⟨r, rfl⟩, hD⟩)
            | (go_at_call 9; refine (act_hold hT1 hI hH hH1 _).mono ?_; rintro e w3 ⟨⟨r, rfl⟩, hD⟩)
            | (go_at_call 10; refine (act_let hT1 hI hH hH1 _).mono ?_; rintro e w3 ⟨⟨r, rfl⟩, hD⟩)
            | (go_at_call 11; refine (act_make hT1 hI hH hi0 hB1.size _).mono ?_; rintro e w3 ⟨⟨r, rfl⟩, hD⟩))
          all_goals
            go_meet
            obtain ⟨v', l', a1, a2, a3, a4, a5⟩ := hD
            refine ⟨v', l', a1, hM1.fr a5 ?_, a2, a4, wasOk_stays hW a3, Fr.below hB1 a5 hB1.size (fun k hk => (hT1.base k hk).1)⟩
            rintro (h | h)
            · exact hM1.ne_blk hT1.blk h.symm
            · exact hM1.ne_row hT1.row h
        case rest =>
          clear hT1 hM1 hB1 hI hH hW x1
          obtain ⟨v2, l2, hT, hM, hI, hH, hW, hB⟩ := hcut
          have hl2 := hT.len
          go_wp2_with fail
          go_loopg [7] l2.length (fun g nx wr => ∃ (j : Nat) (kv2 : List (Int × Bool)), j + g = l2.length ∧ nx = .int .i64 ((j : Int) + 1) ∧ Tok w.heap.size wr w.heap.size v2 l2 ∧
              IsMap wr m (fun n : Int => Value.int .i64 n) Value.bool kv2 ∧ WasOk kv2 l2 ∧ Below w.heap.size w wr)
          case atStart => exact ⟨0, kv, by omega, by simp, hT, hM, hW, hB⟩
          case round =>
            clear hT hM hW hB
            obtain ⟨j, kv2, hg2, rfl, hT, hM, hW, hB⟩ := hrel
            have HG2 := hide hg2
            have hj6 : j ≤ 65536 := by omega
            clear hg2
            by_cases hj : j < l2.length
            · have hok : Tk.ok l2 ((j : Int) + 1) := by unfold Tk.ok; omega
              have hp0 := hI.par0 _ hok
              have hdown := hI.down _ hok
              have hwhy := hI.whyOk _ hok
              unfold Tk.par at hp0
              obtain ⟨hpa, hpb⟩ := hp0
              have hj1 : ((j : Int) + 1 ≤ (l2.length : Int)) := by omega
              have HDN := hide hdown
              have HWY := hide hwhy
              clear hdown hwhy
              go_upto_region 23 with (first
                | (go_at_call 13; refine (parent_any hT _).mono ?_; rintro e w' ⟨rfl, rfl⟩)
                | (go_at_call 14; refine (why_any hT _).mono ?_; rintro e w' ⟨rfl, rfl⟩)
                | (go_at_call 15; refine (is_any hT _).mono ?_; rintro e w' ⟨rfl, rfl⟩)
                | (go_at_call 12; refine (len_any hT).mono ?_; rintro e w' ⟨rfl, rfl⟩))
              obtain ⟨P, hP⟩ : ∃ P, (Tk.at_ l2 ((j : Int) + 1)).parent = P := ⟨_, rfl⟩
              obtain ⟨Y, hY⟩ : ∃ Y, (Tk.at_ l2 ((j : Int) + 1)).why = Y := ⟨_, rfl⟩
              simp only [hP, hY] at hpa hpb ⊢
              have HDN : Hide (P ≠ 0 → (Tk.at_ l2 P).why ≠ 0 → Y ≠ 0) := by
                have := HDN.out
                unfold Tk.par Tk.why at this
                rw [hP, hY] at this; exact hide this
              have HWY : Hide (Y ≠ 0 → Tk.ok l2 Y ∧ Tk.Anc l2 Y ((j : Int) + 1) ∧ (Tk.at_ l2 Y).why ≠ 0) := by
                have := HWY.out
                unfold Tk.why at this
                rw [hY] at this; exact hide this
              have HW : Hide (∀ b, kget kv2 ((j : Int) + 1) = some b → b = true → Y ≠ 0) := hide (fun b hb e => by
                subst e
                have := hW _ hb
                unfold Tk.why at this
                rwa [hY] at this)
              have HPar : Hide (Tk.par l2 ((j : Int) + 1) = P) := hide hP
              have HWhy : Hide (Tk.why l2 ((j : Int) + 1) = Y) := hide hY
              go_cut [109] (fun s109 W2 => s109 = .bool false ∧ Tok w.heap.size W2 w.heap.size v2 l2 ∧ IsMap W2 m (fun n : Int => Value.int .i64 n) Value.bool kv2 ∧ Below w.heap.size w W2)
              case first =>
                by_cases hy : Y = 0
                · subst hy
                  have hwas : (kget kv2 ((j : Int) + 1)).getD false = false := by
                    cases hk : kget kv2 ((j : Int) + 1) with
                    | none => rfl
                    | some b =>
                      cases b with
                      | false => rfl
                      | true => exact absurd rfl (HW.out true hk rfl)
                  by_cases hp : P = 0
                  · subst hp
                    go_wp2_with (first | (at_lookup; refine wpList_lookup rfl _ _ 26 false rfl intK Try.underlying26 _ (zeroB _) _ rfl _ hM _ rfl (.bool false) (by rw [boolGet, hwas]) ?_) | (first
                | (go_at_call 13; refine (parent_any hT _).mono ?_; rintro e w' ⟨rfl, rfl⟩)
                | (go_at_call 14; refine (why_any hT _).mono ?_; rintro e w' ⟨rfl, rfl⟩)
                | (go_at_call 15; refine (is_any hT _).mono ?_; rintro e w' ⟨rfl, rfl⟩)
                | (go_at_call 12; refine (len_any hT).mono ?_; rintro e w' ⟨rfl, rfl⟩)))
                    go_meet
                    exact ⟨by first | rfl | (simp; done) | (simp; omega), hT, hM, hB⟩
                  · have hq : (Tk.at_ l2 P).why = 0 := Decidable.of_not_not fun h => HDN.out hp h rfl
                    have hp' : (P == 0) = false := by simpa using hp
                    have hp'' : (P != 0) = true := by simpa using hp
                    clear hp
                    go_wp2_with (first | (at_lookup; refine wpList_lookup rfl _ _ 26 false rfl intK Try.underlying26 _ (zeroB _) _ rfl _ hM _ rfl (.bool false) (by rw [boolGet, hwas]) ?_) | (first
                | (go_at_call 13; refine (parent_any hT _).mono ?_; rintro e w' ⟨rfl, rfl⟩)
                | (go_at_call 14; refine (why_any hT _).mono ?_; rintro e w' ⟨rfl, rfl⟩)
                | (go_at_call 15; refine (is_any hT _).mono ?_; rintro e w' ⟨rfl, rfl⟩)
                | (go_at_call 12; refine (len_any hT).mono ?_; rintro e w' ⟨rfl, rfl⟩)))
                    go_meet
                    exact ⟨by first | rfl | (simp; done) | (simp; omega), hT, hM, hB⟩
                · have hy' : (Y == 0) = false := by simpa using hy
                  have hy'' : (Y != 0) = true := by simpa using hy
                  clear hy
                  by_cases hp : P = 0
                  · subst hp
                    cases hwas : (kget kv2 ((j : Int) + 1)).getD false
                    · go_wp2_with (first | (at_lookup; refine wpList_lookup rfl _ _ 26 false rfl intK Try.underlying26 _ (zeroB _) _ rfl _ hM _ rfl (.bool false) (by rw [boolGet, hwas]) ?_) | (first
                | (go_at_call 13; refine (parent_any hT _).mono ?_; rintro e w' ⟨rfl, rfl⟩)
                | (go_at_call 14; refine (why_any hT _).mono ?_; rintro e w' ⟨rfl, rfl⟩)
                | (go_at_call 15; refine (is_any hT _).mono ?_; rintro e w' ⟨rfl, rfl⟩)
                | (go_at_call 12; refine (len_any hT).mono ?_; rintro e w' ⟨rfl, rfl⟩)))
                      go_meet
                      exact ⟨by first | rfl | (simp; done) | (simp; omega), hT, hM, hB⟩
                    · go_wp2_with (first | (at_lookup; refine wpList_lookup rfl _ _ 26 false rfl intK Try.underlying26 _ (zeroB _) _ rfl _ hM _ rfl (.bool true) (by rw [boolGet, hwas]) ?_) | (first
                | (go_at_call 13; refine (parent_any hT _).mono ?_; rintro e w' ⟨rfl, rfl⟩)
                | (go_at_call 14; refine (why_any hT _).mono ?_; rintro e w' ⟨rfl, rfl⟩)
                | (go_at_call 15; refine (is_any hT _).mono ?_; rintro e w' ⟨rfl, rfl⟩)
                | (go_at_call 12; refine (len_any hT).mono ?_; rintro e w' ⟨rfl, rfl⟩)))
                      go_meet
                      exact ⟨by first | rfl | (simp; done) | (simp; omega), hT, hM, hB⟩
                  · have hp' : (P == 0) = false := by simpa using hp
                    have hp'' : (P != 0) = true := by simpa using hp
                    clear hp
                    by_cases hq : (Tk.at_ l2 P).why = 0
                    · cases hwas : (kget kv2 ((j : Int) + 1)).getD false
                      · go_wp2_with (first | (at_lookup; refine wpList_lookup rfl _ _ 26 false rfl intK Try.underlying26 _ (zeroB _) _ rfl _ hM _ rfl (.bool false) (by rw [boolGet, hwas]) ?_) | (first
                | (go_at_call 13; refine (parent_any hT _).mono ?_; rintro e w' ⟨rfl, rfl⟩)
                | (go_at_call 14; refine (why_any hT _).mono ?_; rintro e w' ⟨rfl, rfl⟩)
                | (go_at_call 15; refine (is_any hT _).mono ?_; rintro e w' ⟨rfl, rfl⟩)
                | (go_at_call 12; refine (len_any hT).mono ?_; rintro e w' ⟨rfl, rfl⟩)))
                        go_meet
                        exact ⟨by first | rfl | (simp; done) | (simp; omega), hT, hM, hB⟩
                      · go_wp2_with (first | (at_lookup; refine wpList_lookup rfl _ _ 26 false rfl intK Try.underlying26 _ (zeroB _) _ rfl _ hM _ rfl (.bool true) (by rw [boolGet, hwas]) ?_) | (first
                | (go_at_call 13; refine (parent_any hT _).mono ?_; rintro e w' ⟨rfl, rfl⟩)
                | (go_at_call 14; refine (why_any hT _).mono ?_; rintro e w' ⟨rfl, rfl⟩)
                | (go_at_call 15; refine (is_any hT _).mono ?_; rintro e w' ⟨rfl, rfl⟩)
                | (go_at_call 12; refine (len_any hT).mono ?_; rintro e w' ⟨rfl, rfl⟩)))
                        go_meet
                        exact ⟨by first | rfl | (simp; done) | (simp; omega), hT, hM, hB⟩
                    · have hq' : ((Tk.at_ l2 P).why == 0) = false := by simpa using hq
                      clear hq
                      cases hwas : (kget kv2 ((j : Int) + 1)).getD false
                      · go_wp2_with (first | (at_lookup; refine wpList_lookup rfl _ _ 26 false rfl intK Try.underlying26 _ (zeroB _) _ rfl _ hM _ rfl (.bool false) (by rw [boolGet, hwas]) ?_) | (first
                | (go_at_call 13; refine (parent_any hT _).mono ?_; rintro e w' ⟨rfl, rfl⟩)
                | (go_at_call 14; refine (why_any hT _).mono ?_; rintro e w' ⟨rfl, rfl⟩)
                | (go_at_call 15; refine (is_any hT _).mono ?_; rintro e w' ⟨rfl, rfl⟩)
                | (go_at_call 12; refine (len_any hT).mono ?_; rintro e w' ⟨rfl, rfl⟩)))
                        go_meet
                        exact ⟨by first | rfl | (simp; done) | (simp; omega), hT, hM, hB⟩
                      · go_wp2_with (first | (at_lookup; refine wpList_lookup rfl _ _ 26 false rfl intK Try.underlying26 _ (zeroB _) _ rfl _ hM _ rfl (.bool true) (by rw [boolGet, hwas]) ?_) | (first
                | (go_at_call 13; refine (parent_any hT _).mono ?_; rintro e w' ⟨rfl, rfl⟩)
                | (go_at_call 14; refine (why_any hT _).mono ?_; rintro e w' ⟨rfl, rfl⟩)
                | (go_at_call 15; refine (is_any hT _).mono ?_; rintro e w' ⟨rfl, rfl⟩)
                | (go_at_call 12; refine (len_any hT).mono ?_; rintro e w' ⟨rfl, rfl⟩)))
                        go_meet
                        exact ⟨by first | rfl | (simp; done) | (simp; omega), hT, hM, hB⟩
              case rest =>
                clear hT hM hB
                obtain ⟨rfl, hT, hM, hB⟩ := hcut
                have hsz2 := hB.size
                go_wp2_with (first
                  | (at_mapUpdate; refine wpList_update rfl _ _ _ 26 (Or.inl rfl) intK Try.underlying26 _ rfl _ hM _ rfl _ rfl ?_; intro w5 hM5 hF5)
                  | (first
                | (go_at_call 13; refine (parent_any hT _).mono ?_; rintro e w' ⟨rfl, rfl⟩)
                | (go_at_call 14; refine (why_any hT _).mono ?_; rintro e w' ⟨rfl, rfl⟩)
                | (go_at_call 15; refine (is_any hT _).mono ?_; rintro e w' ⟨rfl, rfl⟩)
                | (go_at_call 12; refine (len_any hT).mono ?_; rintro e w' ⟨rfl, rfl⟩)))
                have hW5 : WasOk (kput kv2 ((j : Int) + 1) (!(Y == 0))) l2 := wasOk_put hW (fun e => by rw [HWhy.out]; simpa using e)
                have hne : ∀ k, tfoot w.heap.size v2 k → ¬ k = m := by
                  rintro k (h | h) e
                  · exact hM.ne_blk hT.blk (by omega)
                  · exact hM.ne_row hT.row (by rw [h, e])
                have hT5 := hT.fr hF5 hne
                have hB5 := Fr.below hB hF5 hsz2 (fun k e => by omega)
                have HN := hide (And.intro hM5 (And.intro hW5 hB5))
                have HP := hide hI.par0
                clear hM5 hW5 hB5 hT hM hB hF5 hne hW hsz2 hI hH
                by_cases hy : Y = 0
                · subst hy
                  have hj0 : ((j : Int) + 1 != 0) = true := by simp; omega
                  apply wp_loop_once
                  go_wp2_with (first
                    | (go_at_call 13; refine (parent_any hT5 _).mono ?_; rintro e w' ⟨rfl, rfl⟩)
                    | (go_at_call 15; refine (is_any hT5 _).mono ?_; rintro e w' ⟨rfl, rfl⟩)
                    | (go_at_call 12; refine (len_any hT5).mono ?_; rintro e w' ⟨rfl, rfl⟩))
                  go_roundg (l2.length - (j + 1))
                  case measure => have := HG2.out; omega
                  case rel =>
                    have hg := HG2.out
                    exact ⟨j + 1, _, by omega, congrArg (Value.int .i64) (by omega), hT5, HN.out.1, HN.out.2.1, HN.out.2.2⟩
                · have hy1 : (Y != 0) = true := by simpa using hy
                  have HY := hide hy
                  clear hy
                  go_loopg [10] (j + 1) (fun g kx wr => wr = w5 ∧ ∃ k : Int, kx = .int .i64 k ∧ Tk.Anc l2 Y k ∧ k.toNat ≤ g)
                  case atStart => exact ⟨rfl, (j : Int) + 1, rfl, (HWY.out HY.out).2.1, by omega⟩
                  case round =>
                    obtain ⟨rfl, k, rfl, hk, hkg⟩ := hrel
                    have HK := hide hk
                    have HKG := hide hkg
                    have hk1 := anc_pos (HWY.out HY.out).1 hk
                    have hyy : ((Tk.at_ l2 Y).why == 0) = false := by simpa using (HWY.out HY.out).2.2
                    clear hk hkg
                    by_cases hky : k = Y
                    · subst hky
                      go_wp2_with (first
                    | (go_at_call 13; refine (parent_any hT5 _).mono ?_; rintro e w' ⟨rfl, rfl⟩)
                    | (go_at_call 15; refine (is_any hT5 _).mono ?_; rintro e w' ⟨rfl, rfl⟩)
                    | (go_at_call 12; refine (len_any hT5).mono ?_; rintro e w' ⟨rfl, rfl⟩))
                      go_roundg (l2.length - (j + 1))
                      case measure => have := HG2.out; omega
                      case rel =>
                        have hg := HG2.out
                        exact ⟨j + 1, _, by omega, congrArg (Value.int .i64) (by omega), hT5, HN.out.1, HN.out.2.1, HN.out.2.2⟩
                    · have hky1 : (k != Y) = true := by simpa using hky
                      have hstep : Tk.ok l2 k ∧ Tk.Anc l2 Y (Tk.par l2 k) := by
                        cases HK.out with
                        | refl => exact absurd rfl hky
                        | step h1 h2 => exact ⟨h1, h2⟩
                      have hpp := HP.out k hstep.1
                      have HS := hide (And.intro hstep.2 hpp)
                      clear hstep hpp hky
                      go_wp2_with (first
                    | (go_at_call 13; refine (parent_any hT5 _).mono ?_; rintro e w' ⟨rfl, rfl⟩)
                    | (go_at_call 15; refine (is_any hT5 _).mono ?_; rintro e w' ⟨rfl, rfl⟩)
                    | (go_at_call 12; refine (len_any hT5).mono ?_; rintro e w' ⟨rfl, rfl⟩))
                      go_roundg (Tk.par l2 k).toNat
                      case measure => have := HS.out.2; have := HKG.out; omega
                      case rel => exact ⟨rfl, Tk.par l2 k, rfl, HS.out.1, Nat.le_refl _⟩
            · go_wp2_with (go_at_call 12; refine (len_any hT).mono ?_; rintro e w' ⟨rfl, rfl⟩)
              have hg := HG.out
              go_roundg (sc.length - (i + 1))
              case measure => omega
              case rel => exact ⟨i + 1, v2, l2, kv2, by omega, congrArg (Value.int .i64) (by omega), hT, hM, hI, Tk.holdLe_mono hH (by omega), hW, hB⟩
      · have hll := Tk.liveN_len
        have hB' := hB
        go_wp2_with (first
          | (go_at_call 16; refine (live_any hT).mono ?_; rintro e w5 ⟨r, rfl, hr, hb5⟩; obtain ⟨ao5, cap5, rfl⟩ := slice_of_row hr; have hT5 := hT.below hb5; have hle := Tk.liveN_len l l.length)
          | (go_at_call 12; refine (len_any hT5).mono ?_; rintro e w' ⟨rfl, rfl⟩))
        go_ret
        refine ⟨?_, hB.trans (hb5.mono hsz)⟩
        simp [Tk.live]
        exact decide_eq_true hle
end Go.Proofs.Ytjjpadifidbkhaa
