/- DERIVED. Ready ones: numbers that are mixed, places in lists, parts of slices. -/
import Derived.Test.YtfkamdahfmlgmaaYb
import Derived.Test.YtfkamdahfmlgmaaVcc
namespace Sl
set_option linter.unusedSimpArgs false
set_option linter.unusedVariables false
open Go Go.RowKit Cv
section
variable {P : Program} {N : Nat} {E : Env} {L R : List HP} {d : Option Nat} {ty : TypeId} {pos : String} {af : Array Edge} {g : Option (Nat × Bool)} {x y c : Operand} {T : TypeId} {dt : TypeDesc} {z : Value} {n b : Nat}
theorem p_max {k k' : IntKind} {p q : Int} {ts : Array TypeId} (h1 : ev E x = some (.int k p) := by rfl) (h2 : ev E y = some (.int k' q) := by rfl) : Pu P ⟨d, .call ⟨.builtin .max, #[x, y], ts⟩, ty, pos, af, g⟩ N E L (.int k (if p < q then q else p)) := ⟨fun a w f s => by
  simp [execOp, resolve, invoke, builtin, f.eval h1, f.eval h2, run_max_int2]⟩
def sub_ (ao : Option Addr) (cap l sz : Nat) : Option Addr := ao.map fun q => if cap = l then q else q.add (l * sz)
variable {e : TypeId} {de : TypeDesc} {ze : Value} {sz be m cap : Nat} {k : IntKind} {l h : Int} {ao : Option Addr}
theorem p_rl [i : Ty P T (.slice e) z n b] [ie : Ty P e de ze sz be] (h1 : ev E x = some (.slice ao m cap) := by rfl) (h2 : ev E y = some (.int k l) := by rfl) (hb : 0 ≤ l ∧ l ≤ (m : Int) := by omega) (ha : ∀ w, Sat (hp w) L → ao.isSome = true := by (first | (apply Reads.some; (focus (first | (apply Reads.row; focus ((repeat (first | exact Sel.here | apply Sel.there)); done)) | (apply reads_blk; focus ((repeat (first | exact Sel.here | apply Sel.there)); done)) | ((refine Reads.ent (by assumption) ?_); ((repeat (first | with_reducible exact Ent.rfl | with_reducible exact Ent.nil | ((with_reducible apply Ent.cons); focus ((repeat (first | exact Sel.here | apply Sel.there)); done)) | with_reducible refine Ent.drop ?_)); done)))); (focus (first | assumption | (simp only [ints_len]; omega) | (simp; done) | (simp; omega) | omega))) | (exact fun _ _ => by assumption))) :
    Pu P ⟨d, .slice T x (some y) none none, ty, pos, af, g⟩ N E L (.slice (sub_ ao cap l.toNat sz) (m - l.toNat) (cap - l.toNat)) := ⟨fun a w f s => by
  obtain ⟨q, rfl⟩ := Option.isSome_iff_exists.1 (ha w s)
  simp [execOp, f.eval h1, f.eval h2, Instr.sliceAt, Instr.slice, Instr.sliceBounds, Instr.sliceBound, asIntOf, i.run_und, ie.run_size, hb.1, hb.2, sub_]
  split <;> rfl⟩
theorem p_rh [i : Ty P T (.slice e) z n b] [ie : Ty P e de ze sz be] (h1 : ev E x = some (.slice ao m cap) := by rfl) (h2 : ev E y = some (.int k h) := by rfl) (hb : 0 ≤ h ∧ h ≤ (cap : Int) := by omega) (ha : ∀ w, Sat (hp w) L → ao.isSome = true := by (first | (apply Reads.some; (focus (first | (apply Reads.row; focus ((repeat (first | exact Sel.here | apply Sel.there)); done)) | (apply reads_blk; focus ((repeat (first | exact Sel.here | apply Sel.there)); done)) | ((refine Reads.ent (by assumption) ?_); ((repeat (first | with_reducible exact Ent.rfl | with_reducible exact Ent.nil | ((with_reducible apply Ent.cons); focus ((repeat (first | exact Sel.here | apply Sel.there)); done)) | with_reducible refine Ent.drop ?_)); done)))); (focus (first | assumption | (simp only [ints_len]; omega) | (simp; done) | (simp; omega) | omega))) | (exact fun _ _ => by assumption))) :
    Pu P ⟨d, .slice T x none (some y) none, ty, pos, af, g⟩ N E L (.slice ao h.toNat cap) := ⟨fun a w f s => by
  obtain ⟨q, rfl⟩ := Option.isSome_iff_exists.1 (ha w s)
  have e0 : ∀ q : Addr, q.add 0 = q := fun q => by unfold Addr.add; split <;> simp_all
  simp [execOp, f.eval h1, f.eval h2, Instr.sliceAt, Instr.slice, Instr.sliceBounds, Instr.sliceBound, asIntOf, i.run_und, ie.run_size, hb.1, hb.2, e0]⟩
theorem Reads.pre {xs : List Value} (hr : Reads L (.slice ao m cap) m xs) (j : Nat) : Reads L (.slice ao j cap) j (xs.take (j * sz)) := by
  obtain ⟨ao', cap', hv, hr⟩ := hr
  injection hv with e1 e2 e3
  subst e1; subst e3
  refine ⟨_, _, rfl, fun w hw i u hu => hr w hw i u ?_⟩
  rw [List.getElem?_take] at hu
  split at hu
  · exact hu
  · cases hu
theorem Reads.sub {xs : List Value} (hr : Reads L (.slice ao m cap) m xs) (hl : xs.length = m * sz) (hmc : m ≤ cap) (j : Nat) (hj : j ≤ m) : Reads L (.slice (sub_ ao cap j sz) (m - j) (cap - j)) (m - j) (xs.drop (j * sz)) := by
  obtain ⟨ao', cap', hv, hr⟩ := hr
  injection hv with e1 e2 e3
  subst e1; subst e3
  refine ⟨_, _, rfl, fun w hw i u hu => ?_⟩
  rw [List.getElem?_drop] at hu
  obtain ⟨h1, h2, h3⟩ := hr w hw _ u hu
  have hlt := (List.getElem?_eq_some_iff.1 hu).1
  obtain ⟨q, rfl⟩ := Option.isSome_iff_exists.1 h3
  have hne : ¬ cap = j := by
    intro e
    have : m = j := by omega
    subst this
    omega
  have e4 : sub_ (Option.some q) cap j sz = Option.some (q.add (j * sz)) := by simp [sub_, hne]
  rw [e4]
  have h2' : q.spot = none := h2
  have h5 : (q.add (j * sz)).spot = none := by
    unfold Addr.add; split <;> simp_all
  refine ⟨?_, h5, rfl⟩
  have : at_ (Option.some (q.add (j * sz))) i = at_ (Option.some q) (j * sz + i) := by
    have := at_add (Option.some q) h2 (j * sz) i
    exact this
  rw [this]; exact h1
theorem row_cap {ao : Option Addr} {F : List HP} {xs : List Value} {sz : Nat} : ∀ w, Sat (hp w) (row e sz (.slice ao m cap) m xs :: F) → m ≤ cap := fun w s => by
  rcases s.row.lies with ⟨h0, ao', hv⟩ | ⟨gg, cap', cur, hv, _, hc, _⟩
  · omega
  · injection hv with _ _ e3; omega
end
end Sl
namespace Go.Proofs.Ytfkamdahfmlgmaa
open Go Sl Cv Go.RowKit
theorem wr64 (a : Int) : 0 ≤ IntKind.u64.wrap a ∧ IntKind.u64.wrap a < 18446744073709551616 := by rw [IntKind.wrap_u64]; omega
theorem xr64 (a b : Int) : 0 ≤ bits .xor .u64 a b ∧ bits .xor .u64 a b < 18446744073709551616 := wr64 _
theorem quo64 (x c : Int) (hx : 0 ≤ x ∧ x < 18446744073709551616) (hc : 0 < c) : IntKind.u64.wrap (x.tdiv c) = x / c := by
  rw [Int.tdiv_eq_ediv_of_nonneg hx.1]
  exact Sl.wrap_u64 ⟨Int.ediv_nonneg hx.1 (by omega), by have := Int.ediv_le_self c hx.1; omega⟩
abbrev w64 (x : Int) : Int := IntKind.u64.wrap x
def mixI (x : Int) : Int :=
  bits .xor .u64 (w64 (bits .xor .u64 (w64 (bits .xor .u64 x (x / 2 ^ (30 : Int).toNat) * 13787848793156543929)) (w64 (bits .xor .u64 x (x / 2 ^ (30 : Int).toNat) * 13787848793156543929) / 2 ^ (27 : Int).toNat) * 10723151780598845931))
    (w64 (bits .xor .u64 (w64 (bits .xor .u64 x (x / 2 ^ (30 : Int).toNat) * 13787848793156543929)) (w64 (bits .xor .u64 x (x / 2 ^ (30 : Int).toNat) * 13787848793156543929) / 2 ^ (27 : Int).toNat) * 10723151780598845931) / 2 ^ (31 : Int).toNat)
def partN (x n : Nat) : Nat := (x / 4294967296 * n + x % 4294967296 * n / 4294967296) / 4294967296
theorem partN_lt (x n : Nat) (hx : x < 18446744073709551616) (hn : 0 < n) (hn2 : n ≤ 65536) : partN x n < n := by
  have h1 : x / 4294967296 ≤ 4294967295 := by omega
  have h2 : x % 4294967296 ≤ 4294967295 := by omega
  have h3 : x / 4294967296 * n ≤ 4294967295 * n := Nat.mul_le_mul h1 (Nat.le_refl _)
  have h4 : x % 4294967296 * n ≤ 4294967295 * n := Nat.mul_le_mul h2 (Nat.le_refl _)
  unfold partN; omega
theorem nat_of {x : Int} (h : 0 ≤ x ∧ x < 18446744073709551616) : ∃ n : Nat, x = n ∧ n < 18446744073709551616 := by
  obtain ⟨n, rfl⟩ := Int.eq_ofNat_of_zero_le h.1; exact ⟨n, rfl, by omega⟩
section
variable (F : List HP)
theorem mix_spec (x : Int) : Sp Try.prog 37 [.int .u64 x] F fun r M => r = .int .u64 (mixI x) ∧ M = F := by
  refine y_of Try.func37 rfl Try.ntmps37 rfl fun w0 => ?_
  (repeat' (first | (show KQ (WL _ _ _ _ _) _ _ _ _; first | refine yW p_move ?_ | refine yW p_asg ?_ | refine yW p_mul6 ?_ | refine yW p_mul ?_ | refine yW p_xor ?_ | refine yW p_shr ?_ | fail) | refine yE ?_ | fail))
  all_goals (refine y_fin ?_; exact ⟨_, ⟨rfl, rfl⟩, Ent.auto⟩)
theorem shift_spec (x n : Nat) (hn : n ≤ 1000) (hx : x < 18446744073709551616) : Sp Try.prog 48 [.int .u64 x, .int .i64 n] F fun r M => r = .int .u64 ((x / 2 ^ n : Nat) : Int) ∧ M = F := by
  refine y_of Try.func48 rfl Try.ntmps48 rfl fun w0 => ?_
  (repeat' (first | (show KQ (WL _ _ _ _ _) _ _ _ _; first | refine yW p_move ?_ | refine yW p_asg ?_ | refine yB ?_ | fail) | (show KQ (CD _ _ _ _ _) _ _ _ _; first | refine yT ?_ | refine yF ?_ | fail) | ((first | refine yC ?_ ?_) <;> (intro hc; (try simp only [hcS] at hc); try exact dD)) | refine yE ?_ | fail))
  refine kq_slot 0 rfl (u := .int .u64 ((x / 2 ^ 0 : Nat) : Int)) (by simp) ?_
  refine y_loop (X := Nat) 0 (fun i => i ≤ n) (fun i => [(0, .int .u64 ((x / 2 ^ i : Nat) : Int)), (1, .int .i64 n), (5, .int .i64 i)]) (fun _ => F) (fun i => n - i) (Nat.zero_le _) ⟨rfl, rfl, rfl, trivial⟩ Ent.rfl ?_
  rintro K' i hi hnext
  by_cases hlt : i < n
  · have hle : x / 2 ^ i ≤ x := Nat.div_le_self _ _
    have hq : IntKind.u64.wrap (((x / 2 ^ i : Nat) : Int).tdiv 2) = ((x / 2 ^ (i + 1) : Nat) : Int) := by
      rw [quo64 _ _ ⟨Int.natCast_nonneg _, Int.ofNat_lt.2 (Nat.lt_of_le_of_lt hle hx)⟩ (by decide), Nat.pow_succ, ← Nat.div_div_eq_div_mul]; rfl
    (repeat' (first | (show KQ (WL _ _ _ _ _) _ _ _ _; first | refine yW p_move ?_ | refine yW p_asg ?_ | refine yB ?_ | fail) | (show KQ (CD _ _ _ _ _) _ _ _ _; first | refine yT ?_ | refine yF ?_ | fail) | ((first | refine yC ?_ ?_) <;> (intro hc; (try simp only [hcS] at hc); try exact dD)) | refine yE ?_ | fail))
    all_goals refine kq_slot 0 rfl (congrArg (Value.int .u64) hq) ?_
    all_goals exact hnext (i + 1) _ _ hlt (by omega) ⟨rfl, rfl, rfl, trivial⟩ Ent.rfl
  · obtain rfl : i = n := by omega
    (repeat' (first | (show KQ (WL _ _ _ _ _) _ _ _ _; first | refine yW p_move ?_ | refine yW p_asg ?_ | refine yB ?_ | fail) | (show KQ (CD _ _ _ _ _) _ _ _ _; first | refine yT ?_ | refine yF ?_ | fail) | ((first | refine yC ?_ ?_) <;> (intro hc; (try simp only [hcS] at hc); try exact dD)) | refine yE ?_ | fail))
    all_goals (refine y_fin ?_; exact ⟨_, ⟨rfl, rfl⟩, Ent.auto⟩)
theorem shift_int (x : Int) (n : Nat) (hn : n ≤ 1000) (hx : 0 ≤ x ∧ x < 18446744073709551616) : Sp Try.prog 48 [.int .u64 x, .int .i64 n] F fun r M => r = .int .u64 (x / 2 ^ n) ∧ M = F := by
  obtain ⟨m, rfl, hm⟩ := nat_of hx
  have := shift_spec F m n hn hm
  rw [show (((m / 2 ^ n : Nat)) : Int) = (m : Int) / 2 ^ n by simp] at this
  exact this
theorem dmix_spec (x : Int) (hx : 0 ≤ x ∧ x < 18446744073709551616) : Sp Try.prog 43 [.int .u64 x] F fun r M => r = .int .u64 (mixI x) ∧ M = F := by
  refine y_of Try.func43 rfl Try.ntmps43 rfl fun w0 => ?_
  (repeat' (first | (show KQ (WL _ _ _ _ _) _ _ _ _; first | refine yW p_move ?_ | refine yW p_asg ?_ | refine yW p_mul6 ?_ | refine yW p_mul ?_ | refine yW p_xor ?_ | (refine yX ?_; first | (refine w_call (shift_int _ _ 27 (by decide) (wr64 _)) ?_; rintro r L ⟨rfl, rfl⟩) | (refine w_call (shift_int _ _ 31 (by decide) (wr64 _)) ?_; rintro r L ⟨rfl, rfl⟩) | (refine w_call (shift_int _ x 30 (by decide) hx) ?_; rintro r L ⟨rfl, rfl⟩) | fail) | fail) | refine yE ?_ | fail))
  all_goals (refine y_fin ?_; exact ⟨_, ⟨rfl, rfl⟩, Ent.auto⟩)
def m32 (x : Int) : Int := bits .and .u64 x 4294967295
def s32 (x : Int) : Int := x / 2 ^ (32 : Int).toNat
def mt (x y : Int) : Int := w64 (w64 (s32 x * m32 y) + s32 (w64 (m32 x * m32 y)))
def mulHi (x y : Int) : Int := w64 (w64 (w64 (s32 x * s32 y) + s32 (mt x y)) + s32 (w64 (m32 (mt x y) + w64 (m32 x * s32 y))))
theorem mul_spec (x y : Int) : Sp Try.prog 45 [.int .u64 x, .int .u64 y] F fun r M => r = .tuple #[.int .u64 (mulHi x y), .int .u64 (w64 (x * y))] ∧ M = F := by
  refine y_of Try.func45 rfl Try.ntmps45 rfl fun w0 => ?_
  (repeat' (first | (show KQ (WL _ _ _ _ _) _ _ _ _; first | refine yW p_move ?_ | refine yW p_asg ?_ | refine yB ?_ | fail) | refine yE ?_ | fail))
  all_goals (refine y_fin ?_; exact ⟨_, ⟨rfl, rfl⟩, Ent.auto⟩)
theorem m32_nat (x : Nat) (hx : x < 18446744073709551616) : m32 (x : Int) = ((x % 4294967296 : Nat) : Int) := by
  have : (4294967295 : Int) = ((2 ^ 32 - 1 : Nat) : Int) := by decide
  rw [m32, this, bits_and_u64_nat _ _ hx (by decide), Nat.and_two_pow_sub_one_eq_mod]
theorem s32_nat (x : Nat) : s32 (x : Int) = ((x / 4294967296 : Nat) : Int) := by
  have : (2 : Int) ^ (32 : Int).toNat = 4294967296 := by decide
  rw [s32, this]; rfl
theorem w64_nat {x : Nat} (h : x < 18446744073709551616) : w64 (x : Int) = (x : Int) := Sl.wrap_u64 ⟨by omega, by omega⟩
theorem mulHi_part (x n : Nat) (hx : x < 18446744073709551616) (hn : n ≤ 65536) : mulHi (x : Int) (n : Int) = ((partN x n : Nat) : Int) := by
  have h1 : x / 4294967296 < 4294967296 := by omega
  have h2 : x % 4294967296 < 4294967296 := by omega
  have h3 : x / 4294967296 * n ≤ 4294967296 * 65536 := Nat.mul_le_mul (by omega) hn
  have h4 : x % 4294967296 * n ≤ 4294967296 * 65536 := Nat.mul_le_mul (by omega) hn
  have e3 : m32 (n : Int) = (n : Int) := by rw [m32_nat _ (by omega), Nat.mod_eq_of_lt (by omega)]
  have e4 : s32 (n : Int) = ((0 : Nat) : Int) := by rw [s32_nat, Nat.div_eq_of_lt (by omega)]
  have e5 : mt (x : Int) (n : Int) = ((x / 4294967296 * n + x % 4294967296 * n / 4294967296 : Nat) : Int) := by
    rw [mt, e3, m32_nat x hx, s32_nat, ← Int.natCast_mul, ← Int.natCast_mul, w64_nat (x := x / 4294967296 * n) (by omega), w64_nat (x := x % 4294967296 * n) (by omega), s32_nat, ← Int.natCast_add, w64_nat (by omega)]
  have hm : x / 4294967296 * n + x % 4294967296 * n / 4294967296 < 18446744073709551616 := by omega
  rw [mulHi, e5, e4, m32_nat x hx, s32_nat x, ← Int.natCast_mul, ← Int.natCast_mul, Nat.mul_zero, Nat.mul_zero, w64_nat (x := 0) (by decide), s32_nat, ← Int.natCast_add, Nat.zero_add, m32_nat _ hm, ← Int.natCast_add, Nat.add_zero]
  rw [w64_nat (x := (x / 4294967296 * n + x % 4294967296 * n / 4294967296) / 4294967296) (by omega), w64_nat (x := (x / 4294967296 * n + x % 4294967296 * n / 4294967296) % 4294967296) (by omega), s32_nat, ← Int.natCast_add, w64_nat (by omega), Nat.div_eq_of_lt (show (x / 4294967296 * n + x % 4294967296 * n / 4294967296) % 4294967296 < 4294967296 by omega), Nat.add_zero]
  rfl
theorem part_spec (x n : Nat) (hx : x < 18446744073709551616) (h1 : 0 < n) (hn : n ≤ 65536) : Sp Try.prog 38 [.int .u64 x, .int .i64 n] F fun r M => r = .tuple #[.int .i64 (partN x n), .int .i64 0] ∧ M = F := by
  have hp := partN_lt x n hx h1 hn
  have hmul := fun F => mul_spec F (x : Int) (n : Int)
  rw [mulHi_part x n hx hn] at hmul
  have e2 : IntKind.u64.wrap (n : Int) = n := w64_nat (by omega)
  have hmul2 := hmul
  rw [← e2] at hmul2
  have e3 : IntKind.i64.wrap ((partN x n : Nat) : Int) = partN x n := wrap_i64 (by omega)
  refine y_of Try.func38 rfl Try.ntmps38 rfl fun w0 => ?_
  (repeat' (first | (show KQ (WL _ _ _ _ _) _ _ _ _; first | refine yW p_move ?_ | refine yW p_asg ?_ | refine yW p_lss ?_ | refine yW p_ext ?_ | refine yW p_conv ?_ | refine yW p_b2s ?_ | (refine yX ?_; first | (refine w_call (hmul2 _) ?_; rintro r L ⟨rfl, rfl⟩) | fail) | fail) | (show KQ (CD _ _ _ _ _) _ _ _ _; first | refine yT ?_ | refine yF ?_ | fail) | ((first | refine yC ?_ ?_) <;> (intro hc; (try simp only [hcS] at hc); try exact dD)) | refine yE ?_ | fail))
  all_goals (refine y_fin ?_; apply Exists.intro; apply And.intro; (focus (rw [e3]; exact ⟨rfl, rfl⟩)); exact Ent.auto)
theorem dpart_spec (x n : Nat) (hx : x < 18446744073709551616) (h1 : 0 < n) (hn : n ≤ 65536) : Sp Try.prog 44 [.int .u64 x, .int .i64 n] F fun r M => r = .int .i64 (partN x n) ∧ M = F := by
  have hp := partN_lt x n hx h1 hn
  have h3 : x / 4294967296 * n ≤ 4294967296 * 65536 := Nat.mul_le_mul (by omega) hn
  have h4 : x % 4294967296 * n ≤ 4294967296 * 65536 := Nat.mul_le_mul (by omega) hn
  have ho := fun F => shift_spec F x 32 (by decide) hx
  rw [show (2 ^ 32 : Nat) = 4294967296 by decide] at ho
  have ho2 := fun F => shift_spec F (x % 4294967296 * n) 32 (by decide) (by omega)
  rw [show (2 ^ 32 : Nat) = 4294967296 by decide] at ho2
  have ho3 := fun F => shift_spec F (x / 4294967296 * n + x % 4294967296 * n / 4294967296) 32 (by decide) (by omega)
  rw [show (2 ^ 32 : Nat) = 4294967296 by decide, show (x / 4294967296 * n + x % 4294967296 * n / 4294967296) / 4294967296 = partN x n from rfl] at ho3
  have e1 : IntKind.u64.wrap (n : Int) = n := w64_nat (by omega)
  have e2 : IntKind.u64.wrap ((x : Int).tmod 4294967296 * IntKind.u64.wrap (n : Int)) = ((x % 4294967296 * n : Nat) : Int) := by
    rw [e1, Int.tmod_eq_emod_of_nonneg (Int.natCast_nonneg _)]; exact w64_nat (x := x % 4294967296 * n) (by omega)
  have e4 : IntKind.u64.wrap (IntKind.u64.wrap (((x / 4294967296 : Nat) : Int) * IntKind.u64.wrap (n : Int)) + ((x % 4294967296 * n / 4294967296 : Nat) : Int)) = ((x / 4294967296 * n + x % 4294967296 * n / 4294967296 : Nat) : Int) := by
    have e5 : IntKind.u64.wrap (((x / 4294967296 * n : Nat)) : Int) = ((x / 4294967296 * n : Nat) : Int) := w64_nat (by omega)
    rw [e1, ← Int.natCast_mul, e5, ← Int.natCast_add]; exact w64_nat (by omega)
  have e3 : IntKind.i64.wrap ((partN x n : Nat) : Int) = partN x n := wrap_i64 (by omega)
  rw [← e2] at ho2
  rw [← e4] at ho3
  refine y_of Try.func44 rfl Try.ntmps44 rfl fun w0 => ?_
  (repeat' (first | (show KQ (WL _ _ _ _ _) _ _ _ _; first | refine yW p_move ?_ | refine yW p_asg ?_ | refine yB ?_ | refine yW p_conv ?_ | refine yW p_b2s ?_ | (refine yX ?_; first | (refine w_call (ho _) ?_; rintro r L ⟨rfl, rfl⟩) | (refine w_call (ho2 _) ?_; rintro r L ⟨rfl, rfl⟩) | (refine w_call (ho3 _) ?_; rintro r L ⟨rfl, rfl⟩) | fail) | fail) | refine yE ?_ | fail))
  all_goals (refine y_fin ?_; apply Exists.intro; apply And.intro; (focus (rw [e3]; exact ⟨rfl, rfl⟩)); exact Ent.auto)
/-! ### lists of numbers -/
theorem clone_spec (ao : Option Addr) (cap : Nat) (l : List Int) (hr : Reads F (.slice ao l.length cap) l.length (ints l)) (hl : l.length ≤ 17592186044416) : Sp Try.prog 27 [.slice ao l.length cap] F fun r M => ∃ a c, r = .slice a l.length c ∧ M = irow a c l :: F := by
  refine y_of Try.func27 rfl Try.ntmps27 rfl fun w0 => ?_
  cases ao with
  | none =>
    refine KQ.know hr.empty fun h => ?_
    obtain rfl : l = [] := by simpa [ints] using h
    (repeat' (first | (show KQ (WL _ _ _ _ _) _ _ _ _; first | refine yW p_move ?_ | refine yW p_asg ?_ | refine yB ?_ | (refine yX ?_; first | (refine w_ap0 ?_; intro ao1 cap1) | (refine w_ap ?_; intro ao1 cap1) | (refine w_bs ?_; intro q) | fail) | fail) | (show KQ (CD _ _ _ _ _) _ _ _ _; first | refine yT ?_ | refine yF ?_ | fail) | ((first | refine yC ?_ ?_) <;> (intro hc; (try simp only [hcS] at hc); try exact dD)) | refine yE ?_ | fail))
    refine KQ.ent ?_ (ent_nil 3 1 none Ent.rfl)
    (refine y_fin ?_; exact ⟨_, ⟨none, 0, rfl, rfl⟩, Ent.auto⟩)
  | some a =>
    (repeat' (first | (show KQ (WL _ _ _ _ _) _ _ _ _; first | refine yW p_move ?_ | refine yW p_asg ?_ | refine yB ?_ | (refine yX ?_; first | (refine w_ap0 ?_; intro ao1 cap1) | (refine w_ap ?_; intro ao1 cap1) | (refine w_bs ?_; intro q) | fail) | fail) | (show KQ (CD _ _ _ _ _) _ _ _ _; first | refine yT ?_ | refine yF ?_ | fail) | ((first | refine yC ?_ ?_) <;> (intro hc; (try simp only [hcS] at hc); try exact dD)) | refine yE ?_ | fail))
    (refine y_fin ?_; exact ⟨_, ⟨ao1, cap1, rfl, rfl⟩, Ent.auto⟩)
theorem index_spec (ao : Option Addr) (cap : Nat) (l : List Int) (i : Nat) (hi : i < l.length) (hnd : l.Nodup) (hr : Reads F (.slice ao l.length cap) l.length (ints l)) (hl : l.length ≤ 65536) : Sp Try.prog 39 [.slice ao l.length cap, .int .i64 l[i]] F fun r M => r = .int .i64 (i : Int) ∧ M = F := by
  refine y_of Try.func39 rfl Try.ntmps39 rfl fun w0 => ?_
  (repeat' (first | (show KQ (WL _ _ _ _ _) _ _ _ _; first | refine yW p_move ?_ | refine yW p_asg ?_ | refine yW p_ld ?_ | refine yW p_lda ?_ | refine yB ?_ | refine yW p_idx ?_ | refine yW p_idxl ?_ | refine yW p_len ?_ | refine yW p_lens ?_ | refine yW p_lenm ?_ | fail) | (show KQ (CD _ _ _ _ _) _ _ _ _; first | refine yT ?_ | refine yF ?_ | fail) | ((first | refine yC ?_ ?_) <;> (intro hc; (try simp only [hcS] at hc); try exact dD)) | refine yE ?_ | fail))
  refine y_loop (X := Nat) 0 (fun j => j ≤ i) (fun j => [(0, .slice ao l.length cap), (1, .int .i64 l[i]), (7, .int .i64 l.length), (8, .int .i64 j)]) (fun _ => F) (fun j => l.length - j) (Nat.zero_le _) ⟨rfl, rfl, rfl, rfl, trivial⟩ Ent.rfl ?_
  rintro K' j hj hnext
  have hlt : j < l.length := by omega
  have hx := ints_at l j hlt
  have hpos : 0 < (ints l).length := by simp [ints]; omega
  by_cases hji : j = i
  · subst hji
    (repeat' (first | (show KQ (WL _ _ _ _ _) _ _ _ _; first | refine yW p_move ?_ | refine yW p_asg ?_ | refine yW p_ld ?_ | refine yW p_lda ?_ | refine yB ?_ | refine yW p_idx ?_ | refine yW p_idxl ?_ | refine yW p_len ?_ | refine yW p_lens ?_ | refine yW p_lenm ?_ | fail) | (show KQ (CD _ _ _ _ _) _ _ _ _; first | refine yT ?_ | refine yF ?_ | fail) | ((first | refine yC ?_ ?_) <;> (intro hc; (try simp only [hcS] at hc); try exact dD)) | refine yE ?_ | fail))
    all_goals (refine y_fin ?_; exact ⟨_, ⟨rfl, rfl⟩, Ent.auto⟩)
  · have hne : ¬ l[i] = l[j] := fun e => by
      rcases Nat.lt_trichotomy i j with h | h | h
      · exact List.pairwise_iff_getElem.1 hnd i j hi hlt h e
      · exact hji h.symm
      · exact List.pairwise_iff_getElem.1 hnd j i hlt hi h e.symm
    (repeat' (first | (show KQ (WL _ _ _ _ _) _ _ _ _; first | refine yW p_move ?_ | refine yW p_asg ?_ | refine yW p_ld ?_ | refine yW p_lda ?_ | refine yB ?_ | refine yW p_idx ?_ | refine yW p_idxl ?_ | refine yW p_len ?_ | refine yW p_lens ?_ | refine yW p_lenm ?_ | fail) | (show KQ (CD _ _ _ _ _) _ _ _ _; first | refine yT ?_ | refine yF ?_ | fail) | ((first | refine yC ?_ ?_) <;> (intro hc; (try simp only [hcS] at hc); try exact dD)) | refine yE ?_ | fail))
    all_goals exact hnext (j + 1) _ _ (by omega) (by omega) ⟨rfl, rfl, rfl, rfl, trivial⟩ Ent.rfl
/-- The least so far, the greatest so far: its place. -/
def amin (l : List Int) : Nat → Nat
  | 0 => 0
  | i + 1 => if l.getD i 0 < l.getD (amin l i) 0 then i else amin l i
def amax (l : List Int) : Nat → Nat
  | 0 => 0
  | i + 1 => if l.getD (amax l i) 0 < l.getD i 0 then i else amax l i
theorem amin_le (l : List Int) : ∀ i, amin l i ≤ i - 1
  | 0 => Nat.le_refl _
  | i + 1 => by have := amin_le l i; unfold amin; split <;> omega
theorem amax_le (l : List Int) : ∀ i, amax l i ≤ i - 1
  | 0 => Nat.le_refl _
  | i + 1 => by have := amax_le l i; unfold amax; split <;> omega
theorem amin_lt {l : List Int} (h : 0 < l.length) (i : Nat) (hi : i ≤ l.length) : amin l i < l.length := by have := amin_le l i; omega
theorem amax_lt {l : List Int} (h : 0 < l.length) (i : Nat) (hi : i ≤ l.length) : amax l i < l.length := by have := amax_le l i; omega
theorem gd {l : List Int} {i : Nat} (h : i < l.length) : l.getD i 0 = l[i] := by simp [List.getD, h]
theorem min_spec (ao : Option Addr) (cap : Nat) (l : List Int) (h0 : 0 < l.length) (hr : Reads F (.slice ao l.length cap) l.length (ints l)) (hl : l.length ≤ 65536) : Sp Try.prog 40 [.slice ao l.length cap] F fun r M => r = .int .i64 (l[amin l l.length]'(amin_lt h0 _ (Nat.le_refl _))) ∧ M = F := by
  have hx0 := ints_at l 0 h0
  have hpos : 0 < (ints l).length := by simp [ints]; omega
  have e1 : amin l 1 = 0 := by simp [amin]
  refine y_of Try.func40 rfl Try.ntmps40 rfl fun w0 => ?_
  (repeat' (first | (show KQ (WL _ _ _ _ _) _ _ _ _; first | refine yW p_move ?_ | refine yW p_asg ?_ | refine yW p_ld ?_ | refine yW p_lda ?_ | refine yW p_add6 ?_ | refine yW p_add ?_ | refine yW p_adds ?_ | refine yW p_lss ?_ | refine yW p_idx ?_ | refine yW p_idxl ?_ | refine yW p_len ?_ | refine yW p_lens ?_ | refine yW p_lenm ?_ | refine yW p_min ?_ | refine yW p_mif ?_ | refine yW p_mifp ?_ | refine yW p_mifs ?_ | fail) | (show KQ (CD _ _ _ _ _) _ _ _ _; first | refine yT ?_ | refine yF ?_ | fail) | ((first | refine yC ?_ ?_) <;> (intro hc; (try simp only [hcS] at hc); try exact dD)) | refine yE ?_ | fail))
  refine y_loop (X := Nat) 1 (fun j => 1 ≤ j ∧ j ≤ l.length) (fun j => [(0, .slice ao l.length cap), (3, .int .i64 (l.getD (amin l j) 0)), (4, .int .i64 j)]) (fun _ => F) (fun j => l.length - j) ⟨by omega, by omega⟩ ⟨rfl, by rw [e1, gd h0]; rfl, rfl, trivial⟩ Ent.rfl ?_
  rintro K' j ⟨hj1, hj⟩ hnext
  by_cases hlt : j < l.length
  · have hx := ints_at l j hlt
    have e2 : (if l[j] < l.getD (amin l j) 0 then l[j] else l.getD (amin l j) 0) = l.getD (amin l (j + 1)) 0 := by
      have e3 : amin l (j + 1) = if l.getD j 0 < l.getD (amin l j) 0 then j else amin l j := rfl
      rw [e3, gd hlt]; split
      · rw [gd hlt]
      · rfl
    (repeat' (first | (show KQ (WL _ _ _ _ _) _ _ _ _; first | refine yW p_move ?_ | refine yW p_asg ?_ | refine yW p_ld ?_ | refine yW p_lda ?_ | refine yW p_add6 ?_ | refine yW p_add ?_ | refine yW p_adds ?_ | refine yW p_lss ?_ | refine yW p_idx ?_ | refine yW p_idxl ?_ | refine yW p_len ?_ | refine yW p_lens ?_ | refine yW p_lenm ?_ | refine yW p_min ?_ | refine yW p_mif ?_ | refine yW p_mifp ?_ | refine yW p_mifs ?_ | fail) | (show KQ (CD _ _ _ _ _) _ _ _ _; first | refine yT ?_ | refine yF ?_ | fail) | ((first | refine yC ?_ ?_) <;> (intro hc; (try simp only [hcS] at hc); try exact dD)) | refine yE ?_ | fail))
    all_goals refine kq_slot 3 rfl (congrArg (Value.int .i64) e2) ?_
    all_goals exact hnext (j + 1) _ _ ⟨by omega, by omega⟩ (by omega) ⟨rfl, rfl, rfl, trivial⟩ Ent.rfl
  · obtain rfl : j = l.length := by omega
    (repeat' (first | (show KQ (WL _ _ _ _ _) _ _ _ _; first | refine yW p_move ?_ | refine yW p_asg ?_ | refine yW p_ld ?_ | refine yW p_lda ?_ | refine yW p_add6 ?_ | refine yW p_add ?_ | refine yW p_adds ?_ | refine yW p_lss ?_ | refine yW p_idx ?_ | refine yW p_idxl ?_ | refine yW p_len ?_ | refine yW p_lens ?_ | refine yW p_lenm ?_ | refine yW p_min ?_ | refine yW p_mif ?_ | refine yW p_mifp ?_ | refine yW p_mifs ?_ | fail) | (show KQ (CD _ _ _ _ _) _ _ _ _; first | refine yT ?_ | refine yF ?_ | fail) | ((first | refine yC ?_ ?_) <;> (intro hc; (try simp only [hcS] at hc); try exact dD)) | refine yE ?_ | fail))
    all_goals (refine y_fin ?_; apply Exists.intro; apply And.intro; (focus (refine ⟨?_, rfl⟩; exact congrArg (Value.int .i64) (gd (amin_lt h0 _ (Nat.le_refl _))))); exact Ent.auto)
theorem max_spec (ao : Option Addr) (cap : Nat) (l : List Int) (h0 : 0 < l.length) (hr : Reads F (.slice ao l.length cap) l.length (ints l)) (hl : l.length ≤ 65536) : Sp Try.prog 41 [.slice ao l.length cap] F fun r M => r = .int .i64 (l[amax l l.length]'(amax_lt h0 _ (Nat.le_refl _))) ∧ M = F := by
  have hx0 := ints_at l 0 h0
  have hpos : 0 < (ints l).length := by simp [ints]; omega
  have e1 : amax l 1 = 0 := by simp [amax]
  refine y_of Try.func41 rfl Try.ntmps41 rfl fun w0 => ?_
  (repeat' (first | (show KQ (WL _ _ _ _ _) _ _ _ _; first | refine yW p_move ?_ | refine yW p_asg ?_ | refine yW p_ld ?_ | refine yW p_lda ?_ | refine yW p_add6 ?_ | refine yW p_add ?_ | refine yW p_adds ?_ | refine yW p_lss ?_ | refine yW p_idx ?_ | refine yW p_idxl ?_ | refine yW p_len ?_ | refine yW p_lens ?_ | refine yW p_lenm ?_ | refine yW p_max ?_ | refine yW p_mif ?_ | refine yW p_mifp ?_ | refine yW p_mifs ?_ | fail) | (show KQ (CD _ _ _ _ _) _ _ _ _; first | refine yT ?_ | refine yF ?_ | fail) | ((first | refine yC ?_ ?_) <;> (intro hc; (try simp only [hcS] at hc); try exact dD)) | refine yE ?_ | fail))
  refine y_loop (X := Nat) 1 (fun j => 1 ≤ j ∧ j ≤ l.length) (fun j => [(0, .slice ao l.length cap), (3, .int .i64 (l.getD (amax l j) 0)), (4, .int .i64 j)]) (fun _ => F) (fun j => l.length - j) ⟨by omega, by omega⟩ ⟨rfl, by rw [e1, gd h0]; rfl, rfl, trivial⟩ Ent.rfl ?_
  rintro K' j ⟨hj1, hj⟩ hnext
  by_cases hlt : j < l.length
  · have hx := ints_at l j hlt
    have e2 : (if l.getD (amax l j) 0 < l[j] then l[j] else l.getD (amax l j) 0) = l.getD (amax l (j + 1)) 0 := by
      have e3 : amax l (j + 1) = if l.getD (amax l j) 0 < l.getD j 0 then j else amax l j := rfl
      rw [e3, gd hlt]; split
      · rw [gd hlt]
      · rfl
    (repeat' (first | (show KQ (WL _ _ _ _ _) _ _ _ _; first | refine yW p_move ?_ | refine yW p_asg ?_ | refine yW p_ld ?_ | refine yW p_lda ?_ | refine yW p_add6 ?_ | refine yW p_add ?_ | refine yW p_adds ?_ | refine yW p_lss ?_ | refine yW p_idx ?_ | refine yW p_idxl ?_ | refine yW p_len ?_ | refine yW p_lens ?_ | refine yW p_lenm ?_ | refine yW p_max ?_ | refine yW p_mif ?_ | refine yW p_mifp ?_ | refine yW p_mifs ?_ | fail) | (show KQ (CD _ _ _ _ _) _ _ _ _; first | refine yT ?_ | refine yF ?_ | fail) | ((first | refine yC ?_ ?_) <;> (intro hc; (try simp only [hcS] at hc); try exact dD)) | refine yE ?_ | fail))
    all_goals refine kq_slot 3 rfl (congrArg (Value.int .i64) e2) ?_
    all_goals exact hnext (j + 1) _ _ ⟨by omega, by omega⟩ (by omega) ⟨rfl, rfl, rfl, trivial⟩ Ent.rfl
  · obtain rfl : j = l.length := by omega
    (repeat' (first | (show KQ (WL _ _ _ _ _) _ _ _ _; first | refine yW p_move ?_ | refine yW p_asg ?_ | refine yW p_ld ?_ | refine yW p_lda ?_ | refine yW p_add6 ?_ | refine yW p_add ?_ | refine yW p_adds ?_ | refine yW p_lss ?_ | refine yW p_idx ?_ | refine yW p_idxl ?_ | refine yW p_len ?_ | refine yW p_lens ?_ | refine yW p_lenm ?_ | refine yW p_max ?_ | refine yW p_mif ?_ | refine yW p_mifp ?_ | refine yW p_mifs ?_ | fail) | (show KQ (CD _ _ _ _ _) _ _ _ _; first | refine yT ?_ | refine yF ?_ | fail) | ((first | refine yC ?_ ?_) <;> (intro hc; (try simp only [hcS] at hc); try exact dD)) | refine yE ?_ | fail))
    all_goals (refine y_fin ?_; apply Exists.intro; apply And.intro; (focus (refine ⟨?_, rfl⟩; exact congrArg (Value.int .i64) (gd (amax_lt h0 _ (Nat.le_refl _))))); exact Ent.auto)
end
/-- Whose turn it is, and the lot behind it. -/
def plc (pol lot : Int) (l : List Int) (pk : Option Int) : Nat × Int :=
  match pk with
  | some p => (((p.tmod l.length + l.length).tmod l.length).toNat, lot)
  | none => if pol = 1 then (l.length - 1, lot) else if pol = 2 then (partN (mixI (w64 (lot + 11400714819323198485))).toNat l.length, mixI (w64 (lot + 11400714819323198485))) else if pol = 3 then (amin l l.length, lot) else if pol = 4 then (amax l l.length, lot) else (0, lot)
theorem mixI_rng (x : Int) : 0 ≤ mixI x ∧ mixI x < 18446744073709551616 := xr64 _ _
theorem tm_rng (p : Int) {n : Nat} (hn : 0 < n) : -(n : Int) < p.tmod n ∧ p.tmod n < n ∧ (p.tmod n + n).tmod n = if p.tmod n < 0 then p.tmod n + n else p.tmod n := by
  have h1 : p.tmod n < n := Int.tmod_lt_of_pos p (by omega)
  have h2 : -(n : Int) < p.tmod n := by
    have := Int.tmod_lt_of_pos (-p) (b := n) (by omega)
    rw [Int.neg_tmod] at this; omega
  refine ⟨h2, h1, ?_⟩
  rw [Int.tmod_eq_emod_of_nonneg (by omega)]
  split
  · exact Int.emod_eq_of_lt (by omega) (by omega)
  · rw [Int.add_emod_right]; exact Int.emod_eq_of_lt (by omega) h1
theorem plc_lt (pol lot : Int) (l : List Int) (pk : Option Int) (h : 0 < l.length) (hl : l.length ≤ 65536) : (plc pol lot l pk).1 < l.length := by
  unfold plc
  cases pk with
  | some p =>
    obtain ⟨h1, h2, h3⟩ := tm_rng p h
    show ((p.tmod l.length + l.length).tmod l.length).toNat < l.length
    rw [h3]; split <;> omega
  | none =>
    dsimp only
    split
    · exact Nat.sub_lt h (by decide)
    split
    · have := mixI_rng (w64 (lot + 11400714819323198485))
      exact partN_lt _ _ (by omega) h hl
    split
    · exact amin_lt h _ (Nat.le_refl _)
    split
    · exact amax_lt h _ (Nat.le_refl _)
    · exact h
theorem plc_lot (pol lot : Int) (l : List Int) (pk : Option Int) (h : 0 ≤ lot ∧ lot < 18446744073709551616) : 0 ≤ (plc pol lot l pk).2 ∧ (plc pol lot l pk).2 < 18446744073709551616 := by
  unfold plc
  cases pk with
  | some p => exact h
  | none =>
    dsimp only
    split
    · exact h
    split
    · exact mixI_rng _
    split
    · exact h
    split <;> exact h
end Go.Proofs.Ytfkamdahfmlgmaa
