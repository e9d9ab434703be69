/- DERIVED. The walk over what is owned: the rules as the walk takes them; each closes its own side goals. No translation is named here. -/
import Derived.Test.YteafcajlfagbkaaVa
import Derived.MapKept
import Derived.Laws.StructEq
namespace Sl
set_option linter.unusedSimpArgs false
set_option linter.unusedVariables false
open Go Go.RowKit Cv

section
variable {P : Program} {N : Nat} {E : Env} {L R : List HP} {d : Option Nat} {ty : TypeId} {pos : String} {af : Array Edge} {g : Option (Nat × Bool)} {x y c : Operand} {v u : Value} {T T' : TypeId} {dt : TypeDesc} {z : Value} {n b : Nat}

theorem ints_all (l : List Int) : (ints l).all (·.oneCell') = true := by simp [ints, List.all_eq_true, Value.oneCell']
theorem ints_len1 (l : List Int) : (ints l).length = l.length * 1 := by simp [ints]
theorem ints_at (l : List Int) (i : Nat) (h : i < l.length) : (ints l)[i]? = some (.int .i64 l[i]) := by simp [ints, h]

theorem Reads.some {ao : Option Addr} {m cap n : Nat} {xs : List Value} (r : Reads L (.slice ao m cap) n xs) (h : 0 < xs.length) : ∀ w, Sat (hp w) L → ao.isSome = true := by
  obtain ⟨ao', cap', hv, hr⟩ := r
  injection hv with e1 e2 e3
  subst e1
  exact fun w hw => (hr w hw 0 xs[0] (by simp [h])).2.2
theorem Reads.spot {ao : Option Addr} {m cap n : Nat} {xs : List Value} (r : Reads L (.slice ao m cap) n xs) (h : 0 < xs.length) : ∀ w, Sat (hp w) L → (ao.getD ⟨0, 0, none⟩).spot = none := by
  obtain ⟨ao', cap', hv, hr⟩ := r
  injection hv with e1 e2 e3
  subst e1
  exact fun w hw => (hr w hw 0 xs[0] (by simp [h])).2.1
/-- A slice value that holds something is not nil. -/
theorem Reads.empty {m cap n : Nat} {xs : List Value} (r : Reads L (.slice none m cap) n xs) : ∀ w, Sat (hp w) L → xs = [] := fun w hw => by
  cases xs with
  | nil => rfl
  | cons a l => exact absurd (r.some (by simp) w hw) (by simp)

theorem Rds.of_reads {ao : Option Addr} {m n k q sz cap : Nat} {xs vs : List Value} (h : Reads L (.slice ao m cap) n xs) (hk : Tk xs (k + q) sz vs) (hn : 0 < xs.length) (hs : ∀ w, Sat (hp w) L → (ao.getD ⟨0, 0, none⟩).spot = none) : Rds L (at_ ao k) q sz vs := by
  generalize e : k + q = r at hk
  induction hk generalizing q with
  | zero => exact .zero
  | succ hv _ ih =>
    subst e
    refine .succ (fun w hw => ?_) (ih (by omega))
    rw [at_add ao (hs w hw)]
    exact h.rd hv w hw

theorem RVals.agg {t ty : Nat} {ad : Addr} {vs' : List Value} {rs : List ResultVar} {vs : List Value} (i : Ty P ty dt z n b) (hd : aggD dt = true) (h : lk E t = some (.pointer (some ad))) (hl : Rds L ad 0 n vs') (k : RVals P E L rs vs) : RVals P E L (.cell t ty :: rs) (.agg vs'.toArray :: vs) :=
  .cell h (fun _ s => run_loadVar_agg i hd hl s) k

/-- The parts of a slice that is written out. -/
inductive Prt (E : Env) : Nat → List (Nat × Operand) → List Value → Prop
  | nil {i : Nat} : Prt E i [] []
  | cons {i : Nat} {x : Operand} {v : Value} {ps : List (Nat × Operand)} {vs : List Value} (h : ev E x = some v) (k : Prt E (i + 1) ps vs) : Prt E i ((i, x) :: ps) (v :: vs)
theorem Prt.evp {E : Env} {i : Nat} {ps : List (Nat × Operand)} {vs : List Value} (h : Prt E i ps vs) : evp E ps = some ((vs.zipIdx i).map fun (v, i) => (i, v)) := by
  induction h with
  | nil => rfl
  | cons h _ ih => simp [Sl.evp, h, ih]

theorem equal_snil {T e : TypeId} {w : World} {o : Option Addr} {m cap : Nat} (i : Ty P T (.slice e) z n b) : (Op.equal T (.slice o m cap) (.slice none 0 0)).run P w = .ok o.isNone w := by
  have : ∀ k : Nat, (Op.equalIn (k + 1) T (.slice o m cap) (.slice none 0 0)).run P w = .ok o.isNone w := fun k => by
    cases o <;> simp [Op.equalIn, i.run_und]
  simpa [Op.equal, Op.maxDepth] using this 9999

/-! ### pure -/
theorem p_move (h : ev E x = some v := by rfl) : Pu P ⟨d, .move x, ty, pos, af, g⟩ N E L v := pu_move h
theorem p_asg (h : ev E x = some v := by rfl) : Pu P ⟨d, .assign x, ty, pos, af, g⟩ N E L v := pu_assign h
theorem p_pt {q : Bool} (hc : ev E c = some (.bool q) := by rfl) (hq : q = true := by with_reducible rfl) (h : ev E x = some v := by rfl) : Pu P ⟨d, .pick c x y, ty, pos, af, g⟩ N E L v := pu_pick_t (hq ▸ hc) h
theorem p_pf {q : Bool} (hc : ev E c = some (.bool q) := by rfl) (hq : q = false := by with_reducible rfl) (h : ev E y = some v := by rfl) : Pu P ⟨d, .pick c x y, ty, pos, af, g⟩ N E L v := pu_pick_f (hq ▸ hc) h
theorem p_nott {q : Bool} (h : ev E x = some (.bool q) := by rfl) (hq : q = true := by with_reducible rfl) : Pu P ⟨d, .unOp .not T x, ty, pos, af, g⟩ N E L (.bool false) := by subst hq; exact pu_not h
theorem p_notf {q : Bool} (h : ev E x = some (.bool q) := by rfl) (hq : q = false := by with_reducible rfl) : Pu P ⟨d, .unOp .not T x, ty, pos, af, g⟩ N E L (.bool true) := by subst hq; exact pu_not h
theorem p_not {p : Bool} (h : ev E x = some (.bool p) := by rfl) : Pu P ⟨d, .unOp .not T x, ty, pos, af, g⟩ N E L (.bool (!p)) := pu_not h
theorem p_neg {k : IntKind} {p : Int} (h : ev E x = some (.int k p) := by rfl) : Pu P ⟨d, .unOp .neg T x, ty, pos, af, g⟩ N E L (.int k (k.wrap (0 - p))) := pu_neg h
theorem p_ext {vs : List Value} {i : Nat} (h : ev E x = some (.tuple vs.toArray) := by rfl) (hv : At vs i v := by ((repeat (first | exact At.here | apply At.there)); done)) : Pu P ⟨d, .extract x i, ty, pos, af, g⟩ N E L v := pu_extract h hv
theorem p_nil {ad : Addr} (h : ev E x = some (.pointer (some ad)) := by rfl) : Pu P ⟨d, .nilCheck x, ty, pos, af, g⟩ N E L (.pointer (some ad)) := pu_nilCheck h
def notM : Fn → Bool
  | .method _ => false
  | _ => true
theorem p_nilf {fn : Fn} {p q : Array Value} (h : ev E x = some (.func fn p q) := by rfl) (hm : notM fn = true := by rfl) : Pu P ⟨d, .nilCheck x, ty, pos, af, g⟩ N E L (.func fn p q) := pu_nilCheck_func (by cases fn <;> simp_all [notM]) h
section
variable {k : IntKind} {p q : Int}
theorem p_add (h1 : ev E x = some (.int k p) := by rfl) (h2 : ev E y = some (.int k q) := by rfl) : Pu P ⟨d, .binOp .add T x y T', ty, pos, af, g⟩ N E L (.int k (k.wrap (p + q))) := pu_add h1 h2
theorem p_sub (h1 : ev E x = some (.int k p) := by rfl) (h2 : ev E y = some (.int k q) := by rfl) : Pu P ⟨d, .binOp .sub T x y T', ty, pos, af, g⟩ N E L (.int k (k.wrap (p - q))) := pu_sub h1 h2
theorem p_mul (h1 : ev E x = some (.int k p) := by rfl) (h2 : ev E y = some (.int k q) := by rfl) : Pu P ⟨d, .binOp .mul T x y T', ty, pos, af, g⟩ N E L (.int k (k.wrap (p * q))) := pu_mul h1 h2
theorem p_add6 (h1 : ev E x = some (.int .i64 p) := by rfl) (h2 : ev E y = some (.int .i64 q) := by rfl) (hb : -9223372036854775808 ≤ p + q ∧ p + q ≤ 9223372036854775807 := by omega) : Pu P ⟨d, .binOp .add T x y T', ty, pos, af, g⟩ N E L (.int .i64 (p + q)) := (pu_add h1 h2).wrapped (wrap_i64 hb)
theorem p_sub6 (h1 : ev E x = some (.int .i64 p) := by rfl) (h2 : ev E y = some (.int .i64 q) := by rfl) (hb : -9223372036854775808 ≤ p - q ∧ p - q ≤ 9223372036854775807 := by omega) : Pu P ⟨d, .binOp .sub T x y T', ty, pos, af, g⟩ N E L (.int .i64 (p - q)) := (pu_sub h1 h2).wrapped (wrap_i64 hb)
theorem p_mul6 (h1 : ev E x = some (.int .i64 p) := by rfl) (h2 : ev E y = some (.int .i64 q) := by rfl) (hb : -9223372036854775808 ≤ p * q ∧ p * q ≤ 9223372036854775807 := by omega) : Pu P ⟨d, .binOp .mul T x y T', ty, pos, af, g⟩ N E L (.int .i64 (p * q)) := (pu_mul h1 h2).wrapped (wrap_i64 hb)
theorem p_lss (h1 : ev E x = some (.int k p) := by rfl) (h2 : ev E y = some (.int k q) := by rfl) : Pu P ⟨d, .binOp .lss T x y T', ty, pos, af, g⟩ N E L (.bool (decide (p < q))) := pu_lss h1 h2
theorem p_leq (h1 : ev E x = some (.int k p) := by rfl) (h2 : ev E y = some (.int k q) := by rfl) : Pu P ⟨d, .binOp .leq T x y T', ty, pos, af, g⟩ N E L (.bool (decide (p ≤ q))) := pu_leq h1 h2
theorem p_gtr (h1 : ev E x = some (.int k p) := by rfl) (h2 : ev E y = some (.int k q) := by rfl) : Pu P ⟨d, .binOp .gtr T x y T', ty, pos, af, g⟩ N E L (.bool (decide (q < p))) := pu_gtr h1 h2
theorem p_geq (h1 : ev E x = some (.int k p) := by rfl) (h2 : ev E y = some (.int k q) := by rfl) : Pu P ⟨d, .binOp .geq T x y T', ty, pos, af, g⟩ N E L (.bool (decide (q ≤ p))) := pu_geq h1 h2
theorem p_eq (h1 : ev E x = some (.int k p) := by rfl) (h2 : ev E y = some (.int k q) := by rfl) : Pu P ⟨d, .binOp .eql T x y T', ty, pos, af, g⟩ N E L (.bool (decide (p = q))) := pu_eql h1 h2
theorem p_ne (h1 : ev E x = some (.int k p) := by rfl) (h2 : ev E y = some (.int k q) := by rfl) : Pu P ⟨d, .binOp .neq T x y T', ty, pos, af, g⟩ N E L (.bool (!decide (p = q))) := pu_neq h1 h2
theorem p_conv {t1 t2 : TypeId} {k' : IntKind} {d1 : TypeDesc} {z1 z2 : Value} {n1 n2 b1 b2 : Nat} [i1 : Ty P t1 d1 z1 n1 b1] [i2 : Ty P t2 (.int k') z2 n2 b2] (h1 : ev E x = some (.int k p) := by rfl) : Pu P ⟨d, .convert t1 t2 x, ty, pos, af, g⟩ N E L (.int k' (k'.wrap p)) := pu_conv i1 i2 h1
theorem p_min {k' : IntKind} {ts : Array TypeId} (h1 : ev E x = some (.int k p) := by rfl) (h2 : ev E y = some (.int k' q) := by rfl) : Pu P ⟨d, .call ⟨.builtin .min, #[x, y], ts⟩, ty, pos, af, g⟩ N E L (.int k (if q < p then q else p)) := pu_min h1 h2
end
theorem p_eqb {p q : Bool} [i : Ty P T .bool z n b] (h1 : ev E x = some (.bool p) := by rfl) (h2 : ev E y = some (.bool q) := by rfl) : Pu P ⟨d, .binOp .eql T x y T', ty, pos, af, g⟩ N E L (.bool (p == q)) := pu_eql_bool i h1 h2
theorem p_neb {p q : Bool} [i : Ty P T .bool z n b] (h1 : ev E x = some (.bool p) := by rfl) (h2 : ev E y = some (.bool q) := by rfl) : Pu P ⟨d, .binOp .neq T x y T', ty, pos, af, g⟩ N E L (.bool (!(p == q))) := pu_neq_bool i h1 h2
theorem p_eqn {e : TypeId} {o : Option Addr} [i : Ty P T (.pointer e) z n b] (h1 : ev E x = some (.pointer o) := by rfl) (h2 : ev E y = some (.pointer none) := by rfl) : Pu P ⟨d, .binOp .eql T x y T', ty, pos, af, g⟩ N E L (.bool o.isNone) := pu_eql_nil i h1 h2
theorem p_eqn0 {e : TypeId} [i : Ty P T (.pointer e) z n b] (h1 : ev E x = some (.pointer none) := by rfl) (h2 : ev E y = some (.pointer none) := by rfl) : Pu P ⟨d, .binOp .eql T x y T', ty, pos, af, g⟩ N E L (.bool true) := p_eqn (i := i) h1 h2
theorem p_eqn1 {e : TypeId} {a : Addr} [i : Ty P T (.pointer e) z n b] (h1 : ev E x = some (.pointer (some a)) := by rfl) (h2 : ev E y = some (.pointer none) := by rfl) : Pu P ⟨d, .binOp .eql T x y T', ty, pos, af, g⟩ N E L (.bool false) := p_eqn (i := i) h1 h2
theorem p_nen {e : TypeId} {o : Option Addr} [i : Ty P T (.pointer e) z n b] (h1 : ev E x = some (.pointer o) := by rfl) (h2 : ev E y = some (.pointer none) := by rfl) : Pu P ⟨d, .binOp .neq T x y T', ty, pos, af, g⟩ N E L (.bool o.isSome) := pu_neq_nil i h1 h2
theorem p_nen0 {e : TypeId} [i : Ty P T (.pointer e) z n b] (h1 : ev E x = some (.pointer none) := by rfl) (h2 : ev E y = some (.pointer none) := by rfl) : Pu P ⟨d, .binOp .neq T x y T', ty, pos, af, g⟩ N E L (.bool false) := p_nen (i := i) h1 h2
theorem p_nen1 {e : TypeId} {a : Addr} [i : Ty P T (.pointer e) z n b] (h1 : ev E x = some (.pointer (some a)) := by rfl) (h2 : ev E y = some (.pointer none) := by rfl) : Pu P ⟨d, .binOp .neq T x y T', ty, pos, af, g⟩ N E L (.bool true) := p_nen (i := i) h1 h2
theorem str_dec (p q : ByteArray) : (p.toList == q.toList) = decide (p = q) := by
  rw [Bool.eq_iff_iff, ← beq_toListBytes, Go.MapKept.bytes_beq]; simp
theorem p_eqt {p q : ByteArray} (h1 : ev E x = some (.string p) := by rfl) (h2 : ev E y = some (.string q) := by rfl) : Pu P ⟨d, .binOp .eql T x y T', ty, pos, af, g⟩ N E L (.bool (decide (p = q))) := by rw [← str_dec]; exact pu_eql_str h1 h2
theorem p_net {p q : ByteArray} (h1 : ev E x = some (.string p) := by rfl) (h2 : ev E y = some (.string q) := by rfl) : Pu P ⟨d, .binOp .neq T x y T', ty, pos, af, g⟩ N E L (.bool (!decide (p = q))) := by rw [← str_dec]; exact pu_neq_str h1 h2
theorem p_eqs {e : TypeId} {o : Option Addr} {m cap : Nat} [i : Ty P T (.slice e) z n b] (h1 : ev E x = some (.slice o m cap) := by rfl) (h2 : ev E y = some (.slice none 0 0) := by rfl) : Pu P ⟨d, .binOp .eql T x y T', ty, pos, af, g⟩ N E L (.bool o.isNone) := ⟨fun a w f _ => by
  simp [execOp, f.eval h1, f.eval h2, eqGuard, binOp, equal_snil i]⟩
theorem p_eqs0 {e : TypeId} {m cap : Nat} [i : Ty P T (.slice e) z n b] (h1 : ev E x = some (.slice none m cap) := by rfl) (h2 : ev E y = some (.slice none 0 0) := by rfl) : Pu P ⟨d, .binOp .eql T x y T', ty, pos, af, g⟩ N E L (.bool true) := p_eqs (i := i) h1 h2
theorem p_eqs1 {e : TypeId} {m cap : Nat} {a : Addr} [i : Ty P T (.slice e) z n b] (h1 : ev E x = some (.slice (some a) m cap) := by rfl) (h2 : ev E y = some (.slice none 0 0) := by rfl) : Pu P ⟨d, .binOp .eql T x y T', ty, pos, af, g⟩ N E L (.bool false) := p_eqs (i := i) h1 h2
theorem p_nes {e : TypeId} {o : Option Addr} {m cap : Nat} [i : Ty P T (.slice e) z n b] (h1 : ev E x = some (.slice o m cap) := by rfl) (h2 : ev E y = some (.slice none 0 0) := by rfl) : Pu P ⟨d, .binOp .neq T x y T', ty, pos, af, g⟩ N E L (.bool (!o.isNone)) := ⟨fun a w f _ => by
  simp [execOp, f.eval h1, f.eval h2, eqGuard, binOp, equal_snil i]⟩
theorem p_nes0 {e : TypeId} {m cap : Nat} [i : Ty P T (.slice e) z n b] (h1 : ev E x = some (.slice none m cap) := by rfl) (h2 : ev E y = some (.slice none 0 0) := by rfl) : Pu P ⟨d, .binOp .neq T x y T', ty, pos, af, g⟩ N E L (.bool false) := p_nes (i := i) h1 h2
theorem p_nes1 {e : TypeId} {m cap : Nat} {a : Addr} [i : Ty P T (.slice e) z n b] (h1 : ev E x = some (.slice (some a) m cap) := by rfl) (h2 : ev E y = some (.slice none 0 0) := by rfl) : Pu P ⟨d, .binOp .neq T x y T', ty, pos, af, g⟩ N E L (.bool true) := p_nes (i := i) h1 h2
theorem p_fld0 {i o bl : Nat} [hf : Fld P T i o] (h : ev E x = some (.pointer (some ⟨bl, 0, none⟩)) := by rfl) : Pu P ⟨d, .fieldAddr T x i, ty, pos, af, g⟩ N E L (.pointer (some ⟨bl, o, none⟩)) := pu_fld0 hf h
theorem p_fldk {i o bl k : Nat} [hf : Fld P T i o] (h : ev E x = some (.pointer (some ⟨bl, k, none⟩)) := by rfl) : Pu P ⟨d, .fieldAddr T x i, ty, pos, af, g⟩ N E L (.pointer (some ⟨bl, k + o, none⟩)) := pu_fldk hf h
theorem p_flda {i o k : Nat} {ao : Option Addr} [hf : Fld P T i o] (h : ev E x = some (.pointer (some (at_ ao k))) := by rfl) (ha : (ao.getD ⟨0, 0, none⟩).spot = none := by assumption) : Pu P ⟨d, .fieldAddr T x i, ty, pos, af, g⟩ N E L (.pointer (some (at_ ao (k + o)))) := pu_fld_at hf ha h
theorem p_idx {e : TypeId} {de : TypeDesc} {ze : Value} {ne be : Nat} {ao : Option Addr} {m cap : Nat} {k : IntKind} {j : Int} [i : Ty P T (.slice e) z n b] [ie : Ty P e de ze ne be] (h : ev E x = some (.slice ao m cap) := by rfl) (h2 : ev E y = some (.int k j) := by rfl)
    (hj : 0 ≤ j ∧ j < (m : Int) := by omega) (ha : ∀ w, Sat (hp w) L → ao.isSome = true := by (first | (apply Reads.some; (focus (first | (apply Reads.row; focus ((repeat (first | exact Sel.here | apply Sel.there)); done)) | (apply reads_blk; focus ((repeat (first | exact Sel.here | apply Sel.there)); done)) | ((refine Reads.ent (by assumption) ?_); ((repeat (first | with_reducible exact Ent.rfl | with_reducible exact Ent.nil | ((with_reducible apply Ent.cons); focus ((repeat (first | exact Sel.here | apply Sel.there)); done)) | with_reducible refine Ent.drop ?_)); done)))); (focus (first | assumption | (simp only [ints_len]; omega) | (simp; done) | (simp; omega) | omega))) | (exact fun _ _ => by assumption))) : Pu P ⟨d, .indexAddr T x y, ty, pos, af, g⟩ N E L (.pointer (some (at_ ao (j.toNat * ne)))) := pu_index i ie h h2 hj ha
theorem p_idxs {s : ByteArray} {k : IntKind} {j : Int} {c : UInt8} [i : Ty P T .string z n b] (h : ev E x = some (.string s) := by rfl) (h2 : ev E y = some (.int k j) := by rfl) (hj : 0 ≤ j := by omega) (hc : s[j.toNat]? = some c := by assumption) :
    Pu P ⟨d, .index T x y, ty, pos, af, g⟩ N E L (.int .u8 c.toNat) := pu_index_str i h h2 hj hc
theorem p_ld {p : Addr} [i : Ty P T dt z n b] (h : ev E x = some (.pointer (some p)) := by rfl) (hd : aggD dt = false := by rfl) (hr : Rd L p v := by (first | ((with_reducible apply Rd.blk); (focus ((repeat (first | exact Sel.here | apply Sel.there)); done)); (focus rfl)) | (apply Reads.rd; (focus (first | (apply Reads.row; focus ((repeat (first | exact Sel.here | apply Sel.there)); done)) | (apply reads_blk; focus ((repeat (first | exact Sel.here | apply Sel.there)); done)) | ((refine Reads.ent (by assumption) ?_); ((repeat (first | with_reducible exact Ent.rfl | with_reducible exact Ent.nil | ((with_reducible apply Ent.cons); focus ((repeat (first | exact Sel.here | apply Sel.there)); done)) | with_reducible refine Ent.drop ?_)); done)))); (focus (first | ((try simp only [Int.toNat_natCast, Nat.mul_one, Nat.zero_mul, Nat.one_mul, Nat.zero_add, Nat.add_zero]); assumption) | rfl))) | assumption)) : Pu P ⟨d, .load T x, ty, pos, af, g⟩ N E L v := pu_load i hd h hr
theorem p_lda {p : Addr} {vs : List Value} [i : Ty P T dt z n b] (h : ev E x = some (.pointer (some p)) := by rfl) (hd : aggD dt = true := by rfl) (hr : Rds L p 0 n vs := by (first | ((with_reducible apply Rds.of_tk); (focus ((repeat (first | exact Sel.here | apply Sel.there)); done)); (focus ((repeat (first | with_reducible exact Tk.zero | (apply Tk.succ; focus rfl))); done))) | ((apply Rds.of_reads); (focus (first | (apply Reads.row; focus ((repeat (first | exact Sel.here | apply Sel.there)); done)) | (apply reads_blk; focus ((repeat (first | exact Sel.here | apply Sel.there)); done)) | ((refine Reads.ent (by assumption) ?_); ((repeat (first | with_reducible exact Ent.rfl | with_reducible exact Ent.nil | ((with_reducible apply Ent.cons); focus ((repeat (first | exact Sel.here | apply Sel.there)); done)) | with_reducible refine Ent.drop ?_)); done)))); (focus (first | ((try simp only [Int.toNat_natCast, Nat.mul_one, Nat.zero_mul, Nat.one_mul, Nat.zero_add, Nat.add_zero]); assumption) | ((repeat (first | with_reducible exact Tk.zero | (apply Tk.succ; focus rfl))); done))); (focus (first | assumption | (simp only [ints_len]; omega) | (simp; done) | (simp; omega) | omega)); (focus (first | (exact fun _ _ => by assumption) | (apply Reads.spot; (focus (first | (apply Reads.row; focus ((repeat (first | exact Sel.here | apply Sel.there)); done)) | (apply reads_blk; focus ((repeat (first | exact Sel.here | apply Sel.there)); done)) | ((refine Reads.ent (by assumption) ?_); ((repeat (first | with_reducible exact Ent.rfl | with_reducible exact Ent.nil | ((with_reducible apply Ent.cons); focus ((repeat (first | exact Sel.here | apply Sel.there)); done)) | with_reducible refine Ent.drop ?_)); done)))); (focus (first | assumption | (simp only [ints_len]; omega) | (simp; done) | (simp; omega) | omega)))))) | assumption)) : Pu P ⟨d, .load T x, ty, pos, af, g⟩ N E L (.agg vs.toArray) := pu_load_agg i hd h hr
theorem p_len {e : TypeId} {ao : Option Addr} {m cap : Nat} [i : Ty P T (.slice e) z n b] (h : ev E x = some (.slice ao m cap) := by rfl) : Pu P ⟨d, .call ⟨.builtin .len, #[x], #[T]⟩, ty, pos, af, g⟩ N E L (.int .i64 m) := pu_len i h
theorem p_lens {s : ByteArray} [i : Ty P T .string z n b] (h : ev E x = some (.string s) := by rfl) : Pu P ⟨d, .call ⟨.builtin .len, #[x], #[T]⟩, ty, pos, af, g⟩ N E L (.int .i64 s.size) := pu_len_str i h
theorem p_bld {fs : List Field} {ps : List (Nat × Operand)} {pv : List (Nat × Value)} {pl : List (Nat × Nat)} {cs : List Value} [i : Ty P T (.struct fs.toArray) z n b] (hx : evp E ps = some pv := by rfl) (hp : Pls P fs pl := by ((repeat (first | with_reducible exact Pls.nil | ((with_reducible apply Pls.cons); (focus exact inferInstance)))); done)) (hf : Fil pl (celv z) pv cs := by ((repeat (first | with_reducible exact Fil.nil | ((with_reducible apply Fil.cons); (focus rfl); (focus rfl); (focus ((repeat (first | with_reducible exact Pts.nil | (apply Pts.cons; focus ((repeat (first | exact Pt.here | apply Pt.there)); done)))); done))))); done)) :
    Pu P ⟨d, .build T ps.toArray, ty, pos, af, g⟩ N E L (.agg cs.toArray) := pu_build i hx hp hf
theorem p_part {fs : Array Field} {f : Field} {i : Nat} {cs : List Value} {d1 : TypeDesc} {z1 : Value} {n1 b1 : Nat} [it : Ty P T (.struct fs) z n b] (h : ev E x = some (.agg cs.toArray) := by rfl) (hf : fs[i]? = some f := by rfl) (i2 : Ty P f.type d1 z1 n1 b1 := by infer_instance) (hd : aggD d1 = false := by rfl) (hv : cs[f.offset]? = some v := by rfl) :
    Pu P ⟨d, .field T x i, ty, pos, af, g⟩ N E L v := pu_part it hf i2 hd h hv
theorem p_parta {fs : Array Field} {f : Field} {i : Nat} {cs vs : List Value} {d1 : TypeDesc} {z1 : Value} {n1 b1 : Nat} [it : Ty P T (.struct fs) z n b] (h : ev E x = some (.agg cs.toArray) := by rfl) (hf : fs[i]? = some f := by rfl) (i2 : Ty P f.type d1 z1 n1 b1 := by infer_instance) (hd : aggD d1 = true := by rfl) (hv : Tk cs f.offset n1 vs := by ((repeat (first | with_reducible exact Tk.zero | (apply Tk.succ; focus rfl))); done)) :
    Pu P ⟨d, .field T x i, ty, pos, af, g⟩ N E L (.agg vs.toArray) := pu_part_agg it hf i2 hd h hv

/-! ### on memory -/
variable {Q : Exit → Act → World → Prop} {K : Act → World → Prop} {w0 : World} {t : Nat}
theorem w_al [i : Ty P T dt z n b] (h : ∀ q, KQ K w0 N ((t, .pointer (some ⟨q, 0, none⟩)) :: E) (blk q (.cells (celv z).toArray T (0, 0)) :: L)) (hd : Nat.blt t N = true := by rfl) : WX P Q ⟨some t, .alloc T, ty, pos, af, g⟩ K w0 N E L := wx_alloc i hd h
theorem w_bx (h : ∀ q, KQ K w0 N ((t, .pointer (some ⟨q, 0, none⟩)) :: E) (blk q (.cells (celv v).toArray T (0, 0)) :: L)) (hx : ev E x = some v := by rfl) (hd : Nat.blt t N = true := by rfl) : WX P Q ⟨some t, .box T x, ty, pos, af, g⟩ K w0 N E L := wx_box hx hd h
theorem w_st {bl o : Nat} {cs cs' : List Value} {t : TypeId} [i : Ty P T dt z n b] (h : KQ K w0 N E (blk bl (.cells cs'.toArray t (0, 0)) :: R)) (hx : ev E x = some (.pointer (some ⟨bl, o, none⟩)) := by rfl) (hy : ev E y = some v := by rfl) (hn : (celv v).length = n := by rfl) (s : Sel L (blk bl (.cells cs.toArray t (0, 0))) R := by ((repeat (first | exact Sel.here | apply Sel.there)); done)) (hp : Pts cs o (celv v) cs' := by ((repeat (first | with_reducible exact Pts.nil | (apply Pts.cons; focus ((repeat (first | exact Pt.here | apply Pt.there)); done)))); done))
    (h1 : (celv v).all (·.oneCell') = true := by rfl) : WX P Q ⟨none, .store T x y, ty, pos, af, g⟩ K w0 N E L := wx_store i hx hy hn s hp h1 rfl h
theorem w_bs {e : TypeId} {de : TypeDesc} {ze : Value} {sz be m : Nat} {ps : List (Nat × Operand)} {vs : List Value} [i : Ty P T (.slice e) z n b] [ie : Ty P e de ze (sz + 1) be]
    (h : ∀ q, KQ K w0 N ((t, .slice (some ⟨q, 0, none⟩) m m) :: E) (row e (sz + 1) (.slice (some ⟨q, 0, none⟩) m m) m (vs.flatMap celv) :: L)) (hx : Prt E 0 ps vs := by ((repeat (first | with_reducible exact Prt.nil | (apply Prt.cons; focus rfl))); done)) (hl : vs.length = m := by rfl) (hs : vs.all (fun v => (celv v).length == sz + 1) = true := by rfl) (hr : Nat.ble (m * (sz + 1)) 16777216 = true := by rfl) (hd : Nat.blt t N = true := by rfl) :
    WX P Q ⟨some t, .buildSlice T m ps.toArray, ty, pos, af, g⟩ K w0 N E L := wx_buildSlice i ie hx.evp hl hs (Nat.le_of_ble_eq_true hr) hd h
theorem w_ap {e : TypeId} {de : TypeDesc} {ze : Value} {sz be m k yc : Nat} {yo : Option Addr} {xs ys : List Value} [i : Ty P T (.slice e) z n b] [ie : Ty P e de ze sz be]
    (h : ∀ ao cap, KQ K w0 N ((t, .slice ao (k + m) cap) :: E) (row e sz (.slice ao (k + m) cap) (k + m) (xs ++ ys) :: R))
    (hx : ev E x = some v := by rfl) (hy : ev E y = some (.slice yo m yc) := by rfl) (hz : ze.cells.size = sz := by rfl) (hpos : Nat.blt 0 sz = true := by rfl) (s : Sel L (row e sz v k xs) R := by ((repeat (first | exact Sel.here | apply Sel.there)); done)) (hr : Reads R (.slice yo m yc) m ys := by (first | (apply Reads.row; focus ((repeat (first | exact Sel.here | apply Sel.there)); done)) | (apply reads_blk; focus ((repeat (first | exact Sel.here | apply Sel.there)); done)) | ((refine Reads.ent (by assumption) ?_); ((repeat (first | with_reducible exact Ent.rfl | with_reducible exact Ent.nil | ((with_reducible apply Ent.cons); focus ((repeat (first | exact Sel.here | apply Sel.there)); done)) | with_reducible refine Ent.drop ?_)); done)))) (hl : ys.length = m * sz := by (first | rfl | exact ints_len1 _ | (simp; done) | (simp; omega) | assumption)) (h1 : ys.all (·.oneCell') = true := by (first | rfl | exact ints_all _ | assumption))
    (hlen : k + m ≤ maxLen := by (first | omega | (unfold maxLen; omega) | assumption)) (hb : (k + m) * be ≤ 140737488355328 := by (first | omega | (unfold maxLen; omega) | assumption)) (hd : Nat.blt t N = true := by rfl) : WX P Q ⟨some t, .call ⟨.builtin .append, #[x, y], #[T, T]⟩, ty, pos, af, g⟩ K w0 N E L := wx_append i ie hz (by simpa [Nat.blt_eq] using hpos) hx hy s hr hl h1 hlen hb hd h
theorem w_ap0 {e : TypeId} {de : TypeDesc} {ze : Value} {sz be m yc : Nat} {yo : Option Addr} {xs ys : List Value} [i : Ty P T (.slice e) z n b] [ie : Ty P e de ze sz be]
    (h : ∀ ao cap, KQ K w0 N ((t, .slice ao m cap) :: E) (row e sz (.slice ao m cap) m ys :: R))
    (hx : ev E x = some v := by rfl) (hy : ev E y = some (.slice yo m yc) := by rfl) (hz : ze.cells.size = sz := by rfl) (hpos : Nat.blt 0 sz = true := by rfl) (s : Sel L (row e sz v 0 xs) R := by ((repeat (first | exact Sel.here | apply Sel.there)); done)) (hr : Reads R (.slice yo m yc) m ys := by (first | (apply Reads.row; focus ((repeat (first | exact Sel.here | apply Sel.there)); done)) | (apply reads_blk; focus ((repeat (first | exact Sel.here | apply Sel.there)); done)) | ((refine Reads.ent (by assumption) ?_); ((repeat (first | with_reducible exact Ent.rfl | with_reducible exact Ent.nil | ((with_reducible apply Ent.cons); focus ((repeat (first | exact Sel.here | apply Sel.there)); done)) | with_reducible refine Ent.drop ?_)); done)))) (hl : ys.length = m * sz := by (first | rfl | exact ints_len1 _ | (simp; done) | (simp; omega) | assumption)) (h1 : ys.all (·.oneCell') = true := by (first | rfl | exact ints_all _ | assumption))
    (hlen : m ≤ maxLen := by (first | omega | (unfold maxLen; omega) | assumption)) (hb : m * be ≤ 140737488355328 := by (first | omega | (unfold maxLen; omega) | assumption)) (hd : Nat.blt t N = true := by rfl) : WX P Q ⟨some t, .call ⟨.builtin .append, #[x, y], #[T, T]⟩, ty, pos, af, g⟩ K w0 N E L := by
  refine ⟨fun a w f sy => ?_⟩
  have hxs : xs = [] := List.eq_nil_of_length_eq_zero (by simpa using (sy.ent fun _ q => s.sat q).2.row.len)
  subst hxs
  refine (w_ap (fun ao cap => ?_) hx hy hz hpos s hr hl h1 (by simpa using hlen) (by simpa using hb) hd).run a w f sy
  simpa using h ao cap

theorem kq_fin {fn : Func} {Post : Value → List HP → Prop} {rs : List ResultVar} {vs : List Value} (h : ∃ M, Post (tup vs) M ∧ Ent L M) (hr : fn.results = rs.toArray := by rfl) (hv : RVals P E L rs vs := by ((repeat (first | with_reducible exact RVals.nil | (apply RVals.tmp; focus rfl) | (apply RVals.agg; (focus exact inferInstance); (focus rfl); (focus rfl); (focus (first | ((with_reducible apply Rds.of_tk); (focus ((repeat (first | exact Sel.here | apply Sel.there)); done)); (focus ((repeat (first | with_reducible exact Tk.zero | (apply Tk.succ; focus rfl))); done))) | ((apply Rds.of_reads); (focus (first | (apply Reads.row; focus ((repeat (first | exact Sel.here | apply Sel.there)); done)) | (apply reads_blk; focus ((repeat (first | exact Sel.here | apply Sel.there)); done)) | ((refine Reads.ent (by assumption) ?_); ((repeat (first | with_reducible exact Ent.rfl | with_reducible exact Ent.nil | ((with_reducible apply Ent.cons); focus ((repeat (first | exact Sel.here | apply Sel.there)); done)) | with_reducible refine Ent.drop ?_)); done)))); (focus (first | ((try simp only [Int.toNat_natCast, Nat.mul_one, Nat.zero_mul, Nat.one_mul, Nat.zero_add, Nat.add_zero]); assumption) | ((repeat (first | with_reducible exact Tk.zero | (apply Tk.succ; focus rfl))); done))); (focus (first | assumption | (simp only [ints_len]; omega) | (simp; done) | (simp; omega) | omega)); (focus (first | (exact fun _ _ => by assumption) | (apply Reads.spot; (focus (first | (apply Reads.row; focus ((repeat (first | exact Sel.here | apply Sel.there)); done)) | (apply reads_blk; focus ((repeat (first | exact Sel.here | apply Sel.there)); done)) | ((refine Reads.ent (by assumption) ?_); ((repeat (first | with_reducible exact Ent.rfl | with_reducible exact Ent.nil | ((with_reducible apply Ent.cons); focus ((repeat (first | exact Sel.here | apply Sel.there)); done)) | with_reducible refine Ent.drop ?_)); done)))); (focus (first | assumption | (simp only [ints_len]; omega) | (simp; done) | (simp; omega) | omega)))))) | assumption))))); done)) :
    KQ (bodyPost P fn (fun en w' => ∃ r L', en = .returned r ∧ Post r L' ∧ Sy w0 L' w') .ret) w0 N E L := by
  obtain ⟨M, hp, e⟩ := h
  exact kq_end hr hv fun _ s => ⟨_, M, rfl, hp, s.ent e⟩
theorem Ent.auto {M : List HP} (e : Ent L M := by ((repeat (first | with_reducible exact Ent.rfl | with_reducible exact Ent.nil | ((with_reducible apply Ent.cons); focus ((repeat (first | exact Sel.here | apply Sel.there)); done)) | with_reducible refine Ent.drop ?_)); done)) : Ent L M := e
end
end Sl
