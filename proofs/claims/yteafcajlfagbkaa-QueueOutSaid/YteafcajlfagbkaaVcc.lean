/- DERIVED. The walk over what is owned: code in a form that computes what comes next, and one rule for each step. No translation is named here. -/
import Derived.Test.YteafcajlfagbkaaVg
namespace Sl
set_option linter.unusedSimpArgs false
set_option linter.unusedVariables false
open Go Go.RowKit Cv
/-! ### code that computes what comes next -/
def thn (K : Act → World → Prop) (Q : Exit → Act → World → Prop) : Exit → Act → World → Prop
  | .normal => K
  | e => Q e
def inB (id : Nat) (Q : Exit → Act → World → Prop) : Exit → Act → World → Prop
  | .exit k => bif Nat.beq k id then Q .normal else Q (.exit k)
  | e => Q e
structure WL (P : Program) (ops : Array Oper) (Q : Exit → Act → World → Prop) (o : Oper) (r : List Oper) (a : Act) (w : World) : Prop where
  out : wpList P ops Q (o :: r) a w
def wl (P : Program) (ops : Array Oper) (Q : Exit → Act → World → Prop) : List Oper → Act → World → Prop
  | [] => Q .normal
  | o :: r => WL P ops Q o r
structure CX (P : Program) (c : Code) (Q : Exit → Act → World → Prop) (a : Act) (w : World) : Prop where
  out : c.wp P Q a w
structure CD (P : Program) (c : Operand) (x y : Code) (Q : Exit → Act → World → Prop) (a : Act) (w : World) : Prop where
  out : (Code.cond c x y).wp P Q a w
structure BP (P : Program) (fn : Func) (R : Ending → World → Prop) (e : Exit) (a : Act) (w : World) : Prop where
  out : bodyPost P fn R e a w
def cw (P : Program) : Code → (Exit → Act → World → Prop) → Act → World → Prop
  | .seq x y, Q => cw P x (thn (cw P y Q) Q)
  | .skip, Q => Q .normal
  | .exit id, Q => Q (.exit id)
  | .ret, Q => Q .ret
  | .block id c, Q => cw P c (inB id Q)
  | .region id ops d, Q => bif d then CX P (.region id ops true) Q else wl P ops Q ops.toList
  | .cond c x y, Q => CD P c x y Q
  | c, Q => CX P c Q
section
variable {P : Program} {Q : Exit → Act → World → Prop} {K : Act → World → Prop} {w0 : World} {N t : Nat} {E : Env} {L LS : List HP} {op : Op} {ty : TypeId} {pos : String} {af : Array Edge} {g : Option (Nat × Bool)} {v : Value} {ops : Array Oper} {r : List Oper} {fuel : Nat} {listed : Array Bool} {d : Option Tmp}
theorem wl_out : ∀ {l : List Oper} {a : Act} {w : World}, wl P ops Q l a w → wpList P ops Q l a w
  | [], _, _, h => h
  | _ :: _, _, _, h => h.out
theorem cw_out : ∀ {c : Code} {Q : Exit → Act → World → Prop} {a : Act} {w : World}, cw P c Q a w → c.wp P Q a w
  | .seq x y, Q, a, w, h => wp_seq (wp_mono (cw_out (c := x) (by simpa only [cw] using h)) fun e a w q => by
      cases e with
      | normal => exact cw_out (c := y) q
      | _ => exact q)
  | .skip, _, _, _, h => wp_skip (by simpa only [cw] using h)
  | .exit _, _, _, _, h => wp_exit (by simpa only [cw] using h)
  | .ret, _, _, _, h => wp_ret (by simpa only [cw] using h)
  | .block id c, Q, a, w, h => wp_block (wp_mono (cw_out (c := c) (by simpa only [cw] using h)) fun e a w q => by
      cases e with
      | exit k =>
        show if k = id then Q .normal a w else Q (.exit k) a w
        have q' : (bif Nat.beq k id then Q .normal else Q (.exit k)) a w := q
        by_cases hk : k = id
        · subst hk; rw [Nat.beq_refl] at q'; rw [if_pos rfl]; exact q'
        · have : Nat.beq k id = false := by
            cases hb : Nat.beq k id
            · rfl
            · exact absurd (Nat.eq_of_beq_eq_true hb) hk
          rw [this] at q'; rw [if_neg hk]; exact q'
      | _ => exact q)
  | .region id ops d, Q, a, w, h => by
    cases d with
    | true => exact (show CX P (.region id ops true) Q a w by simpa only [cw, cond_true] using h).out
    | false => exact wp_region_list (wl_out (show wl P ops Q ops.toList a w by simpa only [cw, cond_false] using h))
  | .cond c x y, Q, a, w, h => (show CD P c x y Q a w by simpa only [cw] using h).out
  | .loop c, Q, a, w, h => (show CX P (.loop c) Q a w by simpa only [cw] using h).out
  | .rangeFunc f p s c, Q, a, w, h => (show CX P (.rangeFunc f p s c) Q a w by simpa only [cw] using h).out
  | .scope c, Q, a, w, h => (show CX P (.scope c) Q a w by simpa only [cw] using h).out
  | .label l, Q, a, w, h => (show CX P (.label l) Q a w by simpa only [cw] using h).out
  | .goto l, Q, a, w, h => (show CX P (.goto l) Q a w by simpa only [cw] using h).out
  | .refuse s, Q, a, w, h => (show CX P (.refuse s) Q a w by simpa only [cw] using h).out
theorem KQ.cw {c : Code} (h : KQ (cw P c Q) w0 N E L) : KQ (c.wp P Q) w0 N E L := ⟨fun a w f s => cw_out (h.run a w f s)⟩
/-! ### operations in the order of the text -/
theorem yX (h : WX P Q ⟨d, op, ty, pos, af, g⟩ (wl P ops Q r) w0 N E L) (hg : Wd ops E g true := by (first | exact Wd.none | (apply Wd.yes; (focus rfl); (focus rfl); (focus (with_reducible rfl))))) : KQ (WL P ops Q ⟨d, op, ty, pos, af, g⟩ r) w0 N E L := ⟨fun a w f s => ⟨wpList_step fun _ hK => by
  rw [if_pos (wantd_spec f hg.w)]
  exact Oper.wp_mono (fun a w h => hK a w (wl_out h)) (h.run a w f s)⟩⟩
theorem yW (hp : Pu P ⟨some t, op, ty, pos, af, g⟩ N E L v) (h : KQ (wl P ops Q r) w0 N ((t, v) :: E) L) (hg : Wd ops E g true := by (first | exact Wd.none | (apply Wd.yes; (focus rfl); (focus rfl); (focus (with_reducible rfl))))) (hd : Nat.blt t N = true := by rfl) : KQ (WL P ops Q ⟨some t, op, ty, pos, af, g⟩ r) w0 N E L := yX (w_pure hp h hd) hg
theorem yB {p : BinOp} {T T' : TypeId} {x z : Operand} (h : KQ (wl P ops Q r) w0 N ((t, v) :: E) L) (hp : Pu P ⟨some t, .binOp p T x z T', ty, pos, af, g⟩ N E L v := by first | exact p_add6 | exact p_add | exact p_adds | exact p_sub6 | exact p_sub | exact p_mul6 | exact p_mul | exact p_lss | exact p_leq | exact p_gtr | exact p_geq | exact p_eq | exact p_eqb | exact p_eqn0 | exact p_eqn1 | exact p_eqn | exact p_eqs0 | exact p_eqs1 | exact p_eqs | exact p_eqt | exact p_eqa | exact p_eqf | exact p_eqm | exact p_and | exact p_or | exact p_xor | exact p_quo | exact p_rem | exact p_shl | exact p_shr | exact p_ne | exact p_neb | exact p_nen0 | exact p_nen1 | exact p_nen | exact p_nes0 | exact p_nes1 | exact p_nes | exact p_net | exact p_nea | fail) (hg : Wd ops E g true := by (first | exact Wd.none | (apply Wd.yes; (focus rfl); (focus rfl); (focus (with_reducible rfl))))) (hd : Nat.blt t N = true := by rfl) : KQ (WL P ops Q ⟨some t, .binOp p T x z T', ty, pos, af, g⟩ r) w0 N E L := yW hp h hg hd
theorem yA {T : TypeId} {x : Operand} {k : Nat} (h : KQ (wl P ops Q r) w0 N ((t, v) :: E) L) (hp : Pu P ⟨some t, .fieldAddr T x k, ty, pos, af, g⟩ N E L v := by first | exact p_fld0 | exact p_fldk | exact p_flda | exact p_fldr | fail) (hg : Wd ops E g true := by (first | exact Wd.none | (apply Wd.yes; (focus rfl); (focus rfl); (focus (with_reducible rfl))))) (hd : Nat.blt t N = true := by rfl) : KQ (WL P ops Q ⟨some t, .fieldAddr T x k, ty, pos, af, g⟩ r) w0 N E L := yW hp h hg hd
theorem yP {T : TypeId} {x : Operand} {k : Nat} (h : KQ (wl P ops Q r) w0 N ((t, v) :: E) L) (hp : Pu P ⟨some t, .field T x k, ty, pos, af, g⟩ N E L v := by first | exact p_part | exact p_parta | exact p_partl | exact p_partal | fail) (hg : Wd ops E g true := by (first | exact Wd.none | (apply Wd.yes; (focus rfl); (focus rfl); (focus (with_reducible rfl))))) (hd : Nat.blt t N = true := by rfl) : KQ (WL P ops Q ⟨some t, .field T x k, ty, pos, af, g⟩ r) w0 N E L := yW hp h hg hd
theorem yS {T : TypeId} {a b c : Option Operand} {y : Operand} (h : KQ (wl P ops Q r) w0 N ((t, v) :: E) L) (hp : Pu P ⟨some t, .slice T y a b c, ty, pos, af, g⟩ N E L v := by first | exact p_sls | exact p_slsl | exact p_slsh | exact p_sle1 | exact p_sle2 | exact p_slhn | exact p_slln | exact p_slbn | exact p_slmn | exact p_slh | exact p_sll | exact p_slb | exact p_slm | exact p_rl | exact p_rh | fail) (hg : Wd ops E g true := by (first | exact Wd.none | (apply Wd.yes; (focus rfl); (focus rfl); (focus (with_reducible rfl))))) (hd : Nat.blt t N = true := by rfl) : KQ (WL P ops Q ⟨some t, .slice T y a b c, ty, pos, af, g⟩ r) w0 N E L := yW hp h hg hd
theorem yN {gb : Nat × Bool} (h : KQ (wl P ops Q r) w0 N ((t, undef) :: E) L) (hg : Wd ops E (some gb) false := by (first | (apply Wd.noT; (focus rfl); (focus rfl); (focus (with_reducible rfl))) | (apply Wd.noF; (focus rfl); (focus rfl); (focus (with_reducible rfl))) | (apply Wd.undef; (focus rfl); (focus rfl)))) (hd : Nat.blt t N = true := by rfl) : KQ (WL P ops Q ⟨some t, op, ty, pos, af, some gb⟩ r) w0 N E L := ⟨fun a w f s => ⟨wpList_step fun _ hK => by
  rw [if_neg (by rw [wantd_spec f hg.w]; simp)]
  exact hK _ _ (wl_out (h.run _ _ (f.put (d := some t) hd _) s))⟩⟩
theorem yO {gb : Nat × Bool} (h : KQ (wl P ops Q r) w0 N E L) (hg : Wd ops E (some gb) false := by (first | (apply Wd.noT; (focus rfl); (focus rfl); (focus (with_reducible rfl))) | (apply Wd.noF; (focus rfl); (focus rfl); (focus (with_reducible rfl))) | (apply Wd.undef; (focus rfl); (focus rfl)))) : KQ (WL P ops Q ⟨none, op, ty, pos, af, some gb⟩ r) w0 N E L := ⟨fun a w f s => ⟨wpList_step fun _ hK => by
  rw [if_neg (by rw [wantd_spec f hg.w]; simp)]
  exact hK _ _ (wl_out (h.run _ _ f s))⟩⟩
theorem yG {j : Nat} {p c : Bool} (h1 : c = true → KQ (WL P ops Q ⟨d, op, ty, pos, af, some (j, p)⟩ r) w0 N ((t, .bool true) :: E) L) (h2 : c = false → KQ (WL P ops Q ⟨d, op, ty, pos, af, some (j, p)⟩ r) w0 N ((t, .bool false) :: E) L)
    (hd : (ops[j]?).bind (·.dst) = some t := by rfl) (ht : lk E t = some (.bool c) := by rfl) : KQ (WL P ops Q ⟨d, op, ty, pos, af, some (j, p)⟩ r) w0 N E L := kq_split t h1 h2 ht
/-! ### code -/
theorem yT {c : Operand} {x z : Code} {b : Bool} (h : KQ (cw P x Q) w0 N E L) (hc : ev E c = some (.bool b) := by rfl) (ht : b = true := by with_reducible rfl) : KQ (CD P c x z Q) w0 N E L :=
  ⟨fun a w f s => ⟨wp_cond_true (f.eval (ht ▸ hc)) (cw_out (h.run a w f s))⟩⟩
theorem yF {c : Operand} {x z : Code} {b : Bool} (h : KQ (cw P z Q) w0 N E L) (hc : ev E c = some (.bool b) := by rfl) (ht : b = false := by with_reducible rfl) : KQ (CD P c x z Q) w0 N E L :=
  ⟨fun a w f s => ⟨wp_cond_false (f.eval (ht ▸ hc)) (cw_out (h.run a w f s))⟩⟩
theorem yC {c : Operand} {x z : Code} {b : Bool} (h1 : b = true → KQ (cw P x Q) w0 N E L) (h2 : b = false → KQ (cw P z Q) w0 N E L) (hc : ev E c = some (.bool b) := by rfl) : KQ (CD P c x z Q) w0 N E L :=
  ⟨fun a w f s => ⟨wp_cond_split (f.eval hc) (fun e => cw_out ((h1 e).run a w f s)) (fun e => cw_out ((h2 e).run a w f s))⟩⟩
theorem yE {fn : Func} {R : Ending → World → Prop} (h : KQ (BP P fn R .ret) w0 N E L) : KQ (BP P fn R .normal) w0 N E L := ⟨fun a w f s => ⟨(h.run a w f s).out⟩⟩
theorem hcS : (∀ (p : Prop) [Decidable p], (decide p = true) = p) ∧ (∀ (p : Prop) [Decidable p], (decide p = false) = ¬ p) ∧ (∀ b : Bool, ((!b) = true) = (b = false)) ∧ (∀ b : Bool, ((!b) = false) = (b = true)) ∧ (∀ a b : Int, (¬ a < b) = (b ≤ a)) ∧ (∀ a b : Int, (¬ a ≤ b) = (b < a)) :=
  ⟨fun _ => decide_eq_true_eq, fun _ => propext decide_eq_false_iff_not, Bool.not_eq_true', Bool.not_eq_false', fun _ _ => propext Int.not_lt, fun _ _ => propext Int.not_le⟩
theorem dD {B : Prop} (h : False := by first | (simp at hc; done) | (simp [*] at hc; done) | omega | (simp at hc; omega) | fail) : B := h.elim
theorem y_cr {id : Nat} {l : List Oper} (h : KQ ((Code.region id l.toArray true).wp P Q) w0 N E L) : KQ (CX P (.region id l.toArray true) Q) w0 N E L := ⟨fun a w f s => ⟨h.run a w f s⟩⟩
theorem y_loop {c : Code} {X : Type} (x0 : X) (I : X → Prop) (Ev : X → Env) (Lv : X → List HP) (μ : X → Nat) (h0 : I x0) (hE : Subs E (Ev x0)) (hL : Ent L (Lv x0))
    (round : ∀ (K' : Act → World → Prop) (x : X), I x → (∀ y E L, I y → μ y < μ x → Subs E (Ev y) → Ent L (Lv y) → KQ K' w0 N E L) → KQ (cw P c (thn K' Q)) w0 N (Ev x) (Lv x)) :
    KQ (CX P (.loop c) Q) w0 N E L := ⟨fun a w f s => ⟨(kq_loop x0 I Ev Lv μ h0 hE hL fun K' x hI hn => ⟨fun a w f s => wp_mono (cw_out ((round K' x hI hn).run a w f s)) fun e a w q => by cases e <;> exact q⟩).run a w f s⟩⟩
theorem y_of {f : FuncId} {fn : Func} {c : Code} {args : List Value} {Post : Value → List HP → Prop} (hf : P.funcs[f]? = some fn) (hb : fn.body = some c) (hn : fn.ntmps = N) (hN : Nat.ble args.length N = true)
    (h : ∀ w0, KQ (cw P c (BP P fn fun e w' => ∃ r L', e = .returned r ∧ Post r L' ∧ Sy w0 L' w')) w0 N (argEnv 0 args) L) : Sp P f args L Post :=
  sp_of hf hb hn hN fun w0 => ⟨fun a w f s => wp_mono (cw_out ((h w0).run a w f s)) fun _ _ _ q => q.out⟩
theorem y_fin {fn : Func} {Post : Value → List HP → Prop} {rs : List ResultVar} {vs : List Value} (h : ∃ M, Post (tup vs) M ∧ Ent L M) (hr : fn.results = rs.toArray := by rfl) (hv : RVals P E L rs vs := by ((repeat (first | with_reducible exact RVals.nil | (apply RVals.tmp; focus rfl) | (apply RVals.agg; (focus exact inferInstance); (focus rfl); (focus rfl); (focus (first | ((with_reducible apply Rds.of_tk); (focus ((repeat (first | exact Sel.here | apply Sel.there)); done)); (focus ((repeat (first | with_reducible exact Tk.zero | (apply Tk.succ; focus rfl))); done))) | ((apply Rds.of_reads); (focus (first | (apply Reads.row; focus ((repeat (first | exact Sel.here | apply Sel.there)); done)) | (apply reads_blk; focus ((repeat (first | exact Sel.here | apply Sel.there)); done)) | ((refine Reads.ent (by assumption) ?_); ((repeat (first | with_reducible exact Ent.rfl | with_reducible exact Ent.nil | ((with_reducible apply Ent.cons); focus ((repeat (first | exact Sel.here | apply Sel.there)); done)) | with_reducible refine Ent.drop ?_)); done)))); (focus (first | ((try simp only [Int.toNat_natCast, Nat.mul_one, Nat.zero_mul, Nat.one_mul, Nat.zero_add, Nat.add_zero]); assumption) | ((repeat (first | with_reducible exact Tk.zero | (apply Tk.succ; focus rfl))); done))); (focus (first | assumption | (simp only [ints_len]; omega) | (simp; done) | (simp; omega) | omega)); (focus (first | (exact fun _ _ => by assumption) | (apply Reads.spot; (focus (first | (apply Reads.row; focus ((repeat (first | exact Sel.here | apply Sel.there)); done)) | (apply reads_blk; focus ((repeat (first | exact Sel.here | apply Sel.there)); done)) | ((refine Reads.ent (by assumption) ?_); ((repeat (first | with_reducible exact Ent.rfl | with_reducible exact Ent.nil | ((with_reducible apply Ent.cons); focus ((repeat (first | exact Sel.here | apply Sel.there)); done)) | with_reducible refine Ent.drop ?_)); done)))); (focus (first | assumption | (simp only [ints_len]; omega) | (simp; done) | (simp; omega) | omega)))))) | assumption))))); done)) :
    KQ (BP P fn (fun en w' => ∃ r L', en = .returned r ∧ Post r L' ∧ Sy w0 L' w') .ret) w0 N E L := ⟨fun a w f s => ⟨(kq_fin h hr hv).run a w f s⟩⟩
/-! ### regions that draw their order -/
theorem tkb (i : Nat) {p : BinOp} {T T' : TypeId} {x z : Operand} (h : KQ (HK P ops Q LS fuel (listed.setIfInBounds i true)) w0 N ((t, v) :: E) L) (hi : ops[i]? = some ⟨some t, .binOp p T x z T', ty, pos, af, g⟩ := by rfl) (hp : Pu P ⟨some t, .binOp p T x z T', ty, pos, af, g⟩ N E LS v := by first | exact p_add6 | exact p_add | exact p_adds | exact p_sub6 | exact p_sub | exact p_mul6 | exact p_mul | exact p_lss | exact p_leq | exact p_gtr | exact p_geq | exact p_eq | exact p_eqb | exact p_eqn0 | exact p_eqn1 | exact p_eqn | exact p_eqs0 | exact p_eqs1 | exact p_eqs | exact p_eqt | exact p_eqa | exact p_eqf | exact p_eqm | exact p_and | exact p_or | exact p_xor | exact p_quo | exact p_rem | exact p_shl | exact p_shr | exact p_ne | exact p_neb | exact p_nen0 | exact p_nen1 | exact p_nen | exact p_nes0 | exact p_nes1 | exact p_nes | exact p_net | exact p_nea | fail) (hg : Wd ops E g true := by (first | exact Wd.none | (apply Wd.yes; (focus rfl); (focus rfl); (focus (with_reducible rfl)))))
    (hd : Nat.blt t N = true := by rfl) (hs : (Region.noSelect ops && Region.free .any ops listed i && (Region.ready .any ops listed).contains i) = true := by kernel_rfl) : KQ (HK P ops Q LS (fuel + 1) listed) w0 N E L := kq_take i hi hp h hg hd hs
theorem tkf (i : Nat) {T : TypeId} {x : Operand} {k : Nat} (h : KQ (HK P ops Q LS fuel (listed.setIfInBounds i true)) w0 N ((t, v) :: E) L) (hi : ops[i]? = some ⟨some t, .fieldAddr T x k, ty, pos, af, g⟩ := by rfl) (hp : Pu P ⟨some t, .fieldAddr T x k, ty, pos, af, g⟩ N E LS v := by first | exact p_fld0 | exact p_fldk | exact p_flda | exact p_fldr | fail) (hg : Wd ops E g true := by (first | exact Wd.none | (apply Wd.yes; (focus rfl); (focus rfl); (focus (with_reducible rfl)))))
    (hd : Nat.blt t N = true := by rfl) (hs : (Region.noSelect ops && Region.free .any ops listed i && (Region.ready .any ops listed).contains i) = true := by kernel_rfl) : KQ (HK P ops Q LS (fuel + 1) listed) w0 N E L := kq_take i hi hp h hg hd hs
theorem tkl (i : Nat) {T : TypeId} {x : Operand} (h : KQ (HK P ops Q LS fuel (listed.setIfInBounds i true)) w0 N ((t, v) :: E) L) (hi : ops[i]? = some ⟨some t, .load T x, ty, pos, af, g⟩ := by rfl) (hp : Pu P ⟨some t, .load T x, ty, pos, af, g⟩ N E LS v := by first | exact p_ld | exact p_lda | fail) (hg : Wd ops E g true := by (first | exact Wd.none | (apply Wd.yes; (focus rfl); (focus rfl); (focus (with_reducible rfl)))))
    (hd : Nat.blt t N = true := by rfl) (hs : (Region.noSelect ops && Region.free .any ops listed i && (Region.ready .any ops listed).contains i) = true := by kernel_rfl) : KQ (HK P ops Q LS (fuel + 1) listed) w0 N E L := kq_take i hi hp h hg hd hs
theorem tks (i : Nat) (h : KQ (HK P ops Q LS fuel (listed.setIfInBounds i true)) w0 N ((t, v) :: E) L) (hi : ops[i]? = some ⟨some t, op, ty, pos, af, g⟩ := by rfl) (hp : Pu P ⟨some t, op, ty, pos, af, g⟩ N E LS v := by first | exact p_sls | exact p_slsl | exact p_slsh | exact p_sle1 | exact p_sle2 | exact p_slhn | exact p_slln | exact p_slbn | exact p_slmn | exact p_slh | exact p_sll | exact p_slb | exact p_slm | exact p_rl | exact p_rh | fail) (hg : Wd ops E g true := by (first | exact Wd.none | (apply Wd.yes; (focus rfl); (focus rfl); (focus (with_reducible rfl)))))
    (hd : Nat.blt t N = true := by rfl) (hs : (Region.noSelect ops && Region.free .any ops listed i && (Region.ready .any ops listed).contains i) = true := by kernel_rfl) : KQ (HK P ops Q LS (fuel + 1) listed) w0 N E L := kq_take i hi hp h hg hd hs
theorem tkp (i : Nat) (h : KQ (HK P ops Q LS fuel (listed.setIfInBounds i true)) w0 N ((t, v) :: E) L) (hi : ops[i]? = some ⟨some t, op, ty, pos, af, g⟩ := by rfl) (hp : Pu P ⟨some t, op, ty, pos, af, g⟩ N E LS v := by first | exact p_part | exact p_parta | exact p_partl | exact p_partal | fail) (hg : Wd ops E g true := by (first | exact Wd.none | (apply Wd.yes; (focus rfl); (focus rfl); (focus (with_reducible rfl)))))
    (hd : Nat.blt t N = true := by rfl) (hs : (Region.noSelect ops && Region.free .any ops listed i && (Region.ready .any ops listed).contains i) = true := by kernel_rfl) : KQ (HK P ops Q LS (fuel + 1) listed) w0 N E L := kq_take i hi hp h hg hd hs
end
end Sl
