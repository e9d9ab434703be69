/- DERIVED. The walk over what is owned: frames with deferred marks, rounds of a range over a function. No translation is named here. -/
import Derived.Test.YtlhjioapbgnjfaaVx
import Derived.Test.YtlhjioapbgnjfaaVs
import Derived.RangeFuncLeaves
import Derived.RangeFuncRecord
import Derived.RangeFuncCalls
import Derived.RangeFuncSeq
import Derived.RangeFuncIn
import Derived.OrdersIn
import Derived.TacticsIn
namespace Sl
set_option linter.unusedSimpArgs false
set_option linter.unusedVariables false
open Go Go.RowKit Cv

/-- A fence that lets all in. -/
class WideF (F : Fence) : Prop where
  fn : ∀ f, F.fn f
  depth : F.depth.isSome = false
  calls : ∀ {n : Nat} {P : Program} {f : FuncId} {args : Array Value} {w : World} {R : Ending → World → Prop}, Calls P f args w R → CallsIn F n P f args w R
  rows : ∀ {n : Nat} {P : Program} {row : String} {args : Array Value} {w : World} {R : Value → World → Prop}, Rows P row args w R → RowsIn F n P row args w R
instance wideF : WideF Fence.wide := ⟨fun _ => trivial, rfl, fun h => callsIn_wide.2 h, fun h c cs _ => let ⟨v, w', r, s⟩ := h c cs; ⟨v, w', r, stepsIn_wide.2 s⟩⟩
instance wideR (l : Nat) : WideF (Fence.wide.inRound l) := ⟨fun _ => trivial, rfl, fun h => (callsIn_wide.2 h).inRound l, fun h c cs _ => let ⟨v, w', r, s⟩ := h c cs; ⟨v, w', r, stepsIn_wide.2 s⟩⟩

/-- The frame with other deferred calls. -/
def dfr (a : Act) (ds : List Deferred) : Act := { a with defers := ds }
theorem dfr_eval (a : Act) (ds : List Deferred) : (dfr a ds).eval = a.eval := by funext x; cases x <;> rfl
theorem dfr_put (a : Act) (ds : List Deferred) (d : Option Tmp) (v : Value) : dfr (a.put d v) ds = (dfr a ds).put d v := by cases d <;> rfl
theorem put_dfr (a : Act) (d : Option Tmp) (v : Value) : (a.put d v).defers = a.defers := by cases d <;> rfl
theorem dfr_self (a : Act) (h : a.defers = []) : dfr a [] = a := by obtain ⟨t, d⟩ := a; simp only at h; subst h; rfl
def mk (ds : List Deferred) (K : Act → World → Prop) : Act → World → Prop := fun a w => a.defers = [] ∧ K (dfr a ds) w
def mkQ (ds : List Deferred) (Q : Exit → Act → World → Prop) : Exit → Act → World → Prop
  | .outgrown, _, _ => False
  | e, a, w => mk ds (Q e) a w
def nodf (o : Oper) : Bool := match o.op with | .defer _ => false | _ => true

theorem mkQ_bad {ds : List Deferred} {Q : Exit → Act → World → Prop} {e : Exit} {a : Act} {w : World} (h : mkQ ds Q e a w) : a.defers = [] := by
  cases e <;> first | exact h.1 | exact (h : False).elim
theorem mkQ_out {ds : List Deferred} {Q : Exit → Act → World → Prop} : ¬ LetsOut (mkQ ds Q) := fun ⟨_, _, h⟩ => h
theorem noPanic_bad {ds : List Deferred} {Q : Exit → Act → World → Prop} {e : Exit} {a : Act} {w : World} (h : NoPanic (mkQ ds Q) e a w) : a.defers = [] := mkQ_bad (NoPanic.imp _ _ _ h)
theorem noPanic_out {ds : List Deferred} {Q : Exit → Act → World → Prop} : ¬ LetsOut (NoPanic (mkQ ds Q)) := fun ⟨_, _, h⟩ => h

section
variable {P : Program} {o : Oper} {F : Fence} {n : Nat}
/-- A post that asks for no deferred calls. -/
structure Clean (Q : Exit → Act → World → Prop) : Prop where
  d : ∀ {e a w}, Q e a w → a.defers = []
  out : ¬ LetsOut Q

theorem bad_wp {Q : Exit → Act → World → Prop} (c : Clean Q) {K : Act → World → Prop} (hK : ∀ a w, a.defers ≠ [] → ¬ K a w) {a : Act} {w : World} (ha : a.defers ≠ []) : ¬ o.wp P a w K Q := by
  unfold Oper.wp
  generalize (execOp a.eval o).run P w = r
  intro h
  cases r with
  | ok x w' =>
    cases x with
    | value v => exact hK _ _ (by rw [put_dfr]; exact ha) h
    | skip => exact hK _ _ (by rw [put_dfr]; exact ha) h
    | defer d => exact hK _ _ (by rw [put_dfr]; simp) h
    | enter f args =>
      have h : Calls P f args w' _ := h
      obtain ⟨e, w2, fr, hr, _⟩ := h []
      cases e with
      | returned v => exact hK _ _ (by rw [put_dfr]; exact ha) hr
      | panicked ch => exact ha (c.d hr)
      | outgrown => exact c.out hr
    | row ro args =>
      have h : Rows P ro args w' _ := h
      obtain ⟨v, w2, hr, _⟩ := h default []
      exact hK _ _ (by rw [put_dfr]; exact ha) hr
    | _ => exact h
  | halt x w' =>
    cases x with
    | panic v => exact ha (c.d h)
    | _ => exact h

theorem lift_op {ds : List Deferred} {Q1 Q2 : Exit → Act → World → Prop} (c : Clean Q1) (hp : ∀ ch a w, Q1 (.panic ch) a w → Q2 (.panic ch) (dfr a ds) w) (hF : WideF F) (hnd : nodf o = true) {K1 K2 : Act → World → Prop} (hK : ∀ a w, a.defers ≠ [] → ¬ K1 a w) (hc : ∀ a w, a.defers = [] → K1 a w → K2 (dfr a ds) w)
    {a : Act} {w : World} (ha : a.defers = []) (h : o.wp P a w K1 Q1) : o.wpIn F n P (dfr a ds) w K2 Q2 := by
  refine ⟨fun f _ => hF.fn f, ?_⟩
  rw [Oper.semAt_eq _ _ _ (by intro c e; unfold nodf at hnd; rw [e] at hnd; cases hnd), dfr_eval]
  unfold Oper.wp at h
  generalize (execOp a.eval o).run P w = r at h ⊢
  have nd : ∀ {n : Nat}, F.depth.isSome = true → 1 ≤ n := fun e => by rw [hF.depth] at e; cases e
  cases r with
  | ok x w' =>
    cases x with
    | value v => show K2 _ _; rw [← dfr_put]; exact hc _ _ (by rw [put_dfr]; exact ha) h
    | skip => show K2 _ _; rw [← dfr_put]; exact hc _ _ (by rw [put_dfr]; exact ha) h
    | defer d => exact absurd h (hK _ _ (by rw [put_dfr]; simp))
    | enter f args =>
      refine ⟨nd, hF.calls (Calls.mono (h : Calls P f args w' _) fun e w2 hr => ?_)⟩
      cases e with
      | returned v => show K2 _ _; rw [← dfr_put]; exact hc _ _ (by rw [put_dfr]; exact ha) hr
      | panicked ch => exact hp _ _ _ hr
      | outgrown => exact absurd hr c.out
    | row ro args =>
      refine ⟨nd, hF.rows (Rows.mono (h : Rows P ro args w' _) fun v w2 hr => ?_)⟩
      rw [← dfr_put]; exact hc _ _ (by rw [put_dfr]; exact ha) hr
    | _ => exact (h : False).elim
  | halt x w' =>
    cases x with
    | panic v => exact hp _ _ _ h
    | _ => exact (h : False).elim

variable {ops : Array Oper}
theorem bad_list {Q : Exit → Act → World → Prop} (c : Clean Q) : ∀ (l : List Oper) (a : Act) (w : World), a.defers ≠ [] → ¬ wpList P ops Q l a w
  | [], _, _, ha, h => ha (c.d h)
  | o :: l, a, w, ha, h => by
    unfold wpList at h
    split at h
    · rcases h with h | ⟨_, h⟩
      · exact bad_wp c (bad_list c l) ha h
      · exact c.out h
    · exact bad_list c l _ _ (by rw [put_dfr]; exact ha) h
theorem lift_list {ds : List Deferred} {Q1 Q2 : Exit → Act → World → Prop} (c : Clean Q1) (hp : ∀ ch a w, Q1 (.panic ch) a w → Q2 (.panic ch) (dfr a ds) w) (hn : ∀ a w, Q1 .normal a w → Q2 .normal (dfr a ds) w) (hF : WideF F) :
    ∀ (l : List Oper) (a : Act) (w : World), l.all nodf = true → a.defers = [] → wpList P ops Q1 l a w → wpListIn F n P ops Q2 l (dfr a ds) w
  | [], _, _, _, _, h => hn _ _ h
  | o :: l, a, w, hd, ha, h => by
    simp only [List.all_cons, Bool.and_eq_true] at hd
    unfold wpList at h
    unfold wpListIn
    have e : (dfr a ds).tmps = a.tmps := rfl
    rw [e]
    split at h
    · rename_i hw
      rw [if_pos hw]
      rcases h with h | ⟨_, h⟩
      · exact lift_op c hp hF hd.1 (bad_list c l) (fun a w ha h => lift_list c hp hn hF l a w hd.2 ha h) ha h
      · exact absurd h c.out
    · rename_i hw
      rw [if_neg hw]
      refine ⟨fun f _ => hF.fn f, ?_⟩
      rw [← dfr_put]
      exact lift_list c hp hn hF l _ _ hd.2 (by rw [put_dfr]; exact ha) h

theorem bad_any {md : Region.Mode} {Q : Exit → Act → World → Prop} (c : Clean Q) : ∀ (fuel : Nat) (listed : Array Bool) (a : Act) (w : World), a.defers ≠ [] → ¬ wpAny P md ops Q fuel listed a w
  | 0, _, _, _, ha, h => ha (c.d h.2)
  | fuel + 1, listed, a, w, ha, h => by
    obtain ⟨h0, h1⟩ := h
    cases hr : Region.ready md ops listed with
    | nil => exact ha (c.d (h0 hr))
    | cons i rs =>
      have := h1 i (by rw [hr]; simp)
      unfold wpOp at this
      split at this
      · exact bad_any c fuel _ _ _ ha this
      · split at this
        · rcases this with h | ⟨_, h⟩
          · exact bad_wp c (bad_any c fuel _) ha h
          · exact c.out h
        · exact bad_any c fuel _ _ _ (by rw [put_dfr]; exact ha) this
theorem lift_any {md : Region.Mode} {ds : List Deferred} {Q1 Q2 : Exit → Act → World → Prop} (c : Clean Q1) (hp : ∀ ch a w, Q1 (.panic ch) a w → Q2 (.panic ch) (dfr a ds) w) (hn : ∀ a w, Q1 .normal a w → Q2 .normal (dfr a ds) w) (hF : WideF F) (hd : ∀ (i : Nat) (o : Oper), ops[i]? = some o → nodf o = true) :
    ∀ (fuel : Nat) (listed : Array Bool) (a : Act) (w : World), a.defers = [] → wpAny P md ops Q1 fuel listed a w → wpAnyIn F n P md ops Q2 fuel listed (dfr a ds) w
  | 0, _, _, _, _, h => ⟨h.1, hn _ _ h.2⟩
  | fuel + 1, listed, a, w, ha, h => by
    obtain ⟨h0, h1⟩ := h
    refine ⟨fun e => hn _ _ (h0 e), fun i hi => ?_⟩
    have := h1 i hi
    unfold wpOp at this
    unfold wpOpIn
    have e : (dfr a ds).tmps = a.tmps := rfl
    rw [e]
    split at this
    · rename_i ho
      simp only [ho]
      exact lift_any c hp hn hF hd fuel _ _ _ ha this
    · rename_i o ho
      simp only [ho]
      split at this
      · rename_i hw
        rw [if_pos hw]
        rcases this with h | ⟨_, h⟩
        · exact lift_op c hp hF (hd i o ho) (bad_any c fuel _) (fun a w ha h => lift_any c hp hn hF hd fuel _ a w ha h) ha h
        · exact absurd h c.out
      · rename_i hw
        rw [if_neg hw]
        refine ⟨fun f _ => hF.fn f, ?_⟩
        rw [← dfr_put]
        exact lift_any c hp hn hF hd fuel _ _ _ (by rw [put_dfr]; exact ha) this
end

/-! ### code, in a frame with deferred marks or in a round -/
section
variable {P : Program} {F : Fence} {n N : Nat} {Q : Exit → Act → World → Prop} {K : Act → World → Prop} {w0 : World} {E : Env} {L R : List HP} {ds : List Deferred}
theorem cleanQ : Clean (mkQ ds Q) := ⟨mkQ_bad, mkQ_out⟩
theorem cleanN : Clean (NoPanic (mkQ ds Q)) := ⟨noPanic_bad, noPanic_out⟩

theorem kr_seq {x y : Code} (h : KQ (mk ds (x.wpIn F n P (Exit.then (y.wpIn F n P Q) Q))) w0 N E L) : KQ (mk ds ((Code.seq x y).wpIn F n P Q)) w0 N E L := ⟨fun a w f s => ⟨f.defers, wpIn_seq (h.run a w f s).2⟩⟩
theorem kr_cond {c : Operand} {x y : Code} {t : Bool} (h1 : t = true → KQ (mk ds (x.wpIn F n P Q)) w0 N E L) (h2 : t = false → KQ (mk ds (y.wpIn F n P Q)) w0 N E L) (hc : ev E c = some (.bool t) := by rfl) : KQ (mk ds ((Code.cond c x y).wpIn F n P Q)) w0 N E L :=
  ⟨fun a w f s => ⟨f.defers, wpIn_cond_split (by rw [dfr_eval]; exact f.eval hc) (fun e => ((h1 e).run a w f s).2) (fun e => ((h2 e).run a w f s).2)⟩⟩
theorem kr_cond_t {c : Operand} {x y : Code} {t : Bool} (h1 : KQ (mk ds (x.wpIn F n P Q)) w0 N E L) (hc : ev E c = some (.bool t) := by rfl) (ht : t = true := by with_reducible rfl) : KQ (mk ds ((Code.cond c x y).wpIn F n P Q)) w0 N E L :=
  ⟨fun a w f s => ⟨f.defers, wpIn_cond_true (by rw [dfr_eval]; exact f.eval (ht ▸ hc)) (h1.run a w f s).2⟩⟩
theorem kr_cond_f {c : Operand} {x y : Code} {t : Bool} (h1 : KQ (mk ds (y.wpIn F n P Q)) w0 N E L) (hc : ev E c = some (.bool t) := by rfl) (ht : t = false := by with_reducible rfl) : KQ (mk ds ((Code.cond c x y).wpIn F n P Q)) w0 N E L :=
  ⟨fun a w f s => ⟨f.defers, wpIn_cond_false (by rw [dfr_eval]; exact f.eval (ht ▸ hc)) (h1.run a w f s).2⟩⟩
theorem kr_block {id : Nat} {c : Code} (h : KQ (mk ds (c.wpIn F n P (Exit.inBlock id Q))) w0 N E L) : KQ (mk ds ((Code.block id c).wpIn F n P Q)) w0 N E L := ⟨fun a w f s => ⟨f.defers, wpIn_block (h.run a w f s).2⟩⟩
theorem kr_ret (h : KQ (mk ds (Q .ret)) w0 N E L) : KQ (mk ds (Code.ret.wpIn F n P Q)) w0 N E L := ⟨fun a w f s => ⟨f.defers, wpIn_ret (h.run a w f s).2⟩⟩
theorem kr_skip (h : KQ (mk ds (Q .normal)) w0 N E L) : KQ (mk ds (Code.skip.wpIn F n P Q)) w0 N E L := ⟨fun a w f s => ⟨f.defers, wpIn_skip (h.run a w f s).2⟩⟩
theorem kr_exit {id : Nat} (h : KQ (mk ds (Q (.exit id))) w0 N E L) : KQ (mk ds ((Code.exit id).wpIn F n P Q)) w0 N E L := ⟨fun a w f s => ⟨f.defers, wpIn_exit (h.run a w f s).2⟩⟩
theorem kr_region {id : Nat} {l : List Oper} [hF : WideF F] (h : KQ (wpList P l.toArray (mkQ ds Q) l) w0 N E L) (hd : l.all nodf = true := by rfl) : KQ (mk ds ((Code.region id l.toArray false).wpIn F n P Q)) w0 N E L :=
  ⟨fun a w f s => ⟨f.defers, wpIn_region_lit (lift_list cleanQ (fun _ _ _ h => h.2) (fun _ _ h => h.2) hF l a w hd f.defers (h.run a w f s))⟩⟩
theorem kr_out (h : KQ (mk ds (Q .normal)) w0 N E L) : KQ (mkQ ds Q .normal) w0 N E L := ⟨h.run⟩
theorem kr_then {K' : Act → World → Prop} (h : KQ (mk ds K') w0 N E L) : KQ (mk ds (Exit.then K' Q .normal)) w0 N E L := ⟨h.run⟩
theorem kr_then_ret {K' : Act → World → Prop} (h : KQ (mk ds (Q .ret)) w0 N E L) : KQ (mk ds (Exit.then K' Q .ret)) w0 N E L := ⟨h.run⟩
theorem kr_then_exit {K' : Act → World → Prop} {id : Nat} (h : KQ (mk ds (Q (.exit id))) w0 N E L) : KQ (mk ds (Exit.then K' Q (.exit id))) w0 N E L := ⟨h.run⟩
theorem kr_in {id : Nat} (h : KQ (mk ds (Q .normal)) w0 N E L) : KQ (mk ds (Exit.inBlock id Q .normal)) w0 N E L := ⟨h.run⟩
theorem kr_in_ret {id : Nat} (h : KQ (mk ds (Q .ret)) w0 N E L) : KQ (mk ds (Exit.inBlock id Q .ret)) w0 N E L := ⟨h.run⟩
theorem kr_in_hit {id : Nat} (h : KQ (mk ds (Q .normal)) w0 N E L) : KQ (mk ds (Exit.inBlock id Q (.exit id))) w0 N E L := ⟨fun a w f s => ⟨f.defers, by
  show if id = id then Q .normal _ w else Q (.exit id) _ w
  rw [if_pos rfl]; exact (h.run a w f s).2⟩⟩
theorem kr_in_miss {id id' : Nat} (h : KQ (mk ds (Q (.exit id'))) w0 N E L) (hne : Nat.beq id' id = false := by rfl) : KQ (mk ds (Exit.inBlock id Q (.exit id'))) w0 N E L := ⟨fun a w f s => ⟨f.defers, by
  have : id' ≠ id := fun e => by rw [e, Nat.beq_refl] at hne; cases hne
  show if id' = id then Q .normal _ w else Q (.exit id') _ w
  rw [if_neg this]; exact (h.run a w f s).2⟩⟩
/-- The plain walk of code behind a mark. -/
theorem kr_up {c : Code} (h : KQ (mk ds (c.wpIn Fence.wide 0 P Q)) w0 N E L) : KQ (mk ds (c.wp P Q)) w0 N E L := ⟨fun a w f s => ⟨f.defers, wpIn_wide.1 (h.run a w f s).2⟩⟩

theorem kr_draw (id : Nat) {l : List Oper} [hF : WideF F] (LS : List HP) (m : Nat) (h : KQ (HK P l.toArray (mkQ ds Q) LS m (Array.replicate m false)) w0 N E L) (hn : l.length = m := by rfl) (hm : P.follows .mixedOrders = true := by kernel_rfl) (hd : l.all nodf = true := by rfl) :
    KQ (mk ds ((Code.region id l.toArray true).wpIn F n P Q)) w0 N E L := by
  refine ⟨fun a w f s => ⟨f.defers, ?_⟩⟩
  have := (h.run a { w with drawn := w.drawn + 1 } f s.drew).2
  subst hn
  refine wpIn_region_any hm (lift_any cleanN (fun _ _ _ h => h.elim) (fun _ _ h => h.2) hF (fun i o ho => ?_) _ _ _ _ f.defers (wpAny_of_held _ _ _ _ (by simpa using this)))
  exact List.all_eq_true.1 hd o (by simpa using List.mem_of_getElem? (by simpa using ho))
theorem kr_draw0 (id : Nat) {l : List Oper} [hF : WideF F] (m : Nat) (h : KQ (HK P l.toArray (mkQ ds Q) L m (Array.replicate m false)) w0 N E L) (hn : l.length = m := by rfl) (hm : P.follows .mixedOrders = true := by kernel_rfl) (hd : l.all nodf = true := by rfl) : KQ (mk ds ((Code.region id l.toArray true).wpIn F n P Q)) w0 N E L := kr_draw id L m h hn hm hd
theorem kr_draw1 (id : Nat) {l : List Oper} [hF : WideF F] (m t : Nat) {b o : Nat} {ob : Obj} (h : KQ (HK P l.toArray (mkQ ds Q) R m (Array.replicate m false)) w0 N E L) (ht : lk E t = some (.pointer (some ⟨b, o, none⟩)) := by rfl) (s : Sel L (blk b ob) R := by ((repeat (first | exact Sel.here | apply Sel.there)); done))
    (hn : l.length = m := by rfl) (hm : P.follows .mixedOrders = true := by kernel_rfl) (hd : l.all nodf = true := by rfl) : KQ (mk ds ((Code.region id l.toArray true).wpIn F n P Q)) w0 N E L := kr_draw id R m h hn hm hd

/-! ### the end of a function with marks -/
theorem sp_ofM {f : FuncId} {fn : Func} {c : Code} {args : List Value} {Post : Value → List HP → Prop} (hf : P.funcs[f]? = some fn) (hb : fn.body = some c) (hn : fn.ntmps = N) (hN : Nat.ble args.length N = true)
    (h : ∀ w0, KQ (c.wp P (bodyPostM Fence.wide 0 P fn fun e w' => ∃ r L', e = .returned r ∧ Post r L' ∧ Sy w0 L' w')) w0 N (argEnv 0 args) L) : Sp P f args L Post := by
  refine ⟨fun w0 w s => ?_⟩
  refine callsIn_wide.1 (callsIn_of_wp_marks (n := 0) hf hb trivial (wpIn_wide.2 ((h w0).run _ w ⟨?_, rfl, fun t v e => ?_⟩ s)))
  · have : args.length ≤ N := by simpa using hN
    simp [hn]; omega
  · obtain ⟨_, h2⟩ := lk_argEnv args 0 t v e
    have hlt := (List.getElem?_eq_some_iff.1 h2).1
    simp at h2 hlt
    rw [Array.getElem?_append_left (by simpa using hlt)]
    simpa using h2
theorem kq_leave {fn : Func} {Rr : Ending → World → Prop} (h : KQ (bodyPost P fn Rr .ret) w0 N E L) : KQ (bodyPostM Fence.wide 0 P fn Rr .ret) w0 N E L := ⟨fun a w f s => by
  obtain ⟨_, v, hv, hr⟩ := h.run a w f s
  show LeavesInM Fence.wide 0 P fn a.tmps Rr a.defers .returning w
  rw [f.defers]
  exact ⟨v, hv, hr⟩⟩
theorem kq_leaveN {fn : Func} {Rr : Ending → World → Prop} (h : KQ (bodyPostM Fence.wide 0 P fn Rr .ret) w0 N E L) : KQ (bodyPostM Fence.wide 0 P fn Rr .normal) w0 N E L := ⟨h.run⟩
theorem kr_leaveN {fn : Func} {Rr : Ending → World → Prop} (h : KQ (mk ds (bodyPostM Fence.wide 0 P fn Rr .ret)) w0 N E L) : KQ (mk ds (bodyPostM Fence.wide 0 P fn Rr .normal)) w0 N E L := ⟨h.run⟩
abbrev mark (D : Nat) : Deferred := { target := .collected D, args := #[] }
theorem Sy.putObj {w : World} {b : Nat} {o o' : Obj} (h : Sy w0 (blk b o :: L) w) : Sy w0 (blk b o' :: L) (w.putObj b o') := h.setObj
theorem kr_leave {D : Nat} {fn : Func} {Rr : Ending → World → Prop} (h : KQ (bodyPost P fn Rr .ret) w0 N E (blk D (.deferred none) :: R)) (s : Sel L (blk D (.deferred (some []))) R := by ((repeat (first | exact Sel.here | apply Sel.there)); done)) : KQ (mk [mark D] (bodyPostM Fence.wide 0 P fn Rr .ret)) w0 N E L := ⟨fun a w f sy => by
  have sy' := sy.ent fun _ q => s.sat q
  obtain ⟨_, v, hv, hr⟩ := h.run a (w.putObj D (.deferred none)) f sy'.putObj
  refine ⟨f.defers, ?_⟩
  show LeavesInM Fence.wide 0 P fn a.tmps Rr [mark D] .returning w
  exact ⟨by simp, .inl ⟨D, _, rfl, run_takeDeferred sy'.get, v, hv, hr⟩⟩⟩
end

/-! ### a call of yield -/
structure YSp (P : Program) (l : Nat) (args : List Value) (L : List HP) (Post : Value → List HP → Prop) : Prop where
  run : ∀ w0 w, Sy w0 L w → YieldAt Fence.wide 0 P l args.toArray w fun e w' => ∃ r L', e = .returned r ∧ Post r L' ∧ Sy w0 L' w'
section
variable {P : Program} {N t : Nat} {Q : Exit → Act → World → Prop} {K : Act → World → Prop} {w0 : World} {E : Env} {L R : List HP} {ops : Array Oper} {rest : List Oper} {op : Op} {ty : TypeId} {pos : String} {af : Array Edge} {d : Option Nat}
theorem ky_region {id : Nat} {l : List Oper} (h : KQ (wpListIn Fence.wide 0 P l.toArray Q l) w0 N E L) : KQ ((Code.region id l.toArray false).wp P Q) w0 N E L := ⟨fun a w f s => wpIn_wide.1 (wpIn_region_lit (h.run a w f s))⟩
theorem ky_nil (h : KQ (Q .normal) w0 N E L) : KQ (wpListIn Fence.wide 0 P ops Q []) w0 N E L := ⟨h.run⟩
theorem ky_pure {v : Value} (hp : Pu P ⟨some t, op, ty, pos, af, none⟩ N E L v) (h : KQ (wpListIn Fence.wide 0 P ops Q rest) w0 N ((t, v) :: E) L) (hd : Nat.blt t N = true := by rfl) (hnd : nodf ⟨some t, op, ty, pos, af, none⟩ = true := by rfl) :
    KQ (wpListIn Fence.wide 0 P ops Q (⟨some t, op, ty, pos, af, none⟩ :: rest)) w0 N E L := ⟨fun a w f s => wpListIn_plain rfl fun _ hK => Oper.wpIn_mono hK (by
  refine ⟨fun f _ => trivial, ?_⟩
  rw [Oper.semAt_eq _ _ _ (by intro c e; unfold nodf at hnd; rw [e] at hnd; cases hnd), hp.run a w f s.2]
  exact h.run _ _ (f.put (d := some t) hd v) s)⟩
theorem ky_call {l : Nat} {args : List Value} {Post : Value → List HP → Prop} {M : List HP} {xs : List Operand} {ts : Array TypeId} {c : Operand} (hs : YSp P l args M Post) (h : ∀ r L', Post r L' → KQ (wpListIn Fence.wide 0 P ops Q rest) w0 N ((t, r) :: E) L')
    (hc : ev E c = some (.func (.yield l) #[] #[]) := by rfl) (hx : evs E xs = some args := by rfl) (e : Ent L M := by ((repeat (first | with_reducible exact Ent.rfl | with_reducible exact Ent.nil | ((with_reducible apply Ent.cons); focus ((repeat (first | exact Sel.here | apply Sel.there)); done)) | with_reducible refine Ent.drop ?_)); done)) (hd : Nat.blt t N = true := by rfl) :
    KQ (wpListIn Fence.wide 0 P ops Q (⟨some t, .call ⟨.value c, xs.toArray, ts⟩, ty, pos, af, none⟩ :: rest)) w0 N E L := ⟨fun a w f s => wpListIn_plain rfl fun _ hK => Oper.wpIn_mono hK (by
  obtain ⟨fn, tmps, assign, body, hy, hr⟩ := hs.run w0 w (s.ent e)
  refine ⟨fun f _ => trivial, ?_⟩
  have he : (Oper.semAt Fence.wide.round a.eval ⟨some t, .call ⟨.value c, xs.toArray, ts⟩, ty, pos, af, none⟩).run P w = .ok (.round l fn tmps assign body) w := by
    have h1 := f.evals hx
    rw [Oper.semAt_eq _ _ _ (by intro c e; cases e)]
    simp [execOp, resolve, f.eval hc, Deferred.ofValue, invoke, h1, hy]
  rw [he]
  refine ⟨fun e => (by cases e), hr.mono fun en w' ⟨r, L', hr, hq, hs'⟩ => ?_⟩
  subst hr
  exact (h r L' hq).run _ _ (f.put (d := some t) hd r) hs')⟩
end
end Sl
