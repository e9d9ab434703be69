/- DERIVED. The walk over what is owned: frames as lists of slots, rules for code and for regions. No translation is named here. -/
import Derived.Test.YteafcajlfagbkaaVl
import Derived.KernelRfl
namespace Sl
set_option linter.unusedSimpArgs false
set_option linter.unusedVariables false
open Go Go.RowKit Cv

abbrev Env := List (Nat × Value)

def lk : Env → Nat → Option Value
  | [], _ => none
  | (u, v) :: E, t => bif Nat.beq u t then some v else lk E t

/-- A frame that holds these slots. -/
structure Fit (N : Nat) (E : Env) (a : Act) : Prop where
  size : a.tmps.size = N
  defers : a.defers = []
  get : ∀ t v, lk E t = some v → a.tmps[t]? = some v

def ev (E : Env) : Operand → Option Value
  | .tmp t => lk E t
  | .const v => some v
  | .global g => some (.pointer (some ⟨g, 0, none⟩))
  | .func f => some (.func (.func f) #[] #[])

theorem Fit.eval {N : Nat} {E : Env} {a : Act} (h : Fit N E a) {x : Operand} {v : Value} (e : ev E x = some v) : a.eval x = v := by
  cases x with
  | tmp t => simp [Act.eval, h.get t v e]
  | const u => simpa [ev, Act.eval] using e
  | global g => simpa [ev, Act.eval] using e
  | func f => simpa [ev, Act.eval] using e

theorem lk_cons_self (E : Env) (t : Nat) (v : Value) : lk ((t, v) :: E) t = some v := by simp [lk]
theorem lk_cons_ne (E : Env) {t u : Nat} (v : Value) (h : t ≠ u) : lk ((t, v) :: E) u = lk E u := by
  have : Nat.beq t u = false := by
    cases hb : Nat.beq t u
    · rfl
    · exact absurd (Nat.eq_of_beq_eq_true hb) h
  simp [lk, this]

/-- The slots behind an operation. -/
def pe (E : Env) (d : Option Nat) (v : Value) : Env := match d with | some t => (t, v) :: E | none => E
def okd (N : Nat) (d : Option Nat) : Bool := match d with | some t => Nat.blt t N | none => true

theorem Fit.put {N : Nat} {E : Env} {a : Act} (h : Fit N E a) {d : Option Nat} (hd : okd N d = true) (v : Value) : Fit N (pe E d v) (a.put d v) := by
  cases d with
  | none => exact h
  | some t =>
    have ht : t < a.tmps.size := by rw [h.size]; simpa [okd, Nat.blt_eq] using hd
    refine ⟨by simp [Act.put, h.size], h.defers, fun u x e => ?_⟩
    by_cases hu : t = u
    · subst hu
      rw [pe, lk_cons_self] at e
      simpa [Act.put, ht] using e
    · rw [pe, lk_cons_ne _ _ hu] at e
      simp only [Act.put]
      rw [Array.getElem?_setIfInBounds_ne hu]
      exact h.get u x e

/-- What a frame holds, in other words. -/
def Subs (E : Env) : Env → Prop
  | [] => True
  | (t, v) :: F => lk E t = some v ∧ Subs E F

theorem Subs.get {E : Env} : ∀ {F : Env}, Subs E F → ∀ t v, lk F t = some v → lk E t = some v
  | [], _, _, _, e => by simp [lk] at e
  | (u, x) :: F, h, t, v, e => by
    by_cases hu : u = t
    · subst hu
      rw [lk_cons_self] at e
      rw [← e]; exact h.1
    · rw [lk_cons_ne _ _ hu] at e
      exact h.2.get t v e

theorem Fit.sub {N : Nat} {E F : Env} {a : Act} (h : Fit N E a) (s : Subs E F) : Fit N F a := ⟨h.size, h.defers, fun t v e => h.get t v (s.get t v e)⟩

/-- In every frame and every world of this form. -/
structure KQ (K : Act → World → Prop) (w0 : World) (N : Nat) (E : Env) (L : List HP) : Prop where
  run : ∀ a w, Fit N E a → Sy w0 L w → K a w

/-- An operation that is carried out in every such frame and world. -/
structure WX (P : Program) (Q : Exit → Act → World → Prop) (o : Oper) (K : Act → World → Prop) (w0 : World) (N : Nat) (E : Env) (L : List HP) : Prop where
  run : ∀ a w, Fit N E a → Sy w0 L w → o.wp P a w K Q

/-- An operation that yields a value, and does nothing else. -/
structure Pu (P : Program) (o : Oper) (N : Nat) (E : Env) (L : List HP) (v : Value) : Prop where
  run : ∀ a w, Fit N E a → Sat (hp w) L → (execOp a.eval o).run P w = .ok (.value v) w

section
variable {P : Program} {Q : Exit → Act → World → Prop} {o : Oper} {K : Act → World → Prop} {w0 : World} {N t : Nat} {E : Env} {L : List HP} {op : Op} {ty : TypeId} {pos : String} {af : Array Edge} {g : Option (Nat × Bool)}

theorem KQ.ent {M : List HP} (h : KQ K w0 N E M) (e : Ent L M := by ((repeat (first | with_reducible exact Ent.rfl | with_reducible exact Ent.nil | ((with_reducible apply Ent.cons); focus ((repeat (first | exact Sel.here | apply Sel.there)); done)) | with_reducible refine Ent.drop ?_)); done)) : KQ K w0 N E L := ⟨fun a w f s => h.run a w f (s.ent e)⟩
theorem KQ.sub {F : Env} (s : Subs E F) (h : KQ K w0 N F L) : KQ K w0 N E L := ⟨fun a w f y => h.run a w (f.sub s) y⟩
theorem KQ.know {φ : Prop} (h : ∀ w, Sat (hp w) L → φ) (k : φ → KQ K w0 N E L) : KQ K w0 N E L := ⟨fun a w f s => (k (h w s.2)).run a w f s⟩

theorem wx_pure {v : Value} (hp : Pu P o N E L v) (hd : okd N o.dst = true) (h : KQ K w0 N (pe E o.dst v) L) : WX P Q o K w0 N E L := by
  refine ⟨fun a w f s => ?_⟩
  unfold Oper.wp
  rw [hp.run a w f s.2]
  exact h.run _ _ (f.put hd v) s
theorem w_pure {v : Value} (hp : Pu P ⟨some t, op, ty, pos, af, g⟩ N E L v) (h : KQ K w0 N ((t, v) :: E) L) (hd : Nat.blt t N = true := by rfl) : WX P Q ⟨some t, op, ty, pos, af, g⟩ K w0 N E L := wx_pure hp hd h

/-! ### code -/
theorem kq_seq {x y : Code} (h : KQ (x.wp P (Exit.then (y.wp P Q) Q)) w0 N E L) : KQ ((Code.seq x y).wp P Q) w0 N E L := ⟨fun a w f s => wp_seq (h.run a w f s)⟩
theorem kq_cond {c : Operand} {x y : Code} {t : Bool} (h1 : t = true → KQ (x.wp P Q) w0 N E L) (h2 : t = false → KQ (y.wp P Q) w0 N E L) (hc : ev E c = some (.bool t) := by rfl) : KQ ((Code.cond c x y).wp P Q) w0 N E L :=
  ⟨fun a w f s => wp_cond_split (f.eval hc) (fun e => (h1 e).run a w f s) (fun e => (h2 e).run a w f s)⟩
theorem kq_cond_t {c : Operand} {x y : Code} {t : Bool} (h1 : KQ (x.wp P Q) w0 N E L) (hc : ev E c = some (.bool t) := by rfl) (ht : t = true := by with_reducible rfl) : KQ ((Code.cond c x y).wp P Q) w0 N E L :=
  ⟨fun a w f s => wp_cond_true (f.eval (ht ▸ hc)) (h1.run a w f s)⟩
theorem kq_cond_f {c : Operand} {x y : Code} {t : Bool} (h1 : KQ (y.wp P Q) w0 N E L) (hc : ev E c = some (.bool t) := by rfl) (ht : t = false := by with_reducible rfl) : KQ ((Code.cond c x y).wp P Q) w0 N E L :=
  ⟨fun a w f s => wp_cond_false (f.eval (ht ▸ hc)) (h1.run a w f s)⟩
theorem kq_block {id : Nat} {c : Code} (h : KQ (c.wp P (Exit.inBlock id Q)) w0 N E L) : KQ ((Code.block id c).wp P Q) w0 N E L := ⟨fun a w f s => wp_block (h.run a w f s)⟩
theorem kq_ret (h : KQ (Q .ret) w0 N E L) : KQ (Code.ret.wp P Q) w0 N E L := ⟨fun a w f s => wp_ret (h.run a w f s)⟩
theorem kq_skip (h : KQ (Q .normal) w0 N E L) : KQ (Code.skip.wp P Q) w0 N E L := ⟨fun a w f s => wp_skip (h.run a w f s)⟩
theorem kq_exit {id : Nat} (h : KQ (Q (.exit id)) w0 N E L) : KQ ((Code.exit id).wp P Q) w0 N E L := ⟨fun a w f s => wp_exit (h.run a w f s)⟩
theorem kq_region {id : Nat} {l : List Oper} (h : KQ (wpList P l.toArray Q l) w0 N E L) : KQ ((Code.region id l.toArray false).wp P Q) w0 N E L := ⟨fun a w f s => wp_region_lit (h.run a w f s)⟩
theorem kq_nil {ops : Array Oper} (h : KQ (Q .normal) w0 N E L) : KQ (wpList P ops Q []) w0 N E L := ⟨h.run⟩

theorem kq_then {K' : Act → World → Prop} (h : KQ K' w0 N E L) : KQ (Exit.then K' Q .normal) w0 N E L := ⟨h.run⟩
theorem kq_then_ret {K' : Act → World → Prop} (h : KQ (Q .ret) w0 N E L) : KQ (Exit.then K' Q .ret) w0 N E L := ⟨h.run⟩
theorem kq_then_exit {K' : Act → World → Prop} {id : Nat} (h : KQ (Q (.exit id)) w0 N E L) : KQ (Exit.then K' Q (.exit id)) w0 N E L := ⟨h.run⟩
theorem kq_in {id : Nat} (h : KQ (Q .normal) w0 N E L) : KQ (Exit.inBlock id Q .normal) w0 N E L := ⟨h.run⟩
theorem kq_in_ret {id : Nat} (h : KQ (Q .ret) w0 N E L) : KQ (Exit.inBlock id Q .ret) w0 N E L := ⟨h.run⟩
theorem kq_in_hit {id : Nat} (h : KQ (Q .normal) w0 N E L) : KQ (Exit.inBlock id Q (.exit id)) w0 N E L := ⟨fun a w f s => by
  show if id = id then Q .normal a w else Q (.exit id) a w
  rw [if_pos rfl]; exact h.run a w f s⟩
theorem kq_in_miss {id id' : Nat} (h : KQ (Q (.exit id')) w0 N E L) (hne : Nat.beq id' id = false := by rfl) : KQ (Exit.inBlock id Q (.exit id')) w0 N E L := ⟨fun a w f s => by
  have : id' ≠ id := fun e => by rw [e, Nat.beq_refl] at hne; cases hne
  show if id' = id then Q .normal a w else Q (.exit id') a w
  rw [if_neg this]; exact h.run a w f s⟩
theorem kq_np (h : KQ (Q .normal) w0 N E L) : KQ (NoPanic Q .normal) w0 N E L := ⟨h.run⟩

/-- A loop: its rounds are told by some x, that grows less. -/
theorem kq_loop {c : Code} {X : Type} (x0 : X) (I : X → Prop) (Ev : X → Env) (Lv : X → List HP) (μ : X → Nat) (h0 : I x0) (hE : Subs E (Ev x0)) (hL : Ent L (Lv x0))
    (round : ∀ (K' : Act → World → Prop) (x : X), I x → (∀ y E L, I y → μ y < μ x → Subs E (Ev y) → Ent L (Lv y) → KQ K' w0 N E L) → KQ (c.wp P (Exit.then K' Q)) w0 N (Ev x) (Lv x)) :
    KQ ((Code.loop c).wp P Q) w0 N E L := by
  refine ⟨fun a w f s => ?_⟩
  have key : ∀ n x, μ x = n → I x → ∀ a w, Fit N (Ev x) a → Sy w0 (Lv x) w → ∀ (b : Frame) (k : List Item) (cs : List Frame), ∃ e a' w', Q e a' w' ∧ Arrives P (lone (b.at a (.code c :: .inLoop c :: k)) cs w) b k cs e a' w' := by
    intro n
    induction n using Nat.strongRecOn with
    | _ n ih =>
      intro x hn hI a w f s b k cs
      obtain ⟨e, a₁, w₁, hq, harr⟩ := (round (fun a' w' => ∃ y, I y ∧ μ y < μ x ∧ Fit N (Ev y) a' ∧ Sy w0 (Lv y) w') x hI
        (fun y E L hy hlt hE hL => ⟨fun a' w' f' s' => ⟨y, hy, hlt, f'.sub hE, s'.ent hL⟩⟩)).run a w f s b (.inLoop c :: k) cs
      cases e with
      | normal =>
        obtain ⟨y, hy, hlt, f', s'⟩ := hq
        obtain ⟨e₂, a₂, w₂, hq₂, harr₂⟩ := ih (μ y) (hn ▸ hlt) y rfl hy a₁ w₁ f' s' b k cs
        exact ⟨e₂, a₂, w₂, hq₂, .of_steps (Steps.trans harr (.one step_inLoop)) harr₂⟩
      | exit id => exact ⟨_, a₁, w₁, hq, .pass (x := .inLoop c) rfl (fun _ _ => .inl (by simp)) harr⟩
      | goto l => exact ⟨_, a₁, w₁, hq, .pass (x := .inLoop c) rfl (fun _ _ => .inl (by simp)) harr⟩
      | ret => exact ⟨_, a₁, w₁, hq, .pass (x := .inLoop c) rfl (fun _ _ => .inl (by simp)) harr⟩
      | panic ch => exact ⟨_, a₁, w₁, hq, .pass (x := .inLoop c) rfl (fun _ _ => .inl (by simp)) harr⟩
      | outgrown => exact ⟨_, a₁, w₁, hq, .pass (x := .inLoop c) rfl (fun _ _ => .inl (by simp)) harr⟩
  intro b k cs
  obtain ⟨e, a', w', hq, harr⟩ := key _ x0 rfl h0 a w (f.sub hE) (s.ent hL) b k cs
  exact ⟨e, a', w', hq, .of_steps (.one step_loop) harr⟩

/-! ### regions in the order of the text -/
/-- Is an operation carried out? -/
def wantd (ops : Array Oper) (E : Env) (g : Option (Nat × Bool)) : Option Bool :=
  match g with
  | none => some true
  | some (j, b) => match ((ops[j]?).bind (·.dst)).bind (lk E) with
    | some (.bool c) => some (c == b)
    | some _ => some false
    | none => none

theorem wantd_spec {ops : Array Oper} {r : Bool} {a : Act} {d : Option Tmp} (f : Fit N E a) (h : wantd ops E g = some r) : Region.wanted ⟨d, op, ty, pos, af, g⟩ (yielded ops a.tmps) = r := by
  unfold wantd at h
  unfold Region.wanted
  cases g with
  | none => simpa using h
  | some gw =>
    obtain ⟨j, b⟩ := gw
    simp only at h ⊢
    unfold yielded
    cases hd : (ops[j]?).bind (·.dst) with
    | none => simp [hd] at h
    | some t =>
      simp only [hd, Option.bind_some] at h ⊢
      cases hv : lk E t with
      | none => simp [hv] at h
      | some v =>
        rw [hv] at h
        rw [f.get t v hv]
        cases v <;> simp at h ⊢ <;> exact h

/-- The same, step by step. -/
inductive Wd (ops : Array Oper) (E : Env) : Option (Nat × Bool) → Bool → Prop
  | none : Wd ops E none true
  | yes {j t : Nat} {c p : Bool} (h : (ops[j]?).bind (·.dst) = some t) (hv : lk E t = some (.bool c)) (hc : c = p) : Wd ops E (some (j, p)) true
  | noT {j t : Nat} {c : Bool} (h : (ops[j]?).bind (·.dst) = some t) (hv : lk E t = some (.bool c)) (hc : c = false) : Wd ops E (some (j, true)) false
  | noF {j t : Nat} {c : Bool} (h : (ops[j]?).bind (·.dst) = some t) (hv : lk E t = some (.bool c)) (hc : c = true) : Wd ops E (some (j, false)) false
  | undef {j t : Nat} {p : Bool} (h : (ops[j]?).bind (·.dst) = some t) (hv : lk E t = some undef) : Wd ops E (some (j, p)) false
theorem Wd.w {ops : Array Oper} {E : Env} {g : Option (Nat × Bool)} {r : Bool} (h : Wd ops E g r) : wantd ops E g = some r := by
  cases h with
  | none => rfl
  | yes h hv hc => subst hc; simp [wantd, h, hv]
  | noT h hv hc => subst hc; simp [wantd, h, hv]
  | noF h hv hc => subst hc; simp [wantd, h, hv]
  | undef h hv => simp [wantd, h, hv, Go.undef]

theorem kq_cons {ops : Array Oper} {rest : List Oper} {d : Option Tmp} (h : WX P Q ⟨d, op, ty, pos, af, none⟩ (wpList P ops Q rest) w0 N E L) : KQ (wpList P ops Q (⟨d, op, ty, pos, af, none⟩ :: rest)) w0 N E L :=
  ⟨fun a w f s => wpList_plain rfl fun _ hK => Oper.wp_mono hK (h.run a w f s)⟩
theorem kq_do {ops : Array Oper} {rest : List Oper} {d : Option Tmp} {gb : Nat × Bool} (h : WX P Q ⟨d, op, ty, pos, af, some gb⟩ (wpList P ops Q rest) w0 N E L) (hg : Wd ops E (some gb) true := by (first | exact Wd.none | (apply Wd.yes; (focus rfl); (focus rfl); (focus (with_reducible rfl))))) : KQ (wpList P ops Q (⟨d, op, ty, pos, af, some gb⟩ :: rest)) w0 N E L :=
  ⟨fun a w f s => wpList_step fun _ hK => by
    rw [if_pos (wantd_spec f hg.w)]
    exact Oper.wp_mono hK (h.run a w f s)⟩
theorem kq_not {ops : Array Oper} {rest : List Oper} {gb : Nat × Bool} (h : KQ (wpList P ops Q rest) w0 N ((t, undef) :: E) L) (hg : Wd ops E (some gb) false := by (first | (apply Wd.noT; (focus rfl); (focus rfl); (focus (with_reducible rfl))) | (apply Wd.noF; (focus rfl); (focus rfl); (focus (with_reducible rfl))) | (apply Wd.undef; (focus rfl); (focus rfl)))) (hd : Nat.blt t N = true := by rfl) : KQ (wpList P ops Q (⟨some t, op, ty, pos, af, some gb⟩ :: rest)) w0 N E L :=
  ⟨fun a w f s => wpList_step fun _ hK => by
    rw [if_neg (by rw [wantd_spec f hg.w]; simp)]
    exact hK _ _ (h.run _ _ (f.put (d := some t) hd _) s)⟩
theorem kq_not0 {ops : Array Oper} {rest : List Oper} {gb : Nat × Bool} (h : KQ (wpList P ops Q rest) w0 N E L) (hg : Wd ops E (some gb) false := by (first | (apply Wd.noT; (focus rfl); (focus rfl); (focus (with_reducible rfl))) | (apply Wd.noF; (focus rfl); (focus rfl); (focus (with_reducible rfl))) | (apply Wd.undef; (focus rfl); (focus rfl)))) : KQ (wpList P ops Q (⟨none, op, ty, pos, af, some gb⟩ :: rest)) w0 N E L :=
  ⟨fun a w f s => wpList_step fun _ hK => by
    rw [if_neg (by rw [wantd_spec f hg.w]; simp)]
    exact hK _ _ (h.run _ _ f s)⟩

theorem kq_same {v : Value} (h : KQ K w0 N ((t, v) :: E) L) (ht : lk E t = some v) : KQ K w0 N E L :=
  ⟨fun a w f s => h.run a w ⟨f.size, f.defers, fun u x e => by
    by_cases hu : t = u
    · subst hu
      rw [lk_cons_self] at e
      rw [← e]; exact f.get _ _ ht
    · rw [lk_cons_ne _ _ hu] at e
      exact f.get u x e⟩ s⟩

/-- A slot that holds a bool: both ways. -/
theorem kq_split (t : Nat) {c : Bool} (h1 : c = true → KQ K w0 N ((t, .bool true) :: E) L) (h2 : c = false → KQ K w0 N ((t, .bool false) :: E) L) (ht : lk E t = some (.bool c) := by rfl) : KQ K w0 N E L := by
  cases c
  · exact kq_same (h2 rfl) ht
  · exact kq_same (h1 rfl) ht

/-- A guard that is not known: both ways. -/
theorem kq_guard {ops : Array Oper} {rest : List Oper} {d : Option Tmp} {j : Nat} {p c : Bool} (h1 : c = true → KQ (wpList P ops Q (⟨d, op, ty, pos, af, some (j, p)⟩ :: rest)) w0 N ((t, .bool true) :: E) L) (h2 : c = false → KQ (wpList P ops Q (⟨d, op, ty, pos, af, some (j, p)⟩ :: rest)) w0 N ((t, .bool false) :: E) L)
    (hd : (ops[j]?).bind (·.dst) = some t := by rfl) (ht : lk E t = some (.bool c) := by rfl) : KQ (wpList P ops Q (⟨d, op, ty, pos, af, some (j, p)⟩ :: rest)) w0 N E L := kq_split t h1 h2 ht

/-- A slot told anew. -/
theorem kq_slot (t : Nat) {v u : Value} (ht : lk E t = some v) (e : v = u) (h : KQ K w0 N ((t, u) :: E) L) : KQ K w0 N E L := by
  subst e
  exact kq_same h ht

/-! ### regions that draw their order -/
/-- What is still to come of a region that draws: LS holds throughout. -/
structure HK (P : Program) (ops : Array Oper) (Q : Exit → Act → World → Prop) (LS : List HP) (fuel : Nat) (listed : Array Bool) (a : Act) (w : World) : Prop where
  sat : Sat (hp w) LS
  any : wpAnyH P .any ops (NoPanic Q) (fun w => Sat (hp w) LS) fuel listed a w

theorem kq_draw (id : Nat) {l : List Oper} (LS : List HP) (n : Nat) 
    (h : KQ (HK P l.toArray Q LS n (Array.replicate n false)) w0 N E L) (hn : l.length = n := by rfl) (hm : P.follows .mixedOrders = true := by kernel_rfl) : KQ ((Code.region id l.toArray true).wp P Q) w0 N E L := by
  refine ⟨fun a w f s => ?_⟩
  refine wp_region_noPanic (wp_region_held (S := fun w => Sat (hp w) LS) hm ?_)
  have := (h.run a { w with drawn := w.drawn + 1 } f s.drew).2
  subst hn
  simpa using this
theorem kq_draw0 (id : Nat) {l : List Oper} (n : Nat) (h : KQ (HK P l.toArray Q L n (Array.replicate n false)) w0 N E L) (hn : l.length = n := by rfl) (hm : P.follows .mixedOrders = true := by kernel_rfl) : KQ ((Code.region id l.toArray true).wp P Q) w0 N E L := kq_draw id L n h hn hm
theorem kq_draw1 (id : Nat) {l : List Oper} (n t : Nat) {b o : Nat} {ob : Obj} {R : List HP}
    (h : KQ (HK P l.toArray Q R n (Array.replicate n false)) w0 N E L) (ht : lk E t = some (.pointer (some ⟨b, o, none⟩)) := by rfl) (s : Sel L (blk b ob) R := by ((repeat (first | exact Sel.here | apply Sel.there)); done))
    (hn : l.length = n := by rfl) (hm : P.follows .mixedOrders = true := by kernel_rfl) : KQ ((Code.region id l.toArray true).wp P Q) w0 N E L := kq_draw id R n h hn hm

section
variable {ops : Array Oper} {fuel : Nat} {listed : Array Bool} {LS : List HP} {v : Value}
/-- Number i is taken first. -/
theorem kq_take (i : Nat) (hi : ops[i]? = some ⟨some t, op, ty, pos, af, g⟩) (hp' : Pu P ⟨some t, op, ty, pos, af, g⟩ N E LS v)
    (h : KQ (HK P ops Q LS fuel (listed.setIfInBounds i true)) w0 N ((t, v) :: E) L) (hg : Wd ops E g true := by (first | exact Wd.none | (apply Wd.yes; (focus rfl); (focus rfl); (focus (with_reducible rfl)))))
    (hd : Nat.blt t N = true := by rfl) (hs : (Region.noSelect ops && Region.free .any ops listed i && (Region.ready .any ops listed).contains i) = true := by kernel_rfl) :
    KQ (HK P ops Q LS (fuel + 1) listed) w0 N E L := by
  simp only [Bool.and_eq_true] at hs
  refine ⟨fun a w f s => ?_⟩
  obtain ⟨hS, hW⟩ := h.run _ w (f.put (d := some t) hd v) s
  exact ⟨hS, wpAnyH_take hi hs.1.1 hs.1.2 hs.2 (fun _ _ _ h => h) (.inl ⟨wantd_spec f hg.w, fun w' hw' => hp'.run a w' f hw'⟩) hS hW⟩

theorem kq_tnot (i : Nat) (h : KQ (HK P ops Q LS fuel (listed.setIfInBounds i true)) w0 N ((t, undef) :: E) L) (hi : ops[i]? = some ⟨some t, op, ty, pos, af, g⟩ := by rfl) (hg : Wd ops E g false := by (first | (apply Wd.noT; (focus rfl); (focus rfl); (focus (with_reducible rfl))) | (apply Wd.noF; (focus rfl); (focus rfl); (focus (with_reducible rfl))) | (apply Wd.undef; (focus rfl); (focus rfl))))
    (hd : Nat.blt t N = true := by rfl) (hs : (Region.noSelect ops && Region.free .any ops listed i && (Region.ready .any ops listed).contains i) = true := by kernel_rfl) :
    KQ (HK P ops Q LS (fuel + 1) listed) w0 N E L := by
  simp only [Bool.and_eq_true] at hs
  refine ⟨fun a w f s => ?_⟩
  obtain ⟨hS, hW⟩ := h.run _ w (f.put (d := some t) hd undef) s
  exact ⟨hS, wpAnyH_take hi hs.1.1 hs.1.2 hs.2 (fun _ _ _ h => h) (.inr ⟨wantd_spec f hg.w, rfl⟩) hS hW⟩

/-- Of several that may come up, each. -/
def Each (P : Program) (ops : Array Oper) (Q : Exit → Act → World → Prop) (K : Nat → Act → World → Prop) (w0 : World) (N : Nat) (E : Env) (L : List HP) : List Nat → Prop
  | [] => True
  | i :: rs => KQ (wpOp P ops Q i (K i)) w0 N E L ∧ Each P ops Q K w0 N E L rs

theorem Each.get {K : Nat → Act → World → Prop} : ∀ {rs : List Nat}, Each P ops Q K w0 N E L rs → ∀ i ∈ rs, KQ (wpOp P ops Q i (K i)) w0 N E L
  | i :: rs, h, j, hj => by
    rcases List.mem_cons.1 hj with rfl | hj
    · exact h.1
    · exact h.2.get j hj

theorem kq_each (rs : List Nat) (h : Each P ops (NoPanic Q) (fun i => HK P ops Q LS fuel (listed.setIfInBounds i true)) w0 N E L rs)
    (hr : Region.ready .any ops listed = rs := by kernel_rfl) (hne : rs.isEmpty = false := by rfl) (e : Ent L LS := by ((repeat (first | with_reducible exact Ent.rfl | with_reducible exact Ent.nil | ((with_reducible apply Ent.cons); focus ((repeat (first | exact Sel.here | apply Sel.there)); done)) | with_reducible refine Ent.drop ?_)); done)) :
    KQ (HK P ops Q LS (fuel + 1) listed) w0 N E L :=
  ⟨fun a w f s => ⟨e _ s.2, wpAnyH_all hr (by intro e; simp [e] at hne) fun i hi => wpOp_mono (fun _ _ h => ⟨h.sat, h.any⟩) ((h.get i hi).run a w f s)⟩⟩

theorem kq_op {i : Nat} {d : Option Tmp} (h : WX P Q ⟨d, op, ty, pos, af, g⟩ K w0 N E L) (hi : ops[i]? = some ⟨d, op, ty, pos, af, g⟩ := by rfl) (hg : Wd ops E g true := by (first | exact Wd.none | (apply Wd.yes; (focus rfl); (focus rfl); (focus (with_reducible rfl))))) : KQ (wpOp P ops Q i K) w0 N E L := by
  refine ⟨fun a w f s => ?_⟩
  unfold wpOp
  simp only [hi]
  rw [if_pos (wantd_spec f hg.w)]
  exact .inl (h.run a w f s)
theorem kq_onot {i : Nat} (h : KQ K w0 N ((t, undef) :: E) L) (hi : ops[i]? = some ⟨some t, op, ty, pos, af, g⟩ := by rfl) (hg : Wd ops E g false := by (first | (apply Wd.noT; (focus rfl); (focus rfl); (focus (with_reducible rfl))) | (apply Wd.noF; (focus rfl); (focus rfl); (focus (with_reducible rfl))) | (apply Wd.undef; (focus rfl); (focus rfl)))) (hd : Nat.blt t N = true := by rfl) : KQ (wpOp P ops Q i K) w0 N E L := by
  refine ⟨fun a w f s => ?_⟩
  unfold wpOp
  simp only [hi]
  rw [if_neg (by rw [wantd_spec f hg.w]; simp)]
  exact h.run _ _ (f.put (d := some t) hd _) s
theorem kq_onot0 {i : Nat} (h : KQ K w0 N E L) (hi : ops[i]? = some ⟨none, op, ty, pos, af, g⟩ := by rfl) (hg : Wd ops E g false := by (first | (apply Wd.noT; (focus rfl); (focus rfl); (focus (with_reducible rfl))) | (apply Wd.noF; (focus rfl); (focus rfl); (focus (with_reducible rfl))) | (apply Wd.undef; (focus rfl); (focus rfl)))) : KQ (wpOp P ops Q i K) w0 N E L := by
  refine ⟨fun a w f s => ?_⟩
  unfold wpOp
  simp only [hi]
  rw [if_neg (by rw [wantd_spec f hg.w]; simp)]
  exact h.run _ _ f s

theorem kq_done (h : KQ (Q .normal) w0 N E L) (hr : (Region.ready .any ops listed).isEmpty = true := by kernel_rfl) (e : Ent L LS := by ((repeat (first | with_reducible exact Ent.rfl | with_reducible exact Ent.nil | ((with_reducible apply Ent.cons); focus ((repeat (first | exact Sel.here | apply Sel.there)); done)) | with_reducible refine Ent.drop ?_)); done)) :
    KQ (HK P ops Q LS fuel listed) w0 N E L :=
  ⟨fun a w f s => ⟨e _ s.2, wpAnyH_done (Q := NoPanic Q) (by simpa using hr) (h.run a w f s) _⟩⟩
end

/-! ### calls -/
/-- A call of f, in a world that holds L: what it tells, and what is held then. -/
structure Sp (P : Program) (f : FuncId) (args : List Value) (L : List HP) (Post : Value → List HP → Prop) : Prop where
  run : ∀ w0 w, Sy w0 L w → Calls P f args.toArray w fun e w' => ∃ r L', e = .returned r ∧ Post r L' ∧ Sy w0 L' w'

theorem Sp.mono {f : FuncId} {args : List Value} {Post Post' : Value → List HP → Prop} (h : Sp P f args L Post) (hp : ∀ r L, Post r L → Post' r L) : Sp P f args L Post' :=
  ⟨fun w0 w s => (h.run w0 w s).mono fun _ _ ⟨r, L', he, hq, hs⟩ => ⟨r, L', he, hp _ _ hq, hs⟩⟩

class FnOk (P : Program) (f : FuncId) : Prop where
  ok : ∃ fn, P.funcs[f]? = some fn ∧ (fn.name == "runtime.NumGoroutine") = false ∧ fn.body.isSome = true

def evs (E : Env) : List Operand → Option (List Value)
  | [] => some []
  | x :: xs => match ev E x, evs E xs with
    | some v, some vs => some (v :: vs)
    | _, _ => none

theorem Fit.evals {a : Act} (h : Fit N E a) : ∀ {xs : List Operand} {vs : List Value}, evs E xs = some vs → xs.map a.eval = vs
  | [], vs, e => by simpa [evs] using e
  | x :: xs, vs, e => by
    unfold evs at e
    cases h1 : ev E x with
    | none => simp [h1] at e
    | some v =>
      cases h2 : evs E xs with
      | none => simp [h1, h2] at e
      | some us =>
        simp only [h1, h2, Option.some.injEq] at e
        subst e
        simp [h.eval h1, h.evals h2]

theorem wx_call {f : FuncId} {args : List Value} {Post : Value → List HP → Prop} {M : List HP} {d : Option Nat} {xs : List Operand} {ts : Array TypeId}
    (hf : FnOk P f) (hx : evs E xs = some args) (hs : Sp P f args M Post) (e : Ent L M) (hd : okd N d = true) (h : ∀ r L', Post r L' → KQ K w0 N (pe E d r) L') :
    WX P Q ⟨d, .call ⟨.value (.func f), xs.toArray, ts⟩, ty, pos, af, g⟩ K w0 N E L := by
  refine ⟨fun a w ft s => ?_⟩
  obtain ⟨fn, h1, h2, h3⟩ := hf.ok
  have he : (execOp a.eval ⟨d, .call ⟨.value (.func f), xs.toArray, ts⟩, ty, pos, af, g⟩).run P w = .ok (.enter f args.toArray) w := by
    have := ft.evals hx
    have h2' : ¬ fn.name = "runtime.NumGoroutine" := by simpa using h2
    have h3' : ¬ fn.body = none := fun e => by simp [e] at h3
    simp [execOp, resolve, Act.eval, Deferred.ofValue, invoke, callFunc, h1, h2', h3', this]
  unfold Oper.wp
  rw [he]
  exact (hs.run w0 w (s.ent e)).mono fun en w' ⟨r, L', hr, hq, hs'⟩ => by
    subst hr
    exact (h r L' hq).run _ _ (ft.put hd r) hs'
theorem w_call {f : FuncId} {args : List Value} {Post : Value → List HP → Prop} {M : List HP} {xs : List Operand} {ts : Array TypeId} (hs : Sp P f args M Post) (h : ∀ r L', Post r L' → KQ K w0 N ((t, r) :: E) L') [hf : FnOk P f] (hx : evs E xs = some args := by rfl) (e : Ent L M := by ((repeat (first | with_reducible exact Ent.rfl | with_reducible exact Ent.nil | ((with_reducible apply Ent.cons); focus ((repeat (first | exact Sel.here | apply Sel.there)); done)) | with_reducible refine Ent.drop ?_)); done)) (hd : Nat.blt t N = true := by rfl) :
    WX P Q ⟨some t, .call ⟨.value (.func f), xs.toArray, ts⟩, ty, pos, af, g⟩ K w0 N E L := wx_call hf hx hs e hd h
theorem w_call0 {f : FuncId} {args : List Value} {Post : Value → List HP → Prop} {M : List HP} {xs : List Operand} {ts : Array TypeId} (hs : Sp P f args M Post) (h : ∀ r L', Post r L' → KQ K w0 N E L') [hf : FnOk P f] (hx : evs E xs = some args := by rfl) (e : Ent L M := by ((repeat (first | with_reducible exact Ent.rfl | with_reducible exact Ent.nil | ((with_reducible apply Ent.cons); focus ((repeat (first | exact Sel.here | apply Sel.there)); done)) | with_reducible refine Ent.drop ?_)); done)) :
    WX P Q ⟨none, .call ⟨.value (.func f), xs.toArray, ts⟩, ty, pos, af, g⟩ K w0 N E L := wx_call hf hx hs e rfl h

/-- What the frame is at the entry. -/
def argEnv : Nat → List Value → Env
  | _, [] => []
  | i, v :: vs => (i, v) :: argEnv (i + 1) vs

theorem lk_argEnv : ∀ (vs : List Value) (i t : Nat) (v : Value), lk (argEnv i vs) t = some v → i ≤ t ∧ vs[t - i]? = some v
  | [], _, _, _, e => by simp [argEnv, lk] at e
  | u :: vs, i, t, v, e => by
    by_cases h : i = t
    · subst h
      rw [argEnv, lk_cons_self] at e
      simpa using e
    · rw [argEnv, lk_cons_ne _ _ h] at e
      obtain ⟨h1, h2⟩ := lk_argEnv vs (i + 1) t v e
      refine ⟨by omega, ?_⟩
      have : t - i = (t - (i + 1)) + 1 := by omega
      rw [this]; simpa using h2

theorem sp_of {f : FuncId} {fn : Func} {c : Code} {args : List Value} {Post : Value → List HP → Prop} (hf : P.funcs[f]? = some fn) (hb : fn.body = some c) (hn : fn.ntmps = N) (hN : Nat.ble args.length N = true)
    (h : ∀ w0, KQ (c.wp P (bodyPost P fn fun e w' => ∃ r L', e = .returned r ∧ Post r L' ∧ Sy w0 L' w')) w0 N (argEnv 0 args) L) : Sp P f args L Post := by
  refine ⟨fun w0 w s => ?_⟩
  refine calls_of_wp hf hb ((h w0).run _ w ⟨?_, rfl, fun t v e => ?_⟩ s)
  · have : args.length ≤ N := by simpa using hN
    simp [hn]; omega
  · obtain ⟨_, h2⟩ := lk_argEnv args 0 t v e
    have hlt := (List.getElem?_eq_some_iff.1 h2).1
    simp at h2 hlt
    rw [Array.getElem?_append_left (by simpa using hlt)]
    simpa using h2

/-- The results. -/
inductive RVals (P : Program) (E : Env) (L : List HP) : List ResultVar → List Value → Prop
  | nil : RVals P E L [] []
  | tmp {t : Nat} {v : Value} {rs : List ResultVar} {vs : List Value} (h : lk E t = some v) (k : RVals P E L rs vs) : RVals P E L (.tmp t :: rs) (v :: vs)
  | cell {t ty : Nat} {v : Value} {ad : Addr} {rs : List ResultVar} {vs : List Value} (h : lk E t = some (.pointer (some ad))) (hl : ∀ w, Sat (hp w) L → (loadVar ty ad).run P w = .ok v w) (k : RVals P E L rs vs) : RVals P E L (.cell t ty :: rs) (v :: vs)

def tup : List Value → Value
  | [v] => v
  | vs => .tuple vs.toArray

theorem kq_norm {fn : Func} {R : Ending → World → Prop} (h : KQ (bodyPost P fn R .ret) w0 N E L) : KQ (bodyPost P fn R .normal) w0 N E L := ⟨h.run⟩
theorem kq_end {fn : Func} {R : Ending → World → Prop} {rs : List ResultVar} {vs : List Value} (hr : fn.results = rs.toArray) (hv : RVals P E L rs vs) (h : ∀ w, Sy w0 L w → R (.returned (tup vs)) w) : KQ (bodyPost P fn R .ret) w0 N E L := by
  refine ⟨fun a w f s => ?_⟩
  refine ⟨f.defers, tup vs, ?_, h w s⟩
  have key : ∀ (g : ResultVar → Sem Value), (∀ u, g (.tmp u) = pure (a.tmps.getD u undef)) → (∀ q t, g (.cell q t) = (do loadVar t (← asAddr (a.tmps.getD q undef)))) →
      ∀ (rs : List ResultVar) (vs : List Value), RVals P E L rs vs → (rs.mapM g).run P w = .ok vs w := by
    intro g ft fc rs vs h
    induction h with
    | nil => simp
    | tmp h _ ih =>
      have := f.get _ _ h
      simp [List.mapM_cons, ft, this, ih]
    | cell h hl _ ih =>
      have := f.get _ _ h
      simp [List.mapM_cons, fc, this, asAddr, hl w s.2, ih]
  unfold results
  rw [hr, List.mapM_toArray]
  simp only [Sem.run_bind, Sem.run_map]
  rw [key _ (fun _ => rfl) (fun _ _ => rfl) rs vs hv]
  match vs with
  | [] => simp [tup]
  | [v] => simp [tup]
  | v :: u :: vs => simp [tup]

end
end Sl
