/- DERIVED. The walk over what is owned: frames as lists of slots, rules for code and for regions. No translation is named here. -/
import Derived.Test.YteboihdpdhnfkaaSl
import Derived.KernelRfl
namespace Sl
open Go Go.RowKit Cv

abbrev Env := List (Nat × Value)

def lk : Env → Nat → Option Value
  | [], _ => none
  | (u, v) :: E, t => bif Nat.beq u t then some v else lk E t

/-- A frame that holds these slots. -/
structure Fit (N : Nat) (E : Env) (a : Act) : Prop where
  size : a.tmps.size = N
  defers : a.defers = []
  get : ∀ t v, lk E t = some v → a.tmps[t]? = some v

def ev (E : Env) : Operand → Option Value
  | .tmp t => lk E t
  | .const v => some v
  | .global g => some (.pointer (some ⟨g, 0, none⟩))
  | .func f => some (.func (.func f) #[] #[])

theorem Fit.eval {N : Nat} {E : Env} {a : Act} (h : Fit N E a) {x : Operand} {v : Value} (e : ev E x = some v) : a.eval x = v := by
  cases x with
  | tmp t => simp [Act.eval, h.get t v e]
  | const u => simpa [ev, Act.eval] using e
  | global g => simpa [ev, Act.eval] using e
  | func f => simpa [ev, Act.eval] using e

theorem lk_cons_self (E : Env) (t : Nat) (v : Value) : lk ((t, v) :: E) t = some v := by simp [lk]
theorem lk_cons_ne (E : Env) {t u : Nat} (v : Value) (h : t ≠ u) : lk ((t, v) :: E) u = lk E u := by
  have : Nat.beq t u = false := by
    cases hb : Nat.beq t u
    · rfl
    · exact absurd (Nat.eq_of_beq_eq_true hb) h
  simp [lk, this]

/-- The slots behind an operation. -/
def pe (E : Env) (d : Option Nat) (v : Value) : Env := match d with | some t => (t, v) :: E | none => E
def okd (N : Nat) (d : Option Nat) : Bool := match d with | some t => Nat.blt t N | none => true

theorem Fit.put {N : Nat} {E : Env} {a : Act} (h : Fit N E a) {d : Option Nat} (hd : okd N d = true) (v : Value) : Fit N (pe E d v) (a.put d v) := by
  cases d with
  | none => exact h
  | some t =>
    have ht : t < a.tmps.size := by rw [h.size]; simpa [okd, Nat.blt_eq] using hd
    refine ⟨by simp [Act.put, h.size], h.defers, fun u x e => ?_⟩
    by_cases hu : t = u
    · subst hu
      rw [pe, lk_cons_self] at e
      simpa [Act.put, ht] using e
    · rw [pe, lk_cons_ne _ _ hu] at e
      simp only [Act.put]
      rw [Array.getElem?_setIfInBounds_ne hu]
      exact h.get u x e

/-- What a frame holds, in other words. -/
def Subs (E : Env) : Env → Prop
  | [] => True
  | (t, v) :: F => lk E t = some v ∧ Subs E F

theorem Subs.get {E : Env} : ∀ {F : Env}, Subs E F → ∀ t v, lk F t = some v → lk E t = some v
  | [], _, _, _, e => by simp [lk] at e
  | (u, x) :: F, h, t, v, e => by
    by_cases hu : u = t
    · subst hu
      rw [lk_cons_self] at e
      rw [← e]; exact h.1
    · rw [lk_cons_ne _ _ hu] at e
      exact h.2.get t v e

theorem Fit.sub {N : Nat} {E F : Env} {a : Act} (h : Fit N E a) (s : Subs E F) : Fit N F a := ⟨h.size, h.defers, fun t v e => h.get t v (s.get t v e)⟩

/-- In every frame and every world of this form. -/
def KQ (K : Act → World → Prop) (w0 : World) (N : Nat) (E : Env) (L : List HP) : Prop := ∀ a w, Fit N E a → Sy w0 L w → K a w

/-- An operation that is carried out in every such frame and world. -/
def WX (P : Program) (Q : Exit → Act → World → Prop) (o : Oper) (K : Act → World → Prop) (w0 : World) (N : Nat) (E : Env) (L : List HP) : Prop :=
  ∀ a w, Fit N E a → Sy w0 L w → o.wp P a w K Q

/-- An operation that yields a value, and does nothing else. -/
def Pu (P : Program) (o : Oper) (N : Nat) (E : Env) (L : List HP) (v : Value) : Prop :=
  ∀ a w, Fit N E a → Sat (hp w) L → (execOp a.eval o).run P w = .ok (.value v) w

section
variable {P : Program} {Q : Exit → Act → World → Prop} {o : Oper} {K : Act → World → Prop} {w0 : World} {N : Nat} {E : Env} {L : List HP}

theorem KQ.ent {M : List HP} (e : Ent L M) (h : KQ K w0 N E M) : KQ K w0 N E L := fun a w f s => h a w f (s.ent e)
theorem KQ.sub {F : Env} (s : Subs E F) (h : KQ K w0 N F L) : KQ K w0 N E L := fun a w f y => h a w (f.sub s) y
theorem KQ.sel {R : List HP} {A : HP} (s : Sel L A R) (h : KQ K w0 N E (A :: R)) : KQ K w0 N E L := h.ent fun _ x => s.sat x

theorem wx_pure {v : Value} (hp : Pu P o N E L v) (hd : okd N o.dst = true) (h : KQ K w0 N (pe E o.dst v) L) : WX P Q o K w0 N E L := by
  intro a w f s
  unfold Oper.wp
  rw [hp a w f s.2]
  exact h _ _ (f.put hd v) s

/-! ### code -/
theorem kq_seq {x y : Code} (h : ∀ K : Act → World → Prop, (∀ w0 E L, KQ (y.wp P Q) w0 N E L → KQ K w0 N E L) → KQ (x.wp P (Exit.then K Q)) w0 N E L) : KQ ((Code.seq x y).wp P Q) w0 N E L :=
  fun a w f s => wp_seq (h _ (fun _ _ _ h => h) a w f s)
theorem kq_cond {c : Operand} {x y : Code} {t : Bool} (hc : ev E c = some (.bool t)) (h1 : t = true → KQ (x.wp P Q) w0 N E L) (h2 : t = false → KQ (y.wp P Q) w0 N E L) : KQ ((Code.cond c x y).wp P Q) w0 N E L :=
  fun a w f s => wp_cond_split (f.eval hc) (fun e => h1 e a w f s) (fun e => h2 e a w f s)
theorem kq_cond_true {c : Operand} {x y : Code} (hc : ev E c = some (.bool true)) (h1 : KQ (x.wp P Q) w0 N E L) : KQ ((Code.cond c x y).wp P Q) w0 N E L :=
  fun a w f s => wp_cond_true (f.eval hc) (h1 a w f s)
theorem kq_cond_false {c : Operand} {x y : Code} (hc : ev E c = some (.bool false)) (h1 : KQ (y.wp P Q) w0 N E L) : KQ ((Code.cond c x y).wp P Q) w0 N E L :=
  fun a w f s => wp_cond_false (f.eval hc) (h1 a w f s)
theorem kq_block {id : Nat} {c : Code} (h : KQ (c.wp P (Exit.inBlock id Q)) w0 N E L) : KQ ((Code.block id c).wp P Q) w0 N E L := fun a w f s => wp_block (h a w f s)
theorem kq_ret (h : KQ (Q .ret) w0 N E L) : KQ (Code.ret.wp P Q) w0 N E L := fun a w f s => wp_ret (h a w f s)
theorem kq_skip (h : KQ (Q .normal) w0 N E L) : KQ (Code.skip.wp P Q) w0 N E L := fun a w f s => wp_skip (h a w f s)
theorem kq_exit {id : Nat} (h : KQ (Q (.exit id)) w0 N E L) : KQ ((Code.exit id).wp P Q) w0 N E L := fun a w f s => wp_exit (h a w f s)
theorem kq_region {id : Nat} {l : List Oper} (h : KQ (wpList P l.toArray Q l) w0 N E L) : KQ ((Code.region id l.toArray false).wp P Q) w0 N E L := fun a w f s => wp_region_lit (h a w f s)
theorem kq_nil {ops : Array Oper} (h : KQ (Q .normal) w0 N E L) : KQ (wpList P ops Q []) w0 N E L := h

theorem kq_then {K' : Act → World → Prop} (h : KQ K' w0 N E L) : KQ (Exit.then K' Q .normal) w0 N E L := h
theorem kq_then_ret {K' : Act → World → Prop} (h : KQ (Q .ret) w0 N E L) : KQ (Exit.then K' Q .ret) w0 N E L := h
theorem kq_then_exit {K' : Act → World → Prop} {id : Nat} (h : KQ (Q (.exit id)) w0 N E L) : KQ (Exit.then K' Q (.exit id)) w0 N E L := h
theorem kq_in {id : Nat} (h : KQ (Q .normal) w0 N E L) : KQ (Exit.inBlock id Q .normal) w0 N E L := h
theorem kq_in_ret {id : Nat} (h : KQ (Q .ret) w0 N E L) : KQ (Exit.inBlock id Q .ret) w0 N E L := h
theorem kq_in_hit {id : Nat} (h : KQ (Q .normal) w0 N E L) : KQ (Exit.inBlock id Q (.exit id)) w0 N E L := fun a w f s => by
  show if id = id then Q .normal a w else Q (.exit id) a w
  rw [if_pos rfl]; exact h a w f s
theorem kq_in_miss {id id' : Nat} (hne : Nat.beq id' id = false) (h : KQ (Q (.exit id')) w0 N E L) : KQ (Exit.inBlock id Q (.exit id')) w0 N E L := fun a w f s => by
  have : id' ≠ id := fun e => by rw [e, Nat.beq_refl] at hne; cases hne
  show if id' = id then Q .normal a w else Q (.exit id') a w
  rw [if_neg this]; exact h a w f s

/-- A loop: its rounds are told by some x, that grows less. -/
theorem kq_loop {c : Code} {X : Type} (x0 : X) (I : X → Prop) (Ev : X → Env) (Lv : X → List HP) (μ : X → Nat) (h0 : I x0) (hE : Subs E (Ev x0)) (hL : Ent L (Lv x0))
    (round : ∀ (K' : Act → World → Prop) (x : X), I x → (∀ y E L, I y → μ y < μ x → Subs E (Ev y) → Ent L (Lv y) → KQ K' w0 N E L) → KQ (c.wp P (Exit.then K' Q)) w0 N (Ev x) (Lv x)) :
    KQ ((Code.loop c).wp P Q) w0 N E L := by
  intro a w f s
  have key : ∀ n x, μ x = n → I x → ∀ a w, Fit N (Ev x) a → Sy w0 (Lv x) w → ∀ (b : Frame) (k : List Item) (cs : List Frame), ∃ e a' w', Q e a' w' ∧ Arrives P (lone (b.at a (.code c :: .inLoop c :: k)) cs w) b k cs e a' w' := by
    intro n
    induction n using Nat.strongRecOn with
    | _ n ih =>
      intro x hn hI a w f s b k cs
      obtain ⟨e, a₁, w₁, hq, harr⟩ := round (fun a' w' => ∃ y, I y ∧ μ y < μ x ∧ Fit N (Ev y) a' ∧ Sy w0 (Lv y) w') x hI
        (fun y E L hy hlt hE hL a' w' f' s' => ⟨y, hy, hlt, f'.sub hE, s'.ent hL⟩) a w f s b (.inLoop c :: k) cs
      cases e with
      | normal =>
        obtain ⟨y, hy, hlt, f', s'⟩ := hq
        obtain ⟨e₂, a₂, w₂, hq₂, harr₂⟩ := ih (μ y) (hn ▸ hlt) y rfl hy a₁ w₁ f' s' b k cs
        exact ⟨e₂, a₂, w₂, hq₂, .of_steps (Steps.trans harr (.one step_inLoop)) harr₂⟩
      | exit id => exact ⟨_, a₁, w₁, hq, .pass (x := .inLoop c) rfl (fun _ _ => .inl (by simp)) harr⟩
      | goto l => exact ⟨_, a₁, w₁, hq, .pass (x := .inLoop c) rfl (fun _ _ => .inl (by simp)) harr⟩
      | ret => exact ⟨_, a₁, w₁, hq, .pass (x := .inLoop c) rfl (fun _ _ => .inl (by simp)) harr⟩
      | panic ch => exact ⟨_, a₁, w₁, hq, .pass (x := .inLoop c) rfl (fun _ _ => .inl (by simp)) harr⟩
      | outgrown => exact ⟨_, a₁, w₁, hq, .pass (x := .inLoop c) rfl (fun _ _ => .inl (by simp)) harr⟩
  intro b k cs
  obtain ⟨e, a', w', hq, harr⟩ := key _ x0 rfl h0 a w (f.sub hE) (s.ent hL) b k cs
  exact ⟨e, a', w', hq, .of_steps (.one step_loop) harr⟩

/-! ### regions in the order of the text -/
theorem kq_cons {ops : Array Oper} {rest : List Oper} (hg : o.guard = none) (h : WX P Q o (wpList P ops Q rest) w0 N E L) : KQ (wpList P ops Q (o :: rest)) w0 N E L :=
  fun a w f s => wpList_plain hg fun _ hK => Oper.wp_mono hK (h a w f s)

/-- Is an operation carried out? -/
def wantd (ops : Array Oper) (E : Env) (o : Oper) : Option Bool :=
  match o.guard with
  | none => some true
  | some (j, b) => match ((ops[j]?).bind (·.dst)).bind (lk E) with
    | some (.bool c) => some (c == b)
    | _ => none

theorem wantd_spec {ops : Array Oper} {r : Bool} {a : Act} (f : Fit N E a) (h : wantd ops E o = some r) : Region.wanted o (yielded ops a.tmps) = r := by
  unfold wantd at h
  unfold Region.wanted
  cases hg : o.guard with
  | none => rw [hg] at h; simpa using h
  | some gw =>
    obtain ⟨j, b⟩ := gw
    rw [hg] at h
    simp only at h ⊢
    unfold yielded
    cases hd : (ops[j]?).bind (·.dst) with
    | none => simp [hd] at h
    | some t =>
      simp only [hd, Option.bind_some] at h ⊢
      cases hv : lk E t with
      | none => simp [hv] at h
      | some v =>
        rw [hv] at h
        rw [f.get t v hv]
        cases v <;> simp at h ⊢
        exact h

theorem kq_do {ops : Array Oper} {rest : List Oper} (hg : wantd ops E o = some true) (h : WX P Q o (wpList P ops Q rest) w0 N E L) : KQ (wpList P ops Q (o :: rest)) w0 N E L :=
  fun a w f s => wpList_step fun _ hK => by
    rw [if_pos (wantd_spec f hg)]
    exact Oper.wp_mono hK (h a w f s)
theorem kq_not {ops : Array Oper} {rest : List Oper} {t : Nat} {op : Op} {ty : TypeId} {pos : String} {af : Array Edge} {g : Option (Nat × Bool)} (hg : wantd ops E ⟨some t, op, ty, pos, af, g⟩ = some false) (hd : Nat.blt t N = true) (h : KQ (wpList P ops Q rest) w0 N ((t, undef) :: E) L) : KQ (wpList P ops Q (⟨some t, op, ty, pos, af, g⟩ :: rest)) w0 N E L :=
  fun a w f s => wpList_step fun _ hK => by
    rw [if_neg (by rw [wantd_spec f hg]; simp)]
    exact hK _ _ (h _ _ (f.put (d := some t) hd _) s)

theorem kq_same {t : Nat} {v : Value} (h : KQ K w0 N ((t, v) :: E) L) (ht : lk E t = some v) : KQ K w0 N E L :=
  fun a w f s => h a w ⟨f.size, f.defers, fun u x e => by
    by_cases hu : t = u
    · subst hu
      rw [lk_cons_self] at e
      rw [← e]; exact f.get _ _ ht
    · rw [lk_cons_ne _ _ hu] at e
      exact f.get u x e⟩ s

/-- A slot that holds a bool: both ways. -/
theorem kq_split (t : Nat) {c : Bool} (ht : lk E t = some (.bool c)) (h1 : c = true → KQ K w0 N ((t, .bool true) :: E) L) (h2 : c = false → KQ K w0 N ((t, .bool false) :: E) L) : KQ K w0 N E L := by
  cases c
  · exact kq_same (h2 rfl) ht
  · exact kq_same (h1 rfl) ht

/-- A guard that is not known: both ways. -/
theorem kq_guard {ops : Array Oper} {rest : List Oper} {j t : Nat} {p c : Bool} (_ : o.guard = some (j, p)) (_ : (ops[j]?).bind (·.dst) = some t) (ht : lk E t = some (.bool c))
    (h1 : c = true → KQ (wpList P ops Q (o :: rest)) w0 N ((t, .bool true) :: E) L) (h2 : c = false → KQ (wpList P ops Q (o :: rest)) w0 N ((t, .bool false) :: E) L) : KQ (wpList P ops Q (o :: rest)) w0 N E L := kq_split t ht h1 h2

/-- A slot told anew. -/
theorem kq_slot (t : Nat) {v u : Value} (ht : lk E t = some v) (e : v = u) (h : KQ K w0 N ((t, u) :: E) L) : KQ K w0 N E L := by
  subst e
  exact kq_same h ht

/-! ### regions that draw their order -/
/-- What is still to come of a region that draws: LS holds throughout. -/
def HK (P : Program) (ops : Array Oper) (Q : Exit → Act → World → Prop) (LS : List HP) (fuel : Nat) (listed : Array Bool) : Act → World → Prop :=
  fun a w => Sat (hp w) LS ∧ wpAnyH P .any ops (NoPanic Q) (fun w => Sat (hp w) LS) fuel listed a w

theorem kq_nopanic (h : KQ (Q .normal) w0 N E L) : KQ (NoPanic Q .normal) w0 N E L := h

theorem kq_draw {id : Nat} {l : List Oper} (LS : List HP) (n : Nat) (hn : l.length = n) (hm : P.follows .mixedOrders = true)
    (h : KQ (HK P l.toArray Q LS n (Array.replicate n false)) w0 N E L) : KQ ((Code.region id l.toArray true).wp P Q) w0 N E L := by
  intro a w f s
  refine wp_region_noPanic (wp_region_held (S := fun w => Sat (hp w) LS) hm ?_)
  have := (h a { w with drawn := w.drawn + 1 } f s.drew).2
  subst hn
  simpa using this
theorem kq_draw0 (id : Nat) {l : List Oper} (n : Nat) (hn : l.length = n) (hm : P.follows .mixedOrders = true)
    (h : KQ (HK P l.toArray Q L n (Array.replicate n false)) w0 N E L) : KQ ((Code.region id l.toArray true).wp P Q) w0 N E L := kq_draw L n hn hm h
theorem kq_draw1 (id : Nat) {l : List Oper} (n t : Nat) {b o : Nat} {ob : Obj} {R : List HP} (hn : l.length = n) (hm : P.follows .mixedOrders = true) (_ : lk E t = some (.pointer (some ⟨b, o, none⟩))) (_ : Sel L (blk b ob) R)
    (h : KQ (HK P l.toArray Q R n (Array.replicate n false)) w0 N E L) : KQ ((Code.region id l.toArray true).wp P Q) w0 N E L := kq_draw R n hn hm h

/-- Number i is taken first. -/
theorem kq_take (i : Nat) {ops : Array Oper} {fuel : Nat} {listed : Array Bool} {LS : List HP} {v : Value} {t : Nat} {op : Op} {ty : TypeId} {pos : String} {af : Array Edge} {g : Option (Nat × Bool)} (hi : ops[i]? = some ⟨some t, op, ty, pos, af, g⟩)
    (hs : (Region.noSelect ops && Region.free .any ops listed i && (Region.ready .any ops listed).contains i) = true) (hg : wantd ops E ⟨some t, op, ty, pos, af, g⟩ = some true)
    (hp' : Pu P ⟨some t, op, ty, pos, af, g⟩ N E LS v) (hd : Nat.blt t N = true)
    (h : KQ (HK P ops Q LS fuel (listed.setIfInBounds i true)) w0 N ((t, v) :: E) L) :
    KQ (HK P ops Q LS (fuel + 1) listed) w0 N E L := by
  simp only [Bool.and_eq_true] at hs
  intro a w f s
  obtain ⟨hS, hW⟩ := h _ w (f.put (d := some t) hd v) s
  exact ⟨hS, wpAnyH_take hi hs.1.1 hs.1.2 hs.2 (fun _ _ _ h => h) (.inl ⟨wantd_spec f hg, fun w' hw' => hp' a w' f hw'⟩) hS hW⟩

theorem kq_take_not (i : Nat) {ops : Array Oper} {fuel : Nat} {listed : Array Bool} {LS : List HP} {t : Nat} {op : Op} {ty : TypeId} {pos : String} {af : Array Edge} {g : Option (Nat × Bool)} (hi : ops[i]? = some ⟨some t, op, ty, pos, af, g⟩)
    (hs : (Region.noSelect ops && Region.free .any ops listed i && (Region.ready .any ops listed).contains i) = true) (hg : wantd ops E ⟨some t, op, ty, pos, af, g⟩ = some false) (hd : Nat.blt t N = true)
    (h : KQ (HK P ops Q LS fuel (listed.setIfInBounds i true)) w0 N ((t, undef) :: E) L) :
    KQ (HK P ops Q LS (fuel + 1) listed) w0 N E L := by
  simp only [Bool.and_eq_true] at hs
  intro a w f s
  obtain ⟨hS, hW⟩ := h _ w (f.put (d := some t) hd undef) s
  exact ⟨hS, wpAnyH_take hi hs.1.1 hs.1.2 hs.2 (fun _ _ _ h => h) (.inr ⟨wantd_spec f hg, rfl⟩) hS hW⟩

/-- Of several that may come up, each. -/
def Each (P : Program) (ops : Array Oper) (Q : Exit → Act → World → Prop) (K : Nat → Act → World → Prop) (w0 : World) (N : Nat) (E : Env) (L : List HP) : List Nat → Prop
  | [] => True
  | i :: rs => KQ (wpOp P ops Q i (K i)) w0 N E L ∧ Each P ops Q K w0 N E L rs

theorem Each.get {ops : Array Oper} {K : Nat → Act → World → Prop} : ∀ {rs : List Nat}, Each P ops Q K w0 N E L rs → ∀ i ∈ rs, KQ (wpOp P ops Q i (K i)) w0 N E L
  | i :: rs, h, j, hj => by
    rcases List.mem_cons.1 hj with rfl | hj
    · exact h.1
    · exact h.2.get j hj

theorem kq_each (rs : List Nat) {ops : Array Oper} {fuel : Nat} {listed : Array Bool} {LS : List HP} (hr : Region.ready .any ops listed = rs) (hne : rs.isEmpty = false)
    (e : Ent L LS) (h : Each P ops (NoPanic Q) (fun i => HK P ops Q LS fuel (listed.setIfInBounds i true)) w0 N E L rs) :
    KQ (HK P ops Q LS (fuel + 1) listed) w0 N E L :=
  fun a w f s => ⟨e _ s.2, wpAnyH_all hr (by intro e; simp [e] at hne) fun i hi => h.get i hi a w f s⟩

theorem kq_op {i : Nat} {ops : Array Oper} {d : Option Tmp} {op : Op} {ty : TypeId} {pos : String} {af : Array Edge} {g : Option (Nat × Bool)} (hi : ops[i]? = some ⟨d, op, ty, pos, af, g⟩) (hg : wantd ops E ⟨d, op, ty, pos, af, g⟩ = some true) (h : WX P Q ⟨d, op, ty, pos, af, g⟩ K w0 N E L) : KQ (wpOp P ops Q i K) w0 N E L := by
  intro a w f s
  unfold wpOp
  simp only [hi]
  rw [if_pos (wantd_spec f hg)]
  exact .inl (h a w f s)
theorem kq_op_not {i t : Nat} {ops : Array Oper} {op : Op} {ty : TypeId} {pos : String} {af : Array Edge} {g : Option (Nat × Bool)} (hi : ops[i]? = some ⟨some t, op, ty, pos, af, g⟩) (hg : wantd ops E ⟨some t, op, ty, pos, af, g⟩ = some false) (hd : Nat.blt t N = true) (h : KQ K w0 N ((t, undef) :: E) L) : KQ (wpOp P ops Q i K) w0 N E L := by
  intro a w f s
  unfold wpOp
  simp only [hi]
  rw [if_neg (by rw [wantd_spec f hg]; simp)]
  exact h _ _ (f.put (d := some t) hd _) s
theorem kq_op_not0 {i : Nat} {ops : Array Oper} {op : Op} {ty : TypeId} {pos : String} {af : Array Edge} {g : Option (Nat × Bool)} (hi : ops[i]? = some ⟨none, op, ty, pos, af, g⟩) (hg : wantd ops E ⟨none, op, ty, pos, af, g⟩ = some false) (h : KQ K w0 N E L) : KQ (wpOp P ops Q i K) w0 N E L := by
  intro a w f s
  unfold wpOp
  simp only [hi]
  rw [if_neg (by rw [wantd_spec f hg]; simp)]
  exact h _ _ f s

theorem kq_done {ops : Array Oper} {fuel : Nat} {listed : Array Bool} {LS : List HP} (hr : (Region.ready .any ops listed).isEmpty = true) (e : Ent L LS) (h : KQ (Q .normal) w0 N E L) :
    KQ (HK P ops Q LS fuel listed) w0 N E L :=
  fun a w f s => ⟨e _ s.2, wpAnyH_done (Q := NoPanic Q) (by simpa using hr) (h a w f s) _⟩

/-! ### calls -/
/-- A call of f, in a world that holds L: what it tells, and what is held then. -/
def Sp (P : Program) (f : FuncId) (args : List Value) (L : List HP) (Post : Value → List HP → Prop) : Prop :=
  ∀ w0 w, Sy w0 L w → Calls P f args.toArray w fun e w' => ∃ r L', e = .returned r ∧ Post r L' ∧ Sy w0 L' w'

theorem Sp.mono {f : FuncId} {args : List Value} {Post Post' : Value → List HP → Prop} (h : Sp P f args L Post) (hp : ∀ r L, Post r L → Post' r L) : Sp P f args L Post' :=
  fun w0 w s => (h w0 w s).mono fun _ _ ⟨r, L', he, hq, hs⟩ => ⟨r, L', he, hp _ _ hq, hs⟩

class FnOk (P : Program) (f : FuncId) : Prop where
  ok : ∃ fn, P.funcs[f]? = some fn ∧ (fn.name == "runtime.NumGoroutine") = false ∧ fn.body.isSome = true

def evs (E : Env) : List Operand → Option (List Value)
  | [] => some []
  | x :: xs => match ev E x, evs E xs with
    | some v, some vs => some (v :: vs)
    | _, _ => none

theorem Fit.evals {a : Act} (h : Fit N E a) : ∀ {xs : List Operand} {vs : List Value}, evs E xs = some vs → xs.map a.eval = vs
  | [], vs, e => by simpa [evs] using e
  | x :: xs, vs, e => by
    unfold evs at e
    cases h1 : ev E x with
    | none => simp [h1] at e
    | some v =>
      cases h2 : evs E xs with
      | none => simp [h1, h2] at e
      | some us =>
        simp only [h1, h2, Option.some.injEq] at e
        subst e
        simp [h.eval h1, h.evals h2]

theorem wx_call {f : FuncId} {args : List Value} {Post : Value → List HP → Prop} {M : List HP} {d : Option Nat} {xs : List Operand} {ts : Array TypeId} {ty : TypeId} {pos : String} {af : Array Edge} {g : Option (Nat × Bool)}
    (hf : FnOk P f) (hx : evs E xs = some args) (hs : Sp P f args M Post) (e : Ent L M) (hd : okd N d = true) (h : ∀ r L', Post r L' → KQ K w0 N (pe E d r) L') :
    WX P Q ⟨d, .call ⟨.value (.func f), xs.toArray, ts⟩, ty, pos, af, g⟩ K w0 N E L := by
  intro a w ft s
  obtain ⟨fn, h1, h2, h3⟩ := hf.ok
  have he : (execOp a.eval ⟨d, .call ⟨.value (.func f), xs.toArray, ts⟩, ty, pos, af, g⟩).run P w = .ok (.enter f args.toArray) w := by
    have := ft.evals hx
    have h2' : ¬ fn.name = "runtime.NumGoroutine" := by simpa using h2
    have h3' : ¬ fn.body = none := fun e => by simp [e] at h3
    simp [execOp, resolve, Act.eval, Deferred.ofValue, invoke, callFunc, h1, h2', h3', this]
  unfold Oper.wp
  rw [he]
  exact (hs w0 w (s.ent e)).mono fun en w' ⟨r, L', hr, hq, hs'⟩ => by
    subst hr
    exact h r L' hq _ _ (ft.put hd r) hs'

/-- What the frame is at the entry. -/
def argEnv : Nat → List Value → Env
  | _, [] => []
  | i, v :: vs => (i, v) :: argEnv (i + 1) vs

theorem lk_argEnv : ∀ (vs : List Value) (i t : Nat) (v : Value), lk (argEnv i vs) t = some v → i ≤ t ∧ vs[t - i]? = some v
  | [], _, _, _, e => by simp [argEnv, lk] at e
  | u :: vs, i, t, v, e => by
    by_cases h : i = t
    · subst h
      rw [argEnv, lk_cons_self] at e
      simpa using e
    · rw [argEnv, lk_cons_ne _ _ h] at e
      obtain ⟨h1, h2⟩ := lk_argEnv vs (i + 1) t v e
      refine ⟨by omega, ?_⟩
      have : t - i = (t - (i + 1)) + 1 := by omega
      rw [this]; simpa using h2

theorem sp_of {f : FuncId} {fn : Func} {c : Code} {args : List Value} {Post : Value → List HP → Prop} (hf : P.funcs[f]? = some fn) (hb : fn.body = some c) (hn : fn.ntmps = N) (hN : Nat.ble args.length N = true)
    (h : ∀ w0, KQ (c.wp P (bodyPost P fn fun e w' => ∃ r L', e = .returned r ∧ Post r L' ∧ Sy w0 L' w')) w0 N (argEnv 0 args) L) : Sp P f args L Post := by
  intro w0 w s
  refine calls_of_wp hf hb (h w0 _ w ⟨?_, rfl, fun t v e => ?_⟩ s)
  · have : args.length ≤ N := by simpa using hN
    simp [hn]; omega
  · obtain ⟨_, h2⟩ := lk_argEnv args 0 t v e
    have hlt := (List.getElem?_eq_some_iff.1 h2).1
    simp at h2 hlt
    rw [Array.getElem?_append_left (by simpa using hlt)]
    simpa using h2

/-- The results. -/
inductive RVals (P : Program) (E : Env) (L : List HP) : List ResultVar → List Value → Prop
  | nil : RVals P E L [] []
  | tmp {t : Nat} {v : Value} {rs : List ResultVar} {vs : List Value} (h : lk E t = some v) (k : RVals P E L rs vs) : RVals P E L (.tmp t :: rs) (v :: vs)
  | cell {t ty : Nat} {v : Value} {ad : Addr} {rs : List ResultVar} {vs : List Value} (h : lk E t = some (.pointer (some ad))) (hl : ∀ w, Sat (hp w) L → (loadVar ty ad).run P w = .ok v w) (k : RVals P E L rs vs) : RVals P E L (.cell t ty :: rs) (v :: vs)

def tup : List Value → Value
  | [v] => v
  | vs => .tuple vs.toArray

theorem kq_end {fn : Func} {R : Ending → World → Prop} {rs : List ResultVar} {vs : List Value} (hr : fn.results = rs.toArray) (hv : RVals P E L rs vs) (h : ∀ w, Sy w0 L w → R (.returned (tup vs)) w) : KQ (bodyPost P fn R .ret) w0 N E L := by
  intro a w f s
  refine ⟨f.defers, tup vs, ?_, h w s⟩
  have key : ∀ (g : ResultVar → Sem Value), (∀ u, g (.tmp u) = pure (a.tmps.getD u undef)) → (∀ q t, g (.cell q t) = (do loadVar t (← asAddr (a.tmps.getD q undef)))) →
      ∀ (rs : List ResultVar) (vs : List Value), RVals P E L rs vs → (rs.mapM g).run P w = .ok vs w := by
    intro g ft fc rs vs h
    induction h with
    | nil => simp
    | tmp h _ ih =>
      have := f.get _ _ h
      simp [List.mapM_cons, ft, this, ih]
    | cell h hl _ ih =>
      have := f.get _ _ h
      simp [List.mapM_cons, fc, this, asAddr, hl w s.2, ih]
  unfold results
  rw [hr, List.mapM_toArray]
  simp only [Sem.run_bind, Sem.run_map]
  rw [key _ (fun _ => rfl) (fun _ _ => rfl) rs vs hv]
  match vs with
  | [] => simp [tup]
  | [v] => simp [tup]
  | v :: u :: vs => simp [tup]
end
end Sl
