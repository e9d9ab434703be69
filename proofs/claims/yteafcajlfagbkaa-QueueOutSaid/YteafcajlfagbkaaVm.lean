/- DERIVED. The walk over what is owned: structs compared, maps. No translation is named here. -/
import Derived.Test.YteafcajlfagbkaaVi
import Derived.WideKeyRuns
namespace Sl
set_option linter.unusedSimpArgs false
set_option linter.unusedVariables false
open Go Go.RowKit Cv

/-! ### packs -/
structure pk (M : List HP) (h : PH) : Prop where
  out : Sat h M
theorem pk_mono' {M : List HP} {h : PH} {L : List HP} (s : Sat h (pk M :: L)) : Sat h (all M :: L) := by
  obtain ⟨S, ⟨ha⟩, hl⟩ := s
  exact ⟨S, ha, hl⟩
theorem pk_mono {M : List HP} {h : PH} {L : List HP} (s : Sat h (all M :: L)) : Sat h (pk M :: L) := by
  obtain ⟨S, ha, hl⟩ := s
  exact ⟨S, ⟨ha⟩, hl⟩
theorem Ent.flat {M L : List HP} : Ent (pk M :: L) (M ++ L) := fun _ h => (pk_mono' h).flat
theorem Ent.fold {M L : List HP} : Ent (M ++ L) (pk M :: L) := fun _ h => pk_mono h.fold
theorem pk_app {A B L : List HP} : Ent (pk (A ++ B) :: L) (pk A :: pk B :: L) := Ent.flat.trans ((by rw [List.append_assoc]; exact Ent.fold : Ent ((A ++ B) ++ L) (pk A :: (B ++ L))).trans (Ent.tail Ent.fold))
theorem app_pk {A B L : List HP} : Ent (pk A :: pk B :: L) (pk (A ++ B) :: L) := (Ent.tail Ent.flat).trans (Ent.flat.trans (by rw [← List.append_assoc]; exact Ent.fold))
theorem pk_cons {A : HP} {B L : List HP} : Ent (pk (A :: B) :: L) (A :: pk B :: L) := Ent.flat.trans (Ent.tail Ent.fold)
theorem cons_pk {A : HP} {B L : List HP} : Ent (A :: pk B :: L) (pk (A :: B) :: L) := (Ent.tail Ent.flat).trans (Ent.fold (M := A :: B))
theorem nil_pk {L : List HP} : Ent L (pk [] :: L) := Ent.fold (M := [])

theorem Ent.drop' {A : HP} {L : List HP} : Ent (A :: L) L := fun _ h => h.drop
theorem Sp.pre {P : Program} {f : FuncId} {args : List Value} {L M : List HP} {Post : Value → List HP → Prop} (h : Sp P f args M Post) (e : Ent L M) : Sp P f args L Post := ⟨fun w0 w s => h.run w0 w (s.ent e)⟩
theorem Sp.post {P : Program} {f : FuncId} {args : List Value} {L : List HP} {Post Post' : Value → List HP → Prop} (h : Sp P f args L Post) (e : ∀ r L, Post r L → ∃ M, Post' r M ∧ Ent L M) : Sp P f args L Post' :=
  ⟨fun w0 w s => (h.run w0 w s).mono fun _ _ ⟨r, L', he, hp, hs⟩ => let ⟨M, hm, hE⟩ := e r L' hp; ⟨r, M, he, hm, hs.ent hE⟩⟩

/-! ### structs compared -/
section
variable {P : Program}
/-- What '==' tells of two values. -/
structure EqV (P : Program) (d : Nat) (T : TypeId) (x y : Value) (r : Bool) : Prop where
  run : ∀ n w, (Op.equalIn (n + d) T x y).run P w = .ok r w

theorem beq_dec (p q : ByteArray) : (p == q) = decide (p = q) := by rw [Bool.eq_iff_iff]; simp [Go.MapKept.bytes_beq]
theorem EqV.int {T : TypeId} {k k' : IntKind} {z : Value} {n b d : Nat} {p q : Int} [i : Ty P T (.int k') z n b] : EqV P (d + 1) T (.int k p) (.int k q) (decide (p = q)) := ⟨fun n w => by
  simp [Op.equalIn, i.run_und, BEq.beq]⟩
theorem EqV.bool {T : TypeId} {z : Value} {n b d : Nat} {p q : Bool} [i : Ty P T .bool z n b] : EqV P (d + 1) T (.bool p) (.bool q) (p == q) := ⟨fun n w => by
  simp [Op.equalIn, i.run_und]⟩
theorem EqV.str {T : TypeId} {z : Value} {n b d : Nat} {p q : ByteArray} [i : Ty P T .string z n b] : EqV P (d + 1) T (.string p) (.string q) (decide (p = q)) := ⟨fun n w => by
  simp [Op.equalIn, i.run_und, beq_dec]⟩

/-- A part of a struct. -/
structure Part (P : Program) (T : TypeId) (cs : List Value) (o : Nat) (v : Value) : Prop where
  run : ∀ w, (part T cs.toArray o).run P w = .ok v w
theorem Part.one {T : TypeId} {dt : TypeDesc} {z : Value} {n b : Nat} {cs : List Value} {o : Nat} {v : Value} [i : Ty P T dt z n b] (hd : aggD dt = false) (h : cs[o]? = some v) : Part P T cs o v := ⟨fun w => by
  simp [part, i.run_agg, hd, h]⟩
theorem Part.agg {T : TypeId} {dt : TypeDesc} {z : Value} {n b : Nat} {cs vs : List Value} {o : Nat} [i : Ty P T dt z n b] (hd : aggD dt = true) (h : Tk cs o n vs) : Part P T cs o (.agg vs.toArray) := ⟨fun w => by
  have := h.take
  simp [part, i.run_agg, hd, i.run_size, this]⟩

inductive EqF (P : Program) (d : Nat) (xs ys : List Value) : List Field → Bool → Prop
  | nil : EqF P d xs ys [] true
  | cons {f : Field} {fs : List Field} {v1 v2 : Value} {r s : Bool} (hn : (f.name == "_") = false) (p1 : Part P f.type xs f.offset v1) (p2 : Part P f.type ys f.offset v2) (e : EqV P d f.type v1 v2 r) (k : EqF P d xs ys fs s) : EqF P d xs ys (f :: fs) (r && s)

theorem EqV.agg {T : TypeId} {fs : List Field} {z : Value} {n b d : Nat} {xs ys : List Value} {r : Bool} [i : Ty P T (.struct fs.toArray) z n b] (hs : P.stoodInHeld T = false) (h : EqF P d xs ys fs r) : EqV P (d + 1) T (.agg xs.toArray) (.agg ys.toArray) r := ⟨fun n w => by
  have key : ∀ (fs : List Field) (r : Bool) (g : Field → Option Bool × PUnit → Sem (ForInStep (Option Bool × PUnit))), EqF P d xs ys fs r →
      (∀ f s, (f.name == "_") = false → (g f s) = (do if !(← Op.equalIn (n + d) f.type (← part f.type xs.toArray f.offset) (← part f.type ys.toArray f.offset)) then pure (.done (some false, ⟨⟩)) else pure (.yield (none, ⟨⟩)))) →
      (forIn fs ((none, ⟨⟩) : Option Bool × PUnit) g).run P w = .ok (if r then (none, ⟨⟩) else (some false, ⟨⟩)) w := by
    intro fs r g h hg
    induction h with
    | nil => simp
    | cons hn p1 p2 e _ ih =>
      rw [List.forIn_cons, hg _ _ hn]
      simp only [Sem.run_bind, p1.run, p2.run, Result.andThen_ok, e.run]
      rename_i rr ss _
      cases rr with
      | false => simp
      | true => simp; simpa using ih
  have hd : n + (d + 1) = (n + d) + 1 := rfl
  rw [hd]
  simp only [Op.equalIn, Sem.run_bind, i.run_und, Result.andThen_ok, run_program, hs, Bool.false_eq_true, if_false, List.forIn_toArray]
  rw [key fs r _ h (fun f s hn => by
    have hne : f.name ≠ "_" := by simpa using hn
    simp [hne])]
  cases r <;> simp⟩

section
variable {N : Nat} {E : Env} {L : List HP} {d : Option Nat} {ty : TypeId} {pos : String} {af : Array Edge} {g : Option (Nat × Bool)} {x y : Operand} {T T' : TypeId} {xs ys : List Value} {r : Bool}
theorem run_eqGuard (op : BinOp) (w : World) (hg : P.eqGuardType P.depth T = false) : (eqGuard op T x y (.agg xs.toArray) (.agg ys.toArray)).run P w = .ok () w := by
  cases op <;> simp [eqGuard, hg]
theorem p_eqa (h1 : ev E x = some (.agg xs.toArray) := by rfl) (h2 : ev E y = some (.agg ys.toArray) := by rfl) (e : EqV P 6 T (.agg xs.toArray) (.agg ys.toArray) r := by ((repeat (first | (first | exact EqV.int | exact EqV.str | exact EqV.bool) | (with_reducible exact EqF.nil) | ((with_reducible apply EqF.cons); (focus rfl); (focus (first | (apply Part.one; (focus rfl); (focus rfl)) | (apply Part.agg; (focus rfl); (focus ((repeat (first | with_reducible exact Tk.zero | (apply Tk.succ; focus rfl))); done))))); (focus (first | (apply Part.one; (focus rfl); (focus rfl)) | (apply Part.agg; (focus rfl); (focus ((repeat (first | with_reducible exact Tk.zero | (apply Tk.succ; focus rfl))); done)))))) | ((with_reducible apply EqV.agg); (focus kernel_rfl)))); done)) (hg : P.eqGuardType P.depth T = false := by kernel_rfl) :
    Pu P ⟨d, .binOp .eql T x y T', ty, pos, af, g⟩ N E L (.bool r) := ⟨fun a w f _ => by
  have := e.run 9994 w
  simp [execOp, f.eval h1, f.eval h2, run_eqGuard _ w hg, binOp, Op.equal, Op.maxDepth, this]⟩
theorem p_nea (h1 : ev E x = some (.agg xs.toArray) := by rfl) (h2 : ev E y = some (.agg ys.toArray) := by rfl) (e : EqV P 6 T (.agg xs.toArray) (.agg ys.toArray) r := by ((repeat (first | (first | exact EqV.int | exact EqV.str | exact EqV.bool) | (with_reducible exact EqF.nil) | ((with_reducible apply EqF.cons); (focus rfl); (focus (first | (apply Part.one; (focus rfl); (focus rfl)) | (apply Part.agg; (focus rfl); (focus ((repeat (first | with_reducible exact Tk.zero | (apply Tk.succ; focus rfl))); done))))); (focus (first | (apply Part.one; (focus rfl); (focus rfl)) | (apply Part.agg; (focus rfl); (focus ((repeat (first | with_reducible exact Tk.zero | (apply Tk.succ; focus rfl))); done)))))) | ((with_reducible apply EqV.agg); (focus kernel_rfl)))); done)) (hg : P.eqGuardType P.depth T = false := by kernel_rfl) :
    Pu P ⟨d, .binOp .neq T x y T', ty, pos, af, g⟩ N E L (.bool (!r)) := ⟨fun a w f _ => by
  have := e.run 9994 w
  simp [execOp, f.eval h1, f.eval h2, run_eqGuard _ w hg, binOp, Op.equal, Op.maxDepth, this]⟩
end
end

/-! ### keys that are structs of a number and a text -/
theorem run_findAsking {P : Program} {T : TypeId} {κ : Type} {ek : κ → Value} (inj : ∀ {a b}, ek a = ek b → a = b) (eqr : ∀ a b : κ, ∃ r : Bool, (r = true ↔ a = b) ∧ ∀ w, (Op.equal T (ek a) (ek b)).run P w = .ok r w) (w : World) (x : κ) :
    ∀ (es : List MapEntry) (i : Nat), (∀ e ∈ es, ∃ y, e.key = ek y) → ((Instr.findAsking T (ek x) es i).run P w = .ok none w ∧ ∀ e ∈ es, e.key ≠ ek x) ∨ ∃ j e, (Instr.findAsking T (ek x) es i).run P w = .ok (some (i + j, e.val)) w ∧ es[j]? = some e ∧ e.key = ek x
  | [], i, _ => .inl ⟨by simp [Instr.findAsking], by simp⟩
  | e :: es, i, h => by
    obtain ⟨y, hy⟩ := h e (by simp)
    obtain ⟨r, hr, hw⟩ := eqr x y
    have hw := hw w
    rw [← hy] at hw
    cases r with
    | true =>
      refine .inr ⟨0, e, ?_, by simp, ?_⟩
      · simp [Instr.findAsking, hw]
      · rw [hy, hr.1 rfl]
    | false =>
      have hne : e.key ≠ ek x := fun e1 => by
        rw [hy] at e1
        have := hr.2 (inj e1).symm
        cases this
      rcases run_findAsking inj eqr w x es (i + 1) (fun e he => h e (by simp [he])) with ⟨h1, h2⟩ | ⟨j, e', h1, h2, h3⟩
      · refine .inl ⟨by simpa [Instr.findAsking, hw] using h1, ?_⟩
        intro a ha
        rcases List.mem_cons.1 ha with rfl | ha
        · exact hne
        · exact h2 a ha
      · refine .inr ⟨j + 1, e', ?_, by simpa using h2, h3⟩
        have : i + (j + 1) = i + 1 + j := by omega
        rw [this]
        simpa [Instr.findAsking, hw] using h1

/-- A key of a number and a text. -/
abbrev SK := Int × ByteArray
def skl (k : SK) : List Value := [.int .u16 k.1, .string k.2]
def skv (k : SK) : Value := .agg (skl k).toArray
theorem skv_inj {a b : SK} (h : skv a = skv b) : a = b := by
  obtain ⟨a1, a2⟩ := a
  obtain ⟨b1, b2⟩ := b
  simp [skv, skl] at h
  simp [h]

theorem sk_law {P : Program} {T : TypeId} {f1 f2 : Field} {z z1 z2 : Value} {n b b1 b2 : Nat} (it : Ty P T (.struct #[f1, f2]) z n b) (i1 : Ty P f1.type (.int .u16) z1 1 b1) (i2 : Ty P f2.type .string z2 1 b2)
    (n1 : (f1.name == "_") = false) (n2 : (f2.name == "_") = false) (o1 : f1.offset = 0) (o2 : f2.offset = 1) (hs : P.stoodInHeld T = false) : KLaw P T skv where
  inj := skv_inj
  check := fun w em x => by
    have m1 : f1.name ≠ "_" := by simpa using n1
    have m2 : f2.name ≠ "_" := by simpa using n2
    have key : ∀ n, (Instr.checkKey em (n + 2) T (skv x)).run P w = .ok () w := fun n => by
      simp [skv, skl, Instr.checkKey, it.run_und, i1.run_und, i2.run_und, part, i1.run_agg, i2.run_agg, aggD, o1, o2, m1, m2]
    exact key 9998
  find := fun w x es hes => by
    have hk : (Instr.findKey T (skv x) es).run P w = (Instr.findAsking T (skv x) es).run P w := run_findKey_eq w (by rw [it.und]) _ _
    have eqr : ∀ a b : SK, ∃ r : Bool, (r = true ↔ a = b) ∧ ∀ w, (Op.equal T (skv a) (skv b)).run P w = .ok r w := fun a b => by
      have it' : Ty P T (.struct [f1, f2].toArray) z n _ := it
      have e : EqV P 2 T (skv a) (skv b) (decide (a.1 = b.1) && (decide (a.2 = b.2) && true)) :=
        EqV.agg (hs := hs) (EqF.cons n1 (Part.one (i := i1) rfl (by rw [o1]; rfl)) (Part.one (i := i1) rfl (by rw [o1]; rfl)) (EqV.int (i := i1)) (EqF.cons n2 (Part.one (i := i2) rfl (by rw [o2]; rfl)) (Part.one (i := i2) rfl (by rw [o2]; rfl)) (EqV.str (i := i2)) EqF.nil))
      refine ⟨_, ?_, fun w => e.run 9998 w⟩
      obtain ⟨a1, a2⟩ := a
      obtain ⟨b1, b2⟩ := b
      simp
    rcases run_findAsking skv_inj eqr w x es 0 hes with h | ⟨j, e, h1, h2, h3⟩
    · exact .inl (by rw [hk]; exact h)
    · exact .inr ⟨j, e, by rw [hk]; simpa using h1, h2, h3⟩
  stays := fun w x => by
    simp [skv, skl, Instr.keyThatStays, Instr.sameBits, beq_dec]

/-! ### maps as what is owned -/
section
variable {κ ν : Type}
/-- Block m is a map that holds kv. -/
structure mp (m : Nat) (ek : κ → Value) (ev : ν → Value) (kv : List (κ × ν)) (h : PH) : Prop where
  is : ∃ es clock, h m = some (.map es clock) ∧ es.toList.map (fun e => (e.key, e.val)) = kv.map (fun p => (ek p.1, ev p.2)) ∧ (kv.map Prod.fst).Nodup ∧
    (es.toList.map (·.born)).Pairwise (· < ·) ∧ ∀ e ∈ es.toList, e.born < clock

variable {P : Program} {w0 w w' : World} {m : Nat} {ek : κ → Value} {ev : ν → Value} {kv kv' : List (κ × ν)} {L R : List HP}
theorem mp_mono {h h' : PH} (hh : ∀ k o, h k = some o → h' k = some o) (r : mp m ek ev kv h) : mp m ek ev kv h' := by
  obtain ⟨es, clock, hb, rest⟩ := r
  exact ⟨es, clock, hh _ _ hb, rest⟩
theorem Sat.isMap (h : Sat (hp w) (mp m ek ev kv :: L)) : IsMap w m ek ev kv := (h.head mp_mono).is

theorem Sy.map_set (h : Sy w0 (mp m ek ev kv :: L) w) (hm : IsMap w' m ek ev kv') (hf : Fr (fun x => x = m) w w') (dr : w.drawn ≤ w'.drawn) : Sy w0 (mp m ek ev kv' :: L) w' := by
  refine ⟨h.1.trans ⟨hf.os, hf.tape, hf.output, hf.size, dr⟩, ?_⟩
  refine h.2.reframe fun S ha => ?_
  obtain ⟨es, clock, hb, _⟩ := ha
  have hS := (on_some hb).1
  refine ⟨S, ?_, ?_⟩
  · obtain ⟨es', clock', hb', rest⟩ := hm
    exact ⟨es', clock', by rw [on_pos hS]; exact hb', rest⟩
  · intro k o hk hko
    refine ⟨hk, ?_⟩
    have hlt : k < w.heap.size := (Array.getElem?_eq_some_iff.1 hko).1
    exact (hf.keep k hlt (fun e => hk (e ▸ hS))).trans hko

variable {Q : Exit → Act → World → Prop} {K : Act → World → Prop} {N t : Nat} {E : Env} {d : Option Nat} {ty : TypeId} {pos : String} {af : Array Edge} {g : Option (Nat × Bool)} {x y c : Operand} {u : Value} {mt kt et T' : TypeId} {z0 z : Value} {n0 b0 n b : Nat} {dt : TypeDesc} {k : κ} {v : ν}

/-- The law of a map's keys, where it can be found. -/
class KOk (P : Program) (T : TypeId) (κ : outParam Type) (ek : outParam (κ → Value)) : Prop where
  law : KLaw P T ek

theorem p_look1 [DecidableEq κ] [im : Ty P mt (.map kt et) z0 n0 b0] [ie : Ty P et dt z n b] [K : KOk P kt κ ek] (h1 : Sl.ev E x = some (.map (some m)) := by rfl) (h2 : Sl.ev E y = some (ek k) := by rfl) (s : Sel L (mp m ek ev kv) R := by ((repeat (first | exact Sel.here | apply Sel.there)); done)) (hg : kget kv k = some v := by assumption) :
    Pu P ⟨d, .lookup mt x y false, ty, pos, af, g⟩ N E L (ev v) := ⟨fun a w f hs => by
  have := (s.sat hs).isMap.lookup K.law im.und (ie.run_zero w) k false
  simp [execOp, f.eval h1, f.eval h2, this, hg]⟩
theorem p_look0 [DecidableEq κ] [im : Ty P mt (.map kt et) z0 n0 b0] [ie : Ty P et dt z n b] [K : KOk P kt κ ek] (h1 : Sl.ev E x = some (.map (some m)) := by rfl) (h2 : Sl.ev E y = some (ek k) := by rfl) (s : Sel L (mp m ek ev kv) R := by ((repeat (first | exact Sel.here | apply Sel.there)); done)) (hg : kget kv k = none := by assumption) :
    Pu P ⟨d, .lookup mt x y false, ty, pos, af, g⟩ N E L z := ⟨fun a w f hs => by
  have := (s.sat hs).isMap.lookup K.law im.und (ie.run_zero w) k false
  simp [execOp, f.eval h1, f.eval h2, this, hg]⟩
theorem p_lookt [DecidableEq κ] [im : Ty P mt (.map kt et) z0 n0 b0] [ie : Ty P et dt z n b] [K : KOk P kt κ ek] (h1 : Sl.ev E x = some (.map (some m)) := by rfl) (h2 : Sl.ev E y = some (ek k) := by rfl) (s : Sel L (mp m ek ev kv) R := by ((repeat (first | exact Sel.here | apply Sel.there)); done)) (hg : kget kv k = some v := by assumption) :
    Pu P ⟨d, .lookup mt x y true, ty, pos, af, g⟩ N E L (.tuple [ev v, .bool true].toArray) := ⟨fun a w f hs => by
  have := (s.sat hs).isMap.lookup K.law im.und (ie.run_zero w) k true
  simp [execOp, f.eval h1, f.eval h2, this, hg]⟩
theorem p_lookf [DecidableEq κ] [im : Ty P mt (.map kt et) z0 n0 b0] [ie : Ty P et dt z n b] [K : KOk P kt κ ek] (h1 : Sl.ev E x = some (.map (some m)) := by rfl) (h2 : Sl.ev E y = some (ek k) := by rfl) (s : Sel L (mp m ek ev kv) R := by ((repeat (first | exact Sel.here | apply Sel.there)); done)) (hg : kget kv k = none := by assumption) :
    Pu P ⟨d, .lookup mt x y true, ty, pos, af, g⟩ N E L (.tuple [z, .bool false].toArray) := ⟨fun a w f hs => by
  have := (s.sat hs).isMap.lookup K.law im.und (ie.run_zero w) k true
  simp [execOp, f.eval h1, f.eval h2, this, hg]⟩
theorem p_lenm [im : Ty P mt (.map kt et) z0 n0 b0] (h1 : Sl.ev E x = some (.map (some m)) := by rfl) (s : Sel L (mp m ek ev kv) R := by ((repeat (first | exact Sel.here | apply Sel.there)); done)) :
    Pu P ⟨d, .call ⟨.builtin .len, #[x], #[mt]⟩, ty, pos, af, g⟩ N E L (.int .i64 kv.length) := ⟨fun a w f hs => by
  have := (s.sat hs).isMap.len im.und ty
  simp [execOp, resolve, invoke, builtin, f.eval h1, this]⟩

theorem kq_drawm (id : Nat) {l : List Oper} (n m : Nat) {ek : κ → Value} {ev : ν → Value} {kv : List (κ × ν)} {R : List HP}
    (h : KQ (HK P l.toArray Q R n (Array.replicate n false)) w0 N E L) (s : Sel L (mp m ek ev kv) R := by ((repeat (first | exact Sel.here | apply Sel.there)); done))
    (hn : l.length = n := by rfl) (hm : P.follows .mixedOrders = true := by kernel_rfl) : KQ ((Code.region id l.toArray true).wp P Q) w0 N E L := kq_draw id R n h hn hm

theorem w_mm (h : ∀ q, KQ K w0 N ((t, .map (some q)) :: E) (mp q ek ev [] :: L)) (hd : Nat.blt t N = true := by rfl) : WX P Q ⟨some t, .makeMap mt none, ty, pos, af, g⟩ K w0 N E L := ⟨fun a w f s => by
  unfold Oper.wp
  simp [execOp, Instr.makeMap]
  refine (h w.heap.size).run _ _ (f.put (d := some t) hd _) ?_
  have := s.alloc (.map #[] 0)
  refine this.ent fun h' hs => ?_
  obtain ⟨S, ⟨ha⟩, hl⟩ := hs
  exact ⟨S, ⟨#[], 0, ha, rfl, List.nodup_nil, List.Pairwise.nil, by simp⟩, hl⟩⟩
theorem w_mu [DecidableEq κ] [im : Ty P mt (.map kt et) z0 n0 b0] [KO : KOk P kt κ ek] (h : KQ K w0 N E (mp m ek ev (kput kv k v) :: R)) (h1 : Sl.ev E x = some (.map (some m)) := by rfl) (s : Sel L (mp m ek ev kv) R := by ((repeat (first | exact Sel.here | apply Sel.there)); done)) (h2 : Sl.ev E y = some (ek k) := by rfl) (h3 : Sl.ev E c = some (ev v) := by rfl) :
    WX P Q ⟨none, .mapUpdate mt x y c, ty, pos, af, g⟩ K w0 N E L := ⟨fun a w f sy => by
  have sy' := sy.ent fun _ q => s.sat q
  obtain ⟨w', hr, hm, hf⟩ := sy'.2.isMap.update KO.law im.und k v
  unfold Oper.wp
  simp [execOp, f.eval h1, f.eval h2, f.eval h3, hr]
  exact h.run _ _ f (sy'.map_set hm hf (run_drawn _ hr))⟩
theorem w_md [DecidableEq κ] [im : Ty P mt (.map kt et) z0 n0 b0] [KO : KOk P kt κ ek] (h : KQ K w0 N E (mp m ek ev (kdel kv k) :: R)) (h1 : Sl.ev E x = some (.map (some m)) := by rfl) (h2 : Sl.ev E y = some (ek k) := by rfl) (s : Sel L (mp m ek ev kv) R := by ((repeat (first | exact Sel.here | apply Sel.there)); done)) :
    WX P Q ⟨none, .call ⟨.builtin .delete, #[x, y], #[mt, T']⟩, ty, pos, af, g⟩ K w0 N E L := ⟨fun a w f sy => by
  have sy' := sy.ent fun _ q => s.sat q
  obtain ⟨w', hr, hm, hf⟩ := sy'.2.isMap.delete KO.law im.und k ty T'
  unfold Oper.wp
  simp [execOp, resolve, invoke, builtin, f.eval h1, f.eval h2, hr]
  exact h.run _ _ f (sy'.map_set hm hf (run_drawn _ hr))⟩
end
end Sl
