/- DERIVED. The walk over what is owned: the statement that ranges over a function. No translation is named here. -/
import Derived.Test.YtlhjioapbgnjfaaVr
namespace Sl
set_option linter.unusedSimpArgs false
set_option linter.unusedVariables false
open Go Go.RowKit Cv
section
variable {P : Program} {N : Nat} {Q : Exit → Act → World → Prop} {w0 : World} {E : Env} {L : List HP}

theorem kr_range {α : Type} {g : Operand} {p : Nat} {assign body : Code} {gf : FuncId} {lb : List Value} [hf : FnOk P gf] (xs : List α) (enc : α → Value) (I : Nat → List HP) (Ix L0 : List HP)
    (hIt : ∀ (l : Nat) (J : Nat → List HP) (Jx : List HP), (∀ (i : Nat) (h : i < xs.length) (G : List HP), YSp P l [enc xs[i]] (pk (J i) :: G) fun r M => (r = .bool true ∧ M = pk (J (i + 1)) :: G) ∨ (r = .bool false ∧ M = pk Jx :: G)) →
      Sp P gf (.func (.yield l) #[] #[] :: lb) (pk (J 0) :: L0) fun _ M => M = pk (J xs.length) :: L0 ∨ M = pk Jx :: L0)
    (hL : Ent L (I 0 ++ L0))
    (hround : ∀ (i : Nat) (h : i < xs.length) (w0 : World) (A B C : HP) (G : List HP) (l : Nat) (KB : Act → World → Prop) (KR : Exit → Act → World → Prop),
      (∀ E' L' L1, Sel L' A L1 → KQ (mk [] (body.wpIn (Fence.wide.inRound l) 0 P KR)) w0 N E' (B :: L1) → KQ (mk [] KB) w0 N E' L') →
      (∀ E' L', Ent L' (B :: C :: (I (i + 1) ++ G)) → KQ (mk [] (KR .normal)) w0 N E' L') →
      (∀ E' L', Ent L' (B :: C :: (Ix ++ G)) → KQ (mk [] (KR .ret)) w0 N E' L') →
      KQ (mk [] (assign.wpIn (Fence.wide.inRound l) 0 P (Exit.then KB fun _ _ _ => False))) w0 N ((p, enc xs[i]) :: E) (A :: C :: (I i ++ G)))
    (hdone : ∀ D, KQ (mk [mark D] (Q .normal)) w0 N E (blk D (.deferred (some [])) :: (I xs.length ++ L0)))
    (hret : ∀ D, KQ (mk [mark D] (Q .ret)) w0 N E (blk D (.deferred (some [])) :: (Ix ++ L0)))
    (hg : ev E g = some (.func (.func gf) #[] lb.toArray) := by rfl) (hp : Nat.blt p N = true := by rfl) :
    KQ ((Code.rangeFunc g #[p] assign body).wp P Q) w0 N E L := by
  refine ⟨fun a w f s => (wpIn_wide (n := 0)).1 (wpIn_rangeFunc fun fn hfn => ?_)⟩
  obtain ⟨rec, hrec⟩ : ∃ rec : LoopState → Option Code → Loop, rec = fun st pe => { state := st, pending := pe, fn, tmps := a.tmps, params := #[p], assign, body, defers := w.heap.size } := ⟨_, rfl⟩
  obtain ⟨D, hD⟩ : ∃ D, D = w.heap.size := ⟨_, rfl⟩
  obtain ⟨W1, hW1⟩ : ∃ W1, (w.alloc (.deferred (some []))).alloc (.loop (rec .ready none)) = W1 := ⟨_, rfl⟩
  have hs1 : Sy w0 (blk (D + 1) (.loop (rec .ready none)) :: blk D (.deferred (some [])) :: L) W1 := by
    have := (s.alloc (.deferred (some []))).alloc (.loop (rec .ready none))
    rw [World.size_alloc, ← hD, hW1] at this
    exact this
  obtain ⟨fnn, h1, h2, h3⟩ := hf.ok
  have h2' : ¬ fnn.name = "runtime.NumGoroutine" := by simpa using h2
  have h3' : ¬ fnn.body = none := fun e => by simp [e] at h3
  have hact : ({ a with defers := [mark D] ++ a.defers } : Act) = dfr a [mark D] := by unfold dfr; rw [f.defers]; rfl
  refine ⟨D + 1, [mark D], W1, { target := .fn (.func gf) lb.toArray, args := #[.func (.yield (D + 1)) #[] #[]] }, W1, gf, #[.func (.yield (D + 1)) #[] #[]] ++ lb.toArray, W1, ?_, ?_, fun _ _ => trivial, ?_, fun e => (by cases e), ?_⟩
  · rw [← hW1, hrec, hD]; exact run_enterLoop_outer _ _ _ _ _
  · have hge : a.eval g = .func (.func gf) #[] lb.toArray := f.eval hg
    simp only [resolve, hge]
    simp [Deferred.ofValue, Act.eval]
  · simp [invoke, callFunc, h1, h2', h3']
  · have hY : ∀ (i : Nat) (h : i < xs.length) (G : List HP), YSp P (D + 1) [enc xs[i]] (pk (blk (D + 1) (.loop (rec .ready none)) :: blk D (.deferred (some [])) :: I i) :: G) fun r M =>
        (r = .bool true ∧ M = pk (blk (D + 1) (.loop (rec .ready none)) :: blk D (.deferred (some [])) :: I (i + 1)) :: G) ∨ (r = .bool false ∧ M = pk (blk (D + 1) (.loop (rec .done (some .ret))) :: blk D (.deferred (some [])) :: Ix) :: G) := by
      intro i h G
      refine ⟨fun w0' w' s' => ?_⟩
      have s2 : Sy w0' (blk (D + 1) (.loop (rec .ready none)) :: blk D (.deferred (some [])) :: (I i ++ G)) w' := s'.ent Ent.flat
      have hl := s2.get
      refine ⟨fn, a.tmps.setIfInBounds p (enc xs[i]), assign, body, ?_, roundIn_of_wpIn (F := Fence.wide) trivial ?_⟩
      · have := run_yield (P := P) (args := #[enc xs[i]]) hl (by rw [hrec]; rfl)
        rw [hrec] at this
        simpa using this
      · have hfit : Fit N ((p, enc xs[i]) :: E) { tmps := a.tmps.setIfInBounds p (enc xs[i]), defers := [] } := by
          have := f.put (d := some p) hp (enc xs[i])
          have e : a.put (some p) (enc xs[i]) = { tmps := a.tmps.setIfInBounds p (enc xs[i]), defers := [] } := by simp only [Act.put]; rw [f.defers]
          rw [e] at this
          exact this
        have key : ∀ RR : Ending → World → Prop, (∀ w2, Sy w0' (pk (blk (D + 1) (.loop (rec .ready none)) :: blk D (.deferred (some [])) :: I (i + 1)) :: G) w2 → RR (.returned (.bool true)) w2) → (∀ w2, Sy w0' (pk (blk (D + 1) (.loop (rec .done (some .ret))) :: blk D (.deferred (some [])) :: Ix) :: G) w2 → RR (.returned (.bool false)) w2) →
            assign.wpIn (Fence.wide.inRound (D + 1)) 0 P (Exit.then (fun a₁ w₁ => ∃ w₂, (Instr.beginRound (D + 1)).run P w₁ = .ok () w₂ ∧ body.wpIn (Fence.wide.inRound (D + 1)) 0 P (roundPost P (D + 1) RR) a₁ w₂) (fun _ _ _ => False)) { tmps := a.tmps.setIfInBounds p (enc xs[i]), defers := [] } w' := by
          intro RR hT hN
          refine ((hround i h w0' (blk (D + 1) (.loop (rec .ready none))) (blk (D + 1) (.loop (rec .busy none))) (blk D (.deferred (some []))) G (D + 1) _ (roundPost P (D + 1) RR) ?_ ?_ ?_).run _ w' hfit s2).2
          · intro E' L' L1 hsel hk
            refine ⟨fun a1 w1 f1 y1 => ⟨f1.defers, ?_⟩⟩
            have y2 := y1.ent fun _ q => hsel.sat q
            have hb := run_beginRound (P := P) y2.get (by rw [hrec])
            have y3 := y2.putObj (o' := .loop { rec .ready none with state := .busy })
            have e : (.loop { rec .ready none with state := .busy } : Obj) = .loop (rec .busy none) := by rw [hrec]
            rw [e] at hb y3
            exact ⟨_, hb, (hk.run a1 _ f1 y3).2⟩
          · intro E' L' hE
            refine ⟨fun a1 w1 f1 y1 => ⟨f1.defers, ?_⟩⟩
            have y2 := y1.ent hE
            have hb := run_endRound (P := P) none y2.get
            have e : (.loop { rec .busy none with state := if (none : Option Code).isNone = true then .ready else .done, pending := none } : Obj) = .loop (rec .ready none) := by rw [hrec]; rfl
            rw [e] at hb
            exact ⟨_, _, hb, hT _ ((y2.putObj (o' := .loop (rec .ready none))).ent (Ent.fold (M := blk (D + 1) (.loop (rec .ready none)) :: blk D (.deferred (some [])) :: I (i + 1))))⟩
          · intro E' L' hE
            refine ⟨fun a1 w1 f1 y1 => ⟨f1.defers, ?_⟩⟩
            have y2 := y1.ent hE
            have hb := run_endRound (P := P) (some .ret) y2.get
            have e : (.loop { rec .busy none with state := if (some Code.ret : Option Code).isNone = true then .ready else .done, pending := some .ret } : Obj) = .loop (rec .done (some .ret)) := by rw [hrec]; rfl
            rw [e] at hb
            exact ⟨_, _, hb, hN _ ((y2.putObj (o' := .loop (rec .done (some .ret)))).ent (Ent.fold (M := blk (D + 1) (.loop (rec .done (some .ret))) :: blk D (.deferred (some [])) :: Ix)))⟩
        exact key _ (fun w2 y => ⟨_, _, rfl, .inl ⟨rfl, rfl⟩, y⟩) (fun w2 y => ⟨_, _, rfl, .inr ⟨rfl, rfl⟩, y⟩)
    have hc := (hIt (D + 1) (fun i => blk (D + 1) (.loop (rec .ready none)) :: blk D (.deferred (some [])) :: I i) (blk (D + 1) (.loop (rec .done (some .ret))) :: blk D (.deferred (some [])) :: Ix) hY).run w0 W1 (hs1.ent ((Ent.tail (Ent.tail hL)).trans (Ent.fold (M := blk (D + 1) (.loop (rec .ready none)) :: blk D (.deferred (some [])) :: I 0))))
    have eargs : (#[.func (.yield (D + 1)) #[] #[]] ++ lb.toArray : Array Value) = (Value.func (.yield (D + 1)) #[] #[] :: lb).toArray := by simp
    rw [eargs]
    refine callsIn_wide.2 (hc.mono fun e w' ⟨r, L', he, hpost, hs'⟩ => ?_)
    subst he
    rcases hpost with rfl | rfl
    · have y2 : Sy w0 (blk (D + 1) (.loop (rec .ready none)) :: blk D (.deferred (some [])) :: (I xs.length ++ L0)) w' := hs'.ent Ent.flat
      have hend := run_endLoop (P := P) y2.get (by rw [hrec]; simp)
      have y3 := (y2.putObj (o' := .loop { rec .ready none with state := .exhausted })).ent Ent.drop'
      obtain ⟨W4, hW4⟩ : ∃ W4, W4 = w'.putObj (D + 1) (.loop { rec .ready none with state := .exhausted }) := ⟨_, rfl⟩
      rw [← hW4] at hend y3
      refine ⟨_, W4, hend, ?_⟩
      have e : (rec .ready none).pending = none := by rw [hrec]
      rw [e]
      show Q .normal _ _
      rw [hact]
      exact ((hdone D).run a _ f y3).2
    · have y2 : Sy w0 (blk (D + 1) (.loop (rec .done (some .ret))) :: blk D (.deferred (some [])) :: (Ix ++ L0)) w' := hs'.ent Ent.flat
      have hend := run_endLoop (P := P) y2.get (by rw [hrec]; simp)
      have y3 := (y2.putObj (o' := .loop { rec .done (some .ret) with state := .exhausted })).ent Ent.drop'
      obtain ⟨W4, hW4⟩ : ∃ W4, W4 = w'.putObj (D + 1) (.loop { rec .done (some .ret) with state := .exhausted }) := ⟨_, rfl⟩
      rw [← hW4] at hend y3
      refine ⟨_, W4, hend, ?_⟩
      have e : (rec .done (some .ret)).pending = some .ret := by rw [hrec]
      rw [e]
      show Code.ret.wpIn _ _ _ _ _ _
      refine wpIn_ret ?_
      rw [hact]
      exact ((hret D).run a _ f y3).2
end
/-! ### parts that are there with some x -/
structure exs {X : Type} (M : X → List HP) (h : PH) : Prop where
  out : ∃ x, Sat h (M x)
theorem ent_ex {X : Type} {M : X → List HP} (x : X) {R : List HP} : Ent (M x ++ R) (exs M :: R) := fun _ h => by
  obtain ⟨S, ha, hl⟩ := Sat.fold h
  exact ⟨S, ⟨x, ha⟩, hl⟩
theorem kq_ex {X : Type} {M : X → List HP} {K : Act → World → Prop} {w0 : World} {N : Nat} {E : Env} {L R : List HP} (s : Sel L (exs M) R) (h : ∀ x, KQ K w0 N E (M x ++ R)) : KQ K w0 N E L := ⟨fun a w f y => by
  obtain ⟨y1, S, ⟨x, hx⟩, hl⟩ := y.ent fun _ q => s.sat q
  exact (h x).run a w f ⟨y1, Sat.flat ⟨S, hx, hl⟩⟩⟩
structure nope (h : PH) : Prop where
  no : False
theorem kq_nope {K : Act → World → Prop} {w0 : World} {N : Nat} {E : Env} {L R : List HP} (s : Sel L nope R) : KQ K w0 N E L := ⟨fun a w f y => by
  obtain ⟨_, S, ⟨h⟩, _⟩ := y.ent fun _ q => s.sat q
  exact h.elim⟩
end Sl
