/- DERIVED. What is owned: arguments that are read; a law's walk for its row. No translation is named here. -/
import Derived.Test.YteafcajlfagbkaaVg
import Derived.Test.YteafcajlfagbkaaCvRd
namespace Sl
set_option linter.unusedSimpArgs false
set_option linter.unusedVariables false
open Go Go.RowKit Cv

theorem old_sy (W : World) : Sy W [old W] W := ⟨Std.refl W, fun _ => True, by rw [on_all]; · exact fun k o h => h
                                                                              · exact fun _ _ _ => trivial, trivial⟩

theorem below_of_old {W w : World} {L : List HP} (h : Sy W (old W :: L) w) : Below W.heap.size W w :=
  ⟨h.1.os, h.1.tape, h.1.output, h.1.size, fun k hk => by
    have h1 := h.2.head old_mono
    have := h1 k W.heap[k] (Array.getElem?_eq_getElem hk)
    rw [Array.getElem?_eq_getElem hk]; exact this⟩

theorem walk_of_sp {P : Program} {f : FuncId} {args : List Value} {W : World} (h : Sp P f args [old W] fun r L => r = .bool true ∧ L = [old W]) :
    Calls P f args.toArray W fun e w' => e = .returned (.bool true) ∧ Below W.heap.size W w' :=
  (h.run W W (old_sy W)).mono fun _ _ ⟨_, _, he, ⟨hr, hL⟩, hs⟩ => by
    subst hr; subst hL
    exact ⟨he, below_of_old hs⟩

section
variable {α : Type} {rel : World → List Value → α → Prop} {enc : α → List Value} {sz : Nat} {W : World} {L R : List HP} {ao : Option Addr} {cap : Nat} {l : List α}

theorem Reads.of_row (s : Sel L (old W) R) (h : AtRow rel sz W ao l) (he : ∀ ces a, rel W ces a → ces = enc a) (hl : ∀ a, (enc a).length = sz) (hpos : 0 < sz) : Reads L (.slice ao l.length cap) l.length (flat enc l) := by
  refine ⟨ao, cap, rfl, fun w hw j u hj => ?_⟩
  have hlen := length_flat hl l
  have hjl := (List.getElem?_eq_some_iff.1 hj).1
  rw [hlen] at hjl
  have hne : 0 < l.length := by
    rcases Nat.eq_zero_or_pos l.length with e | e
    · rw [e] at hjl; omega
    · exact e
  obtain ⟨b, o, rfl, hc⟩ := atRow_addr h (fun ces a hr => by rw [he ces a hr, hl]) hpos hne
  have hi : j / sz < l.length := Nat.div_lt_of_lt_mul (by rw [Nat.mul_comm]; exact hjl)
  obtain ⟨ces, h1, h2⟩ := hc (j / sz) hi
  have e1 : j / sz * sz + j % sz = j := by rw [Nat.mul_comm]; exact Nat.div_add_mod j sz
  have h3 := flat_get hl l (j / sz) (j % sz) (Nat.mod_lt _ hpos) hi
  rw [e1, hj, ← he ces _ h2] at h3
  have h4 := h1 (j % sz) u h3.symm
  rw [e1] at h4
  refine ⟨?_, rfl, rfl⟩
  rw [at_some]
  exact Rd.old s h4 w hw

theorem tk_flat (hl : ∀ a, (enc a).length = sz) (i : Nat) (hi : i < l.length) : Tk (flat enc l) (i * sz) sz (enc l[i]) := by
  have key : ∀ (m j : Nat) (vs : List Value), j + m = sz → vs = (enc l[i]).drop j → Tk (flat enc l) (i * sz + j) m vs := by
    intro m
    induction m with
    | zero =>
      intro j vs hj hv
      subst hv
      rw [List.drop_eq_nil_of_le (by rw [hl]; omega)]
      exact .zero
    | succ m ih =>
      intro j vs hj hv
      have hjs : j < (enc l[i]).length := by rw [hl]; omega
      rw [List.drop_eq_getElem_cons hjs] at hv
      subst hv
      refine .succ ?_ (ih (j + 1) _ (by omega) rfl)
      rw [flat_get hl l i j (by rw [hl] at hjs; exact hjs) hi]
      simp
  have := key sz 0 (enc l[i]) (by omega) (by simp)
  simpa using this

end
end Sl
