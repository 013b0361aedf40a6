/-
  Proved: four rows of bytes in blocks of their own do not reach into one another, and what becomes of a law's other blocks while that is asked. No condition.
-/
import Derived.Test.YtedbmpfjikaljaaApartb
namespace Go.Proofs.Ytedbmpfjikaljaa
open Go.RowKit
set_option linter.unusedVariables false
set_option linter.unusedSimpArgs false
set_option linter.unusedSectionVars false
set_option maxRecDepth 100000

/-- Two rows lie in no one block. -/
def Off (A B : Option Addr) : Prop := ∀ g, RB A g → RB B g → False
def four (y0 y1 y2 y3 : List Int) : Nat → List Int
  | 0 => y0
  | 1 => y1
  | 2 => y2
  | _ => y3
theorem apart4_ (w : World) {A0 A1 A2 A3 : Option Addr} {n0 n1 n2 n3 c0 c1 c2 c3 b : Nat} {y0 y1 y2 y3 : List Int} (f0 : Full w A0 n0 c0 y0) (f1 : Full w A1 n1 c1 y1) (f2 : Full w A2 n2 c2 y2) (f3 : Full w A3 n3 c3 y3)
    (d01 : Off A0 A1) (d02 : Off A0 A2) (d03 : Off A0 A3) (d12 : Off A1 A2) (d13 : Off A1 A3) (d23 : Off A2 A3)
    (hb : w.heap[b]? = some (.cells #[.slice A0 n0 c0, .slice A1 n1 c1, .slice A2 n2 c2, .slice A3 n3 c3] 22)) (h0 : ¬ RB A0 b) (h1 : ¬ RB A1 b) (h2 : ¬ RB A2 b) (h3 : ¬ RB A3 b) :
    Calls Try.prog 29 #[.slice (some ⟨b, 0, none⟩) 4 4] w fun e w' => e = .returned (.bool true) ∧ Upd (fun g => RB A0 g ∨ RB A1 g ∨ RB A2 g ∨ RB A3 g) w w' := by
  refine (apartRows_ w (R := [(A0, n0, c0), (A1, n1, c1), (A2, n2, c2), (A3, n3, c3)]) (b := b) (m := 4) rfl ⟨by simp, ?_, ?_⟩ (Y := four y0 y1 y2 y3) ⟨hb, ?_⟩).mono fun e w' ⟨he, hu⟩ => ⟨he, hu.mono ?_⟩
  · intro k l r s g hr hs ha hb
    match k, l, hr, hs with
    | 0, 0, _, _ => rfl
    | 1, 1, _, _ => rfl
    | 2, 2, _, _ => rfl
    | 3, 3, _, _ => rfl
    | 0, 1, hr, hs => simp at hr hs; subst hr hs; exact (d01 g ha hb).elim
    | 0, 2, hr, hs => simp at hr hs; subst hr hs; exact (d02 g ha hb).elim
    | 0, 3, hr, hs => simp at hr hs; subst hr hs; exact (d03 g ha hb).elim
    | 1, 0, hr, hs => simp at hr hs; subst hr hs; exact (d01 g hb ha).elim
    | 1, 2, hr, hs => simp at hr hs; subst hr hs; exact (d12 g ha hb).elim
    | 1, 3, hr, hs => simp at hr hs; subst hr hs; exact (d13 g ha hb).elim
    | 2, 0, hr, hs => simp at hr hs; subst hr hs; exact (d02 g hb ha).elim
    | 2, 1, hr, hs => simp at hr hs; subst hr hs; exact (d12 g hb ha).elim
    | 2, 3, hr, hs => simp at hr hs; subst hr hs; exact (d23 g ha hb).elim
    | 3, 0, hr, hs => simp at hr hs; subst hr hs; exact (d03 g hb ha).elim
    | 3, 1, hr, hs => simp at hr hs; subst hr hs; exact (d13 g hb ha).elim
    | 3, 2, hr, hs => simp at hr hs; subst hr hs; exact (d23 g hb ha).elim
    | k + 4, _, hr, _ => simp at hr
    | _, l + 4, _, hs => simp at hs
  · rintro ⟨r, hr, hb⟩
    simp at hr
    rcases hr with rfl | rfl | rfl | rfl
    · exact h0 hb
    · exact h1 hb
    · exact h2 hb
    · exact h3 hb
  · intro k r hr
    match k, hr with
    | 0, hr => simp at hr; subst hr; exact f0
    | 1, hr => simp at hr; subst hr; exact f1
    | 2, hr => simp at hr; subst hr; exact f2
    | 3, hr => simp at hr; subst hr; exact f3
    | k + 4, hr => simp at hr
  · rintro g ⟨r, hr, hb⟩
    simp at hr
    rcases hr with rfl | rfl | rfl | rfl
    · exact .inl hb
    · exact .inr (.inl hb)
    · exact .inr (.inr (.inl hb))
    · exact .inr (.inr (.inr hb))
theorem rb_some {g i : Nat} (h : RB (some ⟨g, 0, none⟩) i) : i = g := by
  injection h with h
  injection h with h _ _
  exact h.symm
/-- What is turned within rows leaves the other blocks. -/
theorem Hold.turn {w V V' : World} {K : List (Nat × Obj)} (h : Hold w K V) {S : Nat → Prop} (u : Upd S V V') (hS : ∀ i, S i → w.heap.size ≤ i) (hK : ∀ p ∈ K, ¬ S p.1) : Hold w K V' :=
  ⟨fun p hp => u.heap (h.keep p hp) (hK p hp), h.low.trans (u.below h.low.size hS)⟩
end Go.Proofs.Ytedbmpfjikaljaa
