/-
  Proved: which of two timers comes first, as the Go method tells it. No condition.
-/
import Derived.Test.YtgfpeppaimhgiaaBase
namespace Go.Proofs.Ytgfpeppaimhgiaa
open Go.RowKit Go.Maps
set_option linter.unusedVariables false
set_option linter.unusedSimpArgs false

def aheadB (t1 : Int) (u1 : Nat) (t2 : Int) (u2 : Nat) : Bool := decide (t1 < t2 ∨ t1 = t2 ∧ u1 < u2)

theorem ahead_any (t1 t2 : Int) (u1 u2 : Nat) (w : World) :
    Calls Try.prog 38 #[.agg #[.int .i64 t1, .int .u64 u1], .agg #[.int .i64 t2, .int .u64 u2]] w fun e w' => e = .returned (.bool (aheadB t1 u1 t2 u2)) ∧ Below w.heap.size w w' := by
  have hu : (↑u1 < (↑u2 : Int)) = (u1 < u2) := by simp
  by_cases h1 : t1 < t2
  · have hd : decide (t1 < t2) = true := by simpa using h1
    have hb : aheadB t1 u1 t2 u2 = true := by simp [aheadB, h1]
    rw [hb]
    go_enter Try.func38, Try.ntmps38
    go_wp2
    go_ret
    refine ⟨rfl, ?_⟩
    exact (((Below.refl _ _).alloc (Nat.le_refl _) _).alloc (by simp) _)
  · have hd : decide (t1 < t2) = false := by simpa using h1
    by_cases h2 : t1 = t2
    · subst h2
      have hb : aheadB t1 u1 t1 u2 = decide ((u1 : Int) < u2) := by simp [aheadB]
      rw [hb]
      clear hb
      go_enter Try.func38, Try.ntmps38
      go_wp2
      go_ret
      refine ⟨rfl, ?_⟩
      exact (((Below.refl _ _).alloc (Nat.le_refl _) _).alloc (by simp) _)
    · have hb : aheadB t1 u1 t2 u2 = false := by simp [aheadB, h1, h2]
      have hd2 : (t1 == t2) = false := by simpa using h2
      rw [hb]
      clear hb
      go_enter Try.func38, Try.ntmps38
      go_wp2
      go_ret
      refine ⟨rfl, ?_⟩
      exact (((Below.refl _ _).alloc (Nat.le_refl _) _).alloc (by simp) _)

end Go.Proofs.Ytgfpeppaimhgiaa
