/-
  Proved: 'BodiesOnce' as a walk: whatever the argument reads as, the function answers true. No condition.
-/
import Derived.Test.YtedbmpfjikaljaaGot
namespace Go.Proofs.Ytedbmpfjikaljaa
open Go.RowKit
set_option linter.unusedVariables false
set_option linter.unusedSimpArgs false
set_option linter.unusedSectionVars false
set_option maxRecDepth 100000

def gotAny (k f : Int) (xs : List Int) : Bool := dataE k f xs || initE k f xs || sackE k f xs || fwdE k f xs || timeE k f xs || cumE k f xs
def isKnown (k : Int) : Bool := k == 0 || k == 1 || k == 2 || k == 3 || k == 4 || k == 5 || k == 7 || k == 192
theorem dataE_k {k f : Int} {xs : List Int} (h : dataE k f xs = true) : k = 0 := by unfold dataE at h; simp only [Bool.and_eq_true, beq_iff_eq] at h; omega
theorem initE_k {k f : Int} {xs : List Int} (h : initE k f xs = true) : k = 1 ∨ k = 2 := by unfold initE initMay at h; simp only [Bool.and_eq_true, Bool.or_eq_true, beq_iff_eq] at h; omega
theorem sackE_k {k f : Int} {xs : List Int} (h : sackE k f xs = true) : k = 3 := by unfold sackE at h; simp only [Bool.and_eq_true, beq_iff_eq] at h; omega
theorem fwdE_k {k f : Int} {xs : List Int} (h : fwdE k f xs = true) : k = 192 := by unfold fwdE at h; simp only [Bool.and_eq_true, beq_iff_eq] at h; omega
theorem timeE_k {k f : Int} {xs : List Int} (h : timeE k f xs = true) : k = 4 ∨ k = 5 := by unfold timeE at h; simp only [Bool.and_eq_true, Bool.or_eq_true, beq_iff_eq] at h; omega
theorem cumE_k {k f : Int} {xs : List Int} (h : cumE k f xs = true) : k = 7 := by unfold cumE at h; simp only [Bool.and_eq_true, beq_iff_eq] at h; omega

theorem got_ (w : World) {k f : Int} {A : Option Addr} {n c : Nat} {xs : List Int} (h : Rd .u8 w A n c xs) (hy : Byt xs) (hn : n ≤ 50000) {N : Int} (hN : (if gotAny k f xs = true then 1 else 0) = N) :
    Calls Try.prog 14 #[chunkV k f A n c] w fun e w' => e = .returned (.tuple #[.int .i64 N, .bool true]) ∧ Below w.heap.size w w' := by
  have e1 := @dataE_k k f xs
  have e2 := @initE_k k f xs
  have e3 := @sackE_k k f xs
  have e4 := @fwdE_k k f xs
  have e5 := @timeE_k k f xs
  have e6 := @cumE_k k f xs
  unfold gotAny at hN
  cases h1 : dataE k f xs <;> cases h2 : initE k f xs <;> cases h3 : sackE k f xs <;> cases h4 : fwdE k f xs <;> cases h5 : timeE k f xs <;> cases h6 : cumE k f xs
  all_goals (
    rw [h1, h2, h3, h4, h5, h6] at hN
    first
      | (exfalso
         have k1 := e1 ‹_›
         first | (have k2 := e2 ‹_›; omega) | (have k2 := e3 ‹_›; omega) | (have k2 := e4 ‹_›; omega) | (have k2 := e5 ‹_›; omega) | (have k2 := e6 ‹_›; omega))
      | (exfalso
         have k1 := e2 ‹_›
         first | (have k2 := e3 ‹_›; omega) | (have k2 := e4 ‹_›; omega) | (have k2 := e5 ‹_›; omega) | (have k2 := e6 ‹_›; omega))
      | (exfalso
         have k1 := e3 ‹_›
         first | (have k2 := e4 ‹_›; omega) | (have k2 := e5 ‹_›; omega) | (have k2 := e6 ‹_›; omega))
      | (exfalso
         have k1 := e4 ‹_›
         first | (have k2 := e5 ‹_›; omega) | (have k2 := e6 ‹_›; omega))
      | (exfalso
         have k1 := e5 ‹_›
         have k2 := e6 ‹_›
         omega)
      | (obtain rfl : N = 0 := hN.symm; exact gotNone_ w h hy hn h1 h2 h3 h4 h5 h6)
      | (obtain rfl : N = 1 := hN.symm; first | exact gotData_ w h hy hn h1 h2 h3 h4 h5 h6 | exact gotInit_ w h hy hn h1 h2 h3 h4 h5 h6 | exact gotSack_ w h hy hn h1 h2 h3 h4 h5 h6 | exact gotFwd_ w h hy hn h1 h2 h3 h4 h5 h6 | exact gotTime_ w h hy hn h1 h2 h3 h4 h5 h6 | exact gotCum_ w h hy hn h1 h2 h3 h4 h5 h6))
theorem gotAny_known {k f : Int} {xs : List Int} (h : gotAny k f xs = true) : isKnown k = true := by
  unfold gotAny at h
  simp only [Bool.or_eq_true] at h
  unfold isKnown
  rcases h with ((((h | h) | h) | h) | h) | h
  · simp [dataE_k h]
  · rcases initE_k h with rfl | rfl <;> simp
  · simp [sackE_k h]
  · simp [fwdE_k h]
  · rcases timeE_k h with rfl | rfl <;> simp
  · simp [cumE_k h]

set_option maxHeartbeats 4000000 in
theorem once_ (w : World) {k f : Int} {A : Option Addr} {n c : Nat} {xs : List Int} (hk : 0 ≤ k ∧ k < 256) (hf : 0 ≤ f ∧ f < 256) (h : Rdx .u8 w A n c xs) (hy : Byt xs) :
    Calls Try.prog 3 #[chunkV k f A n c] w fun e w' => e = .returned (.bool true) ∧ Below w.heap.size w w' := by
  have H := Aside.mk h
  have Y := Aside.mk hy
  have hcap := h.cap
  have hmx := h.mx
  clear h hy
  have X0 := Aside.mk (boxed_new w (chunkO k f A n c))
  have kb0 := keep3 X0.out.box
  have kz0 := lt_of_block X0.out.box
  unfold chunkV
  go_enter Try.func3, Try.ntmps3
  by_cases hl : n ≤ 8192
  · have T1 := Aside.mk (fun V => large_ V k f A n c (E := false) (decide_eq_false (by omega)))
    obtain ⟨N, hN⟩ : ∃ N : Int, (if gotAny k f xs = true then 1 else 0) = N := ⟨_, rfl⟩
    have hN01 : (N = 0) ∨ (N = 1 ∧ isKnown k = true) := by
      rw [← hN]
      split
      · exact .inr ⟨rfl, gotAny_known ‹_›⟩
      · exact .inl rfl
    have T2 := Aside.mk (fun (V : World) (b : Below w.heap.size w V) => got_ V ((H.out.rd (by omega)).below b) Y.out (by omega) hN)
    clear hN
    go_wp2_with fail
    refine (T1.out _).mono ?_
    rintro e w2 ⟨rfl, b2⟩
    have X2 := Aside.mk (X0.out.below b2)
    have kb2 := keep3 X2.out.box
    have kz2 := lt_of_block X2.out.box
    clear b2 T1 X0 kb0 kz0
    go_wp2_with fail
    refine (T2.out _ X2.out.low).mono ?_
    rintro e w3 ⟨rfl, b3⟩
    have X3 := Aside.mk (X2.out.below b3)
    have kb3 := keep3 X3.out.box
    have kz3 := lt_of_block X3.out.box
    clear b3 T2 X2 kb2 kz2
    go_upto_region 4 with (fail)
    go_cut [5] (fun s5 wx => s5 = .bool (isKnown k) ∧ Aside (Boxed w (chunkO k f A n c) wx))
    case first =>
      have go : ∀ b : Bool, isKnown k = b → Aside (Value.bool b = Value.bool (isKnown k)) := fun b h => ⟨by rw [h]⟩
      by_cases c0 : k = 0
      · subst c0
        have g := go true (by decide)
        go_wp2_with fail
        go_meet
        exact ⟨g.out, X3⟩
      · have d0 : (k == 0) = false := beq_eq_false_iff_ne.2 c0
        by_cases c1 : k = 1
        · subst c1
          have g := go true (by decide)
          go_wp2_with fail
          go_meet
          exact ⟨g.out, X3⟩
        · have d1 : (k == 1) = false := beq_eq_false_iff_ne.2 c1
          by_cases c2 : k = 2
          · subst c2
            have g := go true (by decide)
            go_wp2_with fail
            go_meet
            exact ⟨g.out, X3⟩
          · have d2 : (k == 2) = false := beq_eq_false_iff_ne.2 c2
            by_cases c3 : k = 3
            · subst c3
              have g := go true (by decide)
              go_wp2_with fail
              go_meet
              exact ⟨g.out, X3⟩
            · have d3 : (k == 3) = false := beq_eq_false_iff_ne.2 c3
              by_cases c4 : k = 4
              · subst c4
                have g := go true (by decide)
                go_wp2_with fail
                go_meet
                exact ⟨g.out, X3⟩
              · have d4 : (k == 4) = false := beq_eq_false_iff_ne.2 c4
                by_cases c5 : k = 5
                · subst c5
                  have g := go true (by decide)
                  go_wp2_with fail
                  go_meet
                  exact ⟨g.out, X3⟩
                · have d5 : (k == 5) = false := beq_eq_false_iff_ne.2 c5
                  by_cases c6 : k = 7
                  · subst c6
                    have g := go true (by decide)
                    go_wp2_with fail
                    go_meet
                    exact ⟨g.out, X3⟩
                  · have d6 : (k == 7) = false := beq_eq_false_iff_ne.2 c6
                    by_cases c7 : k = 192
                    · subst c7
                      have g := go true (by decide)
                      go_wp2_with fail
                      go_meet
                      exact ⟨g.out, X3⟩
                    · have d7 : (k == 192) = false := beq_eq_false_iff_ne.2 c7
                      have g := go false (by unfold isKnown; rw [d0, d1, d2, d3, d4, d5, d6, d7]; rfl)
                      clear go
                      go_wp2_with fail
                      go_meet
                      exact ⟨g.out, X3⟩
    case rest =>
      obtain ⟨rfl, X4⟩ := hcut
      have T3 := Aside.mk (works_ wc)
      rcases hN01 with rfl | ⟨rfl, hkn⟩
      · generalize isKnown k = kn at *
        go_wp2_with fail
        refine T3.out.mono ?_
        rintro e w4 ⟨rfl, b4⟩
        have BB := Aside.mk (X4.out.below b4).low
        clear b4 T3
        go_wp2_with fail
        go_ret
        exact ⟨rfl, BB.out⟩
      · rw [hkn]
        go_wp2_with fail
        refine T3.out.mono ?_
        rintro e w4 ⟨rfl, b4⟩
        have BB := Aside.mk (X4.out.below b4).low
        clear b4 T3
        go_wp2_with fail
        go_ret
        exact ⟨rfl, BB.out⟩
  · have T1 := Aside.mk (fun V => large_ V k f A n c (E := true) (decide_eq_true (by omega)))
    go_wp2_with fail
    refine (T1.out _).mono ?_
    rintro e w2 ⟨rfl, b2⟩
    have X2 := Aside.mk (X0.out.below b2)
    have T2 := Aside.mk (works_ w2)
    clear b2 T1 X0 kb0 kz0
    go_wp2_with fail
    refine T2.out.mono ?_
    rintro e w3 ⟨rfl, b3⟩
    have BB := Aside.mk (X2.out.below b3).low
    clear b3 T2
    go_wp2_with fail
    go_ret
    exact ⟨rfl, BB.out⟩
end Go.Proofs.Ytedbmpfjikaljaa
