/-
  Proved: the reference's functions that compare two chunks, two data and two beginnings answer whether they are alike. Conditions: rows are shorter than a million and one.
-/
import Derived.Test.YtedbmpfjikaljaaGetg
namespace Go.Proofs.Ytedbmpfjikaljaa
open Go.RowKit
set_option linter.unusedVariables false
set_option linter.unusedSimpArgs false
set_option linter.unusedSectionVars false
set_option maxRecDepth 100000

set_option maxHeartbeats 2000000 in
theorem same_ (w : World) (k1 f1 k2 f2 : Int) {A B : Option Addr} {n c m d : Nat} {xs ys : List Int} (h : Rd .u8 w A n c xs) (k : Rd .u8 w B m d ys) (hx : Byt xs) (hy : Byt ys) {E : Bool} (hE : ((k1 == k2) && (f1 == f2) && decide (xs = ys)) = E) :
    Calls Try.prog 25 #[chunkV k1 f1 A n c, chunkV k2 f2 B m d] w fun e w' => e = .returned (.bool E) ∧ Below w.heap.size w w' := by
  have H := Aside.mk h
  have K := Aside.mk k
  have Q := Aside.mk (fun (V : World) (b : Below w.heap.size w V) => eqb_ V (h.below b) (k.below b) hx hy)
  have EE := Aside.mk hE
  clear h k hx hy hE
  have BL := Aside.mk (((Below.refl w.heap.size w).alloc (Nat.le_refl _) (.cells #[.int .u8 k1, .int .u8 f1, .slice A n c] 24)).alloc (by simp) (.cells #[.int .u8 k2, .int .u8 f2, .slice B m d] 24))
  unfold chunkV
  go_enter Try.func25, Try.ntmps25
  cases t0 : (k1 == k2)
  · obtain rfl : E = false := by rw [← EE.out, t0]; simp
    clear EE
    go_wp2_with fail
    go_ret
    exact ⟨rfl, BL.out⟩
  ·
    cases t1 : (f1 == f2)
    · obtain rfl : E = false := by rw [← EE.out, t0, t1]; simp
      clear EE
      go_wp2_with fail
      go_ret
      exact ⟨rfl, BL.out⟩
    ·
      have hE2 : decide (xs = ys) = E := by rw [← EE.out, t0, t1]; simp
      rw [hE2] at Q
      clear EE hE2
      go_wp2_with fail
      refine (Q.out _ BL.out).mono ?_
      rintro e w2 ⟨rfl, q, rfl⟩
      go_wp2_with fail
      go_ret
      exact ⟨rfl, below_drewN BL.out q⟩

set_option maxHeartbeats 2000000 in
theorem sameData_ (w : World) (t1 s1 n1 t2 s2 n2 : Int) (u1 v1 l1 u2 v2 l2 : Bool) {A B : Option Addr} {n c m d : Nat} {xs ys : List Int} (h : Rd .u8 w A n c xs) (k : Rd .u8 w B m d ys) (hx : Byt xs) (hy : Byt ys) {E : Bool} (hE : ((t1 == t2) && (s1 == s2) && (n1 == n2) && (u1 == u2) && (v1 == v2) && (l1 == l2) && decide (xs = ys)) = E) :
    Calls Try.prog 28 #[dataV t1 s1 n1 u1 v1 l1 A n c, dataV t2 s2 n2 u2 v2 l2 B m d] w fun e w' => e = .returned (.bool E) ∧ Below w.heap.size w w' := by
  have H := Aside.mk h
  have K := Aside.mk k
  have Q := Aside.mk (fun (V : World) (b : Below w.heap.size w V) => eqb_ V (h.below b) (k.below b) hx hy)
  have EE := Aside.mk hE
  clear h k hx hy hE
  have BL := Aside.mk (((Below.refl w.heap.size w).alloc (Nat.le_refl _) (.cells #[.int .u32 t1, .int .u16 s1, .int .u16 n1, .bool u1, .bool v1, .bool l1, .slice A n c] 32)).alloc (by simp) (.cells #[.int .u32 t2, .int .u16 s2, .int .u16 n2, .bool u2, .bool v2, .bool l2, .slice B m d] 32))
  unfold dataV
  go_enter Try.func28, Try.ntmps28
  cases t0 : (t1 == t2)
  · obtain rfl : E = false := by rw [← EE.out, t0]; simp
    clear EE
    go_wp2_with fail
    go_ret
    exact ⟨rfl, BL.out⟩
  ·
    cases t1 : (s1 == s2)
    · obtain rfl : E = false := by rw [← EE.out, t0, t1]; simp
      clear EE
      go_wp2_with fail
      go_ret
      exact ⟨rfl, BL.out⟩
    ·
      cases t2 : (n1 == n2)
      · obtain rfl : E = false := by rw [← EE.out, t0, t1, t2]; simp
        clear EE
        go_wp2_with fail
        go_ret
        exact ⟨rfl, BL.out⟩
      ·
        cases t3 : (u1 == u2)
        · obtain rfl : E = false := by rw [← EE.out, t0, t1, t2, t3]; simp
          clear EE
          go_wp2_with fail
          go_ret
          exact ⟨rfl, BL.out⟩
        ·
          cases t4 : (v1 == v2)
          · obtain rfl : E = false := by rw [← EE.out, t0, t1, t2, t3, t4]; simp
            clear EE
            go_wp2_with fail
            go_ret
            exact ⟨rfl, BL.out⟩
          ·
            cases t5 : (l1 == l2)
            · obtain rfl : E = false := by rw [← EE.out, t0, t1, t2, t3, t4, t5]; simp
              clear EE
              go_wp2_with fail
              go_ret
              exact ⟨rfl, BL.out⟩
            ·
              have hE2 : decide (xs = ys) = E := by rw [← EE.out, t0, t1, t2, t3, t4, t5]; simp
              rw [hE2] at Q
              clear EE hE2
              go_wp2_with fail
              refine (Q.out _ BL.out).mono ?_
              rintro e w2 ⟨rfl, q, rfl⟩
              go_wp2_with fail
              go_ret
              exact ⟨rfl, below_drewN BL.out q⟩

set_option maxHeartbeats 2000000 in
theorem sameInit_ (w : World) (a1 b1 c1 d1 e1 a2 b2 c2 d2 e2 : Int) {A B : Option Addr} {n c m d : Nat} {xs ys : List Int} (h : Rd .u8 w A n c xs) (k : Rd .u8 w B m d ys) (hx : Byt xs) (hy : Byt ys) {E : Bool} (hE : ((a1 == a2) && (b1 == b2) && (c1 == c2) && (d1 == d2) && (e1 == e2) && decide (xs = ys)) = E) :
    Calls Try.prog 47 #[initV a1 b1 c1 d1 e1 A n c, initV a2 b2 c2 d2 e2 B m d] w fun e w' => e = .returned (.bool E) ∧ Below w.heap.size w w' := by
  have H := Aside.mk h
  have K := Aside.mk k
  have Q := Aside.mk (fun (V : World) (b : Below w.heap.size w V) => eqb_ V (h.below b) (k.below b) hx hy)
  have EE := Aside.mk hE
  clear h k hx hy hE
  have BL := Aside.mk (((Below.refl w.heap.size w).alloc (Nat.le_refl _) (.cells #[.int .u32 a1, .int .u32 b1, .int .u16 c1, .int .u16 d1, .int .u32 e1, .slice A n c] 34)).alloc (by simp) (.cells #[.int .u32 a2, .int .u32 b2, .int .u16 c2, .int .u16 d2, .int .u32 e2, .slice B m d] 34))
  unfold initV
  go_enter Try.func47, Try.ntmps47
  cases t0 : (a1 == a2)
  · obtain rfl : E = false := by rw [← EE.out, t0]; simp
    clear EE
    go_wp2_with fail
    go_ret
    exact ⟨rfl, BL.out⟩
  ·
    cases t1 : (b1 == b2)
    · obtain rfl : E = false := by rw [← EE.out, t0, t1]; simp
      clear EE
      go_wp2_with fail
      go_ret
      exact ⟨rfl, BL.out⟩
    ·
      cases t2 : (c1 == c2)
      · obtain rfl : E = false := by rw [← EE.out, t0, t1, t2]; simp
        clear EE
        go_wp2_with fail
        go_ret
        exact ⟨rfl, BL.out⟩
      ·
        cases t3 : (d1 == d2)
        · obtain rfl : E = false := by rw [← EE.out, t0, t1, t2, t3]; simp
          clear EE
          go_wp2_with fail
          go_ret
          exact ⟨rfl, BL.out⟩
        ·
          cases t4 : (e1 == e2)
          · obtain rfl : E = false := by rw [← EE.out, t0, t1, t2, t3, t4]; simp
            clear EE
            go_wp2_with fail
            go_ret
            exact ⟨rfl, BL.out⟩
          ·
            have hE2 : decide (xs = ys) = E := by rw [← EE.out, t0, t1, t2, t3, t4]; simp
            rw [hE2] at Q
            clear EE hE2
            go_wp2_with fail
            refine (Q.out _ BL.out).mono ?_
            rintro e w2 ⟨rfl, q, rfl⟩
            go_wp2_with fail
            go_ret
            exact ⟨rfl, below_drewN BL.out q⟩
end Go.Proofs.Ytedbmpfjikaljaa
