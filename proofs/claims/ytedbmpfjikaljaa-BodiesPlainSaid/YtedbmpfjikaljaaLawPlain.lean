/-
  Proved: 'BodiesPlain' as a walk: whatever the arguments read as, the function answers true. No condition.
-/
import Derived.Test.YtedbmpfjikaljaaHold
namespace Go.Proofs.Ytedbmpfjikaljaa
open Go.RowKit
set_option linter.unusedVariables false
set_option linter.unusedSimpArgs false
set_option linter.unusedSectionVars false
set_option maxRecDepth 100000

set_option maxHeartbeats 8000000 in
theorem lawPlain_ (w : World) (kd at_ cum : Int) (hkd : 0 ≤ kd ∧ kd < 256) (hat : -9223372036854775808 ≤ at_ ∧ at_ < 9223372036854775808) (hcm : 0 ≤ cum ∧ cum < 4294967296) {k f : Int} {A : Option Addr} {n c : Nat} {xs : List Int} (hk : 0 ≤ k ∧ k < 256) (hf : 0 ≤ f ∧ f < 256) (h : Rdx .u8 w A n c xs) (hy : Byt xs) :
    Calls Try.prog 8 #[.agg #[.int .u8 kd, .int .i64 at_, .int .u32 cum], chunkV k f A n c] w fun e w' => e = .returned (.bool true) ∧ Below w.heap.size w w' := by
  have H := Aside.mk h
  have Y := Aside.mk hy
  have hcap := h.cap
  have hmx := h.mx
  clear h hy
  have X0 := Aside.mk (hold_two w (.cells #[.int .u8 kd, .int .i64 at_, .int .u32 cum] 72) (.cells #[.int .u8 k, .int .u8 f, .slice A n c] 24))
  have kb0 := keep3 X0.out.h0
  have kz0 : w.heap.size + 1 < ((w.alloc (.cells #[.int .u8 kd, .int .i64 at_, .int .u32 cum] 72)).alloc (.cells #[.int .u8 k, .int .u8 f, .slice A n c] 24)).heap.size := lt_of_block X0.out.h0
  unfold chunkV
  go_enter Try.func8, Try.ntmps8
  by_cases hl : n ≤ 8192
  · have T1 := Aside.mk (fun V => large_ V k f A n c (E := false) (decide_eq_false (by omega)))
    have HR := Aside.mk (H.out.rd (by omega))
    go_wp2_with fail
    refine (T1.out _).mono ?_
    rintro e w2 ⟨rfl, b2⟩
    have X2 := Aside.mk (X0.out.below b2)
    clear b2 T1 X0 kb0 kz0
    go_upto_region 3 with (fail)
    go_cut [5] (fun s5 wx => ∃ g gr : Nat, s5 = .pointer (some ⟨g, 0, none⟩) ∧ Aside (Hold w [(g, .cells #[.int .u8 k, .int .u8 f, .slice (some ⟨gr, 0, none⟩) n (n + 16)] 24), (gr, .cells (rowOf_ (marked xs)) 5), (w.heap.size + 1, .cells #[.int .u8 k, .int .u8 f, .slice A n c] 24), (w.heap.size, .cells #[.int .u8 kd, .int .i64 at_, .int .u32 cum] 72)] wx))
    case first =>
      have TR := Aside.mk (fun (V : World) (b : Below w.heap.size w V) => roomy_ V (HR.out.below b) (by omega))
      have KC : Aside (∀ V : World, V.heap[w.heap.size + 1]? = some (.cells #[.int .u8 k, .int .u8 f, .slice A n c] 24) → V.cell? ⟨w.heap.size + 1, 0, none⟩ = some (.int .u8 k) ∧ V.cell? ⟨w.heap.size + 1, 1, none⟩ = some (.int .u8 f) ∧ V.cell? ⟨w.heap.size + 1, 2, none⟩ = some (.slice A n c)) := ⟨fun V h => keep3 h⟩
      have XA := Aside.mk (X2.out.alloc (.cells #[.int .u8 0, .int .u8 0, .slice none 0 0] 24))
      have kh0 := X2.out.drew.h0
      have kh1 := XA.out.drew.tail.h0
      have zl : w.heap.size + 1 < w2.heap.size := lt_of_block X2.out.h0
      go_region_held3 (fun w' => w'.cell? ⟨w.heap.size + 1, 0, none⟩ = some (.int .u8 k) ∧ w'.cell? ⟨w.heap.size + 1, 1, none⟩ = some (.int .u8 f) ∧ w'.cell? ⟨w.heap.size + 1, 2, none⟩ = some (.slice A n c))
        (first | (with_reducible exact KC.out _ kh5) | (with_reducible exact KC.out _ (alloc_keep kh5)) | (with_reducible exact KC.out _ (set3_hold kh5 (by omega) _ _ _)) | exact KC.out _ kh0 | exact KC.out _ kh1 | go_keep)
        (first
          | (go_at_call 23; refine (TR.out _ (by first | exact X2.out.drew.low | exact XA.out.drew.low)).mono ?_; rintro e w5 ⟨rfl, P5⟩; first | (have Y5 := Aside.mk ((X2.out.drew.below P5.out.2).add P5.out.1); have kh5 := Y5.out.tail.h0; have zl5 := lt_of_block Y5.out.h0) | (have Y5 := Aside.mk ((XA.out.drew.below P5.out.2)); have Y6 := Aside.mk (Y5.out.tail.add P5.out.1); have kh5 := Y5.out.tail.h0; have zl5 := lt_of_block P5.out.1; have kv := keep3 Y5.out.h0; have kf := free7 Y5.out.h0; have zl6 := lt_of_block Y5.out.h0)))
      all_goals (
        go_wp2_with fail
        go_meet
        have hw2 := X2.out.low.size
        first
          | (with_reducible exact ⟨_, _, rfl, ⟨Y5.out.alloc _⟩⟩)
          | (have Y7 : Hold w [(w2.heap.size + 1, .cells (rowOf_ (marked xs)) 5), (w.heap.size + 1, .cells #[.int .u8 k, .int .u8 f, .slice A n c] 24), (w.heap.size, .cells #[.int .u8 kd, .int .i64 at_, .int .u32 cum] 72)] w5 := (by
               have hz : (w2.alloc (.cells #[.int .u8 0, .int .u8 0, .slice none 0 0] 24)).drew.heap.size = w2.heap.size + 1 := by simp
               rw [← hz]
               exact Y6.out)
             exact ⟨_, _, rfl, ⟨Hold.set3 (Y7.add Y5.out.h0) hw2 (by intro p hp; simp at hp; rcases hp with rfl | rfl | rfl <;> simp <;> omega) _ _ _⟩⟩))
    case rest =>
      obtain ⟨g, gr, rfl, X3⟩ := hcut
      have kv := keep3 X3.out.h0
      have kc := keep3 X3.out.tail.tail.h0
      clear X2
      have RM := Aside.mk (fun (V : World) (h : V.heap[gr]? = some (.cells (rowOf_ (marked xs)) 5)) => rd_marked h HR.out.len (by omega))
      obtain ⟨x1, hx1⟩ : ∃ x1, pickV (timeE k f xs) (timeV (tim (gt xs 4 8))) timeZ = .int .i64 x1 := by cases timeE k f xs <;> exact ⟨_, rfl⟩
      obtain ⟨e1, he1⟩ : ∃ e1, errV (timeE k f xs) = .int .i64 e1 := ⟨_, rfl⟩
      obtain ⟨x2, hx2⟩ : ∃ x2, pickV (cumE k f xs) (cumV (gt xs 0 4)) cumZ = .int .u32 x2 := by cases cumE k f xs <;> exact ⟨_, rfl⟩
      obtain ⟨e2, he2⟩ : ∃ e2, errV (cumE k f xs) = .int .i64 e2 := ⟨_, rfl⟩
      have G1 := Aside.mk (fun (V : World) (h : V.heap[gr]? = some (.cells (rowOf_ (marked xs)) 5)) => getTime_ V (k := k) (f := f) (RM.out V h) Y.out (by omega))
      have G2 := Aside.mk (fun (V : World) (b : Below w.heap.size w V) => refGetTime_ V (k := k) (f := f) (HR.out.below b) Y.out (by omega))
      have G3 := Aside.mk (fun (V : World) (h : V.heap[gr]? = some (.cells (rowOf_ (marked xs)) 5)) => getCum_ V (k := k) (f := f) (RM.out V h) Y.out (by omega))
      have G4 := Aside.mk (fun (V : World) (b : Below w.heap.size w V) => refGetCum_ V (k := k) (f := f) (HR.out.below b) Y.out (by omega))
      rw [hx1, he1] at G1 G2
      rw [hx2, he2] at G3 G4
      clear hx1 he1 hx2 he2
      go_wp2_with fail
      refine (G1.out _ X3.out.tail.h0).mono ?_
      rintro e w4 ⟨rfl, b4⟩
      have X4 := Aside.mk (X3.out.below b4)
      have kc4 := keep3 X4.out.tail.tail.h0
      clear b4 X3 kv kc G1
      go_wp2_with fail
      refine (G2.out _ X4.out.low).mono ?_
      rintro e w5 ⟨rfl, b5⟩
      have X5 := Aside.mk (X4.out.below b5)
      have kv5 := keep3 X5.out.h0
      clear b5 X4 kc4 G2
      go_wp2_with fail
      refine (G3.out _ X5.out.tail.h0).mono ?_
      rintro e w6 ⟨rfl, b6⟩
      have X6 := Aside.mk (X5.out.below b6)
      have kc6 := keep3 X6.out.tail.tail.h0
      clear b6 X5 kv5 G3
      go_wp2_with fail
      refine (G4.out _ X6.out.low).mono ?_
      rintro e w7 ⟨rfl, b7⟩
      have X7 := Aside.mk (X6.out.below b7)
      clear b7 X6 kc6 G4
      go_wp2_with fail
      have KK : Aside (∀ V : World, Hold w [(g, .cells #[.int .u8 k, .int .u8 f, .slice (some ⟨gr, 0, none⟩) n (n + 16)] 24), (gr, .cells (rowOf_ (marked xs)) 5), (w.heap.size + 1, .cells #[.int .u8 k, .int .u8 f, .slice A n c] 24), (w.heap.size, .cells #[.int .u8 kd, .int .i64 at_, .int .u32 cum] 72)] V → V.cell? ⟨w.heap.size, 0, none⟩ = some (.int .u8 kd) ∧ V.cell? ⟨w.heap.size, 1, none⟩ = some (.int .i64 at_) ∧ V.cell? ⟨w.heap.size, 2, none⟩ = some (.int .u32 cum) ∧ V.cell? ⟨w.heap.size + 1, 2, none⟩ = some (.slice A n c) ∧ V.cell? ⟨g, 2, none⟩ = some (.slice (some ⟨gr, 0, none⟩) n (n + 16))) := ⟨fun V h => ⟨(keep3 h.tail.tail.tail.h0).1, (keep3 h.tail.tail.tail.h0).2.1, (keep3 h.tail.tail.tail.h0).2.2, (keep3 h.tail.tail.h0).2.2, (keep3 h.h0).2.2⟩⟩
      have Z0 := X7.out.drew
      go_region_held3 (fun w' => w'.cell? ⟨w.heap.size, 0, none⟩ = some (.int .u8 kd) ∧ w'.cell? ⟨w.heap.size, 1, none⟩ = some (.int .i64 at_) ∧ w'.cell? ⟨w.heap.size, 2, none⟩ = some (.int .u32 cum) ∧ w'.cell? ⟨w.heap.size + 1, 2, none⟩ = some (.slice A n c) ∧ w'.cell? ⟨g, 2, none⟩ = some (.slice (some ⟨gr, 0, none⟩) n (n + 16)))
        (first | (with_reducible exact KK.out _ Z8) | (with_reducible exact KK.out _ Z7) | (with_reducible exact KK.out _ Z6) | (with_reducible exact KK.out _ Z5) | (with_reducible exact KK.out _ Z4) | (with_reducible exact KK.out _ Z3) | (with_reducible exact KK.out _ Z2) | (with_reducible exact KK.out _ Z1) | exact KK.out _ Z0 | go_keep)
        (first
          | (go_at_call 13; refine (works_ _).mono ?_; rintro e u8 ⟨rfl, d8⟩; have Z8 := Z7.below d8; clear d8)
          | (go_at_call 27; refine (kept_ _ Z6.tail.h0 (HR.out.below Z6.low) Y.out (by omega)).mono ?_; rintro e u7 ⟨rfl, q7, rfl⟩; have Z7 := Z6.drewN q7)
          | (have _z := Q5; clear _z; go_at_call 25; refine (same_ _ 7 0 7 0 ((Q4.out.1.rd (by omega)).below Q5.out.2) (Q5.out.1.rd (by omega)) (bytq_cum cum) (bytq_cum cum) (E := true) (by simp)).mono ?_; rintro e u6 ⟨rfl, d6⟩; have Z6 := Z5.below d6; clear d6)
          | (go_at_call 43; refine (refPutCum_ _ cum hcm).mono ?_; rintro e u5 ⟨A5, c5, rfl, Q5⟩; have Z5 := Z4.below Q5.out.2)
          | (go_at_call 20; refine (putCumN_ _ cum hcm).mono ?_; rintro e u4 ⟨A4, c4, rfl, Q4⟩; have Z4 := Z3.below Q4.out.2)
          | (have _z := Q2; clear _z; go_at_call 25; refine (same_ _ kd 0 kd 0 ((Q1.out.1.rd (by omega)).below Q2.out.2) (Q2.out.1.rd (by omega)) (bytq_time at_) (bytq_time at_) (E := true) (by simp)).mono ?_; rintro e u3 ⟨rfl, d3⟩; have Z3 := Z2.below d3; clear d3)
          | (go_at_call 42; refine (refPutTime_ _ kd at_ hat).mono ?_; rintro e u2 ⟨A2, c2, rfl, Q2⟩; have Z2 := Z1.below Q2.out.2)
          | (go_at_call 19; refine (putTimeN_ _ kd at_ hat).mono ?_; rintro e u1 ⟨A1, c1, rfl, Q1⟩; have Z1 := Z0.below Q1.out.2))
      all_goals (
        have BB := Aside.mk Z8.low
        go_wp2_with fail
        go_ret
        exact ⟨rfl, BB.out⟩)
  · have T1 := Aside.mk (fun V => large_ V k f A n c (E := true) (decide_eq_true (by omega)))
    go_wp2_with fail
    refine (T1.out _).mono ?_
    rintro e w2 ⟨rfl, b2⟩
    have X2 := Aside.mk (X0.out.below b2)
    have T2 := Aside.mk (works_ w2)
    clear b2 T1 X0 kb0 kz0
    go_wp2_with fail
    refine T2.out.mono ?_
    rintro e w3 ⟨rfl, b3⟩
    have BB := Aside.mk (X2.out.below b3).low
    clear b3 T2
    go_wp2_with fail
    go_ret
    exact ⟨rfl, BB.out⟩
end Go.Proofs.Ytedbmpfjikaljaa
