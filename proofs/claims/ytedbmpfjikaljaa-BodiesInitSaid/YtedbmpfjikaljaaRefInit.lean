/-
  Proved: what the reference's function that makes a chunk of a beginning does to memory and what it answers. Conditions: rows are shorter than fifty thousand.
-/
import Derived.Test.YtedbmpfjikaljaaRefData
namespace Go.Proofs.Ytedbmpfjikaljaa
open Go.RowKit
set_option linter.unusedVariables false
set_option linter.unusedSimpArgs false
set_option linter.unusedSectionVars false
set_option maxRecDepth 100000

set_option maxHeartbeats 4000000 in
theorem refPutInit_ (w : World) (k tag rwnd out inn tsn : Int) (h1 : 0 ≤ tag ∧ tag < 4294967296) (h2 : 0 ≤ rwnd ∧ rwnd < 4294967296) (h3 : 0 ≤ out ∧ out < 65536) (h4 : 0 ≤ inn ∧ inn < 65536) (h5 : 0 ≤ tsn ∧ tsn < 4294967296)
    {B : Option Addr} {n d : Nat} {bs : List Int} (h : Rd .u8 w B n d bs) (hn : n ≤ 50000) (N : Nat) (hN : (if k = 2 then 20 + (n + 3) / 4 * 4 else 16) = N) :
    Calls Try.prog 46 #[.int .u8 k, initV tag rwnd out inn tsn B n d] w fun e w' => ∃ A c, e = .returned (chunkV k 0 A N c) ∧ Aside (Own w' w.heap.size A N c (initL k tag rwnd out inn tsn bs) ∧ Below w.heap.size w w') := by
  have H := Aside.mk h
  have hl := h.len
  have hc := h.cap
  have hmx := h.mx
  clear h
  have X0 := Aside.mk (hold_two w (.cells #[.int .u32 tag, .int .u32 rwnd, .int .u16 out, .int .u16 inn, .int .u32 tsn, .slice B n d] 34) (.cells #[.int .u8 0, .int .u8 0, .slice none 0 0] 24))
  have k0 := keep6 X0.out.tail.h0
  have T1 := Aside.mk (hold_rput X0.out (rd_nil8 _) (base := w.heap.size + 2) (by simp) (by omega) tag (by omega) 4 (si := 4) rfl rfl)
  have NX : Aside (∀ (V : World) (m c : Nat) (A : Option Addr) (xs : List Int) (hH : Hold w [(w.heap.size + 1, .cells #[.int .u8 0, .int .u8 0, .slice none 0 0] 24), (w.heap.size, .cells #[.int .u32 tag, .int .u32 rwnd, .int .u16 out, .int .u16 inn, .int .u32 tsn, .slice B n d] 34)] V) (o : Own V (w.heap.size + 2) A m c xs) (hm : m ≤ 100000) (x : Int) (h0 : 0 ≤ x ∧ x < 18446744073709551616) (s : Nat) (si : Int) (hsi : si = (s : Int)) (hs : isSized s = true),
      Calls Try.prog 58 #[.slice A m c, .int .u64 x, .int .i64 si] V fun e V' => ∃ A' c', e = .returned (.slice A' (m + s) c') ∧ Aside (Hold w [(w.heap.size + 1, .cells #[.int .u8 0, .int .u8 0, .slice none 0 0] 24), (w.heap.size, .cells #[.int .u32 tag, .int .u32 rwnd, .int .u16 out, .int .u16 inn, .int .u32 tsn, .slice B n d] 34)] V' ∧ Own V' (w.heap.size + 2) A' (m + s) c' (xs ++ be s x))) :=
    ⟨fun V m c A xs hH o hm x h0 s si hsi hs => hold_rput hH (o.rd (by omega)) (by have := lt_of_block hH.h0; omega) (by omega) x h0 s hsi hs⟩
  unfold initV
  go_enter Try.func46, Try.ntmps46
  go_wp2_with fail
  refine T1.out.mono ?_
  rintro e w2 ⟨A1, c1, rfl, P1⟩
  have k1 := keep6 P1.out.1.tail.h0
  clear T1 X0 k0
  go_wp2_with fail
  refine (NX.out _ _ _ _ _ P1.out.1 P1.out.2 (by omega) rwnd (by omega) 4 4 rfl rfl).mono ?_
  rintro e w3 ⟨A2, c2, rfl, P2⟩
  have k2 := keep6 P2.out.1.tail.h0
  clear P1 k1
  go_wp2_with fail
  refine (NX.out _ _ _ _ _ P2.out.1 P2.out.2 (by omega) out (by omega) 2 2 rfl rfl).mono ?_
  rintro e w4 ⟨A3, c3, rfl, P3⟩
  have k3 := keep6 P3.out.1.tail.h0
  clear P2 k2
  go_wp2_with fail
  refine (NX.out _ _ _ _ _ P3.out.1 P3.out.2 (by omega) inn (by omega) 2 2 rfl rfl).mono ?_
  rintro e w5 ⟨A4, c4, rfl, P4⟩
  have k4 := keep6 P4.out.1.tail.h0
  clear P3 k3
  go_wp2_with fail
  refine (NX.out _ _ _ _ _ P4.out.1 P4.out.2 (by omega) tsn (by omega) 4 4 rfl rfl).mono ?_
  rintro e w6 ⟨A5, c5, rfl, P5⟩
  have k5 := keep6 P5.out.1.tail.h0
  clear P4 k4
  by_cases hk : k = 2
  · subst hk
    have hb : ((2 : Int) == 2) = true := rfl
    go_wp2_with fail
    refine (NX.out _ _ _ _ _ P5.out.1 P5.out.2 (by omega) 7 (by omega) 2 2 rfl rfl).mono ?_
    rintro e w7 ⟨A6, c6, rfl, P6⟩
    have k6 := keep6 P6.out.1.tail.h0
    have wr1 : IntKind.i64.wrap (4 + (n : Int)) = 4 + (n : Int) := by rw [IntKind.wrap_i64]; omega
    have wr2 : IntKind.u64.wrap (4 + (n : Int)) = 4 + (n : Int) := by rw [IntKind.wrap_u64]; omega
    clear P5 k5
    go_wp2_with fail
    refine (NX.out _ _ _ _ _ P6.out.1 P6.out.2 (by omega) (4 + (n : Int)) (by omega) 2 2 rfl rfl).mono ?_
    rintro e w8 ⟨A7, c7, rfl, P7⟩
    have k7 := keep6 P7.out.1.tail.h0
    have z7 := lt_of_block P7.out.1.h0
    obtain ⟨A8, c8, w9, hrun, o8, g8⟩ := append_run P7.out.2 (by omega) (H.out.below P7.out.1.low) (by omega)
    have R8 := Aside.mk hrun
    have X8 := Aside.mk (Hold.grown2 P7.out.1 g8 (fun g hg => P7.out.2.base_le hg) (by intro p hp; simp at hp; rcases hp with rfl | rfl <;> simp <;> omega) (by omega))
    have O8 := Aside.mk o8
    have T9 := Aside.mk (rpad_ w9 (o8.rd (by omega)) (by omega))
    clear P6 k6 hrun o8 g8 P7
    go_wp2_with (at_builtin; refine wpList_append_run 22 _ _ _ _ rfl rfl rfl rfl R8.out ?_)
    refine T9.out.mono ?_
    rintro e w10 ⟨A9, c9, rfl, o9, b9⟩
    have X9 := Aside.mk (X8.out.below b9)
    have z9 := lt_of_block X8.out.h0
    have O9 := Aside.mk (o9.mono (show w.heap.size + 2 ≤ w9.heap.size by omega))
    have kr := keep3 X9.out.h0
    have fr := free7 X9.out.h0
    have hN2 : rnd (0 + 4 + 4 + 2 + 2 + 4 + 2 + 2 + n) = N := by have := hN; simp at this; unfold rnd; omega
    clear o9 b9 T9 R8 X8 O8
    go_wp2_with fail
    refine bodyPost_ret (v := chunkV 2 0 A9 N c9) (by simp [results, Try.results46, go_sem, chunkV, kr]) rfl ⟨A9, c9, rfl, ⟨?_, ?_⟩⟩
    · have fin := fun v0 v1 v2 => (fin_own (r := w.heap.size + 1) O9.out (by omega) v0 v1 v2).mono (show w.heap.size ≤ w.heap.size + 2 by omega)
      have e : initL 2 tag rwnd out inn tsn bs = [] ++ be 4 tag ++ be 4 rwnd ++ be 2 out ++ be 2 inn ++ be 4 tsn ++ be 2 7 ++ be 2 (4 + (n : Int)) ++ bs ++ List.replicate (rnd (0 + 4 + 4 + 2 + 2 + 4 + 2 + 2 + n) - (0 + 4 + 4 + 2 + 2 + 4 + 2 + 2 + n)) 0 := by
        unfold initL ackL headL
        rw [if_pos rfl, hl]
        simp [bes1, bes2, List.append_assoc]
      rw [e]
      rw [hN2] at fin ⊢
      exact fin _ _ _
    · exact fin_below X9.out.low (by omega) _ _ _
  · have hb : (k == 2) = false := beq_eq_false_iff_ne.2 hk
    have kr := keep3 P5.out.1.h0
    have fr := free7 P5.out.1.h0
    have hN2 : 16 = N := by rw [← hN, if_neg hk]
    subst hN2
    go_wp2_with fail
    refine bodyPost_ret (v := chunkV k 0 A5 16 c5) (by simp [results, Try.results46, go_sem, chunkV, kr]) rfl ⟨A5, c5, rfl, ⟨?_, ?_⟩⟩
    · have fin := fun v0 v1 v2 => (fin_own (r := w.heap.size + 1) P5.out.2 (by omega) v0 v1 v2).mono (show w.heap.size ≤ w.heap.size + 2 by omega)
      have e : initL k tag rwnd out inn tsn bs = [] ++ be 4 tag ++ be 4 rwnd ++ be 2 out ++ be 2 inn ++ be 4 tsn := by
        unfold initL headL
        rw [if_neg hk]
        simp [bes1, bes2, List.append_assoc]
      rw [e]
      exact fin _ _ _
    · exact fin_below P5.out.1.low (by omega) _ _ _
end Go.Proofs.Ytedbmpfjikaljaa
