/-
  Proved: 'TimersDue' returns true and writes nothing that was there: the walk. No condition.
-/
import Derived.Test.YtgfpeppaimhgiaaApart
import Derived.Test.YtgfpeppaimhgiaaPlainb
import Derived.Deep.RegionHeld3
namespace Go.Proofs.Ytgfpeppaimhgiaa
open Go.RowKit
set_option linter.unusedVariables false
set_option linter.unusedSimpArgs false

structure On (w : World) (b m k : Nat) (R : List (Int × Int)) (wr : World) : Prop where
  t : TU wr b m k R
  low : Below w.heap.size w wr
  p : w.heap.size ≤ b
  q : w.heap.size ≤ m
theorem On.step {w : World} {b m k k' : Nat} {R R' : List (Int × Int)} {wr w2 : World} (h : On w b m k R wr) (u : Upd (Two b m) wr w2) (t : TU w2 b m k' R') : On w b m k' R' w2 :=
  ⟨t, below_upd h.low h.low.size u h.p h.q, h.p, h.q⟩
theorem u16_nat (i : Nat) (h : i ≤ 1000) : IntKind.u16.wrap (i : Int) = i := by
  have h1 := (IntKind.wrap_u16 (i : Int))
  rw [h1]
  omega

set_option maxHeartbeats 1000000 in
set_option maxRecDepth 100000 in
theorem due_walk (a0 : Option Addr) (len0 cap0 : Nat) (z0 : List Int) (a1 : Int) (w : World) (w0 : IsRow .i64 w a0 len0 cap0 z0) (w1 : (Lit.int .i64 a1).wf = true) :
    Calls Try.prog 5 #[.slice a0 len0 cap0, .int .i64 a1] w fun e w' => e = .returned (.bool true) ∧ Below w.heap.size w w' := by
  have l0 := w0.le
  unfold maxLen at l0
  have W0 := Aside.mk w0
  clear w0 w1
  by_cases h0 : 200 < len0
  · have d0 : decide ((200 : Int) < (len0 : Int)) = true := decide_eq_true (by omega)
    go_enter Try.func5, Try.ntmps5
    go_wp2_with fail
    refine (works_any _).mono ?_
    rintro e v1 ⟨rfl, hb⟩
    go_wp2_with fail
    go_ret
    exact ⟨rfl, hb⟩
  · have d0 : decide ((200 : Int) < (len0 : Int)) = false := decide_eq_false (by omega)
    go_enter Try.func5, Try.ntmps5
    go_wp2_with fail
    refine (new_U _).mono ?_
    rintro e v1 ⟨rfl, t1, b1, s1⟩
    have T1 : Aside (On w (w.heap.size + 1) w.heap.size 0 [] v1) := ⟨⟨t1, b1, by omega, by omega⟩⟩
    clear t1 b1 s1
    go_wp2_with fail
    go_loopw [6, 7] (fun d i wr => ∃ k : Nat, k ≤ len0 ∧ i = .int .i64 k ∧ d = .int .i64 (dueN (rng z0 k) a1) ∧ On w (w.heap.size + 1) w.heap.size k (rng z0 k) wr) (fun d i _ => len0 - (intOf i).toNat)
    case atStart => exact ⟨0, by omega, rfl, rfl, by simpa [rng_zero] using T1.out⟩
    case round =>
      obtain ⟨k, hk, rfl, rfl, hR⟩ := hrel
      have HR := Aside.mk hR
      clear hR
      have hDle : dueN (rng z0 k) a1 ≤ k := by simpa [rng_length] using dueN_le (rng z0 k) a1
      have hDs := dueN_succ z0 k a1
      generalize hDe : dueN (rng z0 k) a1 = D at hDle hDs ⊢
      have HD := Aside.mk hDs
      have HDe := Aside.mk hDe
      clear hDs hDe
      by_cases c0 : k < len0
      · obtain ⟨x, rfl, hc0⟩ := W0.out.at_ HR.out.low k c0
        have hu := u16_nat k (by omega)
        go_wp2_with fail
        refine (set_U _ HR.out.t _ _ (okU_nat k (by omega)) (by omega)).mono ?_
        rintro e w2 ⟨rfl, t2, u2⟩
        have HR2 := Aside.mk (HR.out.step u2 t2)
        clear t2 u2 hc0 hu
        obtain ⟨x', hx', hc1⟩ := W0.out.at_ HR2.out.low k c0
        injection hx' with hx'
        subst hx'
        by_cases hle : z0.getD k 0 ≤ a1
        · have hd : decide (z0[k]?.getD 0 ≤ a1) = true := decide_eq_true hle
          have HL := Aside.mk hle
          clear hle
          go_wp2_with fail
          go_roundw
          case rel =>
            refine ⟨k + 1, by omega, by go_num, ?_, ?_⟩
            · rw [HD.out, if_pos HL.out]; go_num
            · rw [← rset_rng z0]; exact HR2.out
          case measure => simp [intOf]; omega
        · have hd : decide (z0[k]?.getD 0 ≤ a1) = false := decide_eq_false hle
          have HL := Aside.mk hle
          clear hle
          go_wp2_with fail
          go_roundw
          case rel =>
            refine ⟨k + 1, by omega, by go_num, ?_, ?_⟩
            · rw [HD.out, if_neg (by have := HL.out; omega)]; rfl
            · rw [← rset_rng z0]; exact HR2.out
          case measure => simp [intOf]; omega
      · have hkd : decide (k < len0) = false := decide_eq_false (by omega)
        have hlk : len0 ≤ k := by omega
        have HR0 : Aside (DueR z0 len0 a1 D (rng z0 len0) ∧ On w (w.heap.size + 1) w.heap.size len0 (rng z0 len0) wr) := by
          obtain rfl : k = len0 := by omega
          have h := DueR.start z0 k a1
          rw [HDe.out] at h
          exact ⟨h, HR.out⟩
        clear HR HD
        go_wp2_with fail
        go_loopw [8] (fun i wr => ∃ j : Nat, j ≤ D ∧ i = .int .i64 j ∧ ∃ R, DueR z0 len0 a1 (D - j) R ∧ On w (w.heap.size + 1) w.heap.size len0 R wr) (fun i _ => D - (intOf i).toNat)
        case atStart => exact ⟨0, by omega, rfl, _, HR0.out.1, HR0.out.2⟩
        case round =>
          obtain ⟨j, hj, rfl, R, hD2, hR⟩ := hrel
          have HR := Aside.mk hR
          have HD2 := Aside.mk hD2
          clear hR hD2
          by_cases cj : j < D
          · obtain ⟨i, hi, hle, hd, hnew⟩ := DueR.step (left := D - (j + 1)) (by have := HD2.out; rwa [show D - j = D - (j + 1) + 1 by omega] at this)
            have hs := pop_U _ HR.out.t a1
            have hans : popAnsU R a1 = .tuple #[.int .u16 (i : Int), .bool true] := by simp [popAnsU, hd, encU]
            rw [hans] at hs
            have HS := Aside.mk hs
            have HN := Aside.mk hnew
            obtain ⟨x, rfl, hc0⟩ := W0.out.at_ HR.out.low i hi
            have hdec : decide (z0[i]?.getD 0 > a1) = false := decide_eq_false (by simpa using hle)
            clear hs hnew hans hle hd hc0
            go_wp2_with fail
            refine HS.out.mono ?_
            rintro e w2 ⟨rfl, t2, u2⟩
            have HR2 := Aside.mk (HR.out.step u2 t2)
            clear t2 u2
            obtain ⟨x', hx', hc1⟩ := W0.out.at_ HR2.out.low i hi
            injection hx' with hx'
            subst hx'
            go_wp2_with fail
            go_roundw
            case rel => exact ⟨j + 1, by omega, by go_num, _, HN.out, HR2.out⟩
            case measure => simp [intOf]; omega
          · have hjd : decide (j < D) = false := decide_eq_false (by omega)
            obtain ⟨hd, hp, hRe, hRl⟩ := DueR.done (by have := HD2.out; rwa [show D - j = 0 by omega] at this)
            have hs := pop_U _ HR.out.t a1
            have hans : popAnsU R a1 = .tuple #[.int .u16 0, .bool false] := by simp [popAnsU, hd]
            rw [hans, hp] at hs
            have HS := Aside.mk hs
            have hlen : ∃ q : Nat, R.length = q ∧ q + D = len0 := by
              refine ⟨_, rfl, ?_⟩
              by_cases hkl : k = len0
              · subst hkl
                rw [← HDe.out]; exact hRl
              · omega
            obtain ⟨q, hq, hqD⟩ := hlen
            have HQ := Aside.mk hq
            have HRe := Aside.mk hRe
            have hqb : ((q : Int) != (len0 : Int) - (D : Int)) = false := by
              rw [bne_eq_false_iff_eq]; omega
            clear hs hans hd hp hRe hRl hq
            have hqD' : D ≤ len0 := by omega
            have hq2 : q ≤ len0 := by omega
            clear hqD
            go_wp2_with fail
            refine HS.out.mono ?_
            rintro e w2 ⟨rfl, t2, u2⟩
            have HR2 := Aside.mk (HR.out.step u2 t2)
            clear t2 u2
            go_wp2_with fail
            have hl := len_U _ HR2.out.t
            rw [HQ.out] at hl
            refine hl.mono ?_
            clear hl
            rintro e w3 ⟨rfl, rfl⟩
            go_wp2_with fail
            have HR3 : Aside (On w (w.heap.size + 1) w.heap.size len0 (lfrom z0 len0 0 a1) w2) := ⟨by rw [← HRe.out]; exact HR2.out⟩
            go_loopw [13] (fun i wr => ∃ j : Nat, j ≤ len0 ∧ i = .int .i64 j ∧ On w (w.heap.size + 1) w.heap.size len0 (lfrom z0 len0 j a1) wr) (fun i _ => len0 - (intOf i).toNat)
            case atStart => exact ⟨0, by omega, rfl, HR3.out⟩
            case round =>
              obtain ⟨i, hi, rfl, hR⟩ := hrel
              clear HR3 HR2 HR
              have HR := Aside.mk hR
              clear hR
              by_cases ci : i < len0
              · have hu := u16_nat i (by omega)
                have hs := stop_U wr.drew (HR.out.t.upd ((Upd.refl (fun _ => False) wr).drew) (fun h => h) (fun h => h)) i (okU_nat i (by omega))
                rw [lfrom_has _ _ _ _ ci, lfrom_drop] at hs
                have HS := Aside.mk hs
                have HRd : Aside (On w (w.heap.size + 1) w.heap.size len0 (lfrom z0 len0 i a1) wr.drew) := ⟨⟨HR.out.t.upd ((Upd.refl (fun _ => False) wr).drew) (fun h => h) (fun h => h), HR.out.low.drew, HR.out.p, HR.out.q⟩⟩
                clear hs
                obtain ⟨x, rfl, hc0⟩ := W0.out.at_ HR.out.low i ci
                simp only [List.getD_eq_getElem?_getD] at hc0
                have hi0 : (0 : Int) ≤ (i : Int) := by omega
                have hi1 : (i : Int) < (len0 : Int) := by omega
                go_wp2_with fail
                go_region_held3 (fun w' => w'.cell? (x.add i) = some (.int .i64 (z0[i]?.getD 0)))
                  (first | go_keep | exact hc1)
                  ((go_at_call 25; refine HS.out.mono ?_; rintro e w2 ⟨rfl, t2, u2⟩; have HR2 := Aside.mk (HRd.out.step u2 t2); obtain ⟨x', hx', hc1⟩ := W0.out.at_ HR2.out.low i ci; injection hx' with hx'; subst hx'; simp only [List.getD_eq_getElem?_getD] at hc1; clear t2 u2))
                go_wp2_with fail
                go_roundw
                case rel => exact ⟨i + 1, by omega, by go_num, HR2.out⟩
                case measure => simp [intOf]; omega
              · have hid : decide (i < len0) = false := decide_eq_false (by omega)
                have HR2 : Aside (On w (w.heap.size + 1) w.heap.size len0 [] wr) := by
                  have h := HR.out
                  have e0 : i = len0 := by omega
                  subst e0
                  rw [lfrom_end] at h
                  exact ⟨h⟩
                clear HR
                have HL1 := Aside.mk (len_U _ HR2.out.t)
                go_wp2_with fail
                refine HL1.out.mono ?_
                rintro e w2 ⟨rfl, rfl⟩
                go_wp2_with fail
                refine (works_any _).mono ?_
                rintro e v9 ⟨rfl, hb⟩
                have HB := Aside.mk (HR2.out.low.trans (hb.mono HR2.out.low.size))
                clear hb
                go_wp2_with fail
                go_ret
                exact ⟨rfl, HB.out⟩
end Go.Proofs.Ytgfpeppaimhgiaa
