/-
  Proved: the functions that compare two rows of bytes answer whether they are alike. Conditions: rows are shorter than a million and one.
-/
import Derived.Test.YtedbmpfjikaljaaOctb
namespace Go.Proofs.Ytedbmpfjikaljaa
open Go.RowKit
set_option linter.unusedVariables false
set_option linter.unusedSimpArgs false
set_option linter.unusedSectionVars false
set_option maxRecDepth 100000

theorem take_eq_step {xs ys : List Int} {j : Nat} (hx : j < xs.length) (hy : j < ys.length) : xs.take (j + 1) = ys.take (j + 1) ↔ xs.take j = ys.take j ∧ xs.getD j 0 = ys.getD j 0 := by
  rw [List.take_add_one, List.take_add_one, List.getD_eq_getElem?_getD, List.getD_eq_getElem?_getD, List.getElem?_eq_getElem hx, List.getElem?_eq_getElem hy]
  simp only [Option.toList_some, Option.getD_some]
  constructor
  · intro h
    have h1 := List.append_inj_left' h rfl
    have h2 := List.append_inj_right' h rfl
    simp at h2
    exact ⟨h1, h2⟩
  · rintro ⟨h1, h2⟩
    rw [h1, h2]

theorem drewN_more (w : World) (a b : Nat) : ∃ q, (w.drewN a).drewN b = w.drewN q := ⟨_, World.drewN_drewN ..⟩

set_option maxHeartbeats 1000000 in
theorem sequal_ (w : World) {A B : Option Addr} {n c m d : Nat} {xs ys : List Int} (h : Rd .u8 w A n c xs) (k : Rd .u8 w B m d ys) :
    Calls Try.prog 75 #[.slice A n c, .slice B m d] w fun e w' => e = .returned (.bool (decide (xs = ys))) ∧ ∃ q, w' = w.drewN q := by
  have h1 := h.small
  have h2 := h.cap
  have h3 := h.mx
  have k1 := k.small
  have k2 := k.cap
  have k3 := k.mx
  have H := Aside.mk h
  have K := Aside.mk k
  clear h k
  by_cases hnm : n = m
  · subst hnm
    have hb : ((n : Int) == (n : Int)) = true := beq_self_eq_true _
    go_enter Try.func75, Try.ntmps75
    go_wp2_with fail
    go_loopw [13] (fun i wr => ∃ j q, j ≤ n ∧ i = .int .i64 (j : Nat) ∧ wr = w.drewN q ∧ xs.take j = ys.take j) (fun i _ => n - (intOf i).toNat)
    case atStart => exact ⟨0, 0, by omega, rfl, rfl, rfl⟩
    case round =>
      obtain ⟨j, q, hj, rfl, rfl, ht⟩ := hrel
      have T := Aside.mk ht
      clear ht
      by_cases cj : j < n
      · obtain ⟨b1, o1, rfl, hlt1, hc1⟩ := H.out.get cj
        obtain ⟨b2, o2, rfl, hlt2, hc2⟩ := K.out.get cj
        have S := Aside.mk (take_eq_step (xs := xs) (ys := ys) (j := j) (by rw [H.out.len]; exact cj) (by rw [K.out.len]; exact cj))
        generalize xs.getD j 0 = x at *
        generalize ys.getD j 0 = y at *
        by_cases hxy : x = y
        · subst hxy
          have hb' : (x == x) = true := beq_self_eq_true _
          go_wp2_with fail
          all_goals (
            go_quiet (fail)
            go_wp2_with fail
            go_round
            case rel => exact ⟨j + 1, _, by omega, by go_num, rfl, S.out.2 ⟨T.out, by simp⟩⟩
            case measure => simp [intOf]; omega)
        · have hb' : (x == y) = false := beq_eq_false_iff_ne.2 hxy
          have N := Aside.mk hxy
          clear hxy
          go_wp2_with fail
          all_goals (
            go_quiet (fail)
            go_wp2_with fail
            go_ret
            refine ⟨?_, drewN_more _ _ _⟩
            have : ¬ (xs = ys) := fun h => N.out (S.out.1 (by rw [h])).2
            rw [decide_eq_false this]
            rfl)
      · obtain rfl : j = n := by omega
        have hd : decide (j < j) = false := decide_eq_false cj
        go_wp2
        go_ret
        refine ⟨?_, _, rfl⟩
        have := T.out
        rw [List.take_of_length_le (by rw [H.out.len]; omega), List.take_of_length_le (by rw [K.out.len]; omega)] at this
        rw [decide_eq_true this]
        rfl
  · have hb : ((n : Int) != (m : Int)) = true := bne_iff_ne.2 (by omega)
    go_enter Try.func75, Try.ntmps75
    go_wp2
    go_ret
    refine ⟨?_, 0, rfl⟩
    have : ¬ (xs = ys) := fun h => hnm (by rw [← H.out.len, ← K.out.len, h])
    rw [decide_eq_false this]
    rfl

theorem or_xor_zero (u x y : Int) (u0 : 0 ≤ u) (u1 : u < 256) (x0 : 0 ≤ x) (x1 : x < 256) (y0 : 0 ≤ y) (y1 : y < 256) :
    0 ≤ bits .or .u8 u (bits .xor .u8 x y) ∧ bits .or .u8 u (bits .xor .u8 x y) < 256 ∧ (bits .or .u8 u (bits .xor .u8 x y) = 0 ↔ u = 0 ∧ x = y) := by
  obtain ⟨a, rfl⟩ := Int.eq_ofNat_of_zero_le u0
  obtain ⟨b, rfl⟩ := Int.eq_ofNat_of_zero_le x0
  obtain ⟨c, rfl⟩ := Int.eq_ofNat_of_zero_le y0
  have hx : b ^^^ c < 2 ^ 8 := Nat.xor_lt_two_pow (by omega) (by omega)
  have ho : a ||| (b ^^^ c) < 2 ^ 8 := Nat.or_lt_two_pow (by omega) hx
  rw [u8_xor_nat b c (by omega) (by omega), u8_or_nat a _ (by omega) (by omega)]
  refine ⟨by omega, by omega, ?_⟩
  have e : a ||| (b ^^^ c) = 0 ↔ a = 0 ∧ b ^^^ c = 0 := Nat.or_eq_zero_iff
  have e2 : b ^^^ c = 0 ↔ b = c := ⟨fun h => by
    have h1 : (b ^^^ c) ^^^ c = b := by rw [Nat.xor_assoc, Nat.xor_self, Nat.xor_zero]
    rw [h, Nat.zero_xor] at h1
    exact h1.symm, fun h => by rw [h, Nat.xor_self]⟩
  rw [e2] at e
  omega

set_option maxHeartbeats 1000000 in
theorem eqb_ (w : World) {A B : Option Addr} {n c m d : Nat} {xs ys : List Int} (h : Rd .u8 w A n c xs) (k : Rd .u8 w B m d ys) (hx : Byt xs) (hy : Byt ys) :
    Calls Try.prog 57 #[.slice A n c, .slice B m d] w fun e w' => e = .returned (.bool (decide (xs = ys))) ∧ ∃ q, w' = w.drewN q := by
  have h1 := h.small
  have h2 := h.cap
  have h3 := h.mx
  have k1 := k.small
  have k2 := k.cap
  have k3 := k.mx
  have H := Aside.mk h
  have K := Aside.mk k
  have BX := Aside.mk hx
  have BY := Aside.mk hy
  clear h k hx hy
  by_cases hnm : n = m
  · subst hnm
    have hb : ((n : Int) == (n : Int)) = true := beq_self_eq_true _
    go_enter Try.func57, Try.ntmps57
    go_wp2_with fail
    go_loopw [6, 7] (fun v i wr => ∃ j q u, j ≤ n ∧ i = .int .i64 (j : Nat) ∧ v = .int .u8 u ∧ 0 ≤ u ∧ u < 256 ∧ wr = w.drewN q ∧ (u = 0 ↔ xs.take j = ys.take j)) (fun v i _ => n - (intOf i).toNat)
    case atStart => exact ⟨0, 0, 0, by omega, rfl, rfl, by omega, by omega, rfl, by simp⟩
    case round =>
      obtain ⟨j, q, u, hj, rfl, rfl, hu0, hu1, rfl, ht⟩ := hrel
      have T := Aside.mk ht
      clear ht
      by_cases cj : j < n
      · obtain ⟨b1, o1, rfl, hlt1, hc1⟩ := H.out.get cj
        obtain ⟨b2, o2, rfl, hlt2, hc2⟩ := K.out.get cj
        have S := Aside.mk (take_eq_step (xs := xs) (ys := ys) (j := j) (by rw [H.out.len]; exact cj) (by rw [K.out.len]; exact cj))
        have hx := BX.out.at_ j
        have hy := BY.out.at_ j
        generalize xs.getD j 0 = x at *
        generalize ys.getD j 0 = y at *
        obtain ⟨p1, p2, p3⟩ := or_xor_zero u x y hu0 hu1 hx.1 hx.2 hy.1 hy.2
        have P := Aside.mk p3
        have P1 := Aside.mk p1
        have P2 := Aside.mk p2
        clear p1 p2 p3
        go_wp2_with fail
        all_goals (
          go_quiet (fail)
          go_wp2_with fail
          go_round
          case rel => exact ⟨j + 1, _, _, by omega, by go_num, rfl, P1.out, P2.out, rfl, P.out.trans (by rw [S.out, T.out])⟩
          case measure => simp [intOf]; omega)
      · obtain rfl : j = n := by omega
        have hd : decide (j < j) = false := decide_eq_false cj
        have t := T.out
        rw [List.take_of_length_le (by rw [H.out.len]; omega), List.take_of_length_le (by rw [K.out.len]; omega)] at t
        have T' := Aside.mk t
        clear t T
        by_cases hxy : xs = ys
        · have hu := T'.out.2 hxy
          subst hu
          have D := Aside.mk hxy
          clear hxy
          go_wp2
          go_ret
          refine ⟨?_, _, rfl⟩
          rw [decide_eq_true D.out]
          rfl
        · have hu : (u == 0) = false := beq_eq_false_iff_ne.2 fun h => hxy (T'.out.1 h)
          have D := Aside.mk hxy
          clear hxy
          go_wp2
          go_ret
          refine ⟨?_, _, rfl⟩
          rw [decide_eq_false D.out]
          rfl
  · have hb : ((n : Int) != (m : Int)) = true := bne_iff_ne.2 (by omega)
    go_enter Try.func57, Try.ntmps57
    go_wp2
    go_ret
    refine ⟨?_, 0, rfl⟩
    have : ¬ (xs = ys) := fun h => hnm (by rw [← H.out.len, ← K.out.len, h])
    rw [decide_eq_false this]
    rfl
end Go.Proofs.Ytedbmpfjikaljaa
