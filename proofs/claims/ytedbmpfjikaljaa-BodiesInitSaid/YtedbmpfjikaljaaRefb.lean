/-
  Proved: what the reference's functions on numbers and pieces of bytes do to memory and what they answer. Conditions: rows are shorter than a million and one.
-/
import Derived.Test.YtedbmpfjikaljaaRefa
namespace Go.Proofs.Ytedbmpfjikaljaa
open Go.RowKit
set_option linter.unusedVariables false
set_option linter.unusedSimpArgs false
set_option linter.unusedSectionVars false
set_option maxRecDepth 100000

theorem rsize_ (w : World) (n : Int) : Calls Try.prog 77 #[.int .i64 n] w fun e w' => e = .returned (.bool (isSized n)) ∧ w = w' := by
  go_enter Try.func77, Try.ntmps77
  unfold isSized
  cases h1 : n == 1 <;> cases h2 : n == 2 <;> cases h4 : n == 4 <;> cases h8 : n == 8 <;> (go_wp2; go_ret; exact ⟨rfl, rfl⟩)

set_option maxHeartbeats 1000000 in
theorem rcut_ (w : World) {A : Option Addr} {n c : Nat} {xs : List Int} (h : Rd .u8 w A n c xs) (at_ : Nat) (h2 : at_ ≤ 1000000) (k : Int) (h3 : -1000000 ≤ k) (h4 : k ≤ 1000000) :
    Calls Try.prog 68 #[.slice A n c, .int .i64 at_, .int .i64 k] w fun e w' => Below w.heap.size w w' ∧
      if isWithin n at_ k = true then ∃ A' c', e = .returned (.tuple #[.slice A' k.toNat c', .bool true]) ∧ Own w' w.heap.size A' k.toNat c' ((xs.drop at_).take k.toNat)
      else e = .returned (.tuple #[.slice none 0 0, .bool false]) := by
  have hn := h.small
  have hcap := h.cap
  have hmx := h.mx
  by_cases e2 : k < 0
  · have hw : isWithin n at_ k = false := by
      unfold isWithin
      rw [decide_eq_false (show ¬ (0 ≤ k) by omega)]
      simp
    rw [hw]
    have hd : decide (k < 0) = true := decide_eq_true e2
    clear h hw
    go_enter Try.func68, Try.ntmps68
    go_wp2
    go_ret2
    exact ⟨Below.refl _ _, rfl⟩
  · obtain ⟨m, rfl⟩ := Int.eq_ofNat_of_zero_le (show 0 ≤ k by omega)
    by_cases e3 : n < at_
    · have hw : isWithin n at_ m = false := by
        unfold isWithin
        rw [decide_eq_false (show ¬ ((at_ : Int) ≤ n) by omega)]
        simp
      rw [hw]
      have hd : decide (n < at_) = true := decide_eq_true e3
      clear h hw
      go_enter Try.func68, Try.ntmps68
      go_wp2
      go_ret2
      exact ⟨Below.refl _ _, rfl⟩
    · have hd3 : decide (n < at_) = false := decide_eq_false e3
      by_cases e4 : (n : Int) - at_ < m
      · have hw : isWithin n at_ m = false := by
          unfold isWithin
          rw [decide_eq_false (show ¬ ((m : Int) ≤ n - at_) by omega)]
          simp
        rw [hw]
        have hd : decide ((n : Int) - at_ < m) = true := decide_eq_true e4
        clear h hw
        go_enter Try.func68, Try.ntmps68
        go_wp2
        go_ret2
        exact ⟨Below.refl _ _, rfl⟩
      · have hd4 : decide ((n : Int) - at_ < m) = false := decide_eq_false e4
        have hw : isWithin n at_ m = true := by
          unfold isWithin
          simp
          omega
        rw [hw]
        have hnm : at_ + m ≤ n := by omega
        have arm : ∀ (A2 : Option Addr) (c2 : Nat), Rd .u8 w A2 m c2 ((xs.drop at_).take m) → Calls Try.prog 56 #[.slice A2 m c2] w fun e w' => ∃ A' c', e = .returned (.slice A' m c') ∧ Own w' w.heap.size A' m c' ((xs.drop at_).take m) ∧ Below w.heap.size w w' := fun A2 c2 h => copy_ w h
        have H1 := h.sub at_ m hnm
        by_cases hca : c = at_
        · subst hca
          obtain rfl : m = 0 := by omega
          have C1 := Aside.mk (arm A 0 ⟨H1.len, by omega, by omega, by omega, fun i x hx => by simp at hx⟩)
          clear H1 arm h hw
          go_enter Try.func68, Try.ntmps68
          go_wp2_with fail
          all_goals (
            refine C1.out.mono ?_
            rintro e w2 ⟨A', c', rfl, o', b'⟩
            have O' := Aside.mk o'
            have B' := Aside.mk b'
            clear o' b'
            go_wp2_with fail
            go_ret2
            refine ⟨B'.out, ?_⟩
            try rw [if_pos rfl]
            exact ⟨A', c', rfl, O'.out⟩)
        · have C1 := Aside.mk (arm _ _ H1)
          clear H1 arm h hw
          go_enter Try.func68, Try.ntmps68
          go_wp2_with fail
          all_goals (
            refine C1.out.mono ?_
            rintro e w2 ⟨A', c', rfl, o', b'⟩
            have O' := Aside.mk o'
            have B' := Aside.mk b'
            clear o' b'
            go_wp2_with fail
            go_ret2
            refine ⟨B'.out, ?_⟩
            try rw [if_pos rfl]
            exact ⟨A', c', rfl, O'.out⟩)

set_option maxHeartbeats 1000000 in
theorem rget_ (w : World) {A : Option Addr} {n c : Nat} {xs : List Int} (h : Rd .u8 w A n c xs) (hy : Byt xs) (at_ : Nat) (h2 : at_ ≤ 1000000) (s : Nat) (hs : isSized s = true) :
    Calls Try.prog 76 #[.slice A n c, .int .i64 at_, .int .i64 s] w fun e w' => e = .returned (.tuple #[.int .u64 (gt xs at_ s), .int .i64 (if at_ + s ≤ n then 0 else 1)]) ∧ Below w.heap.size w w' := by
  have hs8 : s ≤ 8 ∧ 1 ≤ s := by
    simp [isSized] at hs
    omega
  have hn := h.small
  have hcap := h.cap
  have hmx := h.mx
  have S := Aside.mk (rsize_ · s)
  rw [hs] at S
  have C := rcut_ w h at_ h2 s (by omega) (by omega)
  have hw : isWithin n at_ s = decide (at_ + s ≤ n) := by
    unfold isWithin
    rw [Bool.eq_iff_iff]
    simp
    omega
  rw [hw] at C
  have hl := h.len
  have Y := Aside.mk hy
  clear hs hw h hy
  by_cases cw : at_ + s ≤ n
  · have hgt : gt xs at_ s = num ((xs.drop at_).take s) := if_pos (by rw [hl]; exact cw)
    rw [hgt, if_pos cw]
    rw [decide_eq_true cw, Int.toNat_natCast] at C
    simp only [if_true] at C
    have C := Aside.mk C
    have hll : ((xs.drop at_).take s).length = s := by rw [List.length_take, List.length_drop]; omega
    have Y2 := Aside.mk ((Y.out.drop at_).take s)
    clear Y hgt
    generalize (xs.drop at_).take s = ys at *
    go_enter Try.func76, Try.ntmps76
    go_wp2_with fail
    refine C.out.mono ?_
    rintro e w2 ⟨b1, A', c', rfl, o1⟩
    have B1 := Aside.mk b1
    have R := Aside.mk (o1.rd (by omega))
    have hc1 := R.out.cap
    have hm1 := R.out.mx
    clear b1 o1 C
    go_wp2_with fail
    refine (S.out _).mono ?_
    rintro e w2 ⟨rfl, rfl⟩
    go_wp2_with fail
    go_loop [10, 11] (fun v i => ∃ j : Nat, j ≤ s ∧ i = .int .i64 j ∧ v = .int .u64 (num (ys.take j))) (fun v i => s - (intOf i).toNat)
    case atStart => exact ⟨0, by omega, rfl, rfl⟩
    case round =>
      obtain ⟨j, hj, rfl, rfl⟩ := hrel
      by_cases cj : j < s
      · obtain ⟨b, o, rfl, hlt, hc⟩ := R.out.get cj
        have hbd : 0 ≤ num (ys.take j) ∧ num (ys.take j) < 72057594037927936 := by
          have h1 := num_bound Y2.out j
          have h2 := p256 j (by omega)
          omega
        have hbj := Y2.out.at_ j
        have T := Aside.mk (num_take ys j (by rw [hll]; exact cj))
        generalize num (ys.take j) = x at *
        generalize ys.getD j 0 = y at *
        go_wp2
        go_round
        case rel =>
          refine ⟨j + 1, by omega, by go_num, ?_⟩
          rw [T.out, Int.mul_comm]
        case measure => simp [intOf]; omega
      · obtain rfl : j = s := by omega
        have hd : decide (j < j) = false := decide_eq_false cj
        have ht := List.take_of_length_le (show ys.length ≤ j by omega)
        rw [ht]
        clear ht
        go_wp2
        go_ret2
        exact ⟨rfl, B1.out⟩
  · have hgt : gt xs at_ s = 0 := if_neg (by rw [hl]; exact cw)
    rw [hgt, if_neg cw]
    rw [decide_eq_false cw] at C
    simp only [Bool.false_eq_true, if_false] at C
    have C := Aside.mk C
    clear hgt
    go_enter Try.func76, Try.ntmps76
    go_wp2_with fail
    refine C.out.mono ?_
    rintro e w2 ⟨b1, rfl⟩
    have B1 := Aside.mk b1
    clear b1
    go_wp2_with fail
    refine (S.out _).mono ?_
    rintro e w2 ⟨rfl, rfl⟩
    go_wp2_with fail
    go_ret2
    exact ⟨rfl, B1.out⟩

theorem number_ (w : World) {A : Option Addr} {n c : Nat} {xs : List Int} (h : Rd .u8 w A n c xs) (hy : Byt xs) (at_ : Nat) (h2 : at_ ≤ 1000000) (s : Nat) (hs : isSized s = true) :
    Calls Try.prog 55 #[.slice A n c, .int .i64 at_, .int .i64 s] w fun e w' => e = .returned (.int .u64 (gt xs at_ s)) ∧ Below w.heap.size w w' := by
  have C := Aside.mk (rget_ w h hy at_ h2 s hs)
  clear h hy hs
  go_enter Try.func55, Try.ntmps55
  go_wp2_with fail
  refine C.out.mono ?_
  rintro e w2 ⟨rfl, b1⟩
  have B1 := Aside.mk b1
  clear b1
  go_wp2_with fail
  all_goals (
    go_ret
    exact ⟨rfl, B1.out⟩)

set_option maxHeartbeats 1000000 in
theorem rput_ (w : World) {A : Option Addr} {n c : Nat} {xs : List Int} (h : Rd .u8 w A n c xs) (hn : n ≤ 900000) (x : Int) (hx0 : 0 ≤ x) (hx1 : x < 18446744073709551616) (s : Nat) (hs : isSized s = true) :
    Calls Try.prog 58 #[.slice A n c, .int .u64 x, .int .i64 s] w fun e w' => ∃ A' c', e = .returned (.slice A' (n + s) c') ∧ Own w' w.heap.size A' (n + s) c' (xs ++ be s x) ∧ Below w.heap.size w w' := by
  have hs8 : s ≤ 8 ∧ 1 ≤ s := by
    simp [isSized] at hs
    omega
  have C := Aside.mk (copy_ w h)
  have S := Aside.mk (rsize_ · s)
  rw [hs] at S
  clear h hs
  go_enter Try.func58, Try.ntmps58
  go_wp2_with fail
  refine C.out.mono ?_
  rintro e w1 ⟨A1, c1, rfl, o1, b1⟩
  have O1 := Aside.mk o1
  have B1 := Aside.mk b1
  clear o1 b1 C
  go_wp2_with fail
  refine (S.out _).mono ?_
  rintro e w2 ⟨rfl, rfl⟩
  go_wp2_with fail
  go_loopw [7, 8] (fun v i wr => ∃ k A' c', k ≤ s ∧ i = .int .i64 ((k : Nat) - 1 : Int) ∧ v = .slice A' (n + (s - k)) c' ∧ Own wr w.heap.size A' (n + (s - k)) c' (xs ++ (be s x).take (s - k)) ∧ Below w.heap.size w wr) (fun v i _ => (intOf i + 1).toNat)
  case atStart => exact ⟨s, A1, c1, by omega, rfl, by simp, by simpa using O1.out, B1.out⟩
  case round =>
    obtain ⟨k, A', c', hk, rfl, rfl, ho, hb⟩ := hrel
    have O := Aside.mk ho
    have B := Aside.mk hb
    clear ho hb
    rcases k with _ | k
    · rw [List.take_of_length_le (by rw [be_len]; omega), Nat.sub_zero] at O
      go_wp2
      go_ret
      exact ⟨A', c', rfl, O.out, B.out⟩
    · have ek : (((k + 1 : Nat) : Int) - 1) = (k : Int) := by omega
      rw [ek]
      have hks : s - 1 - (s - (k + 1)) = k := by omega
      obtain ⟨A2, c2, w2, hrun, hown, hg⟩ := append_run ((O.out).below (below_alloc wr (.cells #[.int .u8 (x / 2 ^ (8 * k) % 256)] 5))) (by have := (B.out).size; simp; omega) (rd_one wr (x / 2 ^ (8 * k) % 256)) (by omega)
      have ht := be_take s x (s - (k + 1)) (by omega)
      rw [hks] at ht
      rw [List.append_assoc, ← ht] at hown
      have hb2 : Below w.heap.size w w2 := below_grown ((B.out).alloc (B.out).size _) hg (fun g hg => (O.out).base_le hg) (by have := (B.out).size; simp; omega)
      have e2 : s - (k + 1) + 1 = s - k := by omega
      rw [Nat.add_assoc, e2] at hown hrun
      have R := Aside.mk hrun
      have O2 := Aside.mk hown
      have B2 := Aside.mk hb2
      clear hrun hown hg hb2 ht hks ek e2
      go_wp2_with (at_builtin; refine wpList_append_run 22 _ _ _ _ rfl rfl rfl rfl R.out ?_)
      go_round
      case rel => exact ⟨k, A2, c2, by omega, by go_num, rfl, O2.out, B2.out⟩
      case measure => simp [intOf]

set_option maxHeartbeats 1000000 in
theorem rround_ (w : World) (n : Nat) (h : n ≤ 1000000) : Calls Try.prog 78 #[.int .i64 n] w fun e w' => e = .returned (.int .i64 (rnd n : Nat)) ∧ w = w' := by
  have hr : n ≤ rnd n ∧ rnd n ≤ n + 3 ∧ rnd n % 4 = 0 := by unfold rnd; omega
  generalize rnd n = r at *
  go_enter Try.func78, Try.ntmps78
  go_wp2_with fail
  go_loop [0] (fun i => ∃ j : Nat, n ≤ j ∧ j ≤ r ∧ i = .int .i64 j) (fun i => r - (intOf i).toNat)
  case atStart => exact ⟨n, by omega, by omega, rfl⟩
  case round =>
    obtain ⟨j, hj, hj2, rfl⟩ := hrel
    have hm : ((j : Int).tmod 4) = ((j % 4 : Nat) : Int) := by
      rw [Int.tmod_eq_emod_of_nonneg (by omega)]
      omega
    by_cases cj : j = r
    · subst cj
      have hz : (j : Int).tmod 4 = 0 := by omega
      go_wp2
      go_ret
      exact ⟨rfl, rfl⟩
    · have hz : ((j : Int).tmod 4 != 0) = true := bne_iff_ne.2 (by omega)
      go_wp2
      go_round
      case rel => exact ⟨j + 1, by omega, by omega, by go_num⟩
      case measure => simp [intOf]; omega

def lenOf_ : Value → Nat
  | .slice _ n _ => n
  | _ => 0

set_option maxHeartbeats 1000000 in
theorem rpad_ (w : World) {A : Option Addr} {n c : Nat} {xs : List Int} (h : Rd .u8 w A n c xs) (hn : n ≤ 900000) :
    Calls Try.prog 69 #[.slice A n c] w fun e w' => ∃ A' c', e = .returned (.slice A' (rnd n) c') ∧ Own w' w.heap.size A' (rnd n) c' (xs ++ List.replicate (rnd n - n) 0) ∧ Below w.heap.size w w' := by
  have hr : n ≤ rnd n ∧ rnd n ≤ n + 3 := by unfold rnd; omega
  have C := Aside.mk (copy_ w h)
  have R := Aside.mk (rround_ · n (by omega))
  clear h
  generalize hm : rnd n - n = m
  generalize rnd n = r at *
  obtain rfl : r = n + m := by omega
  go_enter Try.func69, Try.ntmps69
  go_wp2_with fail
  refine C.out.mono ?_
  rintro e w1 ⟨A1, c1, rfl, o1, b1⟩
  have O1 := Aside.mk o1
  have B1 := Aside.mk b1
  clear o1 b1 C
  go_wp2_with fail
  go_loopw [3] (fun v wr => ∃ j A' c', j ≤ m ∧ v = .slice A' (n + j) c' ∧ Own wr w.heap.size A' (n + j) c' (xs ++ List.replicate j 0) ∧ Below w.heap.size w wr) (fun v _ => n + m - lenOf_ v)
  case atStart => exact ⟨0, A1, c1, by omega, rfl, by simpa using O1.out, B1.out⟩
  case round =>
    obtain ⟨j, A', c', hj, rfl, ho, hb⟩ := hrel
    have O := Aside.mk ho
    have B := Aside.mk hb
    clear ho hb
    by_cases cj : j < m
    · obtain ⟨A2, c2, w2, hrun, hown, hg⟩ := append_run ((O.out).below (below_alloc wr (.cells #[.int .u8 0] 5))) (by have := (B.out).size; simp; omega) (rd_one wr 0) (by omega)
      have hb2 : Below w.heap.size w w2 := below_grown ((B.out).alloc (B.out).size _) hg (fun g hg => (O.out).base_le hg) (by have := (B.out).size; simp; omega)
      rw [List.append_assoc, show List.replicate j (0 : Int) ++ [0] = List.replicate (j + 1) 0 by rw [List.replicate_succ']] at hown
      have AR := Aside.mk hrun
      have O2 := Aside.mk hown
      have B2 := Aside.mk hb2
      clear hrun hown hg hb2
      have hd : decide ((n : Int) + j < n + m) = true := decide_eq_true (by omega)
      go_wp2_with fail
      refine (R.out _).mono ?_
      rintro e w3 ⟨rfl, rfl⟩
      go_wp2_with (at_builtin; refine wpList_append_run 22 _ _ _ _ rfl rfl rfl rfl AR.out ?_)
      go_round
      case rel => exact ⟨j + 1, A2, c2, by omega, by rw [Nat.add_assoc], by rw [← Nat.add_assoc]; exact O2.out, B2.out⟩
      case measure => simp [lenOf_]; omega
    · obtain rfl : j = m := by omega
      have hd : decide ((n : Int) + j < n + j) = false := decide_eq_false (by omega)
      go_wp2_with fail
      refine (R.out _).mono ?_
      rintro e w3 ⟨rfl, rfl⟩
      go_wp2
      go_ret
      exact ⟨A', c', rfl, O.out, B.out⟩
end Go.Proofs.Ytedbmpfjikaljaa
