/-
  Proved: what the program's functions on numbers and pieces of bytes do to memory and what they answer. Conditions: rows are shorter than a million and one.
-/
import Derived.Test.YtedbmpfjikaljaaBase
import Derived.Laws.Bits64b
namespace Go.Proofs.Ytedbmpfjikaljaa
open Go.RowKit
set_option linter.unusedVariables false
set_option linter.unusedSimpArgs false
set_option linter.unusedSectionVars false
set_option maxRecDepth 100000

def isSized (n : Int) : Bool := n == 1 || n == 2 || n == 4 || n == 8
theorem sized_ (w : World) (n : Int) : Calls Try.prog 79 #[.int .i64 n] w fun e w' => e = .returned (.bool (isSized n)) ∧ w = w' := by
  go_enter Try.func79, Try.ntmps79
  unfold isSized
  cases h1 : n == 1 <;> cases h2 : n == 2 <;> cases h4 : n == 4 <;> cases h8 : n == 8 <;> (go_wp2; go_ret; exact ⟨rfl, rfl⟩)

/-- A number's bytes, its highest one first. -/
def be : Nat → Int → List Int
  | 0, _ => []
  | n + 1, x => (x / 2 ^ (8 * n)) % 256 :: be n x
theorem be_len : ∀ (n : Nat) (x : Int), (be n x).length = n
  | 0, _ => rfl
  | n + 1, x => by simp [be, be_len n x]
theorem be_at : ∀ (n : Nat) (x : Int) (j : Nat), j < n → (be n x)[j]? = some ((x / 2 ^ (8 * (n - 1 - j))) % 256)
  | 0, x, j, h => by omega
  | n + 1, x, 0, h => by simp [be]
  | n + 1, x, j + 1, h => by
    have := be_at n x j (by omega)
    simp only [be, List.getElem?_cons_succ, this]
    rw [show n + 1 - 1 - (j + 1) = n - 1 - j by omega]
theorem be_take (n : Nat) (x : Int) (j : Nat) (h : j < n) : (be n x).take (j + 1) = (be n x).take j ++ [(x / 2 ^ (8 * (n - 1 - j))) % 256] := by
  rw [List.take_add_one, be_at n x j h]
  rfl

theorem below_alloc (w : World) (o : Obj) : Below w.heap.size w (w.alloc o) := (Below.refl _ w).alloc (Nat.le_refl _) o
theorem below_grown {B : Nat} {w w1 w2 : World} {r : Option Nat} (h : Below B w w1) (k : w1.grownBy w2 r) (hr : ∀ g, r = some g → B ≤ g) (hB : B ≤ w1.heap.size) : Below B w w2 :=
  ⟨k.os.trans h.os, k.tape.trans h.tape, k.output.trans h.output, Nat.le_trans h.size k.size, fun i hi => (k.block i (by omega) (fun e => by have := hr i e.symm; omega)).trans (h.block i hi)⟩
theorem own_empty (w : World) : Own (w.alloc (.cells #[] 5)) w.heap.size (some ⟨w.heap.size, 0, none⟩) 0 0 [] :=
  ⟨⟨rfl, .inr ⟨_, 0, #[], rfl, Nat.le_refl _, heap_alloc_new w _, Nat.le_refl _, by unfold maxLen; omega, rfl, rfl⟩⟩, u8_new (fun v hv => by simp at hv)⟩
theorem rd_one (w : World) (x : Int) : Rd .u8 (w.alloc (.cells #[.int .u8 x] 5)) (some ⟨w.heap.size, 0, none⟩) 1 1 [x] :=
  ⟨rfl, by omega, by omega, by omega, fun i y h => ⟨w.heap.size, 0, rfl, by simp, by
    have h0 : i = 0 := by have := (List.getElem?_eq_some_iff.1 h).1; simp at this; omega
    subst h0
    simp at h
    subst h
    rw [blk_cell (heap_alloc_new w _)]
    rfl⟩⟩
theorem Own.base_le {w : World} {base : Nat} {A : Option Addr} {n c : Nat} {xs : List Int} (h : Own w base A n c xs) {g : Nat} (hg : (Value.slice A n c).ownBlock = some g) : base ≤ g := by
  rcases h.row.2 with ⟨hv, _⟩ | ⟨g', cap, cur, hv, hb, _⟩
  · rw [hv] at hg
    simp [Value.ownBlock] at hg
  · rw [hv] at hg
    simp [Value.ownBlock] at hg
    omega
theorem run_eql_some {P : Program} (w : World) {t e : TypeId} (a : Addr) (n c : Nat) (ht : P.underlying t = some (.slice e)) :
    (binOp .eql t (.slice (some a) n c) (.slice none 0 0)).run P w = .ok (.bool false) w := by
  have h : ∀ d : Nat, (Op.equalIn (d + 1) t (.slice (some a) n c) (.slice none 0 0)).run P w = .ok false w := fun d => by
    simp [Op.equalIn, run_underlying ht]
  simp only [binOp]
  simp [Op.equal, Op.maxDepth, h 9999]
theorem run_eql_none {P : Program} (w : World) {t e : TypeId} (n c : Nat) (ht : P.underlying t = some (.slice e)) :
    (binOp .eql t (.slice none n c) (.slice none 0 0)).run P w = .ok (.bool true) w := by
  have h : ∀ d : Nat, (Op.equalIn (d + 1) t (.slice none n c) (.slice none 0 0)).run P w = .ok true w := fun d => by
    simp [Op.equalIn, run_underlying ht]
  simp only [binOp]
  simp [Op.equal, Op.maxDepth, h 9999]

theorem clone_ (w : World) {A : Option Addr} {n c : Nat} {xs : List Int} (h : Rd .u8 w A n c xs) :
    Calls Try.prog 71 #[.slice A n c] w fun e w' => ∃ A' c', e = .returned (.slice A' n c') ∧ Own w' w.heap.size A' n c' xs ∧ Below w.heap.size w w' := by
  have H := Aside.mk h
  rcases A with _ | a
  · have h0 : n = 0 := by
      rcases Nat.eq_zero_or_pos n with h0 | h0
      · exact h0
      · obtain ⟨b, o, hA, _⟩ := h.get h0
        cases hA
    have hnil : xs = [] := List.eq_nil_of_length_eq_zero (by rw [h.len, h0])
    subst h0 hnil
    clear h
    have hnil : ∀ W, (binOp .eql 22 (.slice none 0 c) (.slice none 0 0)).run Try.prog W = .ok (.bool true) W := fun W => run_eql_none W 0 c Try.underlying22
    go_enter Try.func71, Try.ntmps71
    go_wp2
    go_ret
    exact ⟨none, 0, rfl, own_nil _ _, Below.refl _ _⟩
  · clear h
    have hnil : ∀ W, (binOp .eql 22 (.slice (some a) n c) (.slice none 0 0)).run Try.prog W = .ok (.bool false) W := fun W => run_eql_some W a n c Try.underlying22
    have o0 : Own (w.alloc (.cells #[] 5)) w.heap.size (some ⟨w.heap.size, 0, none⟩) 0 0 [] := own_empty w
    obtain ⟨A', c', w', hrun, hown, hg⟩ := append_run o0 (by simp) ((H.out).below (below_alloc w _)) (by omega)
    rw [Nat.zero_add, List.nil_append] at hown
    rw [Nat.zero_add] at hrun
    have R := Aside.mk hrun
    have O := Aside.mk hown
    have B := Aside.mk (below_grown (below_alloc w (.cells #[] 5)) hg (fun g hg => by simp [Value.ownBlock] at hg; omega) (by simp))
    clear o0 hrun hown hg
    go_enter Try.func71, Try.ntmps71
    go_wp2_with (at_builtin; refine wpList_append_run 22 _ _ _ _ rfl rfl rfl rfl R.out ?_)
    go_ret
    exact ⟨A', c', rfl, O.out, B.out⟩

set_option maxHeartbeats 1000000 in
theorem oput_ (w : World) {A : Option Addr} {n c : Nat} {xs : List Int} (h : Rd .u8 w A n c xs) (hn : n ≤ 900000) (x : Int) (hx0 : 0 ≤ x) (hx1 : x < 18446744073709551616) (s : Nat) (hs : isSized s = true) :
    Calls Try.prog 70 #[.slice A n c, .int .u64 x, .int .i64 s] w fun e w' => ∃ A' c', e = .returned (.slice A' (n + s) c') ∧ Own w' w.heap.size A' (n + s) c' (xs ++ be s x) ∧ Below w.heap.size w w' := by
  have hs8 : s ≤ 8 ∧ 1 ≤ s := by
    simp [isSized] at hs
    omega
  have C := Aside.mk (clone_ w h)
  have S := Aside.mk (sized_ · s)
  rw [hs] at S
  clear h hs
  go_enter Try.func70, Try.ntmps70
  go_wp2_with fail
  refine C.out.mono ?_
  rintro e w1 ⟨A1, c1, rfl, o1, b1⟩
  have O1 := Aside.mk o1
  have B1 := Aside.mk b1
  clear o1 b1 C
  go_wp2_with fail
  refine (S.out _).mono ?_
  rintro e w2 ⟨rfl, rfl⟩
  go_wp2_with fail
  go_loopw [7, 16] (fun v i wr => ∃ j A' c', j ≤ s ∧ i = .int .i64 (j : Nat) ∧ v = .slice A' (n + j) c' ∧ Own wr w.heap.size A' (n + j) c' (xs ++ (be s x).take j) ∧ Below w.heap.size w wr) (fun v i _ => s - (intOf i).toNat)
  case atStart => exact ⟨0, A1, c1, by omega, rfl, rfl, by simpa using O1.out, B1.out⟩
  case round =>
    obtain ⟨j, A', c', hj, rfl, rfl, ho, hb⟩ := hrel
    have O := Aside.mk ho
    have B := Aside.mk hb
    clear ho hb
    by_cases cj : j < s
    · obtain ⟨A2, c2, w2, hrun, hown, hg⟩ := append_run ((O.out).below (below_alloc wr (.cells #[.int .u8 (x / 2 ^ (8 * (s - 1 - j)) % 256)] 5))) (by have := (B.out).size; simp; omega) (rd_one wr (x / 2 ^ (8 * (s - 1 - j)) % 256)) (by omega)
      rw [List.append_assoc, ← be_take s x j cj] at hown
      have hb2 : Below w.heap.size w w2 := below_grown ((B.out).alloc (B.out).size _) hg (fun g hg => (O.out).base_le hg) (by have := (B.out).size; simp; omega)
      have R := Aside.mk hrun
      have O2 := Aside.mk hown
      have B2 := Aside.mk hb2
      clear hrun hown hg hb2
      go_wp2_with (at_builtin; refine wpList_append_run 22 _ _ _ _ rfl rfl rfl rfl R.out ?_)
      go_round
      case rel => exact ⟨j + 1, A2, c2, by omega, by go_num, by rw [Nat.add_assoc], by rw [← Nat.add_assoc]; exact O2.out, B2.out⟩
      case measure => simp [intOf]; omega
    · obtain rfl : j = s := by omega
      have hd : decide (j < j) = false := decide_eq_false cj
      rw [List.take_of_length_le (by rw [be_len]; omega)] at O
      go_wp2
      go_ret
      exact ⟨A', c', rfl, O.out, B.out⟩

def bes (s : Nat) (ys : List Int) : List Int := ys.flatMap (be s)
theorem bes_len (s : Nat) (ys : List Int) : (bes s ys).length = ys.length * s := by
  induction ys with
  | nil => simp [bes]
  | cons y ys ih => simp [bes, be_len] at ih ⊢; rw [Nat.add_mul]; omega
theorem bes_take (s : Nat) (ys : List Int) (j : Nat) (h : j < ys.length) : bes s (ys.take (j + 1)) = bes s (ys.take j) ++ be s (ys.getD j 0) := by
  unfold bes
  rw [List.take_add_one, List.flatMap_append, List.getD_eq_getElem?_getD, List.getElem?_eq_getElem h]
  simp

set_option maxHeartbeats 1000000 in
theorem put_ (w : World) {base : Nat} {A : Option Addr} {n c : Nat} {xs : List Int} (h : Own w base A n c xs) (hb : base ≤ w.heap.size) (hn : n ≤ 800000) {B : Option Addr} {m d : Nat} {ys : List Int} (hl : Rd .u64 w B m d ys)
    (hy : ∀ i, 0 ≤ ys.getD i 0 ∧ ys.getD i 0 < 18446744073709551616) (hm : m ≤ 2) (s : Nat) (hs : isSized s = true) :
    Calls Try.prog 48 #[.slice A n c, .int .i64 s, .slice B m d] w fun e w' => ∃ A' c', e = .returned (.slice A' (n + m * s) c') ∧ Own w' base A' (n + m * s) c' (xs ++ bes s ys) ∧ Below w.heap.size w w' := by
  have hs8 : s ≤ 8 ∧ 1 ≤ s := by
    simp [isSized] at hs
    omega
  have hc0 := hl.cap
  have hm0 := hl.mx
  have O := Aside.mk h
  have L := Aside.mk hl
  have Y := Aside.mk hy
  have S := Aside.mk hs
  clear h hl hy hs
  go_enter Try.func48, Try.ntmps48
  go_wp2_with fail
  go_loopw [0, 11] (fun v i wr => ∃ j A' c', j ≤ m ∧ i = .int .i64 (j : Nat) ∧ v = .slice A' (n + j * s) c' ∧ Own wr base A' (n + j * s) c' (xs ++ bes s (ys.take j)) ∧ Below w.heap.size w wr) (fun v i _ => m - (intOf i).toNat)
  case atStart => exact ⟨0, A, c, by omega, rfl, by simp, by simpa [bes] using O.out, Below.refl _ _⟩
  case round =>
    obtain ⟨j, A', c', hj, rfl, rfl, ho, hb1⟩ := hrel
    by_cases cj : j < m
    · obtain ⟨b, o, rfl, hlt, hc⟩ := (L.out.below hb1).get cj
      have hjs : j * s ≤ 8 := by
        have : j ≤ 1 := by omega
        have := Nat.mul_le_mul this hs8.1
        omega
      have C := Aside.mk (oput_ wr (ho.rd (by omega)) (by omega) _ (Y.out j).1 (Y.out j).2 s S.out)
      have B1 := Aside.mk hb1
      have hz := hb1.size
      clear ho hb1
      generalize hyj : ys.getD j 0 = y at hc C
      have HY := Aside.mk hyj
      clear hyj
      go_wp2_with fail
      refine C.out.mono ?_
      rintro e w2 ⟨A2, c2, rfl, o2, b2⟩
      have O2 := Aside.mk o2
      have B2 := Aside.mk b2
      clear o2 b2
      go_wp2_with fail
      go_round
      case rel =>
        refine ⟨j + 1, A2, c2, by omega, by go_num, by rw [Nat.add_mul, Nat.one_mul, Nat.add_assoc], ?_, below_then B1.out B2.out hz⟩
        rw [bes_take s ys j (by rw [L.out.len]; exact cj), HY.out, ← List.append_assoc, Nat.add_mul, Nat.one_mul, ← Nat.add_assoc]
        exact O2.out.mono (by omega)
      case measure => simp [intOf]; omega
    · obtain rfl : j = m := by omega
      have hd : decide (j < j) = false := decide_eq_false cj
      rw [List.take_of_length_le (by rw [L.out.len]; omega)] at ho
      have O1 := Aside.mk ho
      have B1 := Aside.mk hb1
      clear ho hb1
      go_wp2
      go_ret
      exact ⟨A', c', rfl, O1.out, B1.out⟩

/-! ### Reading -/
def isWithin (n : Nat) (at_ k : Int) : Bool := decide (0 ≤ at_) && decide (0 ≤ k) && decide (at_ ≤ n) && decide (k ≤ n - at_)
theorem within_ (w : World) {A : Option Addr} {n c : Nat} (hn : n ≤ 1000000) (at_ k : Int) (h1 : -1000000 ≤ at_) (h2 : at_ ≤ 1000000) (h3 : -1000000 ≤ k) (h4 : k ≤ 1000000) :
    Calls Try.prog 80 #[.slice A n c, .int .i64 at_, .int .i64 k] w fun e w' => e = .returned (.bool (isWithin n at_ k)) ∧ w = w' := by
  unfold isWithin
  go_enter Try.func80, Try.ntmps80
  cases e1 : decide (0 ≤ at_)
  · go_wp2
    go_ret
    exact ⟨rfl, rfl⟩
  · cases e2 : decide (0 ≤ k)
    · go_wp2
      go_ret
      exact ⟨rfl, rfl⟩
    · cases e3 : decide (at_ ≤ (n : Int))
      · go_wp2
        go_ret
        exact ⟨rfl, rfl⟩
      · cases e4 : decide (k ≤ (n : Int) - at_)
        · go_wp2
          go_ret
          exact ⟨rfl, rfl⟩
        · go_wp2
          go_ret
          exact ⟨rfl, rfl⟩

def num (l : List Int) : Int := l.foldl (fun x b => x * 256 + b) 0
def Byt (xs : List Int) : Prop := ∀ x ∈ xs, 0 ≤ x ∧ x < 256
def gt (xs : List Int) (at_ s : Nat) : Int := if at_ + s ≤ xs.length then num ((xs.drop at_).take s) else 0

theorem num_snoc (l : List Int) (x : Int) : num (l ++ [x]) = num l * 256 + x := by simp [num]
theorem num_take (l : List Int) (j : Nat) (h : j < l.length) : num (l.take (j + 1)) = num (l.take j) * 256 + l.getD j 0 := by
  rw [List.take_add_one, List.getD_eq_getElem?_getD, List.getElem?_eq_getElem h]
  exact num_snoc _ _
theorem Byt.at_ {xs : List Int} (h : Byt xs) (j : Nat) : 0 ≤ xs.getD j 0 ∧ xs.getD j 0 < 256 := by
  rw [List.getD_eq_getElem?_getD]
  rcases Nat.lt_or_ge j xs.length with hj | hj
  · rw [List.getElem?_eq_getElem hj]
    exact h _ (List.getElem_mem hj)
  · rw [List.getElem?_eq_none hj]
    exact ⟨by decide, by decide⟩
theorem Byt.drop {xs : List Int} (h : Byt xs) (j : Nat) : Byt (xs.drop j) := fun x hx => h x (List.mem_of_mem_drop hx)
theorem Byt.take {xs : List Int} (h : Byt xs) (j : Nat) : Byt (xs.take j) := fun x hx => h x (List.mem_of_mem_take hx)
theorem num_bound {l : List Int} (h : Byt l) : ∀ j : Nat, 0 ≤ num (l.take j) ∧ num (l.take j) < 256 ^ j
  | 0 => by simp [num]
  | j + 1 => by
    have ih := num_bound h j
    rcases Nat.lt_or_ge j l.length with hj | hj
    · rw [num_take l j hj, Int.pow_succ]
      have := h.at_ j
      omega
    · rw [List.take_of_length_le hj] at ih
      rw [List.take_of_length_le (by omega), Int.pow_succ]
      omega
theorem p256 (j : Nat) (h : j < 8) : (256 : Int) ^ j ≤ 72057594037927936 := by
  rcases (show j = 0 ∨ j = 1 ∨ j = 2 ∨ j = 3 ∨ j = 4 ∨ j = 5 ∨ j = 6 ∨ j = 7 by omega) with rfl | rfl | rfl | rfl | rfl | rfl | rfl | rfl <;> decide
theorem or_byte (x b : Int) (h0 : 0 ≤ x) (h1 : x < 72057594037927936) (h2 : 0 ≤ b) (h3 : b < 256) : bits .or .u64 (x * 256) b = x * 256 + b := by
  obtain ⟨m, rfl⟩ := Int.eq_ofNat_of_zero_le h0
  obtain ⟨n, rfl⟩ := Int.eq_ofNat_of_zero_le h2
  have e : ((m : Int) * 256) = ((m * 256 : Nat) : Int) := by omega
  have o : m * 256 ||| n = m * 256 + n := by
    rw [show m * 256 = m <<< 8 by rw [Nat.shiftLeft_eq], Nat.shiftLeft_add_eq_or_of_lt (by omega)]
  rw [e, bits_or_u64_nat _ _ (by omega) (by omega), o]
  omega

set_option maxHeartbeats 1000000 in
theorem oget_ (w : World) {A : Option Addr} {n c : Nat} {xs : List Int} (h : Rd .u8 w A n c xs) (hy : Byt xs) (at_ : Nat) (h2 : at_ ≤ 1000000) (s : Nat) (hs : isSized s = true) :
    Calls Try.prog 73 #[.slice A n c, .int .i64 at_, .int .i64 s] w fun e w' => e = .returned (.tuple #[.int .u64 (gt xs at_ s), .int .i64 (if at_ + s ≤ n then 0 else 1)]) ∧ w = w' := by
  have hs8 : s ≤ 8 ∧ 1 ≤ s := by
    simp [isSized] at hs
    omega
  have hn := h.small
  have hcap := h.cap
  have hmx := h.mx
  have S := Aside.mk (sized_ · s)
  rw [hs] at S
  have W := Aside.mk (within_ · (A := A) (c := c) hn at_ s (by omega) (by omega) (by omega) (by omega))
  have hw : isWithin n at_ s = decide (at_ + s ≤ n) := by
    unfold isWithin
    rw [Bool.eq_iff_iff]
    simp
    omega
  rw [hw] at W
  have H := Aside.mk h
  have Y := Aside.mk hy
  clear hs hw h hy
  go_enter Try.func73, Try.ntmps73
  go_wp2_with fail
  refine (S.out _).mono ?_
  rintro e w2 ⟨rfl, rfl⟩
  by_cases cw : at_ + s ≤ n
  · rw [decide_eq_true cw] at W
    go_wp2_with fail
    refine (W.out _).mono ?_
    rintro e w2 ⟨rfl, rfl⟩
    go_wp2_with fail
    go_loop [6, 20] (fun v i => ∃ j : Nat, j ≤ s ∧ i = .int .i64 j ∧ v = .int .u64 (num ((xs.drop at_).take j))) (fun v i => s - (intOf i).toNat)
    case atStart => exact ⟨0, by omega, rfl, rfl⟩
    case round =>
      obtain ⟨j, hj, rfl, rfl⟩ := hrel
      by_cases cj : j < s
      · obtain ⟨b, o, rfl, hlt, hc⟩ := H.out.get (show at_ + j < n by omega)
        have hbd : 0 ≤ num ((xs.drop at_).take j) ∧ num ((xs.drop at_).take j) < 72057594037927936 := by
          have h1 := num_bound (Y.out.drop at_) j
          have h2 := p256 j (by omega)
          omega
        have hbj := Y.out.at_ (at_ + j)
        have hnt := num_take (xs.drop at_) j (by rw [List.length_drop, H.out.len]; omega)
        rw [show (xs.drop at_).getD j 0 = xs.getD (at_ + j) 0 by simp [List.getD_eq_getElem?_getD]] at hnt
        have T := Aside.mk hnt
        clear hnt
        generalize num ((xs.drop at_).take j) = x at *
        generalize xs.getD (at_ + j) 0 = y at *
        have hor := or_byte x y hbd.1 hbd.2 hbj.1 hbj.2
        go_wp2
        go_round
        case rel =>
          refine ⟨j + 1, by omega, by go_num, ?_⟩
          rw [T.out]
        case measure => simp [intOf]; omega
      · obtain rfl : j = s := by omega
        have hd : decide (j < j) = false := decide_eq_false cj
        go_wp2
        go_ret2
        refine ⟨?_, rfl⟩
        try rw [if_pos cw]
        unfold gt
        rw [if_pos (by rw [H.out.len]; exact cw)]
        rfl
  · rw [decide_eq_false cw] at W
    go_wp2_with fail
    refine (W.out _).mono ?_
    rintro e w2 ⟨rfl, rfl⟩
    go_wp2_with fail
    go_ret2
    refine ⟨?_, rfl⟩
    try rw [if_neg cw]
    unfold gt
    rw [if_neg (by rw [H.out.len]; exact cw)]
    rfl
end Go.Proofs.Ytedbmpfjikaljaa
