/-
  Proved: a row that a statement hands out with marks behind it, and whether such a row was kept. Conditions: rows are shorter than a hundred thousand.
-/
import Derived.Test.YtedbmpfjikaljaaRefGet
namespace Go.Proofs.Ytedbmpfjikaljaa
open Go.RowKit
set_option linter.unusedVariables false
set_option linter.unusedSimpArgs false
set_option linter.unusedSectionVars false
set_option maxRecDepth 100000

theorem set_mid (p r : List Int) (z y : Int) (i : Nat) (h : p.length = i) : (p ++ z :: r).set i y = p ++ y :: r := by
  subst h
  simp
def marks (n j : Nat) : List Int := List.replicate n 0 ++ (List.replicate j 90 ++ List.replicate (16 - j) 0)
theorem marks_step (n j : Nat) (h : j < 16) : (marks n j).set (n + j) 90 = marks n (j + 1) := by
  unfold marks
  rw [show 16 - j = (16 - (j + 1)) + 1 by omega, List.replicate_succ, ← List.append_assoc, set_mid _ _ _ _ _ (by simp), List.replicate_succ', List.append_assoc, List.append_assoc]
  rfl
theorem marks_len (n j : Nat) (h : j ≤ 16) : (marks n j).length = n + 16 := by unfold marks; simp; omega
def roomy (xs : List Int) (n i : Nat) : List Int := xs.take i ++ (List.replicate (n - i) 0 ++ List.replicate 16 90)
theorem roomy_step (xs : List Int) (n i : Nat) (hl : xs.length = n) (h : i < n) : (roomy xs n i).set i (xs.getD i 0) = roomy xs n (i + 1) := by
  unfold roomy
  rw [show n - i = (n - (i + 1)) + 1 by omega, List.replicate_succ, List.cons_append, set_mid _ _ _ _ _ (by rw [List.length_take]; omega), show xs.take (i + 1) = xs.take i ++ [xs.getD i 0] by rw [List.take_add_one, List.getD_eq_getElem?_getD, List.getElem?_eq_getElem (show i < xs.length by omega)]; rfl, List.append_assoc]
  rfl
theorem roomy_len (xs : List Int) (n i : Nat) (hl : xs.length = n) (h : i ≤ n) : (roomy xs n i).length = n + 16 := by unfold roomy; simp; omega

set_option maxHeartbeats 2000000 in
theorem roomy_ (w : World) {A : Option Addr} {n c : Nat} {xs : List Int} (h : Rd .u8 w A n c xs) (hn : n ≤ 100000) :
    Calls Try.prog 23 #[.slice A n c] w fun e w' => e = .returned (.slice (some ⟨w.heap.size, 0, none⟩) n (n + 16)) ∧ Aside (w'.heap[w.heap.size]? = some (.cells (rowOf_ (xs ++ List.replicate 16 90)) 5) ∧ Below w.heap.size w w') := by
  have h2 := h.cap
  have h3 := h.mx
  have H := Aside.mk h
  clear h
  have hmk := make_run (n + 16) (by omega)
  rw [Int.natCast_add, show ((16 : Nat) : Int) = 16 from rfl] at hmk
  go_enter Try.func23, Try.ntmps23
  go_wp2_with fail
  go_loopg [4] 16 (fun k s4 wr => ∃ j, j + k = 16 ∧ s4 = .int .i64 ((n + j : Nat) : Int) ∧ Aside (wr.heap[w.heap.size]? = some (.cells (rowOf_ (marks n j)) 5) ∧ Below w.heap.size w wr))
  case atStart => exact ⟨0, by omega, rfl, ⟨by have := heap_alloc_new w (.cells (rowOf_ (List.replicate (n + 16) 0)) 5); rw [this, show marks n 0 = List.replicate (n + 16) 0 by unfold marks; rw [List.replicate_zero, List.nil_append, Nat.sub_zero, List.replicate_append_replicate]], below_alloc w _⟩⟩
  case round =>
    obtain ⟨j, hjk, rfl, P⟩ := hrel
    by_cases cj : j < 16
    · have hfr := blk_free (i := n + j) P.out.1
      have hce := blk_cell (i := n + j) P.out.1
      obtain ⟨y, hy⟩ : ∃ y, (marks n j)[n + j]? = some y := ⟨_, List.getElem?_eq_getElem (by rw [marks_len n j (by omega)]; omega)⟩
      rw [row_at, hy, Option.map_some] at hce
      have R2 := setCell_block (i := n + j) (v := .int .u8 90) P.out.1
      rw [row_set, marks_step n j cj] at R2
      have R3 := Aside.mk (And.intro R2 (P.out.2.setCell (show w.heap.size ≤ (⟨w.heap.size, n + j, none⟩ : Addr).block from Nat.le_refl _) (.int .u8 90)))
      have hi1 : (0 : Int) ≤ (n : Int) + (j : Int) := by omega
      have hi2 : ((n : Int) + (j : Int)).toNat = n + j := by omega
      clear R2 hy
      go_wp2_with fail
      go_roundg (16 - (j + 1))
      case rel => exact ⟨j + 1, by omega, by go_num, R3⟩
      case measure => omega
    · obtain rfl : j = 16 := by omega
      have Q : Aside (w.heap.size = w.heap.size) := ⟨rfl⟩
      go_wp2_with fail
      go_loopg [5] n (fun k s5 wr => ∃ i, i + k = n ∧ s5 = .int .i64 (i : Nat) ∧ Aside (wr.heap[w.heap.size]? = some (.cells (rowOf_ (roomy xs n i)) 5) ∧ Below w.heap.size w wr))
      case atStart => exact ⟨0, by omega, rfl, ⟨by rw [P.out.1]; unfold marks roomy; simp, P.out.2⟩⟩
      case round =>
        obtain ⟨i, hik, rfl, P'⟩ := hrel
        by_cases ci : i < n
        · obtain ⟨b1, o1, rfl, hlt1, hc1⟩ := (H.out.below P'.out.2).get ci
          have hfr := blk_free (i := i) P'.out.1
          have hce := blk_cell (i := i) P'.out.1
          obtain ⟨y, hy⟩ : ∃ y, (roomy xs n i)[i]? = some y := ⟨_, List.getElem?_eq_getElem (by rw [roomy_len xs n i H.out.len (by omega)]; omega)⟩
          rw [row_at, hy, Option.map_some] at hce
          have R2 := setCell_block (i := i) (v := .int .u8 (xs.getD i 0)) P'.out.1
          rw [row_set, roomy_step xs n i H.out.len ci] at R2
          have R3 := Aside.mk (And.intro R2 (P'.out.2.setCell (show w.heap.size ≤ (⟨w.heap.size, i, none⟩ : Addr).block from Nat.le_refl _) (.int .u8 (xs.getD i 0))))
          clear R2 hy
          generalize xs.getD i 0 = x at *
          go_wp2_with fail
          go_roundg (n - (i + 1))
          case rel => exact ⟨i + 1, by omega, by go_num, R3⟩
          case measure => omega
        · obtain rfl : i = n := by omega
          have hd : decide (i < i) = false := decide_eq_false ci
          have hl := H.out.len
          have R := Aside.mk (And.intro P'.out.1 P'.out.2)
          go_wp2_with fail
          go_ret
          refine ⟨rfl, ⟨?_, R.out.2⟩⟩
          rw [R.out.1]
          unfold roomy
          rw [List.take_of_length_le (by omega)]
          simp

def marked (xs : List Int) : List Int := xs ++ List.replicate 16 90
theorem rd_marked {w : World} {g : Nat} {xs : List Int} {n : Nat} (hb : w.heap[g]? = some (.cells (rowOf_ (marked xs)) 5)) (hl : xs.length = n) (hn : n ≤ 100000) : Rd .u8 w (some ⟨g, 0, none⟩) n (n + 16) xs :=
  ⟨hl, by omega, by omega, by omega, fun i x hx => ⟨g, 0, rfl, lt_of_block hb, by
    have hi := (List.getElem?_eq_some_iff.1 hx).1
    rw [Nat.zero_add, blk_cell hb, row_at]
    unfold marked
    rw [List.getElem?_append_left hi, hx]
    rfl⟩⟩
set_option maxHeartbeats 2000000 in
theorem kept_ (w : World) {g : Nat} {A : Option Addr} {n c : Nat} {xs : List Int} (hb : w.heap[g]? = some (.cells (rowOf_ (marked xs)) 5)) (k : Rd .u8 w A n c xs) (hy : Byt xs) (hn : n ≤ 100000) :
    Calls Try.prog 27 #[.slice (some ⟨g, 0, none⟩) n (n + 16), .slice A n c] w fun e w' => e = .returned (.bool true) ∧ ∃ q, w' = w.drewN q := by
  have hl := k.len
  have T := eqb_ w (rd_marked hb hl hn) k hy hy
  rw [decide_eq_true rfl] at T
  have T := Aside.mk T
  have mk : ∀ j, j < 16 → w.cell? ⟨g, n + j, none⟩ = some (.int .u8 90) := fun j hj => by
    rw [blk_cell hb, row_at]
    unfold marked
    rw [List.getElem?_append_right (by omega), hl, show n + j - n = j by omega, List.getElem?_replicate, if_pos hj]
    rfl
  have MK := Aside.mk mk
  clear mk hb k hy hl
  go_enter Try.func27, Try.ntmps27
  go_wp2_with fail
  refine T.out.mono ?_
  rintro e w2 ⟨rfl, q, rfl⟩
  clear T
  go_wp2_with fail
  go_loopg [6] 16 (fun k s6 wr => ∃ j, j + k = 16 ∧ s6 = .int .i64 (j : Nat) ∧ wr = w.drewN q)
  case atStart => exact ⟨0, by omega, rfl, rfl⟩
  case round =>
    obtain ⟨j, hjk, rfl, rfl⟩ := hrel
    by_cases cj : j < 16
    · have hc := MK.out j cj
      go_wp2_with fail
      go_roundg (16 - (j + 1))
      case rel => exact ⟨j + 1, by omega, by go_num, rfl⟩
      case measure => omega
    · obtain rfl : j = 16 := by omega
      go_wp2_with fail
      go_ret
      exact ⟨rfl, q, rfl⟩
end Go.Proofs.Ytedbmpfjikaljaa
