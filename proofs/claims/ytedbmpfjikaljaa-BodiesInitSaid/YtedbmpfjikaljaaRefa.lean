/-
  Proved: what the reference's functions on numbers and pieces of bytes do to memory and what they answer. Conditions: rows are shorter than a million and one.
-/
import Derived.Test.YtedbmpfjikaljaaEq
namespace Go.Proofs.Ytedbmpfjikaljaa
open Go.RowKit
set_option linter.unusedVariables false
set_option linter.unusedSimpArgs false
set_option linter.unusedSectionVars false
set_option maxRecDepth 100000

def rowOf_ (xs : List Int) : Array Value := (cellsOf_ .u8 xs).toArray
theorem made_zeros (n : Nat) : madeCells (Value.int .u8 0).cells n = rowOf_ (List.replicate n 0) := by
  refine Array.ext (by simp [madeCells, rowOf_, cellsOf_]) fun i h1 h2 => ?_
  simp [madeCells, rowOf_, cellsOf_, Value.cells, Nat.mod_one]
theorem make_run (n : Nat) (hn : n ≤ 1000000) (W : World) : (Instr.makeSlice 22 (.int .i64 (n : Int)) (.int .i64 (n : Int))).run Try.prog W = .ok (.slice (some ⟨W.heap.size, 0, none⟩) n n) (W.alloc (.cells (rowOf_ (List.replicate n 0)) 5)) := by
  obtain ⟨i0, hi0, hz0, hz1, hz2⟩ := info_parts info5
  have := run_makeSlice (P := Try.prog) W 22 5 i0 _ Try.underlying22 hi0 hz0 .i64 .i64 (n : Int) (n : Int) (by omega) (by omega) (by rw [hz1]; omega) (by rw [hz2]; omega) (by omega)
  rw [this, hz1, Nat.mul_one, Int.toNat_natCast, made_zeros]
theorem row_size (xs : List Int) : (rowOf_ xs).size = xs.length := by simp [rowOf_, cellsOf_]
theorem row_at (xs : List Int) (j : Nat) : (rowOf_ xs)[j]? = xs[j]?.map (Value.int .u8) := by simp [rowOf_, cellsOf_]
theorem row_set (xs : List Int) (j : Nat) (x : Int) : (rowOf_ xs).setIfInBounds j (.int .u8 x) = rowOf_ (xs.set j x) := by
  simp [rowOf_, cellsOf_, List.map_set]
theorem fill_step (xs : List Int) (n j : Nat) (z : Int) (hl : xs.length = n) (hj : j < n) : (xs.take j ++ List.replicate (n - j) z).set j (xs.getD j 0) = xs.take (j + 1) ++ List.replicate (n - (j + 1)) z := by
  have e : n - j = (n - (j + 1)) + 1 := by omega
  have hjl : j < xs.length := by omega
  rw [List.set_append_right _ _ (by simp; omega), List.length_take, Nat.min_eq_left (by omega), Nat.sub_self, e, List.replicate_succ, List.set_cons_zero, List.take_add_one, List.getD_eq_getElem?_getD, List.getElem?_eq_getElem hjl]
  simp only [Option.getD_some, Option.toList_some, List.append_assoc, List.cons_append, List.nil_append]
/-- A block of bytes that is a row of the call's own. -/
theorem own_of_row {w : World} {base g : Nat} {xs : List Int} (h : w.heap[g]? = some (.cells (rowOf_ xs) 5)) (hb : base ≤ g) (hn : xs.length ≤ 1000000) : Own w base (some ⟨g, 0, none⟩) xs.length xs.length xs :=
  ⟨⟨cells_len _ _, .inr ⟨g, xs.length, rowOf_ xs, rfl, hb, h, Nat.le_refl _, by unfold maxLen; omega, by rw [row_size, Nat.mul_one], by
    rw [Nat.mul_one, List.take_of_length_le]
    · rfl
    · simp [rowOf_, cellsOf_]⟩⟩, u8_row h (fun v hv => all_u8 xs v (by simpa [rowOf_] using hv))⟩

set_option maxHeartbeats 1000000 in
theorem copy_ (w : World) {A : Option Addr} {n c : Nat} {xs : List Int} (h : Rd .u8 w A n c xs) :
    Calls Try.prog 56 #[.slice A n c] w fun e w' => ∃ A' c', e = .returned (.slice A' n c') ∧ Own w' w.heap.size A' n c' xs ∧ Below w.heap.size w w' := by
  have h1 := h.small
  have h2 := h.cap
  have h3 := h.mx
  have H := Aside.mk h
  clear h
  by_cases h0 : n = 0
  · subst h0
    go_enter Try.func56, Try.ntmps56
    go_wp2
    go_ret
    obtain rfl : xs = [] := List.eq_nil_of_length_eq_zero H.out.len
    exact ⟨none, 0, rfl, own_nil _ _, Below.refl _ _⟩
  · have hb : ((n : Int) == 0) = false := beq_eq_false_iff_ne.2 (by omega)
    have hmk := make_run n h1
    go_enter Try.func56, Try.ntmps56
    go_wp2_with fail
    go_loopw [4] (fun i wr => ∃ j, j ≤ n ∧ i = .int .i64 (j : Nat) ∧ wr.heap[w.heap.size]? = some (.cells (rowOf_ (xs.take j ++ List.replicate (n - j) 0)) 5) ∧ Below w.heap.size w wr) (fun i _ => n - (intOf i).toNat)
    case atStart => exact ⟨0, by omega, rfl, by have h := heap_alloc_new w (.cells (rowOf_ (List.replicate n 0)) 5); simpa only [List.take_zero, List.nil_append, Nat.sub_zero] using h, below_alloc w _⟩
    case round =>
      obtain ⟨j, hj, rfl, hr, hbl⟩ := hrel
      by_cases cj : j < n
      · obtain ⟨b1, o1, rfl, hlt1, hc1⟩ := (H.out.below hbl).get cj
        have hfr := blk_free (i := j) hr
        have hce := blk_cell (i := j) hr
        have hsz : (xs.take j ++ List.replicate (n - j) (0 : Int)).length = n := by rw [List.length_append, List.length_take, List.length_replicate, H.out.len]; omega
        obtain ⟨y, hy⟩ : ∃ y, (xs.take j ++ List.replicate (n - j) (0 : Int))[j]? = some y := ⟨_, List.getElem?_eq_getElem (by omega)⟩
        rw [row_at, hy, Option.map_some] at hce
        have R2 := Aside.mk (setCell_block (i := j) (v := .int .u8 (xs.getD j 0)) hr)
        rw [row_set, fill_step xs n j 0 H.out.len cj] at R2
        have B2 := Aside.mk (hbl.setCell (show w.heap.size ≤ (⟨w.heap.size, j, none⟩ : Addr).block from Nat.le_refl _) (.int .u8 (xs.getD j 0)))
        clear hr hbl hsz hy
        generalize xs.getD j 0 = x at *
        go_wp2_with fail
        go_round
        case rel => exact ⟨j + 1, by omega, by go_num, R2.out, B2.out⟩
        case measure => simp [intOf]; omega
      · obtain rfl : j = n := by omega
        have hd : decide (j < j) = false := decide_eq_false cj
        have hl := H.out.len
        rw [Nat.sub_self, List.replicate_zero, List.append_nil, List.take_of_length_le (by omega)] at hr
        have O := Aside.mk (own_of_row hr (Nat.le_refl _) (by omega))
        rw [hl] at O
        have B := Aside.mk hbl
        clear hr hbl
        go_wp2
        go_ret
        exact ⟨_, _, rfl, O.out, B.out⟩
end Go.Proofs.Ytedbmpfjikaljaa
