/-
  Proved: what the methods of the program's reader of bytes do to memory and what they answer. Conditions: rows are shorter than a million and one.
-/
import Derived.Test.YtedbmpfjikaljaaRefb
namespace Go.Proofs.Ytedbmpfjikaljaa
open Go.RowKit
set_option linter.unusedVariables false
set_option linter.unusedSimpArgs false
set_option linter.unusedSectionVars false
set_option maxRecDepth 100000

theorem quiet_left {P : Program} {f : FuncId} {args : Array Value} {w : World} {n : Nat} {v : Value}
    (h : Calls P f args (w.drewN n) fun e w' => e = .returned v ∧ w.drewN n = w') : Calls P f args (w.drewN n) fun e w'' => e = .returned v ∧ ∃ m, w'' = w.drewN m :=
  h.mono fun _ _ ⟨he, hm⟩ => ⟨he, n, hm.symm⟩

/-- A reader at block r: of the row A, n, c, at a place. -/
def Rdr (w : World) (r : Nat) (A : Option Addr) (n c at_ : Nat) : Prop := w.heap[r]? = some (.cells #[.slice A n c, .int .i64 at_] 92)
theorem Rdr.c0 {w : World} {r : Nat} {A : Option Addr} {n c at_ : Nat} (h : Rdr w r A n c at_) : w.cell? ⟨r, 0, none⟩ = some (.slice A n c) := by rw [blk_cell h]; rfl
theorem Rdr.c1 {w : World} {r : Nat} {A : Option Addr} {n c at_ : Nat} (h : Rdr w r A n c at_) : w.cell? ⟨r, 1, none⟩ = some (.int .i64 at_) := by rw [blk_cell h]; rfl
theorem Rdr.f1 {w : World} {r : Nat} {A : Option Addr} {n c at_ : Nat} (h : Rdr w r A n c at_) : w.frozen? ⟨r, 1, none⟩ = false := blk_free h
theorem Rdr.move {w : World} {r : Nat} {A : Option Addr} {n c at_ : Nat} (h : Rdr w r A n c at_) (to : Nat) : Rdr (w.setCell ⟨r, 1, none⟩ (.int .i64 to)) r A n c to := by
  have := setCell_block (i := 1) (v := .int .i64 to) h
  simpa [Rdr] using this

set_option maxHeartbeats 1000000 in
theorem take_ (w : World) {r : Nat} {A : Option Addr} {n c at_ : Nat} {xs : List Int} (hr : Rdr w r A n c at_) (h : Rd .u8 w A n c xs) (hy : Byt xs) (h2 : at_ ≤ 900000) (s : Nat) (hs : isSized s = true) :
    Calls Try.prog 51 #[.pointer (some ⟨r, 0, none⟩), .int .i64 s] w fun e w' => e = .returned (.int .u64 (gt xs at_ s)) ∧ Rdr w' r A n c (at_ + s) ∧ Upd (Just r) w w' := by
  have hs8 : s ≤ 8 ∧ 1 ≤ s := by
    simp [isSized] at hs
    omega
  have c0 := hr.c0
  have c1 := hr.c1
  have f1 := hr.f1
  have HR := Aside.mk hr
  have G := Aside.mk (fun q => oget_ (w.drewN q) (h.upd ((Upd.refl _ _).drewN q)) hy at_ (by omega) s hs)
  clear hr h hy hs
  go_enter Try.func51, Try.ntmps51
  go_wp2_with fail
  go_quiet ((go_at_call 73; exact quiet_left (G.out _)))
  go_wp2_with fail
  all_goals (
    go_ret
    refine ⟨rfl, ?_, ?_⟩
    · rw [← Int.natCast_add]
      exact Rdr.move (w := World.drewN _ _) HR.out _
    · exact ((Upd.refl _ _).drewN _).setCell _ _ (fun _ => rfl))

theorem left_ (w : World) {r : Nat} {A : Option Addr} {n c at_ : Nat} (hr : Rdr w r A n c at_) (h1 : n ≤ 1000000) (h2 : at_ ≤ 1000000) :
    Calls Try.prog 53 #[.pointer (some ⟨r, 0, none⟩)] w fun e w' => e = .returned (.int .i64 ((n : Int) - at_)) ∧ ∃ q, w' = w.drewN q := by
  have c0 := hr.c0
  have c1 := hr.c1
  clear hr
  go_enter Try.func53, Try.ntmps53
  go_wp2_with fail
  go_quiet (fail)
  go_wp2_with fail
  go_ret
  exact ⟨rfl, _, rfl⟩

theorem own_setCell {w : World} {base r i : Nat} {A : Option Addr} {n c : Nat} {xs : List Int} (h : Own w base A n c xs) (hr : r < base) (v : Value) : Own (w.setCell ⟨r, i, none⟩ v) base A n c xs :=
  h.keep fun g hg _ _ => Below.heap_setCell w ⟨r, i, none⟩ v g (fun e => by simp at e; omega)

set_option maxHeartbeats 1000000 in
theorem rest_ (w : World) {r : Nat} {A : Option Addr} {n c at_ : Nat} {xs : List Int} (hr : Rdr w r A n c at_) (h : Rd .u8 w A n c xs) (h2 : at_ ≤ 900000) (k : Int) (h3 : -1000000 ≤ k) (h4 : k ≤ 1000000) :
    Calls Try.prog 52 #[.pointer (some ⟨r, 0, none⟩), .int .i64 k] w fun e w' => ∃ A' m c' to, e = .returned (.slice A' m c') ∧ Own w' w.heap.size A' m c' (if isWithin n at_ k = true then (xs.drop at_).take k.toNat else []) ∧ Rdr w' r A n c to ∧ Upd (Just r) w w' := by
  have c0 := hr.c0
  have c1 := hr.c1
  have hrl := lt_of_block hr
  have HR := Aside.mk hr
  have C := Aside.mk (ocut_ w.drew (h.upd ((Upd.refl _ _).drew)) at_ (by omega) k h3 h4)
  clear hr h
  cases hw : isWithin n at_ k
  · rw [hw] at C
    simp only [Bool.false_eq_true, if_false] at C ⊢
    go_enter Try.func52, Try.ntmps52
    go_wp2_with fail
    go_region_held3 (fun w' => w'.cell? ⟨r, 0, none⟩ = some (.slice A n c) ∧ w'.cell? ⟨r, 1, none⟩ = some (.int .i64 at_)) (first | go_keep | exact ⟨RR.out.c0, RR.out.c1⟩)
      ((go_at_call 74; refine C.out.mono ?_; rintro e w2 ⟨b2, rfl⟩; have RR := Aside.mk (show Rdr w2 r A n c at_ from (b2.block r hrl).trans HR.out); have B2 := Aside.mk b2; clear b2))
    all_goals (
      have c0' := RR.out.c0
      have c1' := RR.out.c1
      have f1' := RR.out.f1
      go_wp2_with fail
      go_ret
      refine ⟨none, 0, 0, at_, rfl, own_nil _ _, Rdr.move RR.out at_, ?_⟩
      exact (Upd.of_below (a := w) (b := w2) ⟨B2.out.os, B2.out.tape, B2.out.output, B2.out.size, B2.out.block⟩).setCell _ _ (fun _ => rfl))
  · rw [hw] at C
    simp only [if_true] at C ⊢
    have hk : 0 ≤ k := by
      unfold isWithin at hw
      simp only [Bool.and_eq_true, decide_eq_true_eq] at hw
      exact hw.1.1.2
    have hk2 : k ≤ n := by
      unfold isWithin at hw
      simp only [Bool.and_eq_true, decide_eq_true_eq] at hw
      omega
    obtain ⟨m, rfl⟩ := Int.eq_ofNat_of_zero_le hk
    rw [Int.toNat_natCast] at C ⊢
    clear hw hk
    go_enter Try.func52, Try.ntmps52
    go_wp2_with fail
    go_region_held3 (fun w' => w'.cell? ⟨r, 0, none⟩ = some (.slice A n c) ∧ w'.cell? ⟨r, 1, none⟩ = some (.int .i64 at_)) (first | go_keep | exact ⟨RR.out.c0, RR.out.c1⟩)
      ((go_at_call 74; refine C.out.mono ?_; rintro e w2 ⟨b2, A', c', rfl, o2⟩; have RR := Aside.mk (show Rdr w2 r A n c at_ from (b2.block r hrl).trans HR.out); have B2 := Aside.mk b2; have O2 := Aside.mk o2; clear b2 o2))
    all_goals (
      have c0' := RR.out.c0
      have c1' := RR.out.c1
      have f1' := RR.out.f1
      go_wp2_with fail
      go_ret
      refine ⟨A', m, c', at_ + m, rfl, own_setCell O2.out (by show r < w.heap.size; exact hrl) _, ?_, ?_⟩
      · rw [← Int.natCast_add]
        exact Rdr.move RR.out _
      · exact (Upd.of_below (a := w) (b := w2) ⟨B2.out.os, B2.out.tape, B2.out.output, B2.out.size, B2.out.block⟩).setCell _ _ (fun _ => rfl))
end Go.Proofs.Ytedbmpfjikaljaa
