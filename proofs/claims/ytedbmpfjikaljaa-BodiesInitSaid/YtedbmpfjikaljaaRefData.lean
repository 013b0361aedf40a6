/-
  Proved: what the reference's functions that make and read a chunk of data do to memory and what they answer. Conditions: rows are shorter than fifty thousand.
-/
import Derived.Test.YtedbmpfjikaljaaHold
namespace Go.Proofs.Ytedbmpfjikaljaa
open Go.RowKit
set_option linter.unusedVariables false
set_option linter.unusedSimpArgs false
set_option linter.unusedSectionVars false
set_option maxRecDepth 100000

theorem Hold.setI {w V : World} {K : List (Nat × Obj)} {g : Nat} {cs : Array Value} {t : TypeId} (h : Hold w ((g, .cells cs t) :: K) V) (hg : w.heap.size ≤ g) (hK : ∀ p ∈ K, p.1 ≠ g) (i : Nat) (v : Value) :
    Hold w ((g, .cells (cs.setIfInBounds i v) t) :: K) (V.setCell ⟨g, i, none⟩ v) := ⟨fun p hp => by
  rcases List.mem_cons.1 hp with rfl | hp
  · exact setCell_block (i := i) (v := v) h.h0
  · rw [Below.heap_setCell _ _ _ _ (hK p hp)]
    exact h.keep p (List.mem_cons_of_mem _ hp), h.low.setCell (p := ⟨g, i, none⟩) hg v⟩
theorem hold_rput {w V : World} {K : List (Nat × Obj)} (hH : Hold w K V) {base : Nat} {A : Option Addr} {n c : Nat} {xs : List Int} (h : Rd .u8 V A n c xs) (hb : base ≤ V.heap.size) (hn : n ≤ 800000) (x : Int) (h0 : 0 ≤ x ∧ x < 18446744073709551616) (s : Nat) {si : Int} (hsi : si = (s : Int)) (hs : isSized s = true) :
    Calls Try.prog 58 #[.slice A n c, .int .u64 x, .int .i64 si] V fun e V' => ∃ A' c', e = .returned (.slice A' (n + s) c') ∧ Aside (Hold w K V' ∧ Own V' base A' (n + s) c' (xs ++ be s x)) := by
  subst hsi
  refine (rput_ V h (by omega) x h0.1 h0.2 s hs).mono ?_
  rintro e V' ⟨A', c', rfl, ho, hb'⟩
  exact ⟨A', c', rfl, ⟨hH.below hb', ho.mono hb⟩⟩

theorem Hold.grown2 {w V V' : World} {K : List (Nat × Obj)} (h : Hold w K V) {row : Option Nat} (g : V.grownBy V' row) {base : Nat} (hr : ∀ b, row = some b → base ≤ b) (h2 : ∀ p ∈ K, p.1 < base) (h3 : w.heap.size ≤ base) : Hold w K V' :=
  ⟨fun p hp => (g.block _ (lt_of_block (h.keep p hp)) (fun e => by have := hr _ e.symm; have := h2 p hp; omega)).trans (h.keep p hp), below_grown h.low g (fun b hb => by have := hr b hb; omega) h.low.size⟩

set_option maxHeartbeats 4000000 in
theorem refPutData_ (w : World) (t s q : Int) (u f l : Bool) (ht : 0 ≤ t ∧ t < 4294967296) (hs : 0 ≤ s ∧ s < 65536) (hq : 0 ≤ q ∧ q < 65536) {B : Option Addr} {n d : Nat} {bs : List Int} (h : Rd .u8 w B n d bs) (hn : n ≤ 50000) :
    Calls Try.prog 26 #[dataV t s q u f l B n d] w fun e w' => ∃ A c, e = .returned (chunkV 0 (flagsV u f l) A (12 + n) c) ∧ Aside (Own w' w.heap.size A (12 + n) c (dataL t s q bs) ∧ Below w.heap.size w w') := by
  have H := Aside.mk h
  have hc := h.cap
  have hmx := h.mx
  clear h
  have X0 := Aside.mk (hold_two w (.cells #[.int .u32 t, .int .u16 s, .int .u16 q, .bool u, .bool f, .bool l, .slice B n d] 32) (.cells #[.int .u8 0, .int .u8 0, .slice none 0 0] 24))
  have kd := keep7 X0.out.tail.h0
  have XF : Aside (∀ F : Int, Hold w [(w.heap.size + 1 + 1, .cells #[.int .u8 0, .int .u8 F, .slice none 0 0] 24), (w.heap.size + 1, .cells #[.int .u8 0, .int .u8 0, .slice none 0 0] 24), (w.heap.size, .cells #[.int .u32 t, .int .u16 s, .int .u16 q, .bool u, .bool f, .bool l, .slice B n d] 32)] (((w.alloc (.cells #[.int .u32 t, .int .u16 s, .int .u16 q, .bool u, .bool f, .bool l, .slice B n d] 32)).alloc (.cells #[.int .u8 0, .int .u8 0, .slice none 0 0] 24)).alloc (.cells #[.int .u8 0, .int .u8 F, .slice none 0 0] 24))) := ⟨fun F => by simpa using X0.out.alloc (.cells #[.int .u8 0, .int .u8 F, .slice none 0 0] 24)⟩
  have ZF : Aside (∀ F : Int, w.heap.size + 3 ≤ (((w.alloc (.cells #[.int .u32 t, .int .u16 s, .int .u16 q, .bool u, .bool f, .bool l, .slice B n d] 32)).alloc (.cells #[.int .u8 0, .int .u8 0, .slice none 0 0] 24)).alloc (.cells #[.int .u8 0, .int .u8 F, .slice none 0 0] 24)).heap.size) := ⟨fun F => by simp⟩
  have T1 := Aside.mk (fun (F : Int) => hold_rput (XF.out F) (rd_nil8 _) (ZF.out F) (by omega) t (by omega) 4 (si := 4) rfl rfl)
  have FL : Aside (flagsV u f l = (if u then 4 else 0) + (if f then 2 else 0) + (if l then 1 else 0)) := ⟨by cases u <;> cases f <;> cases l <;> rfl⟩
  unfold dataV
  go_enter Try.func26, Try.ntmps26
  cases u <;> cases f <;> cases l
  all_goals (
    go_wp2_with fail
    refine (T1.out _).mono ?_
    rintro e w2 ⟨A1, c1, rfl, P1⟩
    have k1 := keep7 P1.out.1.tail.tail.h0
    have T2 := Aside.mk (hold_rput P1.out.1 (P1.out.2.rd (by omega)) (by have := P1.out.1.low.size; have := lt_of_block P1.out.1.h0; omega) (by omega) s (by omega) 2 (si := 2) rfl rfl (base := w.heap.size + 3))
    clear T1 XF ZF X0 kd
    go_wp2_with fail
    refine T2.out.mono ?_
    rintro e w3 ⟨A2, c2, rfl, P2⟩
    have k2 := keep7 P2.out.1.tail.tail.h0
    have T3 := Aside.mk (hold_rput P2.out.1 (P2.out.2.rd (by omega)) (by have := P2.out.1.low.size; have := lt_of_block P2.out.1.h0; omega) (by omega) q (by omega) 2 (si := 2) rfl rfl (base := w.heap.size + 3))
    clear T2 P1 k1
    go_wp2_with fail
    refine T3.out.mono ?_
    rintro e w4 ⟨A3, c3, rfl, P3⟩
    have k3 := keep7 P3.out.1.tail.tail.h0
    have T4 := Aside.mk (hold_rput P3.out.1 (P3.out.2.rd (by omega)) (by have := P3.out.1.low.size; have := lt_of_block P3.out.1.h0; omega) (by omega) 0 (by omega) 4 (si := 4) rfl rfl (base := w.heap.size + 3))
    clear T3 P2 k2
    go_wp2_with fail
    refine T4.out.mono ?_
    rintro e w5 ⟨A4, c4, rfl, P4⟩
    have k4 := keep7 P4.out.1.tail.tail.h0
    have z5 := lt_of_block P4.out.1.h0
    obtain ⟨A5, c5, w6, hrun, o6, g6⟩ := append_run P4.out.2 (by omega) (H.out.below P4.out.1.low) (by omega)
    have R6 := Aside.mk hrun
    have X6 := Aside.mk (Hold.grown2 P4.out.1 g6 (fun g hg => P4.out.2.base_le hg) (by intro p hp; simp at hp; rcases hp with rfl | rfl | rfl <;> simp <;> omega) (by omega))
    have k6 := keep3 X6.out.h0
    have f6 := free7 X6.out.h0
    have kr := keep3 X6.out.tail.h0
    have fr := free7 X6.out.tail.h0
    have O6 := Aside.mk o6
    clear T4 P3 k3 hrun o6 g6
    go_wp2_with (at_builtin; refine wpList_append_run 22 _ _ _ _ rfl rfl rfl rfl R6.out ?_)
    refine bodyPost_ret (v := chunkV 0 (flagsV _ _ _) A5 (12 + n) c5) (by simp [results, Try.results26, go_sem, chunkV, kr, FL.out]) rfl ⟨A5, c5, rfl, ⟨?_, ?_⟩⟩
    · have fin := fun v0 v1 v2 => (fin_own (r := w.heap.size + 1) (own_setCell (r := w.heap.size + 1 + 1) (i := 2) O6.out (by omega) (.slice A5 (12 + n) c5)) (by omega) v0 v1 v2).mono (show w.heap.size ≤ w.heap.size + 3 by omega)
      have e : dataL t s q bs = [] ++ be 4 t ++ be 2 s ++ be 2 q ++ be 4 0 ++ bs := by simp [dataL_eq, List.append_assoc]
      rw [e]
      exact fin _ _ _
    · exact fin_below (X6.out.low.setCell (p := ⟨w.heap.size + 1 + 1, 2, none⟩) (by simp; omega) _) (by omega) _ _ _)
end Go.Proofs.Ytedbmpfjikaljaa
