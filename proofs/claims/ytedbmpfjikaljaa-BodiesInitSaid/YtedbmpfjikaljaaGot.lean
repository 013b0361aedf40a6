/-
  Proved: by how many Gets a chunk is taken, and that what is got is put again as that chunk. Conditions: the body is shorter than fifty thousand bytes.
-/
import Derived.Test.YtedbmpfjikaljaaAll
namespace Go.Proofs.Ytedbmpfjikaljaa
open Go.RowKit
set_option linter.unusedVariables false
set_option linter.unusedSimpArgs false
set_option linter.unusedSectionVars false
set_option maxRecDepth 100000

def chunkO (k f : Int) (A : Option Addr) (n c : Nat) : Obj := .cells #[.int .u8 k, .int .u8 f, .slice A n c] 24
section
variable {w V : World} {o : Obj} {k f : Int} {A : Option Addr} {n c : Nat} {xs : List Int}
theorem noData (hx : Boxed w o V) (h : Rd .u8 w A n c xs) (hy : Byt xs) (hn : n ≤ 100000) (hE : dataE k f xs = false) : Calls Try.prog 22 #[chunkV k f A n c] V fun e V' => e = .returned (.tuple #[dataZ, .int .i64 7]) ∧ Aside (Boxed w o V') := by
  refine (getData_ V (h.below hx.low) hy hn).mono ?_
  rintro e V' ⟨B, m, d, rfl, o, b⟩
  rw [hE]
  exact ⟨rfl, ⟨hx.below b⟩⟩
theorem yesData (hx : Boxed w o V) (h : Rd .u8 w A n c xs) (hy : Byt xs) (hn : n ≤ 100000) (hE : dataE k f xs = true) : Calls Try.prog 22 #[chunkV k f A n c] V fun e V' => ∃ B m d, e = .returned (.tuple #[(dataV (gt xs 0 4) (gt xs 4 2) (gt xs 6 2) (fl f 4) (fl f 2) (fl f 1) B m d), .int .i64 0]) ∧ Aside (Boxed w o V' ∧ Own V' V.heap.size B m d (xs.drop 12)) := by
  refine (getData_ V (h.below hx.low) hy hn).mono ?_
  rintro e V' ⟨B, m, d, rfl, o, b⟩
  rw [hE]
  exact ⟨B, m, d, rfl, ⟨hx.below b, o⟩⟩
theorem noInit (hx : Boxed w o V) (h : Rd .u8 w A n c xs) (hy : Byt xs) (hn : n ≤ 100000) (hE : initE k f xs = false) : Calls Try.prog 44 #[chunkV k f A n c] V fun e V' => e = .returned (.tuple #[initZ, .int .i64 7]) ∧ Aside (Boxed w o V') := by
  refine (getInit_ V (h.below hx.low) hy hn).mono ?_
  rintro e V' ⟨B, m, d, rfl, o, b⟩
  rw [hE]
  exact ⟨rfl, ⟨hx.below b⟩⟩
theorem yesInit (hx : Boxed w o V) (h : Rd .u8 w A n c xs) (hy : Byt xs) (hn : n ≤ 100000) (hE : initE k f xs = true) : Calls Try.prog 44 #[chunkV k f A n c] V fun e V' => ∃ B m d, e = .returned (.tuple #[(initV (gt xs 0 4) (gt xs 4 4) (gt xs 8 2) (gt xs 10 2) (gt xs 12 4) B m d), .int .i64 0]) ∧ Aside (Boxed w o V' ∧ Own V' V.heap.size B m d (initCk k xs)) := by
  refine (getInit_ V (h.below hx.low) hy hn).mono ?_
  rintro e V' ⟨B, m, d, rfl, o, b⟩
  rw [hE]
  exact ⟨B, m, d, rfl, ⟨hx.below b, o⟩⟩
theorem noSack (hx : Boxed w o V) (h : Rd .u8 w A n c xs) (hy : Byt xs) (hn : n ≤ 100000) (hE : sackE k f xs = false) : Calls Try.prog 30 #[chunkV k f A n c] V fun e V' => e = .returned (.tuple #[sackZ, .int .i64 7]) ∧ Aside (Boxed w o V') := by
  refine (getSack_ V (h.below hx.low) hy hn).mono ?_
  rintro e V' ⟨B, m, d, B2, m2, d2, rfl, oP, oD, b⟩
  rw [hE]
  exact ⟨rfl, ⟨hx.below b⟩⟩
theorem yesSack (hx : Boxed w o V) (h : Rd .u8 w A n c xs) (hy : Byt xs) (hn : n ≤ 100000) (hE : sackE k f xs = true) : Calls Try.prog 30 #[chunkV k f A n c] V fun e V' => ∃ B m d B2 m2 d2, e = .returned (.tuple #[(sackV (gt xs 0 4) (gt xs 4 4) B m d B2 m2 d2), .int .i64 0]) ∧ Aside (Boxed w o V' ∧ OwnP 84 V' V.heap.size B m d (sackPs xs) ∧ OwnD V' V.heap.size B2 m2 d2 (sackDs xs)) := by
  refine (getSack_ V (h.below hx.low) hy hn).mono ?_
  rintro e V' ⟨B, m, d, B2, m2, d2, rfl, oP, oD, b⟩
  rw [hE]
  exact ⟨B, m, d, B2, m2, d2, rfl, ⟨hx.below b, oP, oD⟩⟩
theorem noFwd (hx : Boxed w o V) (h : Rd .u8 w A n c xs) (hy : Byt xs) (hn : n ≤ 100000) (hE : fwdE k f xs = false) : Calls Try.prog 34 #[chunkV k f A n c] V fun e V' => e = .returned (.tuple #[fwdZ, .int .i64 7]) ∧ Aside (Boxed w o V') := by
  refine (getFwd_ V (h.below hx.low) hy hn).mono ?_
  rintro e V' ⟨B, m, d, rfl, o, b⟩
  rw [hE]
  exact ⟨rfl, ⟨hx.below b⟩⟩
theorem yesFwd (hx : Boxed w o V) (h : Rd .u8 w A n c xs) (hy : Byt xs) (hn : n ≤ 100000) (hE : fwdE k f xs = true) : Calls Try.prog 34 #[chunkV k f A n c] V fun e V' => ∃ B m d, e = .returned (.tuple #[(fwdV (gt xs 0 4) B m d), .int .i64 0]) ∧ Aside (Boxed w o V' ∧ OwnP 88 V' V.heap.size B m d (fwdPs xs)) := by
  refine (getFwd_ V (h.below hx.low) hy hn).mono ?_
  rintro e V' ⟨B, m, d, rfl, o, b⟩
  rw [hE]
  exact ⟨B, m, d, rfl, ⟨hx.below b, o⟩⟩
theorem noTime (hx : Boxed w o V) (h : Rd .u8 w A n c xs) (hy : Byt xs) (hn : n ≤ 100000) (hE : timeE k f xs = false) : Calls Try.prog 38 #[chunkV k f A n c] V fun e V' => e = .returned (.tuple #[timeZ, .int .i64 7]) ∧ Aside (Boxed w o V') := by
  refine (getTime_ V (h.below hx.low) hy (by omega)).mono ?_
  rintro e V' ⟨rfl, b⟩
  rw [hE]
  exact ⟨rfl, ⟨hx.below b⟩⟩
theorem yesTime (hx : Boxed w o V) (h : Rd .u8 w A n c xs) (hy : Byt xs) (hn : n ≤ 100000) (hE : timeE k f xs = true) : Calls Try.prog 38 #[chunkV k f A n c] V fun e V' => e = .returned (.tuple #[(timeV (tim (gt xs 4 8))), .int .i64 0]) ∧ Aside (Boxed w o V') := by
  refine (getTime_ V (h.below hx.low) hy (by omega)).mono ?_
  rintro e V' ⟨rfl, b⟩
  rw [hE]
  exact ⟨rfl, ⟨hx.below b⟩⟩
theorem noCum (hx : Boxed w o V) (h : Rd .u8 w A n c xs) (hy : Byt xs) (hn : n ≤ 100000) (hE : cumE k f xs = false) : Calls Try.prog 40 #[chunkV k f A n c] V fun e V' => e = .returned (.tuple #[cumZ, .int .i64 7]) ∧ Aside (Boxed w o V') := by
  refine (getCum_ V (h.below hx.low) hy (by omega)).mono ?_
  rintro e V' ⟨rfl, b⟩
  rw [hE]
  exact ⟨rfl, ⟨hx.below b⟩⟩
theorem yesCum (hx : Boxed w o V) (h : Rd .u8 w A n c xs) (hy : Byt xs) (hn : n ≤ 100000) (hE : cumE k f xs = true) : Calls Try.prog 40 #[chunkV k f A n c] V fun e V' => e = .returned (.tuple #[(cumV (gt xs 0 4)), .int .i64 0]) ∧ Aside (Boxed w o V') := by
  refine (getCum_ V (h.below hx.low) hy (by omega)).mono ?_
  rintro e V' ⟨rfl, b⟩
  rw [hE]
  exact ⟨rfl, ⟨hx.below b⟩⟩
end

theorem initCk_len (k : Int) (xs : List Int) : (initCk k xs).length ≤ xs.length := by
  unfold initCk ckL
  split
  · split
    · rw [List.length_take, List.length_drop]; omega
    · simp
  · simp

set_option maxHeartbeats 8000000 in
theorem gotNone_ (w : World) {k f : Int} {A : Option Addr} {n c : Nat} {xs : List Int} (h : Rd .u8 w A n c xs) (hy : Byt xs) (hn : n ≤ 50000) (hData : dataE k f xs = false) (hInit : initE k f xs = false) (hSack : sackE k f xs = false) (hFwd : fwdE k f xs = false) (hTime : timeE k f xs = false) (hCum : cumE k f xs = false) :
    Calls Try.prog 14 #[chunkV k f A n c] w fun e w' => e = .returned (.tuple #[.int .i64 0, .bool true]) ∧ Below w.heap.size w w' := by
  have H := Aside.mk h
  have Y := Aside.mk hy
  have hlen := Aside.mk h.len
  have hEData := Aside.mk hData
  have hEInit := Aside.mk hInit
  have hESack := Aside.mk hSack
  have hEFwd := Aside.mk hFwd
  have hETime := Aside.mk hTime
  have hECum := Aside.mk hCum
  clear h hy hData hInit hSack hFwd hTime hCum
  have X0 := Aside.mk (boxed_new w (chunkO k f A n c))
  have kb0 := keep3 X0.out.box
  have kz0 := lt_of_block X0.out.box
  unfold chunkV
  go_enter Try.func14, Try.ntmps14
  go_wp2_with fail
  refine (noData X0.out H.out Y.out (by omega) hEData.out).mono ?_
  rintro e v1 ⟨rfl, P1⟩
  unfold dataZ dataV
  have kb1 := keep3 P1.out.box
  have kz1 := lt_of_block P1.out.box
  have X1 := Aside.mk (P1.out.alloc (.cells #[.int .u32 0, .int .u16 0, .int .u16 0, .bool false, .bool false, .bool false, .slice none 0 0] 32))
  clear X0 P1
  clear kb0 kz0
  go_wp2_with fail
  refine (noInit X1.out H.out Y.out (by omega) hEInit.out).mono ?_
  rintro e v2 ⟨rfl, P2⟩
  unfold initZ initV
  have kb2 := keep3 P2.out.box
  have kz2 := lt_of_block P2.out.box
  have X2 := Aside.mk (P2.out.alloc (.cells #[.int .u32 0, .int .u32 0, .int .u16 0, .int .u16 0, .int .u32 0, .slice none 0 0] 34))
  clear X1 P2
  clear kb1 kz1
  go_wp2_with fail
  refine (noSack X2.out H.out Y.out (by omega) hESack.out).mono ?_
  rintro e v3 ⟨rfl, P3⟩
  unfold sackZ sackV
  have kb3 := keep3 P3.out.box
  have kz3 := lt_of_block P3.out.box
  have X3 := Aside.mk (P3.out.alloc (.cells #[.int .u32 0, .int .u32 0, .slice none 0 0, .slice none 0 0] 38))
  clear X2 P3
  clear kb2 kz2
  go_wp2_with fail
  refine (noFwd X3.out H.out Y.out (by omega) hEFwd.out).mono ?_
  rintro e v4 ⟨rfl, P4⟩
  unfold fwdZ fwdV
  have kb4 := keep3 P4.out.box
  have kz4 := lt_of_block P4.out.box
  have X4 := Aside.mk (P4.out.alloc (.cells #[.int .u32 0, .slice none 0 0] 41))
  clear X3 P4
  clear kb3 kz3
  go_wp2_with fail
  refine (noTime X4.out H.out Y.out (by omega) hETime.out).mono ?_
  rintro e v5 ⟨rfl, P5⟩
  unfold timeZ timeV
  have kb5 := keep3 P5.out.box
  have kz5 := lt_of_block P5.out.box
  have X5 := Aside.mk P5.out
  clear X4 P5
  clear kb4 kz4
  go_wp2_with fail
  refine (noCum X5.out H.out Y.out (by omega) hECum.out).mono ?_
  rintro e v6 ⟨rfl, P6⟩
  unfold cumZ cumV
  have kb6 := keep3 P6.out.box
  have kz6 := lt_of_block P6.out.box
  have X6 := Aside.mk P6.out
  clear X5 P6
  clear kb5 kz5
  go_wp2_with fail
  go_ret2
  exact ⟨rfl, X6.out.low⟩

set_option maxHeartbeats 8000000 in
theorem gotData_ (w : World) {k f : Int} {A : Option Addr} {n c : Nat} {xs : List Int} (h : Rd .u8 w A n c xs) (hy : Byt xs) (hn : n ≤ 50000) (hData : dataE k f xs = true) (hInit : initE k f xs = false) (hSack : sackE k f xs = false) (hFwd : fwdE k f xs = false) (hTime : timeE k f xs = false) (hCum : cumE k f xs = false) :
    Calls Try.prog 14 #[chunkV k f A n c] w fun e w' => e = .returned (.tuple #[.int .i64 1, .bool true]) ∧ Below w.heap.size w w' := by
  have H := Aside.mk h
  have Y := Aside.mk hy
  have hlen := Aside.mk h.len
  have hEData := Aside.mk hData
  have hEInit := Aside.mk hInit
  have hESack := Aside.mk hSack
  have hEFwd := Aside.mk hFwd
  have hETime := Aside.mk hTime
  have hECum := Aside.mk hCum
  clear h hy hData hInit hSack hFwd hTime hCum
  have X0 := Aside.mk (boxed_new w (chunkO k f A n c))
  have kb0 := keep3 X0.out.box
  have kz0 := lt_of_block X0.out.box
  unfold chunkV
  go_enter Try.func14, Try.ntmps14
  go_wp2_with fail
  refine (yesData X0.out H.out Y.out (by omega) hEData.out).mono ?_
  rintro e v1 ⟨B, m, d, rfl, P1⟩
  unfold dataV
  have hb1 := gt_4 Y.out 0
  have hb2 := gt_2 Y.out 4
  have hb3 := gt_2 Y.out 6
  have ES : Aside ((((0 : Int) == k) && (flagsV (fl f 4) (fl f 2) (fl f 1) == f) && decide (dataL (gt xs 0 4) (gt xs 4 2) (gt xs 6 2) (xs.drop 12) = xs)) = true) := ⟨by have := hEData.out; unfold dataE at this; simp only [Bool.and_eq_true] at this ⊢; simp_all⟩
  have hm1 : m ≤ 50000 := by have h1 := P1.out.2.len; have h2 := hlen.out; rw [List.length_drop] at h1; omega
  generalize gt xs 0 4 = x1 at *
  generalize gt xs 4 2 = x2 at *
  generalize gt xs 6 2 = x3 at *
  generalize fl f 4 = b1 at *
  generalize fl f 2 = b2 at *
  generalize fl f 1 = b3 at *
  have X1 := Aside.mk (P1.out.1.alloc (.cells #[.int .u32 x1, .int .u16 x2, .int .u16 x3, .bool b1, .bool b2, .bool b3, .slice B m d] 32))
  have VB := heap_alloc_new v1 (.cells #[.int .u32 x1, .int .u16 x2, .int .u16 x3, .bool b1, .bool b2, .bool b3, .slice B m d] 32)
  have kb1 := keep3 P1.out.1.box
  have kz1 := lt_of_block P1.out.1.box
  clear X0 kb0 kz0
  have TP := Aside.mk (fun (V : World) (b : Below v1.heap.size v1 V) => (putDataN_ V x1 x2 x3 b1 b2 b3 hb1 hb2 hb3 ((P1.out.2.rd (by omega)).below b) (by omega)))
  have TS := Aside.mk (fun (V : World) (hV : Boxed w (chunkO k f A n c) V) (A2 : Option Addr) (n2 c2 : Nat) (h2 : Rd .u8 V A2 n2 c2 (dataL x1 x2 x3 (xs.drop 12))) => same_ V 0 (flagsV b1 b2 b3) k f h2 (H.out.below hV.low) (by have := ES.out; simp only [Bool.and_eq_true, decide_eq_true_eq] at this; rw [this.2]; exact Y.out) Y.out ES.out)
  have KK : Aside (∀ V : World, V.heap[w.heap.size]? = some (chunkO k f A n c) → V.heap[v1.heap.size]? = some (.cells #[.int .u32 x1, .int .u16 x2, .int .u16 x3, .bool b1, .bool b2, .bool b3, .slice B m d] 32) → V.cell? ⟨w.heap.size, 0, none⟩ = some (.int .u8 k) ∧ V.cell? ⟨w.heap.size, 1, none⟩ = some (.int .u8 f) ∧ V.cell? ⟨w.heap.size, 2, none⟩ = some (.slice A n c) ∧ V.cell? ⟨v1.heap.size, 0, none⟩ = some (.int .u32 x1) ∧ V.cell? ⟨v1.heap.size, 1, none⟩ = some (.int .u16 x2) ∧ V.cell? ⟨v1.heap.size, 2, none⟩ = some (.int .u16 x3) ∧ V.cell? ⟨v1.heap.size, 3, none⟩ = some (.bool b1) ∧ V.cell? ⟨v1.heap.size, 4, none⟩ = some (.bool b2) ∧ V.cell? ⟨v1.heap.size, 5, none⟩ = some (.bool b3) ∧ V.cell? ⟨v1.heap.size, 6, none⟩ = some (.slice B m d)) := ⟨fun V h1 h2 => ⟨(keep3 h1).1, (keep3 h1).2.1, (keep3 h1).2.2, (keep7 h2).1, (keep7 h2).2.1, (keep7 h2).2.2.1, (keep7 h2).2.2.2.1, (keep7 h2).2.2.2.2.1, (keep7 h2).2.2.2.2.2.1, (keep7 h2).2.2.2.2.2.2⟩⟩
  have hx1 := X1.out.box
  go_wp2_with fail
  go_region_held3 (fun w' => w'.cell? ⟨w.heap.size, 0, none⟩ = some (.int .u8 k) ∧ w'.cell? ⟨w.heap.size, 1, none⟩ = some (.int .u8 f) ∧ w'.cell? ⟨w.heap.size, 2, none⟩ = some (.slice A n c) ∧ w'.cell? ⟨v1.heap.size, 0, none⟩ = some (.int .u32 x1) ∧ w'.cell? ⟨v1.heap.size, 1, none⟩ = some (.int .u16 x2) ∧ w'.cell? ⟨v1.heap.size, 2, none⟩ = some (.int .u16 x3) ∧ w'.cell? ⟨v1.heap.size, 3, none⟩ = some (.bool b1) ∧ w'.cell? ⟨v1.heap.size, 4, none⟩ = some (.bool b2) ∧ w'.cell? ⟨v1.heap.size, 5, none⟩ = some (.bool b3) ∧ w'.cell? ⟨v1.heap.size, 6, none⟩ = some (.slice B m d))
    (first | (with_reducible exact KK.out _ hc1 hc2) | (with_reducible exact KK.out _ ha1 ha2) | exact KK.out _ X1.out.drew.box VB | go_keep)
    (first
      | (go_at_call 25; refine (TS.out _ Y1.out _ _ _ (PP.out.1.rd (by omega))).mono ?_; rintro e u2 ⟨rfl, b2⟩; have PS := Aside.mk b2; have Y2 := Aside.mk (Y1.out.below b2); have hc1 := Y2.out.box; have hc2 := (PS.out.block _ (lt_of_block ha2)).trans ha2; clear b2)
      | (go_at_call 21; refine (TP.out _ (below_drewN (below_alloc v1 _) 1)).mono ?_; rintro e u1 ⟨AA, cc, rfl, PP⟩; unfold chunkV; have Y1 := Aside.mk (X1.out.drew.below PP.out.2); have ha1 := Y1.out.box; have ha2 := (PP.out.2.block _ (lt_of_block VB)).trans VB; skip))
  have X1 := Aside.mk Y2.out
  have kb1 := keep3 Y2.out.box
  have kz1 := lt_of_block Y2.out.box
  clear Y1 Y2 PP PS TP TS KK ES ha1 hc1 P1
  clear VB ha2 hc2 hx1
  go_wp2_with fail
  refine (noInit X1.out H.out Y.out (by omega) hEInit.out).mono ?_
  rintro e v2 ⟨rfl, P2⟩
  unfold initZ initV
  have kb2 := keep3 P2.out.box
  have kz2 := lt_of_block P2.out.box
  have X2 := Aside.mk (P2.out.alloc (.cells #[.int .u32 0, .int .u32 0, .int .u16 0, .int .u16 0, .int .u32 0, .slice none 0 0] 34))
  clear X1 P2
  clear kb1 kz1
  go_wp2_with fail
  refine (noSack X2.out H.out Y.out (by omega) hESack.out).mono ?_
  rintro e v3 ⟨rfl, P3⟩
  unfold sackZ sackV
  have kb3 := keep3 P3.out.box
  have kz3 := lt_of_block P3.out.box
  have X3 := Aside.mk (P3.out.alloc (.cells #[.int .u32 0, .int .u32 0, .slice none 0 0, .slice none 0 0] 38))
  clear X2 P3
  clear kb2 kz2
  go_wp2_with fail
  refine (noFwd X3.out H.out Y.out (by omega) hEFwd.out).mono ?_
  rintro e v4 ⟨rfl, P4⟩
  unfold fwdZ fwdV
  have kb4 := keep3 P4.out.box
  have kz4 := lt_of_block P4.out.box
  have X4 := Aside.mk (P4.out.alloc (.cells #[.int .u32 0, .slice none 0 0] 41))
  clear X3 P4
  clear kb3 kz3
  go_wp2_with fail
  refine (noTime X4.out H.out Y.out (by omega) hETime.out).mono ?_
  rintro e v5 ⟨rfl, P5⟩
  unfold timeZ timeV
  have kb5 := keep3 P5.out.box
  have kz5 := lt_of_block P5.out.box
  have X5 := Aside.mk P5.out
  clear X4 P5
  clear kb4 kz4
  go_wp2_with fail
  refine (noCum X5.out H.out Y.out (by omega) hECum.out).mono ?_
  rintro e v6 ⟨rfl, P6⟩
  unfold cumZ cumV
  have kb6 := keep3 P6.out.box
  have kz6 := lt_of_block P6.out.box
  have X6 := Aside.mk P6.out
  clear X5 P6
  clear kb5 kz5
  go_wp2_with fail
  go_ret2
  exact ⟨rfl, X6.out.low⟩

set_option maxHeartbeats 8000000 in
theorem gotInit_ (w : World) {k f : Int} {A : Option Addr} {n c : Nat} {xs : List Int} (h : Rd .u8 w A n c xs) (hy : Byt xs) (hn : n ≤ 50000) (hData : dataE k f xs = false) (hInit : initE k f xs = true) (hSack : sackE k f xs = false) (hFwd : fwdE k f xs = false) (hTime : timeE k f xs = false) (hCum : cumE k f xs = false) :
    Calls Try.prog 14 #[chunkV k f A n c] w fun e w' => e = .returned (.tuple #[.int .i64 1, .bool true]) ∧ Below w.heap.size w w' := by
  have H := Aside.mk h
  have Y := Aside.mk hy
  have hlen := Aside.mk h.len
  have hEData := Aside.mk hData
  have hEInit := Aside.mk hInit
  have hESack := Aside.mk hSack
  have hEFwd := Aside.mk hFwd
  have hETime := Aside.mk hTime
  have hECum := Aside.mk hCum
  clear h hy hData hInit hSack hFwd hTime hCum
  have X0 := Aside.mk (boxed_new w (chunkO k f A n c))
  have kb0 := keep3 X0.out.box
  have kz0 := lt_of_block X0.out.box
  unfold chunkV
  go_enter Try.func14, Try.ntmps14
  go_wp2_with fail
  refine (noData X0.out H.out Y.out (by omega) hEData.out).mono ?_
  rintro e v1 ⟨rfl, P1⟩
  unfold dataZ dataV
  have kb1 := keep3 P1.out.box
  have kz1 := lt_of_block P1.out.box
  have X1 := Aside.mk (P1.out.alloc (.cells #[.int .u32 0, .int .u16 0, .int .u16 0, .bool false, .bool false, .bool false, .slice none 0 0] 32))
  clear X0 P1
  clear kb0 kz0
  go_wp2_with fail
  refine (yesInit X1.out H.out Y.out (by omega) hEInit.out).mono ?_
  rintro e v2 ⟨B, m, d, rfl, P2⟩
  unfold initV
  have hb1 := gt_4 Y.out 0
  have hb2 := gt_4 Y.out 4
  have hb3 := gt_2 Y.out 8
  have hb4 := gt_2 Y.out 10
  have hb5 := gt_4 Y.out 12
  have ES : Aside ((((k == k) && ((0 : Int) == f) && decide (initL k (gt xs 0 4) (gt xs 4 4) (gt xs 8 2) (gt xs 10 2) (gt xs 12 4) (initCk k xs) = xs))) = true) := ⟨by have := hEInit.out; unfold initE at this; simp only [Bool.and_eq_true] at this ⊢; simp_all⟩
  obtain ⟨NN, hN0⟩ : ∃ NN, (if k = 2 then 20 + (m + 3) / 4 * 4 else 16) = NN := ⟨_, rfl⟩
  have hNN := Aside.mk hN0
  have hm1 : m ≤ 50000 := by
    have h1 := P2.out.2.len
    have h2 := hlen.out
    have h3 := initCk_len k xs
    omega
  have hNb : NN ≤ 60000 := by rw [← hN0]; split <;> omega
  clear hN0
  generalize gt xs 0 4 = x1 at *
  generalize gt xs 4 4 = x2 at *
  generalize gt xs 8 2 = x3 at *
  generalize gt xs 10 2 = x4 at *
  generalize gt xs 12 4 = x5 at *
  have X2 := Aside.mk (P2.out.1.alloc (.cells #[.int .u32 x1, .int .u32 x2, .int .u16 x3, .int .u16 x4, .int .u32 x5, .slice B m d] 34))
  have VB := heap_alloc_new v2 (.cells #[.int .u32 x1, .int .u32 x2, .int .u16 x3, .int .u16 x4, .int .u32 x5, .slice B m d] 34)
  have kb2 := keep3 P2.out.1.box
  have kz2 := lt_of_block P2.out.1.box
  clear X1 kb1 kz1
  have TP := Aside.mk (fun (V : World) (b : Below v2.heap.size v2 V) => (putInitN_ V k x1 x2 x3 x4 x5 hb1 hb2 hb3 hb4 hb5 ((P2.out.2.rd (by omega)).below b) (by omega) NN hNN.out))
  have TS := Aside.mk (fun (V : World) (hV : Boxed w (chunkO k f A n c) V) (A2 : Option Addr) (n2 c2 : Nat) (h2 : Rd .u8 V A2 n2 c2 (initL k x1 x2 x3 x4 x5 (initCk k xs))) => same_ V k 0 k f h2 (H.out.below hV.low) (by have := ES.out; simp only [Bool.and_eq_true, decide_eq_true_eq] at this; rw [this.2]; exact Y.out) Y.out ES.out)
  have KK : Aside (∀ V : World, V.heap[w.heap.size]? = some (chunkO k f A n c) → V.heap[v2.heap.size]? = some (.cells #[.int .u32 x1, .int .u32 x2, .int .u16 x3, .int .u16 x4, .int .u32 x5, .slice B m d] 34) → V.cell? ⟨w.heap.size, 0, none⟩ = some (.int .u8 k) ∧ V.cell? ⟨w.heap.size, 1, none⟩ = some (.int .u8 f) ∧ V.cell? ⟨w.heap.size, 2, none⟩ = some (.slice A n c) ∧ V.cell? ⟨v2.heap.size, 0, none⟩ = some (.int .u32 x1) ∧ V.cell? ⟨v2.heap.size, 1, none⟩ = some (.int .u32 x2) ∧ V.cell? ⟨v2.heap.size, 2, none⟩ = some (.int .u16 x3) ∧ V.cell? ⟨v2.heap.size, 3, none⟩ = some (.int .u16 x4) ∧ V.cell? ⟨v2.heap.size, 4, none⟩ = some (.int .u32 x5) ∧ V.cell? ⟨v2.heap.size, 5, none⟩ = some (.slice B m d)) := ⟨fun V h1 h2 => ⟨(keep3 h1).1, (keep3 h1).2.1, (keep3 h1).2.2, (keep6 h2).1, (keep6 h2).2.1, (keep6 h2).2.2.1, (keep6 h2).2.2.2.1, (keep6 h2).2.2.2.2.1, (keep6 h2).2.2.2.2.2⟩⟩
  have hx2 := X2.out.box
  go_wp2_with fail
  go_region_held3 (fun w' => w'.cell? ⟨w.heap.size, 0, none⟩ = some (.int .u8 k) ∧ w'.cell? ⟨w.heap.size, 1, none⟩ = some (.int .u8 f) ∧ w'.cell? ⟨w.heap.size, 2, none⟩ = some (.slice A n c) ∧ w'.cell? ⟨v2.heap.size, 0, none⟩ = some (.int .u32 x1) ∧ w'.cell? ⟨v2.heap.size, 1, none⟩ = some (.int .u32 x2) ∧ w'.cell? ⟨v2.heap.size, 2, none⟩ = some (.int .u16 x3) ∧ w'.cell? ⟨v2.heap.size, 3, none⟩ = some (.int .u16 x4) ∧ w'.cell? ⟨v2.heap.size, 4, none⟩ = some (.int .u32 x5) ∧ w'.cell? ⟨v2.heap.size, 5, none⟩ = some (.slice B m d))
    (first | (with_reducible exact KK.out _ hc1 hc2) | (with_reducible exact KK.out _ ha1 ha2) | exact KK.out _ X2.out.drew.box VB | go_keep)
    (first
      | (go_at_call 25; refine (TS.out _ Y1.out _ _ _ (PP.out.1.rd (by omega))).mono ?_; rintro e u2 ⟨rfl, b2⟩; have PS := Aside.mk b2; have Y2 := Aside.mk (Y1.out.below b2); have hc1 := Y2.out.box; have hc2 := (PS.out.block _ (lt_of_block ha2)).trans ha2; clear b2)
      | (go_at_call 16; refine (TP.out _ (below_drewN (below_alloc v2 _) 1)).mono ?_; rintro e u1 ⟨AA, cc, rfl, PP⟩; unfold chunkV; have Y1 := Aside.mk (X2.out.drew.below PP.out.2); have ha1 := Y1.out.box; have ha2 := (PP.out.2.block _ (lt_of_block VB)).trans VB; skip))
  have X2 := Aside.mk Y2.out
  have kb2 := keep3 Y2.out.box
  have kz2 := lt_of_block Y2.out.box
  clear Y1 Y2 PP PS TP TS KK ES ha1 hc1 P2
  clear VB ha2 hc2 hx2
  go_wp2_with fail
  refine (noSack X2.out H.out Y.out (by omega) hESack.out).mono ?_
  rintro e v3 ⟨rfl, P3⟩
  unfold sackZ sackV
  have kb3 := keep3 P3.out.box
  have kz3 := lt_of_block P3.out.box
  have X3 := Aside.mk (P3.out.alloc (.cells #[.int .u32 0, .int .u32 0, .slice none 0 0, .slice none 0 0] 38))
  clear X2 P3
  clear kb2 kz2
  go_wp2_with fail
  refine (noFwd X3.out H.out Y.out (by omega) hEFwd.out).mono ?_
  rintro e v4 ⟨rfl, P4⟩
  unfold fwdZ fwdV
  have kb4 := keep3 P4.out.box
  have kz4 := lt_of_block P4.out.box
  have X4 := Aside.mk (P4.out.alloc (.cells #[.int .u32 0, .slice none 0 0] 41))
  clear X3 P4
  clear kb3 kz3
  go_wp2_with fail
  refine (noTime X4.out H.out Y.out (by omega) hETime.out).mono ?_
  rintro e v5 ⟨rfl, P5⟩
  unfold timeZ timeV
  have kb5 := keep3 P5.out.box
  have kz5 := lt_of_block P5.out.box
  have X5 := Aside.mk P5.out
  clear X4 P5
  clear kb4 kz4
  go_wp2_with fail
  refine (noCum X5.out H.out Y.out (by omega) hECum.out).mono ?_
  rintro e v6 ⟨rfl, P6⟩
  unfold cumZ cumV
  have kb6 := keep3 P6.out.box
  have kz6 := lt_of_block P6.out.box
  have X6 := Aside.mk P6.out
  clear X5 P6
  clear kb5 kz5
  go_wp2_with fail
  go_ret2
  exact ⟨rfl, X6.out.low⟩

set_option maxHeartbeats 8000000 in
theorem gotSack_ (w : World) {k f : Int} {A : Option Addr} {n c : Nat} {xs : List Int} (h : Rd .u8 w A n c xs) (hy : Byt xs) (hn : n ≤ 50000) (hData : dataE k f xs = false) (hInit : initE k f xs = false) (hSack : sackE k f xs = true) (hFwd : fwdE k f xs = false) (hTime : timeE k f xs = false) (hCum : cumE k f xs = false) :
    Calls Try.prog 14 #[chunkV k f A n c] w fun e w' => e = .returned (.tuple #[.int .i64 1, .bool true]) ∧ Below w.heap.size w w' := by
  have H := Aside.mk h
  have Y := Aside.mk hy
  have hlen := Aside.mk h.len
  have hEData := Aside.mk hData
  have hEInit := Aside.mk hInit
  have hESack := Aside.mk hSack
  have hEFwd := Aside.mk hFwd
  have hETime := Aside.mk hTime
  have hECum := Aside.mk hCum
  clear h hy hData hInit hSack hFwd hTime hCum
  have X0 := Aside.mk (boxed_new w (chunkO k f A n c))
  have kb0 := keep3 X0.out.box
  have kz0 := lt_of_block X0.out.box
  unfold chunkV
  go_enter Try.func14, Try.ntmps14
  go_wp2_with fail
  refine (noData X0.out H.out Y.out (by omega) hEData.out).mono ?_
  rintro e v1 ⟨rfl, P1⟩
  unfold dataZ dataV
  have kb1 := keep3 P1.out.box
  have kz1 := lt_of_block P1.out.box
  have X1 := Aside.mk (P1.out.alloc (.cells #[.int .u32 0, .int .u16 0, .int .u16 0, .bool false, .bool false, .bool false, .slice none 0 0] 32))
  clear X0 P1
  clear kb0 kz0
  go_wp2_with fail
  refine (noInit X1.out H.out Y.out (by omega) hEInit.out).mono ?_
  rintro e v2 ⟨rfl, P2⟩
  unfold initZ initV
  have kb2 := keep3 P2.out.box
  have kz2 := lt_of_block P2.out.box
  have X2 := Aside.mk (P2.out.alloc (.cells #[.int .u32 0, .int .u32 0, .int .u16 0, .int .u16 0, .int .u32 0, .slice none 0 0] 34))
  clear X1 P2
  clear kb1 kz1
  go_wp2_with fail
  refine (yesSack X2.out H.out Y.out (by omega) hESack.out).mono ?_
  rintro e v3 ⟨B, m, d, B2, m2, d2, rfl, P3⟩
  unfold sackV
  have hb1 := gt_4 Y.out 0
  have hb2 := gt_4 Y.out 4
  have ES : Aside ((((3 : Int) == k) && ((0 : Int) == f) && decide (sackL (gt xs 0 4) (gt xs 4 4) (sackPs xs) (sackDs xs) = xs)) = true) := ⟨by have := hESack.out; unfold sackE at this; simp only [Bool.and_eq_true] at this ⊢; simp_all⟩
  have hps := Aside.mk (prs_bd Y.out 12 (sackG xs))
  have hds := Aside.mk (dds_bd Y.out (12 + 4 * sackG xs) (sackD xs))
  have hm1 : m ≤ 25000 := by have h1 := P3.out.2.1.len; have h2 := hlen.out; unfold sackPs sackG at h1; rw [prs_len] at h1; omega
  have hm2 : m2 ≤ 25000 := by have h1 := P3.out.2.2.len; have h2 := hlen.out; unfold sackDs sackD at h1; rw [dds_len] at h1; omega
  generalize gt xs 0 4 = x1 at *
  generalize gt xs 4 4 = x2 at *
  have X3 := Aside.mk (P3.out.1.alloc (.cells #[.int .u32 x1, .int .u32 x2, .slice B m d, .slice B2 m2 d2] 38))
  have VB := heap_alloc_new v3 (.cells #[.int .u32 x1, .int .u32 x2, .slice B m d, .slice B2 m2 d2] 38)
  have kb3 := keep3 P3.out.1.box
  have kz3 := lt_of_block P3.out.1.box
  clear X2 kb2 kz2
  have TP := Aside.mk (fun (V : World) (b : Below v3.heap.size v3 V) => (putSackN_ V x1 x2 hb1 hb2 ((P3.out.2.1.rd2 (by omega) hps.out).below b) ((P3.out.2.2.rd (by omega)).below b) (by omega) hds.out))
  have TS := Aside.mk (fun (V : World) (hV : Boxed w (chunkO k f A n c) V) (A2 : Option Addr) (n2 c2 : Nat) (h2 : Rd .u8 V A2 n2 c2 (sackL x1 x2 (sackPs xs) (sackDs xs))) => same_ V 3 0 k f h2 (H.out.below hV.low) (by have := ES.out; simp only [Bool.and_eq_true, decide_eq_true_eq] at this; rw [this.2]; exact Y.out) Y.out ES.out)
  have KK : Aside (∀ V : World, V.heap[w.heap.size]? = some (chunkO k f A n c) → V.heap[v3.heap.size]? = some (.cells #[.int .u32 x1, .int .u32 x2, .slice B m d, .slice B2 m2 d2] 38) → V.cell? ⟨w.heap.size, 0, none⟩ = some (.int .u8 k) ∧ V.cell? ⟨w.heap.size, 1, none⟩ = some (.int .u8 f) ∧ V.cell? ⟨w.heap.size, 2, none⟩ = some (.slice A n c) ∧ V.cell? ⟨v3.heap.size, 0, none⟩ = some (.int .u32 x1) ∧ V.cell? ⟨v3.heap.size, 1, none⟩ = some (.int .u32 x2) ∧ V.cell? ⟨v3.heap.size, 2, none⟩ = some (.slice B m d) ∧ V.cell? ⟨v3.heap.size, 3, none⟩ = some (.slice B2 m2 d2)) := ⟨fun V h1 h2 => ⟨(keep3 h1).1, (keep3 h1).2.1, (keep3 h1).2.2, (keep4 h2).1, (keep4 h2).2.1, (keep4 h2).2.2.1, (keep4 h2).2.2.2⟩⟩
  have hx3 := X3.out.box
  go_wp2_with fail
  go_region_held3 (fun w' => w'.cell? ⟨w.heap.size, 0, none⟩ = some (.int .u8 k) ∧ w'.cell? ⟨w.heap.size, 1, none⟩ = some (.int .u8 f) ∧ w'.cell? ⟨w.heap.size, 2, none⟩ = some (.slice A n c) ∧ w'.cell? ⟨v3.heap.size, 0, none⟩ = some (.int .u32 x1) ∧ w'.cell? ⟨v3.heap.size, 1, none⟩ = some (.int .u32 x2) ∧ w'.cell? ⟨v3.heap.size, 2, none⟩ = some (.slice B m d) ∧ w'.cell? ⟨v3.heap.size, 3, none⟩ = some (.slice B2 m2 d2))
    (first | (with_reducible exact KK.out _ hc1 hc2) | (with_reducible exact KK.out _ ha1 ha2) | exact KK.out _ X3.out.drew.box VB | go_keep)
    (first
      | (go_at_call 25; refine (TS.out _ Y1.out _ _ _ (PP.out.1.rd (by omega))).mono ?_; rintro e u2 ⟨rfl, b2⟩; have PS := Aside.mk b2; have Y2 := Aside.mk (Y1.out.below b2); have hc1 := Y2.out.box; have hc2 := (PS.out.block _ (lt_of_block ha2)).trans ha2; clear b2)
      | (go_at_call 17; refine (TP.out _ (below_drewN (below_alloc v3 _) 1)).mono ?_; rintro e u1 ⟨AA, cc, rfl, PP⟩; unfold chunkV; have Y1 := Aside.mk (X3.out.drew.below PP.out.2); have ha1 := Y1.out.box; have ha2 := (PP.out.2.block _ (lt_of_block VB)).trans VB; skip))
  have X3 := Aside.mk Y2.out
  have kb3 := keep3 Y2.out.box
  have kz3 := lt_of_block Y2.out.box
  clear Y1 Y2 PP PS TP TS KK ES ha1 hc1 P3
  clear VB ha2 hc2 hx3
  go_wp2_with fail
  refine (noFwd X3.out H.out Y.out (by omega) hEFwd.out).mono ?_
  rintro e v4 ⟨rfl, P4⟩
  unfold fwdZ fwdV
  have kb4 := keep3 P4.out.box
  have kz4 := lt_of_block P4.out.box
  have X4 := Aside.mk (P4.out.alloc (.cells #[.int .u32 0, .slice none 0 0] 41))
  clear X3 P4
  clear kb3 kz3
  go_wp2_with fail
  refine (noTime X4.out H.out Y.out (by omega) hETime.out).mono ?_
  rintro e v5 ⟨rfl, P5⟩
  unfold timeZ timeV
  have kb5 := keep3 P5.out.box
  have kz5 := lt_of_block P5.out.box
  have X5 := Aside.mk P5.out
  clear X4 P5
  clear kb4 kz4
  go_wp2_with fail
  refine (noCum X5.out H.out Y.out (by omega) hECum.out).mono ?_
  rintro e v6 ⟨rfl, P6⟩
  unfold cumZ cumV
  have kb6 := keep3 P6.out.box
  have kz6 := lt_of_block P6.out.box
  have X6 := Aside.mk P6.out
  clear X5 P6
  clear kb5 kz5
  go_wp2_with fail
  go_ret2
  exact ⟨rfl, X6.out.low⟩

set_option maxHeartbeats 8000000 in
theorem gotFwd_ (w : World) {k f : Int} {A : Option Addr} {n c : Nat} {xs : List Int} (h : Rd .u8 w A n c xs) (hy : Byt xs) (hn : n ≤ 50000) (hData : dataE k f xs = false) (hInit : initE k f xs = false) (hSack : sackE k f xs = false) (hFwd : fwdE k f xs = true) (hTime : timeE k f xs = false) (hCum : cumE k f xs = false) :
    Calls Try.prog 14 #[chunkV k f A n c] w fun e w' => e = .returned (.tuple #[.int .i64 1, .bool true]) ∧ Below w.heap.size w w' := by
  have H := Aside.mk h
  have Y := Aside.mk hy
  have hlen := Aside.mk h.len
  have hEData := Aside.mk hData
  have hEInit := Aside.mk hInit
  have hESack := Aside.mk hSack
  have hEFwd := Aside.mk hFwd
  have hETime := Aside.mk hTime
  have hECum := Aside.mk hCum
  clear h hy hData hInit hSack hFwd hTime hCum
  have X0 := Aside.mk (boxed_new w (chunkO k f A n c))
  have kb0 := keep3 X0.out.box
  have kz0 := lt_of_block X0.out.box
  unfold chunkV
  go_enter Try.func14, Try.ntmps14
  go_wp2_with fail
  refine (noData X0.out H.out Y.out (by omega) hEData.out).mono ?_
  rintro e v1 ⟨rfl, P1⟩
  unfold dataZ dataV
  have kb1 := keep3 P1.out.box
  have kz1 := lt_of_block P1.out.box
  have X1 := Aside.mk (P1.out.alloc (.cells #[.int .u32 0, .int .u16 0, .int .u16 0, .bool false, .bool false, .bool false, .slice none 0 0] 32))
  clear X0 P1
  clear kb0 kz0
  go_wp2_with fail
  refine (noInit X1.out H.out Y.out (by omega) hEInit.out).mono ?_
  rintro e v2 ⟨rfl, P2⟩
  unfold initZ initV
  have kb2 := keep3 P2.out.box
  have kz2 := lt_of_block P2.out.box
  have X2 := Aside.mk (P2.out.alloc (.cells #[.int .u32 0, .int .u32 0, .int .u16 0, .int .u16 0, .int .u32 0, .slice none 0 0] 34))
  clear X1 P2
  clear kb1 kz1
  go_wp2_with fail
  refine (noSack X2.out H.out Y.out (by omega) hESack.out).mono ?_
  rintro e v3 ⟨rfl, P3⟩
  unfold sackZ sackV
  have kb3 := keep3 P3.out.box
  have kz3 := lt_of_block P3.out.box
  have X3 := Aside.mk (P3.out.alloc (.cells #[.int .u32 0, .int .u32 0, .slice none 0 0, .slice none 0 0] 38))
  clear X2 P3
  clear kb2 kz2
  go_wp2_with fail
  refine (yesFwd X3.out H.out Y.out (by omega) hEFwd.out).mono ?_
  rintro e v4 ⟨B, m, d, rfl, P4⟩
  unfold fwdV
  have hb1 := gt_4 Y.out 0
  have ES : Aside ((((192 : Int) == k) && ((0 : Int) == f) && decide (fwdL (gt xs 0 4) (fwdPs xs) = xs)) = true) := ⟨by have := hEFwd.out; unfold fwdE at this; simp only [Bool.and_eq_true] at this ⊢; simp_all⟩
  have hps := Aside.mk (prs_bd Y.out 4 ((xs.length - 1) / 4))
  have hm1 : m ≤ 25000 := by have h1 := P4.out.2.len; have h2 := hlen.out; unfold fwdPs at h1; rw [prs_len] at h1; omega
  generalize gt xs 0 4 = x1 at *
  have X4 := Aside.mk (P4.out.1.alloc (.cells #[.int .u32 x1, .slice B m d] 41))
  have VB := heap_alloc_new v4 (.cells #[.int .u32 x1, .slice B m d] 41)
  have kb4 := keep3 P4.out.1.box
  have kz4 := lt_of_block P4.out.1.box
  clear X3 kb3 kz3
  have TP := Aside.mk (fun (V : World) (b : Below v4.heap.size v4 V) => (putFwdN_ V x1 hb1 ((P4.out.2.rd2 (by omega) hps.out).below b)))
  have TS := Aside.mk (fun (V : World) (hV : Boxed w (chunkO k f A n c) V) (A2 : Option Addr) (n2 c2 : Nat) (h2 : Rd .u8 V A2 n2 c2 (fwdL x1 (fwdPs xs))) => same_ V 192 0 k f h2 (H.out.below hV.low) (by have := ES.out; simp only [Bool.and_eq_true, decide_eq_true_eq] at this; rw [this.2]; exact Y.out) Y.out ES.out)
  have KK : Aside (∀ V : World, V.heap[w.heap.size]? = some (chunkO k f A n c) → V.heap[v4.heap.size]? = some (.cells #[.int .u32 x1, .slice B m d] 41) → V.cell? ⟨w.heap.size, 0, none⟩ = some (.int .u8 k) ∧ V.cell? ⟨w.heap.size, 1, none⟩ = some (.int .u8 f) ∧ V.cell? ⟨w.heap.size, 2, none⟩ = some (.slice A n c) ∧ V.cell? ⟨v4.heap.size, 0, none⟩ = some (.int .u32 x1) ∧ V.cell? ⟨v4.heap.size, 1, none⟩ = some (.slice B m d)) := ⟨fun V h1 h2 => ⟨(keep3 h1).1, (keep3 h1).2.1, (keep3 h1).2.2, (keep2 h2).1, (keep2 h2).2⟩⟩
  have hx4 := X4.out.box
  go_wp2_with fail
  go_region_held3 (fun w' => w'.cell? ⟨w.heap.size, 0, none⟩ = some (.int .u8 k) ∧ w'.cell? ⟨w.heap.size, 1, none⟩ = some (.int .u8 f) ∧ w'.cell? ⟨w.heap.size, 2, none⟩ = some (.slice A n c) ∧ w'.cell? ⟨v4.heap.size, 0, none⟩ = some (.int .u32 x1) ∧ w'.cell? ⟨v4.heap.size, 1, none⟩ = some (.slice B m d))
    (first | (with_reducible exact KK.out _ hc1 hc2) | (with_reducible exact KK.out _ ha1 ha2) | exact KK.out _ X4.out.drew.box VB | go_keep)
    (first
      | (go_at_call 25; refine (TS.out _ Y1.out _ _ _ (PP.out.1.rd (by omega))).mono ?_; rintro e u2 ⟨rfl, b2⟩; have PS := Aside.mk b2; have Y2 := Aside.mk (Y1.out.below b2); have hc1 := Y2.out.box; have hc2 := (PS.out.block _ (lt_of_block ha2)).trans ha2; clear b2)
      | (go_at_call 18; refine (TP.out _ (below_drewN (below_alloc v4 _) 1)).mono ?_; rintro e u1 ⟨AA, cc, rfl, PP⟩; unfold chunkV; have Y1 := Aside.mk (X4.out.drew.below PP.out.2); have ha1 := Y1.out.box; have ha2 := (PP.out.2.block _ (lt_of_block VB)).trans VB; skip))
  have X4 := Aside.mk Y2.out
  have kb4 := keep3 Y2.out.box
  have kz4 := lt_of_block Y2.out.box
  clear Y1 Y2 PP PS TP TS KK ES ha1 hc1 P4
  clear VB ha2 hc2 hx4
  go_wp2_with fail
  refine (noTime X4.out H.out Y.out (by omega) hETime.out).mono ?_
  rintro e v5 ⟨rfl, P5⟩
  unfold timeZ timeV
  have kb5 := keep3 P5.out.box
  have kz5 := lt_of_block P5.out.box
  have X5 := Aside.mk P5.out
  clear X4 P5
  clear kb4 kz4
  go_wp2_with fail
  refine (noCum X5.out H.out Y.out (by omega) hECum.out).mono ?_
  rintro e v6 ⟨rfl, P6⟩
  unfold cumZ cumV
  have kb6 := keep3 P6.out.box
  have kz6 := lt_of_block P6.out.box
  have X6 := Aside.mk P6.out
  clear X5 P6
  clear kb5 kz5
  go_wp2_with fail
  go_ret2
  exact ⟨rfl, X6.out.low⟩

set_option maxHeartbeats 8000000 in
theorem gotTime_ (w : World) {k f : Int} {A : Option Addr} {n c : Nat} {xs : List Int} (h : Rd .u8 w A n c xs) (hy : Byt xs) (hn : n ≤ 50000) (hData : dataE k f xs = false) (hInit : initE k f xs = false) (hSack : sackE k f xs = false) (hFwd : fwdE k f xs = false) (hTime : timeE k f xs = true) (hCum : cumE k f xs = false) :
    Calls Try.prog 14 #[chunkV k f A n c] w fun e w' => e = .returned (.tuple #[.int .i64 1, .bool true]) ∧ Below w.heap.size w w' := by
  have H := Aside.mk h
  have Y := Aside.mk hy
  have hlen := Aside.mk h.len
  have hEData := Aside.mk hData
  have hEInit := Aside.mk hInit
  have hESack := Aside.mk hSack
  have hEFwd := Aside.mk hFwd
  have hETime := Aside.mk hTime
  have hECum := Aside.mk hCum
  clear h hy hData hInit hSack hFwd hTime hCum
  have X0 := Aside.mk (boxed_new w (chunkO k f A n c))
  have kb0 := keep3 X0.out.box
  have kz0 := lt_of_block X0.out.box
  unfold chunkV
  go_enter Try.func14, Try.ntmps14
  go_wp2_with fail
  refine (noData X0.out H.out Y.out (by omega) hEData.out).mono ?_
  rintro e v1 ⟨rfl, P1⟩
  unfold dataZ dataV
  have kb1 := keep3 P1.out.box
  have kz1 := lt_of_block P1.out.box
  have X1 := Aside.mk (P1.out.alloc (.cells #[.int .u32 0, .int .u16 0, .int .u16 0, .bool false, .bool false, .bool false, .slice none 0 0] 32))
  clear X0 P1
  clear kb0 kz0
  go_wp2_with fail
  refine (noInit X1.out H.out Y.out (by omega) hEInit.out).mono ?_
  rintro e v2 ⟨rfl, P2⟩
  unfold initZ initV
  have kb2 := keep3 P2.out.box
  have kz2 := lt_of_block P2.out.box
  have X2 := Aside.mk (P2.out.alloc (.cells #[.int .u32 0, .int .u32 0, .int .u16 0, .int .u16 0, .int .u32 0, .slice none 0 0] 34))
  clear X1 P2
  clear kb1 kz1
  go_wp2_with fail
  refine (noSack X2.out H.out Y.out (by omega) hESack.out).mono ?_
  rintro e v3 ⟨rfl, P3⟩
  unfold sackZ sackV
  have kb3 := keep3 P3.out.box
  have kz3 := lt_of_block P3.out.box
  have X3 := Aside.mk (P3.out.alloc (.cells #[.int .u32 0, .int .u32 0, .slice none 0 0, .slice none 0 0] 38))
  clear X2 P3
  clear kb2 kz2
  go_wp2_with fail
  refine (noFwd X3.out H.out Y.out (by omega) hEFwd.out).mono ?_
  rintro e v4 ⟨rfl, P4⟩
  unfold fwdZ fwdV
  have kb4 := keep3 P4.out.box
  have kz4 := lt_of_block P4.out.box
  have X4 := Aside.mk (P4.out.alloc (.cells #[.int .u32 0, .slice none 0 0] 41))
  clear X3 P4
  clear kb3 kz3
  go_wp2_with fail
  refine (yesTime X4.out H.out Y.out (by omega) hETime.out).mono ?_
  rintro e v5 ⟨rfl, P5⟩
  unfold timeV
  have hb1 := tim_bd (gt xs 4 8)
  have ES : Aside (((k == k) && ((0 : Int) == f) && decide (timeL (tim (gt xs 4 8)) = xs)) = true) := ⟨by have := hETime.out; unfold timeE at this; simp only [Bool.and_eq_true] at this ⊢; simp_all⟩
  generalize tim (gt xs 4 8) = x1 at *
  have X5 := Aside.mk P5.out
  have kb5 := keep3 P5.out.box
  have kz5 := lt_of_block P5.out.box
  clear X4 kb4 kz4
  have TP := Aside.mk (fun (V : World) (b : Below v5.heap.size v5 V) => (putTimeN_ V k x1 hb1))
  have TS := Aside.mk (fun (V : World) (hV : Boxed w (chunkO k f A n c) V) (A2 : Option Addr) (n2 c2 : Nat) (h2 : Rd .u8 V A2 n2 c2 (timeL x1)) => same_ V k 0 k f h2 (H.out.below hV.low) (by have := ES.out; simp only [Bool.and_eq_true, decide_eq_true_eq] at this; rw [this.2]; exact Y.out) Y.out ES.out)
  have KK : Aside (∀ V : World, V.heap[w.heap.size]? = some (chunkO k f A n c) → V.cell? ⟨w.heap.size, 0, none⟩ = some (.int .u8 k) ∧ V.cell? ⟨w.heap.size, 1, none⟩ = some (.int .u8 f) ∧ V.cell? ⟨w.heap.size, 2, none⟩ = some (.slice A n c)) := ⟨fun V h1 => ⟨(keep3 h1).1, (keep3 h1).2.1, (keep3 h1).2.2⟩⟩
  go_wp2_with fail
  go_region_held3 (fun w' => w'.cell? ⟨w.heap.size, 0, none⟩ = some (.int .u8 k) ∧ w'.cell? ⟨w.heap.size, 1, none⟩ = some (.int .u8 f) ∧ w'.cell? ⟨w.heap.size, 2, none⟩ = some (.slice A n c))
    (first | (with_reducible exact KK.out _ hc1) | (with_reducible exact KK.out _ ha1) | exact KK.out _ X5.out.drew.box | go_keep)
    (first
      | (go_at_call 25; refine (TS.out _ Y1.out _ _ _ (PP.out.1.rd (by omega))).mono ?_; rintro e u2 ⟨rfl, b2⟩; have PS := Aside.mk b2; have Y2 := Aside.mk (Y1.out.below b2); have hc1 := Y2.out.box; clear b2)
      | (go_at_call 19; refine (TP.out _ (below_drewN (Below.refl _ v5) 1)).mono ?_; rintro e u1 ⟨AA, cc, rfl, PP⟩; unfold chunkV; have Y1 := Aside.mk (X5.out.drew.below PP.out.2); have ha1 := Y1.out.box; skip))
  have X5 := Aside.mk Y2.out
  have kb5 := keep3 Y2.out.box
  have kz5 := lt_of_block Y2.out.box
  clear Y1 Y2 PP PS TP TS KK ES ha1 hc1 P5
  go_wp2_with fail
  refine (noCum X5.out H.out Y.out (by omega) hECum.out).mono ?_
  rintro e v6 ⟨rfl, P6⟩
  unfold cumZ cumV
  have kb6 := keep3 P6.out.box
  have kz6 := lt_of_block P6.out.box
  have X6 := Aside.mk P6.out
  clear X5 P6
  clear kb5 kz5
  go_wp2_with fail
  go_ret2
  exact ⟨rfl, X6.out.low⟩

set_option maxHeartbeats 8000000 in
theorem gotCum_ (w : World) {k f : Int} {A : Option Addr} {n c : Nat} {xs : List Int} (h : Rd .u8 w A n c xs) (hy : Byt xs) (hn : n ≤ 50000) (hData : dataE k f xs = false) (hInit : initE k f xs = false) (hSack : sackE k f xs = false) (hFwd : fwdE k f xs = false) (hTime : timeE k f xs = false) (hCum : cumE k f xs = true) :
    Calls Try.prog 14 #[chunkV k f A n c] w fun e w' => e = .returned (.tuple #[.int .i64 1, .bool true]) ∧ Below w.heap.size w w' := by
  have H := Aside.mk h
  have Y := Aside.mk hy
  have hlen := Aside.mk h.len
  have hEData := Aside.mk hData
  have hEInit := Aside.mk hInit
  have hESack := Aside.mk hSack
  have hEFwd := Aside.mk hFwd
  have hETime := Aside.mk hTime
  have hECum := Aside.mk hCum
  clear h hy hData hInit hSack hFwd hTime hCum
  have X0 := Aside.mk (boxed_new w (chunkO k f A n c))
  have kb0 := keep3 X0.out.box
  have kz0 := lt_of_block X0.out.box
  unfold chunkV
  go_enter Try.func14, Try.ntmps14
  go_wp2_with fail
  refine (noData X0.out H.out Y.out (by omega) hEData.out).mono ?_
  rintro e v1 ⟨rfl, P1⟩
  unfold dataZ dataV
  have kb1 := keep3 P1.out.box
  have kz1 := lt_of_block P1.out.box
  have X1 := Aside.mk (P1.out.alloc (.cells #[.int .u32 0, .int .u16 0, .int .u16 0, .bool false, .bool false, .bool false, .slice none 0 0] 32))
  clear X0 P1
  clear kb0 kz0
  go_wp2_with fail
  refine (noInit X1.out H.out Y.out (by omega) hEInit.out).mono ?_
  rintro e v2 ⟨rfl, P2⟩
  unfold initZ initV
  have kb2 := keep3 P2.out.box
  have kz2 := lt_of_block P2.out.box
  have X2 := Aside.mk (P2.out.alloc (.cells #[.int .u32 0, .int .u32 0, .int .u16 0, .int .u16 0, .int .u32 0, .slice none 0 0] 34))
  clear X1 P2
  clear kb1 kz1
  go_wp2_with fail
  refine (noSack X2.out H.out Y.out (by omega) hESack.out).mono ?_
  rintro e v3 ⟨rfl, P3⟩
  unfold sackZ sackV
  have kb3 := keep3 P3.out.box
  have kz3 := lt_of_block P3.out.box
  have X3 := Aside.mk (P3.out.alloc (.cells #[.int .u32 0, .int .u32 0, .slice none 0 0, .slice none 0 0] 38))
  clear X2 P3
  clear kb2 kz2
  go_wp2_with fail
  refine (noFwd X3.out H.out Y.out (by omega) hEFwd.out).mono ?_
  rintro e v4 ⟨rfl, P4⟩
  unfold fwdZ fwdV
  have kb4 := keep3 P4.out.box
  have kz4 := lt_of_block P4.out.box
  have X4 := Aside.mk (P4.out.alloc (.cells #[.int .u32 0, .slice none 0 0] 41))
  clear X3 P4
  clear kb3 kz3
  go_wp2_with fail
  refine (noTime X4.out H.out Y.out (by omega) hETime.out).mono ?_
  rintro e v5 ⟨rfl, P5⟩
  unfold timeZ timeV
  have kb5 := keep3 P5.out.box
  have kz5 := lt_of_block P5.out.box
  have X5 := Aside.mk P5.out
  clear X4 P5
  clear kb4 kz4
  go_wp2_with fail
  refine (yesCum X5.out H.out Y.out (by omega) hECum.out).mono ?_
  rintro e v6 ⟨rfl, P6⟩
  unfold cumV
  have hb1 := gt_4 Y.out 0
  have ES : Aside ((((7 : Int) == k) && ((0 : Int) == f) && decide (cumL (gt xs 0 4) = xs)) = true) := ⟨by have := hECum.out; unfold cumE at this; simp only [Bool.and_eq_true] at this ⊢; simp_all⟩
  generalize gt xs 0 4 = x1 at *
  have X6 := Aside.mk P6.out
  have kb6 := keep3 P6.out.box
  have kz6 := lt_of_block P6.out.box
  clear X5 kb5 kz5
  have TP := Aside.mk (fun (V : World) (b : Below v6.heap.size v6 V) => (putCumN_ V x1 hb1))
  have TS := Aside.mk (fun (V : World) (hV : Boxed w (chunkO k f A n c) V) (A2 : Option Addr) (n2 c2 : Nat) (h2 : Rd .u8 V A2 n2 c2 (cumL x1)) => same_ V 7 0 k f h2 (H.out.below hV.low) (by have := ES.out; simp only [Bool.and_eq_true, decide_eq_true_eq] at this; rw [this.2]; exact Y.out) Y.out ES.out)
  have KK : Aside (∀ V : World, V.heap[w.heap.size]? = some (chunkO k f A n c) → V.cell? ⟨w.heap.size, 0, none⟩ = some (.int .u8 k) ∧ V.cell? ⟨w.heap.size, 1, none⟩ = some (.int .u8 f) ∧ V.cell? ⟨w.heap.size, 2, none⟩ = some (.slice A n c)) := ⟨fun V h1 => ⟨(keep3 h1).1, (keep3 h1).2.1, (keep3 h1).2.2⟩⟩
  go_wp2_with fail
  go_region_held3 (fun w' => w'.cell? ⟨w.heap.size, 0, none⟩ = some (.int .u8 k) ∧ w'.cell? ⟨w.heap.size, 1, none⟩ = some (.int .u8 f) ∧ w'.cell? ⟨w.heap.size, 2, none⟩ = some (.slice A n c))
    (first | (with_reducible exact KK.out _ hc1) | (with_reducible exact KK.out _ ha1) | exact KK.out _ X6.out.drew.box | go_keep)
    (first
      | (go_at_call 25; refine (TS.out _ Y1.out _ _ _ (PP.out.1.rd (by omega))).mono ?_; rintro e u2 ⟨rfl, b2⟩; have PS := Aside.mk b2; have Y2 := Aside.mk (Y1.out.below b2); have hc1 := Y2.out.box; clear b2)
      | (go_at_call 20; refine (TP.out _ (below_drewN (Below.refl _ v6) 1)).mono ?_; rintro e u1 ⟨AA, cc, rfl, PP⟩; unfold chunkV; have Y1 := Aside.mk (X6.out.drew.below PP.out.2); have ha1 := Y1.out.box; skip))
  have X6 := Aside.mk Y2.out
  have kb6 := keep3 Y2.out.box
  have kz6 := lt_of_block Y2.out.box
  clear Y1 Y2 PP PS TP TS KK ES ha1 hc1 P6
  go_wp2_with fail
  go_ret2
  exact ⟨rfl, X6.out.low⟩
end Go.Proofs.Ytedbmpfjikaljaa
