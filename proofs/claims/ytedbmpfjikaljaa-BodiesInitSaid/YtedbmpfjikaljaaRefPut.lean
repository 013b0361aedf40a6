/-
  Proved: what the reference's functions that make chunks do to memory and what they answer: the bytes of the body are those of the document. Conditions: rows are shorter than fifty thousand.
-/
import Derived.Test.YtedbmpfjikaljaaTrip
namespace Go.Proofs.Ytedbmpfjikaljaa
open Go.RowKit
set_option linter.unusedVariables false
set_option linter.unusedSimpArgs false
set_option linter.unusedSectionVars false
set_option maxRecDepth 100000

theorem good_rput (w : World) (o : Obj) (V : World) (hG : Good w o V) {A : Option Addr} {n c : Nat} {xs : List Int} (h : Rd .u8 V A n c xs) (hn : n ≤ 800000) (x : Int) (h0 : 0 ≤ x ∧ x < 18446744073709551616) (s : Nat) {si : Int} (hsi : si = (s : Int)) (hs : isSized s = true) :
    Calls Try.prog 58 #[.slice A n c, .int .u64 x, .int .i64 si] V fun e V' => ∃ A' c', e = .returned (.slice A' (n + s) c') ∧ Aside (Good w o V' ∧ Own V' (w.heap.size + 2) A' (n + s) c' (xs ++ be s x)) := by
  subst hsi
  refine (rput_ V h (by omega) x h0.1 h0.2 s hs).mono ?_
  rintro e V' ⟨A', c', rfl, ho, hb⟩
  exact ⟨A', c', rfl, ⟨hG.below hb, ho.mono hG.size⟩⟩
theorem rd_nil8 (V : World) : Rd .u8 V none 0 0 [] := Rd.nil (by omega)

set_option maxHeartbeats 1000000 in
theorem refPutCum_ (w : World) (x : Int) (hx : 0 ≤ x ∧ x < 4294967296) :
    Calls Try.prog 43 #[.int .u32 x] w fun e w' => ∃ A c, e = .returned (chunkV 7 0 A 4 c) ∧ Aside (Own w' w.heap.size A 4 c (cumL x) ∧ Below w.heap.size w w') := by
  go_enter Try.func43, Try.ntmps43
  have r0 : Res (w.alloc (.cells #[.int .u8 0, .int .u8 0, .slice none 0 0] 24)) w.heap.size := heap_alloc_new w _
  have T1 := Aside.mk (rput_ (w.alloc (.cells #[.int .u8 0, .int .u8 0, .slice none 0 0] 24)) (rd_nil8 _) (by omega) x hx.1 (by omega) 4 rfl)
  go_wp2_with fail
  refine T1.out.mono ?_
  rintro e w2 ⟨A, c, rfl, o, b⟩
  obtain ⟨c0, c1, c2⟩ := (r0.below b (by simp)).cells
  obtain ⟨f0, f1, f2⟩ := (r0.below b (by simp)).free
  have O := Aside.mk (o.mono (show w.heap.size + 1 ≤ _ by simp))
  have B := Aside.mk ((below_alloc w (.cells #[.int .u8 0, .int .u8 0, .slice none 0 0] 24)).trans (b.mono (by simp)))
  clear o b r0 T1
  go_wp2_with fail
  refine bodyPost_ret (v := chunkV 7 0 A 4 c) (by simp [results, Try.results43, go_sem, chunkV, c0, c1, c2]) rfl ⟨A, c, rfl, ⟨?_, fin_below B.out (Nat.le_refl _) _ _ _⟩⟩
  have := (fin_own (r := w.heap.size) O.out (by omega) (.int .u8 7) (.int .u8 0) (.slice A 4 c)).mono (show w.heap.size ≤ w.heap.size + 1 by omega)
  simpa [cumL, bes1] using this

set_option maxHeartbeats 1000000 in
theorem refPutTime_ (w : World) (k x : Int) (hx : -9223372036854775808 ≤ x ∧ x < 9223372036854775808) :
    Calls Try.prog 42 #[.int .u8 k, .int .i64 x] w fun e w' => ∃ A c, e = .returned (chunkV k 0 A 12 c) ∧ Aside (Own w' w.heap.size A 12 c (timeL x) ∧ Below w.heap.size w w') := by
  go_enter Try.func42, Try.ntmps42
  have r0 : Res (w.alloc (.cells #[.int .u8 0, .int .u8 0, .slice none 0 0] 24)) w.heap.size := heap_alloc_new w _
  have T1 := Aside.mk (rput_ (w.alloc (.cells #[.int .u8 0, .int .u8 0, .slice none 0 0] 24)) (rd_nil8 _) (by omega) 1 (by decide) (by decide) 2 rfl)
  go_wp2_with fail
  refine T1.out.mono ?_
  rintro e w2 ⟨A1, c1, rfl, o1, b1⟩
  have T2 := Aside.mk (rput_ w2 (o1.rd (by omega)) (by omega) 12 (by decide) (by decide) 2 rfl)
  have R2 := Aside.mk (r0.below b1 (by simp))
  have B2 := Aside.mk ((below_alloc w (.cells #[.int .u8 0, .int .u8 0, .slice none 0 0] 24)).trans (b1.mono (by simp)))
  have hz2 : w.heap.size + 1 ≤ w2.heap.size := by have := b1.size; simp at this; omega
  clear o1 b1 T1 r0
  go_wp2_with fail
  refine T2.out.mono ?_
  rintro e w3 ⟨A2, c2, rfl, o2, b2⟩
  have T3 := Aside.mk (rput_ w3 (o2.rd (by omega)) (by omega) (x % 18446744073709551616) (by omega) (by omega) 8 rfl)
  have R3 := Aside.mk (R2.out.below b2 (by omega))
  have B3 := Aside.mk (B2.out.trans (b2.mono (by omega)))
  have hz3 : w.heap.size + 1 ≤ w3.heap.size := by have := b2.size; omega
  clear o2 b2 T2 R2 B2
  go_wp2_with fail
  refine T3.out.mono ?_
  rintro e w4 ⟨A3, c3, rfl, o3, b3⟩
  obtain ⟨q0, q1, q2⟩ := (R3.out.below b3 (by omega)).cells
  obtain ⟨f0, f1, f2⟩ := (R3.out.below b3 (by omega)).free
  have O := Aside.mk (o3.mono hz3)
  have B := Aside.mk (B3.out.trans (b3.mono (by omega)))
  clear o3 b3 T3 R3 B3
  go_wp2_with fail
  refine bodyPost_ret (v := chunkV k 0 A3 12 c3) (by simp [results, Try.results42, go_sem, chunkV, q0, q1, q2]) rfl ⟨A3, c3, rfl, ⟨?_, fin_below B.out (Nat.le_refl _) _ _ _⟩⟩
  have := (fin_own (r := w.heap.size) O.out (by omega) (.int .u8 k) (.int .u8 0) (.slice A3 12 c3)).mono (show w.heap.size ≤ w.heap.size + 1 by omega)
  simpa [timeL, bes1, bes2] using this

set_option maxHeartbeats 2000000 in
theorem refPutFwd_ (w : World) (cum : Int) (hc0 : 0 ≤ cum ∧ cum < 4294967296) {B : Option Addr} {n d : Nat} {ps : List (Int × Int)} (h : Rd2 w B n d ps) :
    Calls Try.prog 36 #[fwdV cum B n d] w fun e w' => ∃ A c, e = .returned (chunkV 192 0 A (4 + n * 4) c) ∧ Aside (Own w' w.heap.size A (4 + n * 4) c (fwdL cum ps) ∧ Below w.heap.size w w') := by
  have hn := h.small
  have hc := h.cap
  have hmx := h.mx
  have H := Aside.mk h
  clear h
  unfold fwdV
  go_enter Try.func36, Try.ntmps36
  go_upto_region 1 with (fail)
  generalize hO : Obj.cells #[.int .u32 cum, .slice B n d] 41 = O
  generalize hW : (w.alloc O).alloc (.cells #[.int .u8 0, .int .u8 0, .slice none 0 0] 24) = W
  obtain ⟨hbox, hres, hbl, hsz⟩ := setup2 w _ hW
  clear hW
  have G : Aside (Good w O W) := ⟨hbox, hres, hbl, by omega⟩
  have KB : Aside (∀ V : World, V.heap[w.heap.size]? = some O → V.cell? ⟨w.heap.size, 0, none⟩ = some (.int .u32 cum) ∧ V.cell? ⟨w.heap.size, 1, none⟩ = some (.slice B n d)) := ⟨fun V h => keep2 (by rw [hO]; exact h)⟩
  have k1 := KB.out _ hbox
  have T1 := Aside.mk (good_rput w O W G.out (rd_nil8 _) (by omega) cum (by omega) 4 (si := 4) rfl rfl)
  clear hbox hres hbl hsz hO
  go_wp2_with fail
  refine T1.out.mono ?_
  rintro e w2 ⟨A1, c1, rfl, P1⟩
  clear T1 G k1
  go_wp2_with fail
  go_loopg [3, 4] n (fun j s3 s4 wr => ∃ i A' c', i + j = n ∧ s4 = .int .i64 (i : Nat) ∧ s3 = .slice A' (4 + i * 4) c' ∧ Aside (Good w O wr ∧ Own wr (w.heap.size + 2) A' (4 + i * 4) c' (be 4 cum ++ pairsL (ps.take i))))
  case atStart => exact ⟨0, A1, c1, by omega, rfl, rfl, ⟨P1.out.1, by simpa [pairsL] using P1.out.2⟩⟩
  case round =>
    obtain ⟨i, A', c', hij, rfl, rfl, P⟩ := hrel
    have kb := KB.out _ P.out.1.box
    by_cases ci : i < n
    · obtain ⟨p, b1, o1, hp, rfl, hlt, k0, k1, hp1, hp2⟩ := H.out.get ci
      have T := Aside.mk (pairs_take hp)
      obtain ⟨p0, p1⟩ := p
      simp only at k0 k1 hp1 hp2 T
      have K0 := Aside.mk (And.intro k0 k1)
      have j0 := (P.out.1.low.cell (p := ⟨b1, o1 + i * 2, none⟩) hlt).trans k0
      have T1 := Aside.mk (good_rput w O wr P.out.1 (P.out.2.rd (by omega)) (by omega) p0 (by omega) 2 (si := 2) rfl rfl)
      clear hp k0 k1
      go_wp2_with fail
      refine T1.out.mono ?_
      rintro e w3 ⟨A3, c3, rfl, P3⟩
      have kb3 := KB.out _ P3.out.1.box
      have j1 := (P3.out.1.low.cell (p := ⟨b1, o1 + i * 2 + 1, none⟩) hlt).trans K0.out.2
      have T2 := Aside.mk (good_rput w O w3 P3.out.1 (P3.out.2.rd (by omega)) (by omega) p1 (by omega) 2 (si := 2) rfl rfl)
      clear T1 P j0 kb
      go_wp2_with fail
      refine T2.out.mono ?_
      rintro e w4 ⟨A4, c4, rfl, P4⟩
      clear T2 P3 j1 kb3
      go_wp2_with fail
      go_roundg (n - (i + 1))
      case rel =>
        refine ⟨i + 1, A4, c4, by omega, by go_num, by rw [show 4 + (i + 1) * 4 = 4 + i * 4 + 2 + 2 by omega], ⟨P4.out.1, ?_⟩⟩
        have := P4.out.2
        rw [T.out, bes2, show 4 + (i + 1) * 4 = 4 + i * 4 + 2 + 2 by omega]
        simpa [List.append_assoc] using this
      case measure => omega
    · obtain rfl : i = n := by omega
      have hd : decide (i < i) = false := decide_eq_false ci
      obtain ⟨q0, q1, q2⟩ := P.out.1.res.cells
      obtain ⟨f0, f1, f2⟩ := P.out.1.res.free
      have hl := H.out.len
      go_wp2_with fail
      refine bodyPost_ret (v := chunkV 192 0 A' (4 + i * 4) c') (by simp [results, Try.results36, go_sem, chunkV, q0, q1, q2]) rfl ⟨A', c', rfl, ⟨?_, fin_below P.out.1.low (by omega) _ _ _⟩⟩
      have := (fin_own (r := w.heap.size + 1) P.out.2 (by omega) (.int .u8 192) (.int .u8 0) (.slice A' (4 + i * 4) c')).mono (show w.heap.size ≤ w.heap.size + 2 by omega)
      rw [List.take_of_length_le (by omega)] at this
      simpa [fwdL, bes1] using this

set_option maxHeartbeats 4000000 in
theorem refPutSack_ (w : World) (cum rwnd : Int) (hc0 : 0 ≤ cum ∧ cum < 4294967296) (hr0 : 0 ≤ rwnd ∧ rwnd < 4294967296) {B D : Option Addr} {n d m q : Nat} {ps : List (Int × Int)} {ds : List Int} (h : Rd2 w B n d ps) (k : Rd .u32 w D m q ds) (hm : m ≤ 50000) (hds : ∀ i, 0 ≤ ds.getD i 0 ∧ ds.getD i 0 < 4294967296) :
    Calls Try.prog 32 #[sackV cum rwnd B n d D m q] w fun e w' => ∃ A c, e = .returned (chunkV 3 0 A (12 + n * 4 + m * 4) c) ∧ Aside (Own w' w.heap.size A (12 + n * 4 + m * 4) c (sackL cum rwnd ps ds) ∧ Below w.heap.size w w') := by
  have hn := h.small
  have hc := h.cap
  have hmx := h.mx
  have kc := k.cap
  have kmx := k.mx
  have H := Aside.mk h
  have K := Aside.mk k
  have DS := Aside.mk hds
  clear h k hds
  unfold sackV
  go_enter Try.func32, Try.ntmps32
  go_upto_region 1 with (fail)
  generalize hO : Obj.cells #[.int .u32 cum, .int .u32 rwnd, .slice B n d, .slice D m q] 38 = O
  generalize hW : (w.alloc O).alloc (.cells #[.int .u8 0, .int .u8 0, .slice none 0 0] 24) = W
  obtain ⟨hbox, hres, hbl, hsz⟩ := setup2 w _ hW
  clear hW
  have G : Aside (Good w O W) := ⟨hbox, hres, hbl, by omega⟩
  have KB : Aside (∀ V : World, V.heap[w.heap.size]? = some O → V.cell? ⟨w.heap.size, 0, none⟩ = some (.int .u32 cum) ∧ V.cell? ⟨w.heap.size, 1, none⟩ = some (.int .u32 rwnd) ∧ V.cell? ⟨w.heap.size, 2, none⟩ = some (.slice B n d) ∧ V.cell? ⟨w.heap.size, 3, none⟩ = some (.slice D m q)) := ⟨fun V h => keep4 (by rw [hO]; exact h)⟩
  have k1 := KB.out _ hbox
  have T1 := Aside.mk (good_rput w O W G.out (rd_nil8 _) (by omega) cum (by omega) 4 (si := 4) rfl rfl)
  clear hbox hres hbl hsz hO
  go_wp2_with fail
  refine T1.out.mono ?_
  rintro e w2 ⟨A1, c1, rfl, P1⟩
  have k2 := KB.out _ P1.out.1.box
  have T2 := Aside.mk (good_rput w O w2 P1.out.1 (P1.out.2.rd (by omega)) (by omega) rwnd (by omega) 4 (si := 4) rfl rfl)
  clear T1 G k1
  go_wp2_with fail
  refine T2.out.mono ?_
  rintro e w3 ⟨A2, c2, rfl, P2⟩
  have k3 := KB.out _ P2.out.1.box
  have T3 := Aside.mk (good_rput w O w3 P2.out.1 (P2.out.2.rd (by omega)) (by omega) (n : Int) (by omega) 2 (si := 2) rfl rfl)
  clear T2 P1 k2
  go_wp2_with fail
  refine T3.out.mono ?_
  rintro e w4 ⟨A3, c3, rfl, P3⟩
  have k4 := KB.out _ P3.out.1.box
  have T4 := Aside.mk (good_rput w O w4 P3.out.1 (P3.out.2.rd (by omega)) (by omega) (m : Int) (by omega) 2 (si := 2) rfl rfl)
  clear T3 P2 k3
  go_wp2_with fail
  refine T4.out.mono ?_
  rintro e w5 ⟨A4, c4, rfl, P4⟩
  clear T4 P3 k4
  have P5 : Aside (Good w O w5 ∧ Own w5 (w.heap.size + 2) A4 12 c4 (be 4 cum ++ (be 4 rwnd ++ (be 2 (n : Int) ++ be 2 (m : Int))))) := ⟨P4.out.1, by simpa [List.append_assoc] using P4.out.2⟩
  generalize hHD : be 4 cum ++ (be 4 rwnd ++ (be 2 (n : Int) ++ be 2 (m : Int))) = HD at P5
  have HHD := Aside.mk hHD
  clear hHD P4
  go_wp2_with fail
  go_loopg [3, 4] n (fun j s3 s4 wr => ∃ i A' c', i + j = n ∧ s4 = .int .i64 (i : Nat) ∧ s3 = .slice A' (12 + i * 4) c' ∧ Aside (Good w O wr ∧ Own wr (w.heap.size + 2) A' (12 + i * 4) c' (HD ++ pairsL (ps.take i))))
  case atStart => exact ⟨0, A4, c4, by omega, rfl, rfl, ⟨P5.out.1, by simpa [pairsL] using P5.out.2⟩⟩
  case round =>
    obtain ⟨i, A', c', hij, rfl, rfl, P⟩ := hrel
    have kb := KB.out _ P.out.1.box
    by_cases ci : i < n
    · obtain ⟨p, b1, o1, hp, rfl, hlt, k0, k1, hp1, hp2⟩ := H.out.get ci
      have T := Aside.mk (pairs_take hp)
      obtain ⟨p0, p1⟩ := p
      simp only at k0 k1 hp1 hp2 T
      have K0 := Aside.mk (And.intro k0 k1)
      have j0 := (P.out.1.low.cell (p := ⟨b1, o1 + i * 2, none⟩) hlt).trans k0
      have T1 := Aside.mk (good_rput w O wr P.out.1 (P.out.2.rd (by omega)) (by omega) p0 (by omega) 2 (si := 2) rfl rfl)
      clear hp k0 k1
      go_wp2_with fail
      refine T1.out.mono ?_
      rintro e w6 ⟨A6, c6, rfl, P6⟩
      have kb3 := KB.out _ P6.out.1.box
      have j1 := (P6.out.1.low.cell (p := ⟨b1, o1 + i * 2 + 1, none⟩) hlt).trans K0.out.2
      have T2 := Aside.mk (good_rput w O w6 P6.out.1 (P6.out.2.rd (by omega)) (by omega) p1 (by omega) 2 (si := 2) rfl rfl)
      clear T1 P j0 kb
      go_wp2_with fail
      refine T2.out.mono ?_
      rintro e w7 ⟨A7, c7, rfl, P7⟩
      clear T2 P6 j1 kb3
      go_wp2_with fail
      go_roundg (n - (i + 1))
      case rel =>
        refine ⟨i + 1, A7, c7, by omega, by go_num, by rw [show 12 + (i + 1) * 4 = 12 + i * 4 + 2 + 2 by omega], ⟨P7.out.1, ?_⟩⟩
        have := P7.out.2
        rw [T.out, bes2, show 12 + (i + 1) * 4 = 12 + i * 4 + 2 + 2 by omega]
        simpa [List.append_assoc] using this
      case measure => omega
    · obtain rfl : i = n := by omega
      have hd : decide (i < i) = false := decide_eq_false ci
      have hl := H.out.len
      have Q : Aside (Good w O wr ∧ Own wr (w.heap.size + 2) A' (12 + i * 4) c' (HD ++ pairsL ps)) := ⟨P.out.1, by have := P.out.2; rw [List.take_of_length_le (by omega)] at this; exact this⟩
      clear P P5
      go_wp2_with fail
      go_loopg [3, 5] m (fun j s3 s5 wr => ∃ i' A5 c5, i' + j = m ∧ s5 = .int .i64 (i' : Nat) ∧ s3 = .slice A5 (12 + i * 4 + i' * 4) c5 ∧ Aside (Good w O wr ∧ Own wr (w.heap.size + 2) A5 (12 + i * 4 + i' * 4) c5 (HD ++ pairsL ps ++ bes 4 (ds.take i'))))
      case atStart => exact ⟨0, A', c', by omega, rfl, rfl, ⟨Q.out.1, by simpa [bes] using Q.out.2⟩⟩
      case round =>
        obtain ⟨i', A5, c5, hij', rfl, rfl, P⟩ := hrel
        have kb := KB.out _ P.out.1.box
        by_cases ci' : i' < m
        · obtain ⟨b1, o1, rfl, hlt, k0⟩ := K.out.get ci'
          have hdb := DS.out i'
          have T := Aside.mk (bes_take 4 ds i' (by rw [K.out.len]; exact ci'))
          generalize ds.getD i' 0 = x at *
          have j0 := (P.out.1.low.cell (p := ⟨b1, o1 + i', none⟩) hlt).trans k0
          have T1 := Aside.mk (good_rput w O wr P.out.1 (P.out.2.rd (by omega)) (by omega) x (by omega) 4 (si := 4) rfl rfl)
          clear k0
          go_wp2_with fail
          refine T1.out.mono ?_
          rintro e w6 ⟨A6, c6, rfl, P6⟩
          clear T1 P j0 kb
          go_wp2_with fail
          go_roundg (m - (i' + 1))
          case rel =>
            refine ⟨i' + 1, A6, c6, by omega, by go_num, by rw [show 12 + i * 4 + (i' + 1) * 4 = 12 + i * 4 + i' * 4 + 4 by omega], ⟨P6.out.1, ?_⟩⟩
            have := P6.out.2
            rw [T.out, show 12 + i * 4 + (i' + 1) * 4 = 12 + i * 4 + i' * 4 + 4 by omega]
            simpa [List.append_assoc] using this
          case measure => omega
        · obtain rfl : i' = m := by omega
          have hd' : decide (i' < i') = false := decide_eq_false ci'
          obtain ⟨q0, q1, q2⟩ := P.out.1.res.cells
          obtain ⟨f0, f1, f2⟩ := P.out.1.res.free
          have hl2 := K.out.len
          have S : Aside (sackL cum rwnd ps ds = HD ++ pairsL ps ++ bes 4 ds) := ⟨by rw [← HHD.out]; simp [sackL, bes2, hl, hl2, List.append_assoc]⟩
          go_wp2_with fail
          refine bodyPost_ret (v := chunkV 3 0 A5 (12 + i * 4 + i' * 4) c5) (by simp [results, Try.results32, go_sem, chunkV, q0, q1, q2]) rfl ⟨A5, c5, rfl, ⟨?_, fin_below P.out.1.low (by omega) _ _ _⟩⟩
          have := (fin_own (r := w.heap.size + 1) P.out.2 (by omega) (.int .u8 3) (.int .u8 0) (.slice A5 (12 + i * 4 + i' * 4) c5)).mono (show w.heap.size ≤ w.heap.size + 2 by omega)
          rw [List.take_of_length_le (by omega)] at this
          rw [S.out]
          exact this
end Go.Proofs.Ytedbmpfjikaljaa
