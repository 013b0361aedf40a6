/-
  Proved: 'BodiesCuts' as a walk: whatever the arguments read as, the function answers true. No condition.
-/
import Derived.Test.YtedbmpfjikaljaaTrip
namespace Go.Proofs.Ytedbmpfjikaljaa
open Go.RowKit
set_option linter.unusedVariables false
set_option linter.unusedSimpArgs false
set_option linter.unusedSectionVars false
set_option maxRecDepth 100000

theorem byt_be : ∀ (n : Nat) (x : Int), Byt (be n x)
  | 0, x => fun y hy => by simp [be] at hy
  | n + 1, x => fun y hy => by
    rw [be] at hy
    rcases List.mem_cons.1 hy with rfl | hy
    · omega
    · exact byt_be n x y hy
theorem byt_app {a b : List Int} (h : Byt a) (k : Byt b) : Byt (a ++ b) := fun y hy => by
  rcases List.mem_append.1 hy with hy | hy
  · exact h y hy
  · exact k y hy
theorem byt_bes (n : Nat) (l : List Int) : Byt (bes n l) := fun y hy => by
  obtain ⟨x, _, hx⟩ := List.mem_flatMap.1 hy
  exact byt_be n x y hx
theorem byt_pairs (l : List (Int × Int)) : Byt (pairsL l) := fun y hy => by
  obtain ⟨x, _, hx⟩ := List.mem_flatMap.1 hy
  exact byt_bes 2 _ y hx
theorem byt_init (k a b c d e : Int) {bs : List Int} (h : Byt bs) : Byt (initL k a b c d e bs) := by
  have hh : Byt (headL a b c d e) := byt_app (byt_app (byt_bes _ _) (byt_bes _ _)) (byt_bes _ _)
  unfold initL ackL
  split
  · refine byt_app (byt_app (byt_app hh (byt_bes _ _)) h) fun y hy => ?_
    rw [(List.mem_replicate.1 hy).2]
    decide
  · exact hh
theorem byt_sack (a b : Int) (ps : List (Int × Int)) (ds : List Int) : Byt (sackL a b ps ds) := byt_app (byt_app (byt_app (byt_bes _ _) (byt_bes _ _)) (byt_pairs _)) (byt_bes _ _)
theorem byt_fwd (a : Int) (ps : List (Int × Int)) : Byt (fwdL a ps) := byt_app (byt_bes _ _) (byt_pairs _)
theorem byt_time (x : Int) : Byt (timeL x) := byt_app (byt_bes _ _) (byt_bes _ _)
theorem byt_cum (x : Int) : Byt (cumL x) := byt_bes _ _
theorem byt_data (a b c : Int) {bs : List Int} (h : Byt bs) : Byt (dataL a b c bs) := byt_app (byt_app (byt_app (byt_bes _ _) (byt_bes _ _)) (byt_bes _ _)) h

theorem Rd.takeN {k : IntKind} {w : World} {A : Option Addr} {n c : Nat} {xs : List Int} (h : Rd k w A n c xs) (m : Nat) (hm : m ≤ n) : Rd k w A m c (xs.take m) :=
  ⟨by rw [List.length_take, h.len]; omega, by have := h.small; omega, by have := h.cap; omega, h.mx, fun i x hx => by
    have hi : i < m := by
      have := (List.getElem?_eq_some_iff.1 hx).1
      rw [List.length_take] at this
      omega
    rw [List.getElem?_take_of_lt hi] at hx
    exact h.at_ i x hx⟩

/-- A chunk of the list: what it is, and where it lies. -/
structure Item (V : World) (lb i : Nat) (kd : Int) (A : Option Addr) (n c : Nat) (ys : List Int) : Prop where
  told : Told kd ys
  rd : Rd .u8 V A n c ys
  byt : Byt ys
  len : n ≤ 50000
  c0 : V.cell? ⟨lb, i * 3, none⟩ = some (.int .u8 kd)
  c1 : V.cell? ⟨lb, i * 3 + 1, none⟩ = some (.int .u8 0)
  c2 : V.cell? ⟨lb, i * 3 + 2, none⟩ = some (.slice A n c)
  lt : lb < V.heap.size
theorem Item.below {V V' : World} {lb i : Nat} {kd : Int} {A : Option Addr} {n c : Nat} {ys : List Int} (h : Item V lb i kd A n c ys) (b : Below V.heap.size V V') : Item V' lb i kd A n c ys :=
  ⟨h.told, h.rd.below b, h.byt, h.len, (b.cell (p := ⟨lb, i * 3, none⟩) h.lt).trans h.c0, (b.cell (p := ⟨lb, i * 3 + 1, none⟩) h.lt).trans h.c1, (b.cell (p := ⟨lb, i * 3 + 2, none⟩) h.lt).trans h.c2, Nat.lt_of_lt_of_le h.lt b.size⟩

set_option maxHeartbeats 8000000 in
theorem cuts_ (w : World) (a : AllA) {db ck : List Int} {gs : List (Int × Int)} {ds : List Int} {ss : List (Int × Int)} (h : AllOk w a db ck gs ds ss) (z : Int) (hz : 0 ≤ z ∧ z < 65536) (fg : Int) (hfg : 0 ≤ fg ∧ fg < 256) :
    Calls Try.prog 4 #[.agg a.cells, .int .u16 z, .int .u8 fg] w fun e w' => e = .returned (.bool true) ∧ Below w.heap.size w w' := by
  obtain ⟨ack, t, s, q, u, f, l, dA, dn, dc, tag, rw_, ou, inn, tsn, cA, cn, cc, cum, rwnd, gA, gn, gc, pA, pn, pc, fc, sA, sn, sc, at_, cm⟩ := a
  obtain ⟨b1, b2, b3, b4, b5, b6, b7, b8, b9, b10, b11, b12, b13, rd, rdb, rc, rck, rg, rp, rds, rf⟩ := h
  simp only at b1 b2 b3 b4 b5 b6 b7 b8 b9 b10 b11 b12 b13 rd rc rg rp rf
  unfold AllA.cells
  simp only
  have m1 := rd.mx
  have m2 := rc.mx
  have m3 := rg.mx
  have m4 := rp.mx
  have m5 := rf.mx
  have n1 := rd.cap
  have n2 := rc.cap
  have n3 := rg.cap
  have n4 := rp.cap
  have n5 := rf.cap
  have RD := Aside.mk rd
  have RC := Aside.mk rc
  have RG := Aside.mk rg
  have RP := Aside.mk rp
  have RF := Aside.mk rf
  have RDS := Aside.mk rds
  have RDB := Aside.mk rdb
  have RCK := Aside.mk rck
  clear rd rc rg rp rf rdb rck rds
  have X0 := Aside.mk (boxed_new w (.cells #[.bool ack, .int .u32 t, .int .u16 s, .int .u16 q, .bool u, .bool f, .bool l, .slice dA dn dc, .int .u32 tag, .int .u32 rw_, .int .u16 ou, .int .u16 inn, .int .u32 tsn, .slice cA cn cc, .int .u32 cum, .int .u32 rwnd, .slice gA gn gc, .slice pA pn pc, .int .u32 fc, .slice sA sn sc, .int .i64 at_, .int .u32 cm] 43))
  go_enter Try.func4, Try.ntmps4
  obtain ⟨M, hM⟩ : ∃ M, isMany gn pn sn = M := ⟨_, rfl⟩
  have T1 := Aside.mk (fun V => many_ V cum rwnd fc gA pA sA gn gc pn pc sn sc (E := M) hM)
  have HM := Aside.mk hM
  clear hM
  go_wp2_with fail
  refine (T1.out _).mono ?_
  rintro e w2 ⟨rfl, bw2⟩
  have X2 := Aside.mk (X0.out.below bw2)
  clear bw2 T1 X0
  have kx := keep22 X2.out.box
  have W1 := Aside.mk (works_ w2)
  cases M
  · cases hc : decide ((8192 : Int) < (cn : Int))
    · cases hd : decide ((8192 : Int) < (dn : Int))
      · obtain ⟨g1, g2, g3⟩ := not_many HM.out
        have g4 : dn ≤ 8192 := by simp at hd; omega
        have g5 : cn ≤ 8192 := by simp at hc; omega
        clear W1
        have C1 := Aside.mk (fun (V : World) (b : Below w.heap.size w V) => putInitN_ V 2 tag rw_ ou inn tsn b4 b5 b6 b7 b8 ((RC.out.rd (by omega)).below b) (by omega) (20 + (cn + 3) / 4 * 4) rfl)
        have C2 := Aside.mk (fun (V : World) (b : Below w.heap.size w V) => putSackN_ V cum rwnd b9 b10 ((RG.out.rd (by omega)).below b) ((RP.out.rd (by omega)).below b) (by omega) RDS.out)
        have C3 := Aside.mk (fun (V : World) (b : Below w.heap.size w V) => putFwdN_ V fc b11 ((RF.out.rd (by omega)).below b))
        have C4 := Aside.mk (fun (V : World) => putTimeN_ V 4 at_ b12)
        have C5 := Aside.mk (fun (V : World) => putCumN_ V cm b13)
        have K1 : Aside (∀ V : World, V.heap[w.heap.size]? = some (.cells #[.bool ack, .int .u32 t, .int .u16 s, .int .u16 q, .bool u, .bool f, .bool l, .slice dA dn dc, .int .u32 tag, .int .u32 rw_, .int .u16 ou, .int .u16 inn, .int .u32 tsn, .slice cA cn cc, .int .u32 cum, .int .u32 rwnd, .slice gA gn gc, .slice pA pn pc, .int .u32 fc, .slice sA sn sc, .int .i64 at_, .int .u32 cm] 43) → V.cell? ⟨w.heap.size, 8, none⟩ = some (.int .u32 tag) ∧ V.cell? ⟨w.heap.size, 9, none⟩ = some (.int .u32 rw_) ∧ V.cell? ⟨w.heap.size, 10, none⟩ = some (.int .u16 ou) ∧ V.cell? ⟨w.heap.size, 11, none⟩ = some (.int .u16 inn) ∧ V.cell? ⟨w.heap.size, 12, none⟩ = some (.int .u32 tsn) ∧ V.cell? ⟨w.heap.size, 13, none⟩ = some (.slice cA cn cc) ∧ V.cell? ⟨w.heap.size, 14, none⟩ = some (.int .u32 cum) ∧ V.cell? ⟨w.heap.size, 15, none⟩ = some (.int .u32 rwnd) ∧ V.cell? ⟨w.heap.size, 16, none⟩ = some (.slice gA gn gc) ∧ V.cell? ⟨w.heap.size, 17, none⟩ = some (.slice pA pn pc) ∧ V.cell? ⟨w.heap.size, 18, none⟩ = some (.int .u32 fc) ∧ V.cell? ⟨w.heap.size, 19, none⟩ = some (.slice sA sn sc) ∧ V.cell? ⟨w.heap.size, 20, none⟩ = some (.int .i64 at_) ∧ V.cell? ⟨w.heap.size, 21, none⟩ = some (.int .u32 cm)) := ⟨fun V h => ⟨(keep22 h).2.2.2.2.2.2.2.2.1, (keep22 h).2.2.2.2.2.2.2.2.2.1, (keep22 h).2.2.2.2.2.2.2.2.2.2.1, (keep22 h).2.2.2.2.2.2.2.2.2.2.2.1, (keep22 h).2.2.2.2.2.2.2.2.2.2.2.2.1, (keep22 h).2.2.2.2.2.2.2.2.2.2.2.2.2.1, (keep22 h).2.2.2.2.2.2.2.2.2.2.2.2.2.2.1, (keep22 h).2.2.2.2.2.2.2.2.2.2.2.2.2.2.2.1, (keep22 h).2.2.2.2.2.2.2.2.2.2.2.2.2.2.2.2.1, (keep22 h).2.2.2.2.2.2.2.2.2.2.2.2.2.2.2.2.2.1, (keep22 h).2.2.2.2.2.2.2.2.2.2.2.2.2.2.2.2.2.2.1, (keep22 h).2.2.2.2.2.2.2.2.2.2.2.2.2.2.2.2.2.2.2.1, (keep22 h).2.2.2.2.2.2.2.2.2.2.2.2.2.2.2.2.2.2.2.2.1, (keep22 h).2.2.2.2.2.2.2.2.2.2.2.2.2.2.2.2.2.2.2.2.2⟩⟩
        have kb2 := X2.out.box
        go_wp2_with fail
        go_region_held3 (fun w' => w'.cell? ⟨w.heap.size, 8, none⟩ = some (.int .u32 tag) ∧ w'.cell? ⟨w.heap.size, 9, none⟩ = some (.int .u32 rw_) ∧ w'.cell? ⟨w.heap.size, 10, none⟩ = some (.int .u16 ou) ∧ w'.cell? ⟨w.heap.size, 11, none⟩ = some (.int .u16 inn) ∧ w'.cell? ⟨w.heap.size, 12, none⟩ = some (.int .u32 tsn) ∧ w'.cell? ⟨w.heap.size, 13, none⟩ = some (.slice cA cn cc) ∧ w'.cell? ⟨w.heap.size, 14, none⟩ = some (.int .u32 cum) ∧ w'.cell? ⟨w.heap.size, 15, none⟩ = some (.int .u32 rwnd) ∧ w'.cell? ⟨w.heap.size, 16, none⟩ = some (.slice gA gn gc) ∧ w'.cell? ⟨w.heap.size, 17, none⟩ = some (.slice pA pn pc) ∧ w'.cell? ⟨w.heap.size, 18, none⟩ = some (.int .u32 fc) ∧ w'.cell? ⟨w.heap.size, 19, none⟩ = some (.slice sA sn sc) ∧ w'.cell? ⟨w.heap.size, 20, none⟩ = some (.int .i64 at_) ∧ w'.cell? ⟨w.heap.size, 21, none⟩ = some (.int .u32 cm))
          (first | (with_reducible exact K1.out _ kb7) | (with_reducible exact K1.out _ kb6) | (with_reducible exact K1.out _ kb5) | (with_reducible exact K1.out _ kb4) | (with_reducible exact K1.out _ kb3) | (with_reducible exact K1.out _ (alloc_keep kb7)) | exact K1.out _ X2.out.drew.box | go_keep)
          (first
            | (go_at_call 20; refine (C5.out _).mono ?_; rintro e w7 ⟨A7, c7, rfl, P7⟩; unfold chunkV; have Y7 := Aside.mk (Y6.out.below P7.out.2); have kb7 := Y7.out.box)
            | (go_at_call 19; refine (C4.out _).mono ?_; rintro e w6 ⟨A6, c6, rfl, P6⟩; unfold chunkV; have Y6 := Aside.mk (Y5.out.below P6.out.2); have kb6 := Y6.out.box)
            | (go_at_call 18; refine (C3.out _ Y4.out.low).mono ?_; rintro e w5 ⟨A5, c5, rfl, P5⟩; unfold chunkV; have Y5 := Aside.mk (Y4.out.below P5.out.2); have kb5 := Y5.out.box)
            | (go_at_call 17; refine (C2.out _ Y3.out.low).mono ?_; rintro e w4 ⟨A4, c4, rfl, P4⟩; unfold chunkV; have Y4 := Aside.mk (Y3.out.below P4.out.2); have kb4 := Y4.out.box)
            | (go_at_call 16; refine (C1.out _ X2.out.drew.low).mono ?_; rintro e w3 ⟨A3, c3, rfl, P3⟩; unfold chunkV; have Y3 := Aside.mk (X2.out.drew.below P3.out.2); have kb3 := Y3.out.box))
        have X8 := Aside.mk (Y7.out.alloc (.cells #[.int .u8 2, .int .u8 0, .slice A3 (20 + (cn + 3) / 4 * 4) c3, .int .u8 3, .int .u8 0, .slice A4 (12 + gn * 4 + pn * 4) c4, .int .u8 192, .int .u8 0, .slice A5 (4 + sn * 4) c5, .int .u8 4, .int .u8 0, .slice A6 12 c6, .int .u8 7, .int .u8 0, .slice A7 4 c7] 24))
        have LBH := heap_alloc_new w7 (.cells #[.int .u8 2, .int .u8 0, .slice A3 (20 + (cn + 3) / 4 * 4) c3, .int .u8 3, .int .u8 0, .slice A4 (12 + gn * 4 + pn * 4) c4, .int .u8 192, .int .u8 0, .slice A5 (4 + sn * 4) c5, .int .u8 4, .int .u8 0, .slice A6 12 c6, .int .u8 7, .int .u8 0, .slice A7 4 c7] 24)
        have q3 := ((((P3.out.1.rd (by omega)).below P4.out.2).below P5.out.2).below P6.out.2).below P7.out.2
        have q4 := (((P4.out.1.rd (by omega)).below P5.out.2).below P6.out.2).below P7.out.2
        have q5 := ((P5.out.1.rd (by omega)).below P6.out.2).below P7.out.2
        have q6 := (P6.out.1.rd (by omega)).below P7.out.2
        have q7 := P7.out.1.rd (by omega)
        have IT : Aside (∀ i, i < 5 → ∃ kd A n c ys, Item (w7.alloc (.cells #[.int .u8 2, .int .u8 0, .slice A3 (20 + (cn + 3) / 4 * 4) c3, .int .u8 3, .int .u8 0, .slice A4 (12 + gn * 4 + pn * 4) c4, .int .u8 192, .int .u8 0, .slice A5 (4 + sn * 4) c5, .int .u8 4, .int .u8 0, .slice A6 12 c6, .int .u8 7, .int .u8 0, .slice A7 4 c7] 24)) w7.heap.size i kd A n c ys) := ⟨fun i hi => by
          have hlt := lt_of_block LBH
          rcases (show i = 0 ∨ i = 1 ∨ i = 2 ∨ i = 3 ∨ i = 4 by omega) with rfl | rfl | rfl | rfl | rfl
          · exact ⟨_, _, _, _, _, told_init tag rw_ ou inn tsn (bs := ck) (by have := (RC.out.rd (by omega)).len; omega), q3.below (below_alloc w7 _), byt_init _ _ _ _ _ _ RCK.out, by omega, by rw [blk_cell LBH]; rfl, by rw [blk_cell LBH]; rfl, by rw [blk_cell LBH]; rfl, hlt⟩
          · exact ⟨_, _, _, _, _, told_sack cum rwnd (ps := gs) (ds := ds) (by have := (RG.out.rd (by omega)).len; omega) (by have := (RP.out.rd (by omega)).len; omega), q4.below (below_alloc w7 _), byt_sack _ _ _ _, by omega, by rw [blk_cell LBH]; rfl, by rw [blk_cell LBH]; rfl, by rw [blk_cell LBH]; rfl, hlt⟩
          · exact ⟨_, _, _, _, _, told_fwd fc ss b11 (RF.out.rd (by omega)).num, q5.below (below_alloc w7 _), byt_fwd _ _, by omega, by rw [blk_cell LBH]; rfl, by rw [blk_cell LBH]; rfl, by rw [blk_cell LBH]; rfl, hlt⟩
          · exact ⟨_, _, _, _, _, told_time at_, q6.below (below_alloc w7 _), byt_time _, by omega, by rw [blk_cell LBH]; rfl, by rw [blk_cell LBH]; rfl, by rw [blk_cell LBH]; rfl, hlt⟩
          · exact ⟨_, _, _, _, _, told_cum cm, q7.below (below_alloc w7 _), byt_cum _, by omega, by rw [blk_cell LBH]; rfl, by rw [blk_cell LBH]; rfl, by rw [blk_cell LBH]; rfl, hlt⟩⟩
        clear Y3 Y4 Y5 Y6 Y7 P3 P4 P5 P6 P7 q3 q4 q5 q6 q7 LBH kb2 kb3 kb4 kb5 kb6 kb7 C1 C2 C3 C4 C5 K1 kx X2
        go_wp2_with fail
        generalize w7.alloc (.cells #[.int .u8 2, .int .u8 0, .slice A3 (20 + (cn + 3) / 4 * 4) c3, .int .u8 3, .int .u8 0, .slice A4 (12 + gn * 4 + pn * 4) c4, .int .u8 192, .int .u8 0, .slice A5 (4 + sn * 4) c5, .int .u8 4, .int .u8 0, .slice A6 12 c6, .int .u8 7, .int .u8 0, .slice A7 4 c7] 24) = V at *
        generalize w7.heap.size = lb at *
        go_loopg [8] 5 (fun j s8 wr => ∃ i, i + j = 5 ∧ s8 = .int .i64 (i : Nat) ∧ Aside (Below V.heap.size V wr))
        case atStart => exact ⟨0, by omega, rfl, ⟨Below.refl _ _⟩⟩
        case round =>
          obtain ⟨i, hij, rfl, BV⟩ := hrel
          by_cases ci : i < 5
          · obtain ⟨kd, A, n, c, ys, it⟩ := IT.out i ci
            have IW := Aside.mk (it.below BV.out)
            have x0 := IW.out.c0
            have x1 := IW.out.c1
            have x2 := IW.out.c2
            have hlt := IW.out.lt
            have hnl := IW.out.len
            have hcp := IW.out.rd.cap
            have hmx := IW.out.rd.mx
            clear it
            have hci : decide ((i : Int) < 5) = true := decide_eq_true (by omega)
            have XG := Aside.mk (heap_alloc_new wr (.cells #[.int .u8 kd, .int .u8 0, .slice A n c] 24))
            obtain ⟨N, hN⟩ : ∃ N : Int, (if gotAny kd 0 ys = true then 1 else 0) = N := ⟨_, rfl⟩
            have T1 := Aside.mk (got_ _ (IW.out.rd.below (below_alloc wr (.cells #[.int .u8 kd, .int .u8 0, .slice A n c] 24))) IW.out.byt hnl hN)
            have HN := Aside.mk hN
            clear hN
            go_wp2_with fail
            refine T1.out.mono ?_
            rintro e u1 ⟨rfl, bu1⟩
            have XH := Aside.mk ((bu1.block _ (lt_of_block XG.out)).trans XG.out)
            have B1 := Aside.mk ((below_alloc wr (.cells #[.int .u8 kd, .int .u8 0, .slice A n c] 24)).trans (bu1.mono (by simp)))
            have y0 := keep3 XH.out
            have yl : wr.heap.size < u1.heap.size := lt_of_block XH.out
            obtain ⟨kk, hkk⟩ := Int.eq_ofNat_of_zero_le (Int.emod_nonneg z (show ((n : Int) + 1) ≠ 0 by omega))
            have hkn : kk ≤ n := by have := Int.emod_lt_of_pos z (show (0 : Int) < (n : Int) + 1 by omega); omega
            have hk0 : (0 : Int) ≤ (kk : Int) := by omega
            have hk1 : (kk : Int) ≤ (c : Int) := by omega
            obtain ⟨N2, hN2⟩ : ∃ N2 : Int, (if gotAny kd 0 (ys.take kk) = true then 1 else 0) = N2 := ⟨_, rfl⟩
            have T2 := Aside.mk (fun (V : World) (b : Below u1.heap.size u1 V) => got_ V (((IW.out.rd.below B1.out).takeN kk hkn).below b) (IW.out.byt.take kk) (show kk ≤ 50000 by omega) hN2)
            have HN2 := Aside.mk hN2
            clear hN2 bu1 T1 x0 x1 x2 hlt
            go_upto_region 10 with (fail)
            go_region_held3 (fun w' => w'.cell? ⟨wr.heap.size, 0, none⟩ = some (.int .u8 kd) ∧ w'.cell? ⟨wr.heap.size, 2, none⟩ = some (.slice A n c))
              (first | exact ⟨(keep3 q2).1, (keep3 q2).2.2⟩ | go_keep)
              (first | (go_at_call 14; refine (T2.out _ (below_drewN (Below.refl _ u1) 1)).mono ?_; rintro e u2 ⟨rfl, bu2⟩; have B2 := Aside.mk ((below_drewN (Below.refl u1.heap.size u1) 1).trans bu2); have q2 := (B2.out.block _ (lt_of_block XH.out)).trans XH.out; clear bu2))
            have y2 := keep3 q2
            have yl2 : wr.heap.size < u2.heap.size := lt_of_block q2
            have Q2 := Aside.mk q2
            have TD := Aside.mk IW.out.told
            have hyl := Aside.mk (IW.out.rd.len)
            clear q2 T2 y0
            go_upto_if 98 with (fail)
            go_cut [15] (fun s15 wx => s15 = .bool (wholeB kd n kk) ∧ wx = u2)
            case first =>
              by_cases hk : kd = 192
              · subst hk
                have N : Aside (∀ b : Bool, (decide (4 ≤ kk) && decide (kk % 4 = 0)) = b → Value.bool b = Value.bool (wholeB 192 n kk)) := ⟨fun b h => by unfold wholeB; rw [if_pos rfl, h]⟩
                cases h1 : decide ((4 : Int) ≤ (kk : Int))
                · have M := Aside.mk (N.out false (by rw [show decide (4 ≤ kk) = false by rw [← h1]; exact decide_eq_decide.2 (by omega)]; rfl))
                  go_wp2_with fail
                  go_meet
                  exact ⟨M.out, rfl⟩
                · cases h2 : ((kk : Int) % 4 == 0)
                  · have M := Aside.mk (N.out false (by rw [show decide (kk % 4 = 0) = false by rw [decide_eq_false_iff_not]; rw [beq_eq_false_iff_ne] at h2; omega]; simp))
                    go_wp2_with fail
                    go_meet
                    exact ⟨M.out, rfl⟩
                  · have M := Aside.mk (N.out true (by rw [show decide (4 ≤ kk) = true by rw [← h1]; exact decide_eq_decide.2 (by omega), show decide (kk % 4 = 0) = true by rw [decide_eq_true_eq]; rw [beq_iff_eq] at h2; omega]; rfl))
                    go_wp2_with fail
                    go_meet
                    exact ⟨M.out, rfl⟩
              · have hk' : (kd == 192) = false := beq_eq_false_iff_ne.2 hk
                have N : Aside (∀ b : Bool, decide (kk = n) = b → Value.bool b = Value.bool (wholeB kd n kk)) := ⟨fun b h => by unfold wholeB; rw [if_neg hk, h]⟩
                cases h1 : ((kk : Int) == (n : Int))
                · have M := Aside.mk (N.out false (by rw [decide_eq_false_iff_not]; rw [beq_eq_false_iff_ne] at h1; omega))
                  go_wp2_with fail
                  go_meet
                  exact ⟨M.out, rfl⟩
                · have M := Aside.mk (N.out true (by rw [decide_eq_true_eq]; rw [beq_iff_eq] at h1; omega))
                  go_wp2_with fail
                  go_meet
                  exact ⟨M.out, rfl⟩
            case rest =>
              obtain ⟨rfl, hwc⟩ := hcut
              subst hwc
              have key : ∃ wb : Bool, wholeB kd n kk = wb ∧ ((wb = true ∧ N2 = N ∧ (N = 0 ∨ N = 1)) ∨ (wb = false ∧ N2 = 0 ∧ (N = 0 ∨ N = 1))) := by
                have hn1 := HN.out
                have hn2 := HN2.out
                obtain ⟨_, _, ht⟩ := TD.out
                obtain ⟨t1, t2⟩ := ht kk (by rw [hyl.out]; exact hkn)
                rw [hyl.out] at t1 t2
                have hN01 : N = 0 ∨ N = 1 := by
                  rw [← hn1]
                  split
                  · exact .inr rfl
                  · exact .inl rfl
                cases hw : wholeB kd n kk
                · refine ⟨false, rfl, .inr ⟨rfl, ?_, hN01⟩⟩
                  cases hg : gotAny kd 0 (ys.take kk)
                  · rw [hg] at hn2
                    exact hn2.symm
                  · have := t1 hg
                    rw [hw] at this
                    cases this
                · refine ⟨true, rfl, .inl ⟨rfl, ?_, hN01⟩⟩
                  rw [← hn1, ← hn2, t2 hw]
              obtain ⟨wb, hwb, key⟩ := key
              rw [hwb]
              obtain ⟨N3, hN3⟩ : ∃ N3 : Int, (if gotAny kd fg ys = true then 1 else 0) = N3 := ⟨_, rfl⟩
              have T3 := Aside.mk (got_ (k := kd) (f := fg) wc ((IW.out.rd.below B1.out).below B2.out) IW.out.byt hnl hN3)
              have h3 : (fg = 0 ∧ N3 = N) ∨ ((fg == 0) = false ∧ (fg != 0) = true ∧ N3 = 0) := by
                by_cases hf0 : fg = 0
                · subst hf0
                  exact .inl ⟨rfl, by rw [← hN3, ← HN.out]⟩
                · refine .inr ⟨beq_eq_false_iff_ne.2 hf0, bne_iff_ne.2 hf0, ?_⟩
                  rw [← hN3, any_flag ys TD.out.1 hf0]
                  rfl
              have BW := Aside.mk (BV.out.trans ((B1.out.trans (B2.out.mono B1.out.size)).mono BV.out.size))
              clear hwb hN3 TD HN HN2 hyl B1 XG XH IW hkk hk1
              have fin : Aside (∀ u3 : World, Below wc.heap.size wc u3 → Below V.heap.size V u3) := ⟨fun u3 b => BW.out.trans (b.mono BW.out.size)⟩
              rcases key with ⟨rfl, rfl, rfl | rfl⟩ | ⟨rfl, rfl, rfl | rfl⟩
              all_goals (
                rcases h3 with ⟨rfl, rfl⟩ | ⟨hf1, hf2, rfl⟩
                all_goals (
                  go_wp2_with fail
                  refine T3.out.mono ?_
                  rintro e u3 ⟨rfl, b3⟩
                  have BF := Aside.mk (fin.out u3 b3)
                  clear b3
                  go_wp2_with fail
                  go_roundg (5 - (i + 1))
                  case' rel => exact ⟨i + 1, by omega, by go_num, BF⟩
                  case' measure => omega))
          · obtain rfl : i = 5 := by omega
            have X9 := Aside.mk (X8.out.below BV.out)
            have kx := keep22 X9.out.box
            have T1 := Aside.mk (putDataN_ wr t s q u f l b1 b2 b3 ((RD.out.rd (by omega)).below X9.out.low) (by omega))
            clear IT BV X8
            go_wp2_with fail
            refine T1.out.mono ?_
            rintro e u4 ⟨A, c, rfl, P4⟩
            unfold chunkV
            obtain ⟨kk, hkk⟩ := Int.eq_ofNat_of_zero_le (Int.emod_nonneg z (show (12 + (dn : Int) + 1) ≠ 0 by omega))
            have hkn : kk ≤ 12 + dn := by have := Int.emod_lt_of_pos z (show (0 : Int) < 12 + (dn : Int) + 1 by omega); omega
            have hkk2 := Aside.mk hkk
            clear hkk
            go_upto_region 21 with (fail)
            rw [hkk2.out]
            clear hkk2
            have X10 := Aside.mk ((X9.out.below P4.out.2).alloc (.cells #[.int .u8 0, .int .u8 (flagsV u f l), .slice A (12 + dn) c] 24))
            have UB := heap_alloc_new u4 (.cells #[.int .u8 0, .int .u8 (flagsV u f l), .slice A (12 + dn) c] 24)
            have RB := Aside.mk ((P4.out.1.rd (by omega)).below (below_alloc u4 (.cells #[.int .u8 0, .int .u8 (flagsV u f l), .slice A (12 + dn) c] 24)))
            clear T1 X9 P4 kx
            have hcp := RB.out.cap
            have hmx := RB.out.mx
            have hk0 : (0 : Int) ≤ (kk : Int) := by omega
            have hk1 : (kk : Int) ≤ (c : Int) := by omega
            have hE := cut_data t s q fg db b1 b2 b3 hfg (k := kk) (by rw [dataL_len, (RD.out.rd (by omega)).len]; exact hkn)
            obtain ⟨E, hE2⟩ : ∃ E, dataE 0 fg ((dataL t s q db).take kk) = E := ⟨_, rfl⟩
            rw [hE2] at hE
            have EE := Aside.mk hE
            generalize hU : u4.alloc (.cells #[.int .u8 0, .int .u8 (flagsV u f l), .slice A (12 + dn) c] 24) = U at *
            have T4 := Aside.mk (fun (V : World) (b : Below U.heap.size U V) => getData_ V (k := 0) (f := fg) ((RB.out.takeN kk hkn).below b) ((byt_data _ _ _ RDB.out).take kk) (by omega))
            rw [hE2] at T4
            have gl : u4.heap.size < U.heap.size := lt_of_block UB
            have UBA := Aside.mk UB
            have KP : Aside (∀ V : World, V.heap[u4.heap.size]? = some (.cells #[.int .u8 0, .int .u8 (flagsV u f l), .slice A (12 + dn) c] 24) → V.cell? ⟨u4.heap.size, 0, none⟩ = some (.int .u8 0) ∧ V.cell? ⟨u4.heap.size, 2, none⟩ = some (.slice A (12 + dn) c)) := ⟨fun V h => ⟨(keep3 h).1, (keep3 h).2.2⟩⟩
            have kh0 : U.drew.heap[u4.heap.size]? = some (.cells #[.int .u8 0, .int .u8 (flagsV u f l), .slice A (12 + dn) c] 24) := UB
            have kh1 : (U.alloc (.cells #[.int .u32 0, .int .u16 0, .int .u16 0, .bool false, .bool false, .bool false, .slice none 0 0] 32)).drew.heap[u4.heap.size]? = some (.cells #[.int .u8 0, .int .u8 (flagsV u f l), .slice A (12 + dn) c] 24) := alloc_keep UB
            clear hU hE2 hE
            go_cut [20, 21] (fun s20 s21 wx => s21 = errV E ∧ Aside (Below w.heap.size w wx))
            case first =>
              cases E
              all_goals (
                go_region_held3 (fun w' => w'.cell? ⟨u4.heap.size, 0, none⟩ = some (.int .u8 0) ∧ w'.cell? ⟨u4.heap.size, 2, none⟩ = some (.slice A (12 + dn) c))
                  (first | (with_reducible exact KP.out _ kh5) | (with_reducible exact KP.out _ (alloc_keep kh5)) | (with_reducible exact KP.out _ (set7_keep kh5 (by omega) _ _ _ _ _ _ _)) | exact KP.out _ kh0 | exact KP.out _ kh1 | go_keep)
                  (first | (go_at_call 22; refine (T4.out _ (by first | exact below_drewN (Below.refl _ U) 1 | exact below_drewN (below_alloc U _) 1)).mono ?_; unfold pickV errV dataZ dataV; rintro e u5 ⟨B9, m9, d9, rfl, o9, b9⟩; have kh5 : u5.heap[u4.heap.size]? = some (.cells #[.int .u8 0, .int .u8 (flagsV u f l), .slice A (12 + dn) c] 24) := (by first | exact (b9.block _ (lt_of_block kh1)).trans kh1 | exact (b9.block _ (lt_of_block kh0)).trans kh0); have LO : Below U.heap.size U u5 := (by first | exact (below_drewN (Below.refl _ U) 1).trans b9 | exact (below_drewN (below_alloc U _) 1).trans (b9.mono (by simp))); have gl5 : U.heap.size ≤ u5.heap.size := LO.size; have LOA := Aside.mk LO; clear LO; first | (have kv := keep7 ((b9.block U.heap.size (by simp)).trans (heap_alloc_new U (.cells #[.int .u32 0, .int .u16 0, .int .u16 0, .bool false, .bool false, .bool false, .slice none 0 0] 32))); have kf := free7 ((b9.block U.heap.size (by simp)).trans (heap_alloc_new U (.cells #[.int .u32 0, .int .u16 0, .int .u16 0, .bool false, .bool false, .bool false, .slice none 0 0] 32))); have gl6 : U.heap.size < u5.heap.size := lt_of_block ((b9.block U.heap.size (by simp)).trans (heap_alloc_new U (.cells #[.int .u32 0, .int .u16 0, .int .u16 0, .bool false, .bool false, .bool false, .slice none 0 0] 32)))) | skip; clear o9 b9))
                all_goals (
                  go_wp2_with fail
                  go_meet
                  refine ⟨rfl, ⟨X10.out.low.trans ?_⟩⟩
                  first
                    | (with_reducible exact (LOA.out.alloc LOA.out.size _).mono X10.out.low.size)
                    | (with_reducible exact (below_set7 LOA.out (Nat.le_refl _) _ _ _ _ _ _ _).mono X10.out.low.size)))
            case rest =>
              obtain ⟨rfl, LOW⟩ := hcut
              have T5 := Aside.mk (works_ wc)
              have hEE := EE.out
              clear EE
              clear T4 KP kh0 kh1 UBA RB X10
              cases d1 : decide (fg < 8)
              · rw [d1] at hEE
                have h9 : E = false := hEE
                clear hEE
                subst h9
                unfold errV
                go_wp2_with fail
                refine T5.out.mono ?_
                rintro e u6 ⟨rfl, b6⟩
                have BB := Aside.mk (LOW.out.trans (b6.mono LOW.out.size))
                clear b6 T5
                go_wp2_with fail
                go_ret
                exact ⟨rfl, BB.out⟩
              · cases d2 : decide (12 < kk)
                · rw [d1, d2] at hEE
                  have h9 : E = false := hEE
                  clear hEE
                  subst h9
                  have d3 : decide ((12 : Int) < (kk : Int)) = false := by rw [← d2]; exact decide_eq_decide.2 (by omega)
                  unfold errV
                  go_wp2_with fail
                  refine T5.out.mono ?_
                  rintro e u6 ⟨rfl, b6⟩
                  have BB := Aside.mk (LOW.out.trans (b6.mono LOW.out.size))
                  clear b6 T5
                  go_wp2_with fail
                  go_ret
                  exact ⟨rfl, BB.out⟩
                · rw [d1, d2] at hEE
                  have h9 : E = true := hEE
                  clear hEE
                  subst h9
                  have d3 : decide ((12 : Int) < (kk : Int)) = true := by rw [← d2]; exact decide_eq_decide.2 (by omega)
                  unfold errV
                  go_wp2_with fail
                  refine T5.out.mono ?_
                  rintro e u6 ⟨rfl, b6⟩
                  have BB := Aside.mk (LOW.out.trans (b6.mono LOW.out.size))
                  clear b6 T5
                  go_wp2_with fail
                  go_ret
                  exact ⟨rfl, BB.out⟩
      · go_wp2_with fail
        refine W1.out.mono ?_
        rintro e w3 ⟨rfl, b3⟩
        have BB := Aside.mk (X2.out.below b3).low
        clear b3
        go_wp2_with fail
        go_ret
        exact ⟨rfl, BB.out⟩
    · go_wp2_with fail
      refine W1.out.mono ?_
      rintro e w3 ⟨rfl, b3⟩
      have BB := Aside.mk (X2.out.below b3).low
      clear b3
      go_wp2_with fail
      go_ret
      exact ⟨rfl, BB.out⟩
  · go_wp2_with fail
    refine W1.out.mono ?_
    rintro e w3 ⟨rfl, b3⟩
    have BB := Aside.mk (X2.out.below b3).low
    clear b3
    go_wp2_with fail
    go_ret
    exact ⟨rfl, BB.out⟩
end Go.Proofs.Ytedbmpfjikaljaa
