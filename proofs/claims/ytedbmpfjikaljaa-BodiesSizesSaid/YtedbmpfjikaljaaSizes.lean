/-
  Proved: 'BodiesSizes' as a walk: whatever the argument reads as, the function answers true. No condition.
-/
import Derived.Test.YtedbmpfjikaljaaAll
namespace Go.Proofs.Ytedbmpfjikaljaa
open Go.RowKit
set_option linter.unusedVariables false
set_option linter.unusedSimpArgs false
set_option linter.unusedSectionVars false
set_option maxRecDepth 100000

theorem wrap_pad (n : Nat) (h : n ≤ 8192) : (20 + ((n : Int) + 3) / 4 * 4 != IntKind.i64.wrap (20 + IntKind.i64.wrap (IntKind.i64.wrap (((n : Int) + 3).tdiv 4) * 4))) = false := by
  rw [Int.tdiv_eq_ediv_of_nonneg (by omega), IntWalk.i64_in (((n : Int) + 3) / 4) (by omega), IntWalk.i64_in (((n : Int) + 3) / 4 * 4) (by omega), IntWalk.i64_in (20 + ((n : Int) + 3) / 4 * 4) (by omega)]
  exact bne_self_eq_false _

set_option maxHeartbeats 4000000 in
theorem sizes_ (w : World) (a : AllA) {db ck : List Int} {gs : List (Int × Int)} {ds : List Int} {ss : List (Int × Int)} (h : AllOk w a db ck gs ds ss) :
    Calls Try.prog 9 #[.agg a.cells] w fun e w' => e = .returned (.bool true) ∧ Below w.heap.size w w' := by
  obtain ⟨ack, t, s, q, u, f, l, dA, dn, dc, tag, rw_, ou, inn, tsn, cA, cn, cc, cum, rwnd, gA, gn, gc, pA, pn, pc, fc, sA, sn, sc, at_, cm⟩ := a
  obtain ⟨b1, b2, b3, b4, b5, b6, b7, b8, b9, b10, b11, b12, b13, rd, rdb, rc, rck, rg, rp, rds, rf⟩ := h
  simp only at b1 b2 b3 b4 b5 b6 b7 b8 b9 b10 b11 b12 b13 rd rc rg rp rf
  unfold AllA.cells
  simp only
  have m1 := rd.mx
  have m2 := rc.mx
  have m3 := rg.mx
  have m4 := rp.mx
  have m5 := rf.mx
  have n1 := rd.cap
  have n2 := rc.cap
  have n3 := rg.cap
  have n4 := rp.cap
  have n5 := rf.cap
  have RD := Aside.mk rd
  have RC := Aside.mk rc
  have RG := Aside.mk rg
  have RP := Aside.mk rp
  have RF := Aside.mk rf
  have RDS := Aside.mk rds
  clear rd rc rg rp rf rdb rck rds
  have X0 := Aside.mk (boxed_new w (.cells #[.bool ack, .int .u32 t, .int .u16 s, .int .u16 q, .bool u, .bool f, .bool l, .slice dA dn dc, .int .u32 tag, .int .u32 rw_, .int .u16 ou, .int .u16 inn, .int .u32 tsn, .slice cA cn cc, .int .u32 cum, .int .u32 rwnd, .slice gA gn gc, .slice pA pn pc, .int .u32 fc, .slice sA sn sc, .int .i64 at_, .int .u32 cm] 43))
  go_enter Try.func9, Try.ntmps9
  obtain ⟨M, hM⟩ : ∃ M, isMany gn pn sn = M := ⟨_, rfl⟩
  have T1 := Aside.mk (fun V => many_ V cum rwnd fc gA pA sA gn gc pn pc sn sc (E := M) hM)
  have HM := Aside.mk hM
  clear hM
  go_wp2_with fail
  refine (T1.out _).mono ?_
  rintro e w2 ⟨rfl, bw2⟩
  have X2 := Aside.mk (X0.out.below bw2)
  clear bw2 T1 X0
  have kx := keep22 X2.out.box
  have W1 := Aside.mk (works_ w2)
  cases M
  · cases hd : decide ((8192 : Int) < (dn : Int))
    · cases hc : decide ((8192 : Int) < (cn : Int))
      · obtain ⟨g1, g2, g3⟩ := not_many HM.out
        have g4 : dn ≤ 8192 := by simp at hd; omega
        have g5 : cn ≤ 8192 := by simp at hc; omega
        clear W1
        have C1 := Aside.mk (fun (V : World) (b : Below w.heap.size w V) => putDataN_ V t s q u f l b1 b2 b3 ((RD.out.rd (by omega)).below b) (by omega))
        have C2 := Aside.mk (fun (V : World) (b : Below w.heap.size w V) => putInitN_ V 1 tag rw_ ou inn tsn b4 b5 b6 b7 b8 ((RC.out.rd (by omega)).below b) (by omega) 16 rfl)
        have C3 := Aside.mk (fun (V : World) (b : Below w.heap.size w V) => putInitN_ V 2 tag rw_ ou inn tsn b4 b5 b6 b7 b8 ((RC.out.rd (by omega)).below b) (by omega) (20 + (cn + 3) / 4 * 4) rfl)
        have K1 : Aside (∀ V : World, V.heap[w.heap.size]? = some (.cells #[.bool ack, .int .u32 t, .int .u16 s, .int .u16 q, .bool u, .bool f, .bool l, .slice dA dn dc, .int .u32 tag, .int .u32 rw_, .int .u16 ou, .int .u16 inn, .int .u32 tsn, .slice cA cn cc, .int .u32 cum, .int .u32 rwnd, .slice gA gn gc, .slice pA pn pc, .int .u32 fc, .slice sA sn sc, .int .i64 at_, .int .u32 cm] 43) → V.cell? ⟨w.heap.size, 1, none⟩ = some (.int .u32 t) ∧ V.cell? ⟨w.heap.size, 2, none⟩ = some (.int .u16 s) ∧ V.cell? ⟨w.heap.size, 3, none⟩ = some (.int .u16 q) ∧ V.cell? ⟨w.heap.size, 4, none⟩ = some (.bool u) ∧ V.cell? ⟨w.heap.size, 5, none⟩ = some (.bool f) ∧ V.cell? ⟨w.heap.size, 6, none⟩ = some (.bool l) ∧ V.cell? ⟨w.heap.size, 7, none⟩ = some (.slice dA dn dc) ∧ V.cell? ⟨w.heap.size, 8, none⟩ = some (.int .u32 tag) ∧ V.cell? ⟨w.heap.size, 9, none⟩ = some (.int .u32 rw_) ∧ V.cell? ⟨w.heap.size, 10, none⟩ = some (.int .u16 ou) ∧ V.cell? ⟨w.heap.size, 11, none⟩ = some (.int .u16 inn) ∧ V.cell? ⟨w.heap.size, 12, none⟩ = some (.int .u32 tsn) ∧ V.cell? ⟨w.heap.size, 13, none⟩ = some (.slice cA cn cc)) := ⟨fun V h => ⟨(keep22 h).2.1, (keep22 h).2.2.1, (keep22 h).2.2.2.1, (keep22 h).2.2.2.2.1, (keep22 h).2.2.2.2.2.1, (keep22 h).2.2.2.2.2.2.1, (keep22 h).2.2.2.2.2.2.2.1, (keep22 h).2.2.2.2.2.2.2.2.1, (keep22 h).2.2.2.2.2.2.2.2.2.1, (keep22 h).2.2.2.2.2.2.2.2.2.2.1, (keep22 h).2.2.2.2.2.2.2.2.2.2.2.1, (keep22 h).2.2.2.2.2.2.2.2.2.2.2.2.1, (keep22 h).2.2.2.2.2.2.2.2.2.2.2.2.2.1⟩⟩
        have kb2 := X2.out.box
        have i1 : IntKind.i64.wrap (12 + (dn : Int)) = 12 + (dn : Int) := IntWalk.i64_in _ (by omega)
        have i2 : IntKind.i64.wrap ((cn : Int) + 3) = (cn : Int) + 3 := IntWalk.i64_in _ (by omega)
        go_wp2_with fail
        have FB := field_body
        go_region_held3 (fun w' => w'.cell? ⟨w.heap.size, 1, none⟩ = some (.int .u32 t) ∧ w'.cell? ⟨w.heap.size, 2, none⟩ = some (.int .u16 s) ∧ w'.cell? ⟨w.heap.size, 3, none⟩ = some (.int .u16 q) ∧ w'.cell? ⟨w.heap.size, 4, none⟩ = some (.bool u) ∧ w'.cell? ⟨w.heap.size, 5, none⟩ = some (.bool f) ∧ w'.cell? ⟨w.heap.size, 6, none⟩ = some (.bool l) ∧ w'.cell? ⟨w.heap.size, 7, none⟩ = some (.slice dA dn dc) ∧ w'.cell? ⟨w.heap.size, 8, none⟩ = some (.int .u32 tag) ∧ w'.cell? ⟨w.heap.size, 9, none⟩ = some (.int .u32 rw_) ∧ w'.cell? ⟨w.heap.size, 10, none⟩ = some (.int .u16 ou) ∧ w'.cell? ⟨w.heap.size, 11, none⟩ = some (.int .u16 inn) ∧ w'.cell? ⟨w.heap.size, 12, none⟩ = some (.int .u32 tsn) ∧ w'.cell? ⟨w.heap.size, 13, none⟩ = some (.slice cA cn cc))
          (first | (with_reducible exact K1.out _ kb2) | (with_reducible exact K1.out _ kb3) | (with_reducible exact K1.out _ kb4) | (with_reducible exact K1.out _ kb5) | (with_reducible exact K1.out _ X2.out.drew.box) | go_keep)
          (first
            | (have _z := Y4; clear _z; go_at_call 16; refine (C3.out _ Y4.out.low).mono ?_; rintro e w5 ⟨A5, c5, rfl, P5⟩; unfold chunkV; have Y5 := Aside.mk (Y4.out.below P5.out.2); have kb5 := Y5.out.box)
            | (have _z := Y3; clear _z; go_at_call 16; refine (C2.out _ Y3.out.low).mono ?_; rintro e w4 ⟨A4, c4, rfl, P4⟩; unfold chunkV; have Y4 := Aside.mk (Y3.out.below P4.out.2); have kb4 := Y4.out.box)
            | (go_at_call 21; refine (C1.out _ X2.out.drew.low).mono ?_; rintro e w3 ⟨A3, c3, rfl, P3⟩; unfold chunkV; have Y3 := Aside.mk (X2.out.drew.below P3.out.2); have kb3 := Y3.out.box))
        have X5 := Aside.mk Y5.out
        clear Y3 Y4 Y5 kb2 kb3 kb4 kb5 P3 P4 P5 C1 C2 C3 K1 i1 i2 kx
        have C4 := Aside.mk (fun (V : World) (b : Below w.heap.size w V) => putSackN_ V cum rwnd b9 b10 ((RG.out.rd (by omega)).below b) ((RP.out.rd (by omega)).below b) (by omega) RDS.out)
        have C5 := Aside.mk (fun (V : World) (b : Below w.heap.size w V) => putFwdN_ V fc b11 ((RF.out.rd (by omega)).below b))
        have K2 : Aside (∀ V : World, V.heap[w.heap.size]? = some (.cells #[.bool ack, .int .u32 t, .int .u16 s, .int .u16 q, .bool u, .bool f, .bool l, .slice dA dn dc, .int .u32 tag, .int .u32 rw_, .int .u16 ou, .int .u16 inn, .int .u32 tsn, .slice cA cn cc, .int .u32 cum, .int .u32 rwnd, .slice gA gn gc, .slice pA pn pc, .int .u32 fc, .slice sA sn sc, .int .i64 at_, .int .u32 cm] 43) → V.cell? ⟨w.heap.size, 14, none⟩ = some (.int .u32 cum) ∧ V.cell? ⟨w.heap.size, 15, none⟩ = some (.int .u32 rwnd) ∧ V.cell? ⟨w.heap.size, 16, none⟩ = some (.slice gA gn gc) ∧ V.cell? ⟨w.heap.size, 17, none⟩ = some (.slice pA pn pc) ∧ V.cell? ⟨w.heap.size, 18, none⟩ = some (.int .u32 fc) ∧ V.cell? ⟨w.heap.size, 19, none⟩ = some (.slice sA sn sc)) := ⟨fun V h => ⟨(keep22 h).2.2.2.2.2.2.2.2.2.2.2.2.2.2.1, (keep22 h).2.2.2.2.2.2.2.2.2.2.2.2.2.2.2.1, (keep22 h).2.2.2.2.2.2.2.2.2.2.2.2.2.2.2.2.1, (keep22 h).2.2.2.2.2.2.2.2.2.2.2.2.2.2.2.2.2.1, (keep22 h).2.2.2.2.2.2.2.2.2.2.2.2.2.2.2.2.2.2.1, (keep22 h).2.2.2.2.2.2.2.2.2.2.2.2.2.2.2.2.2.2.2.1⟩⟩
        have i1 : IntKind.i64.wrap (4 * (gn : Int)) = 4 * (gn : Int) := IntWalk.i64_in _ (by omega)
        have i2 : IntKind.i64.wrap (12 + 4 * (gn : Int)) = 12 + 4 * (gn : Int) := IntWalk.i64_in _ (by omega)
        have i3 : IntKind.i64.wrap (4 * (pn : Int)) = 4 * (pn : Int) := IntWalk.i64_in _ (by omega)
        have i4 : IntKind.i64.wrap (12 + 4 * (gn : Int) + 4 * (pn : Int)) = 12 + 4 * (gn : Int) + 4 * (pn : Int) := IntWalk.i64_in _ (by omega)
        have i5 : IntKind.i64.wrap (4 * (sn : Int)) = 4 * (sn : Int) := IntWalk.i64_in _ (by omega)
        have i6 : IntKind.i64.wrap (4 + 4 * (sn : Int)) = 4 + 4 * (sn : Int) := IntWalk.i64_in _ (by omega)
        have e0 := wrap_pad cn g5
        have e1 : ((12 + (gn : Int) * 4 + (pn : Int) * 4) != (12 + 4 * (gn : Int) + 4 * (pn : Int))) = false := by rw [bne_eq_false_iff_eq]; omega
        have e2 : ((4 + (sn : Int) * 4) != (4 + 4 * (sn : Int))) = false := by rw [bne_eq_false_iff_eq]; omega
        go_wp2_with fail
        have kb2 := X5.out.box
        go_region_held3 (fun w' => w'.cell? ⟨w.heap.size, 14, none⟩ = some (.int .u32 cum) ∧ w'.cell? ⟨w.heap.size, 15, none⟩ = some (.int .u32 rwnd) ∧ w'.cell? ⟨w.heap.size, 16, none⟩ = some (.slice gA gn gc) ∧ w'.cell? ⟨w.heap.size, 17, none⟩ = some (.slice pA pn pc) ∧ w'.cell? ⟨w.heap.size, 18, none⟩ = some (.int .u32 fc) ∧ w'.cell? ⟨w.heap.size, 19, none⟩ = some (.slice sA sn sc))
          (first | (with_reducible exact K2.out _ kb2) | (with_reducible exact K2.out _ kb3) | (with_reducible exact K2.out _ kb4) | (with_reducible exact K2.out _ X5.out.drew.box) | go_keep)
          (first
            | (go_at_call 18; refine (C5.out _ Y3.out.low).mono ?_; rintro e w7 ⟨A4, c4, rfl, P4⟩; unfold chunkV; have Y4 := Aside.mk (Y3.out.below P4.out.2); have kb4 := Y4.out.box)
            | (go_at_call 17; refine (C4.out _ X5.out.drew.low).mono ?_; rintro e w6 ⟨A3, c3, rfl, P3⟩; unfold chunkV; have Y3 := Aside.mk (X5.out.drew.below P3.out.2); have kb3 := Y3.out.box))
        have X6 := Aside.mk Y4.out
        clear Y3 Y4 kb2 kb3 kb4 P3 P4 C4 C5 K2 i1 i2 i3 i4 i5 i6 e0 X5
        have x20 : w7.cell? ⟨w.heap.size, 20, none⟩ = some (.int .i64 at_) := by rw [blk_cell X6.out.box]; rfl
        have x21 : w7.cell? ⟨w.heap.size, 21, none⟩ = some (.int .u32 cm) := by rw [blk_cell X6.out.box]; rfl
        have T7 := Aside.mk (putTimeN_ w7 4 at_ b12)
        clear e1 e2
        go_wp2_with fail
        refine T7.out.mono ?_
        rintro e w8 ⟨A8, c8, rfl, P8⟩
        unfold chunkV
        have X8 := Aside.mk (X6.out.below P8.out.2)
        have x21' : w8.cell? ⟨w.heap.size, 21, none⟩ = some (.int .u32 cm) := by rw [blk_cell X8.out.box]; rfl
        have T8 := Aside.mk (putCumN_ w8 cm b13)
        clear T7 X6 P8 x20 x21
        go_wp2_with fail
        refine T8.out.mono ?_
        rintro e w9 ⟨A9, c9, rfl, P9⟩
        unfold chunkV
        have X9 := Aside.mk (X8.out.below P9.out.2)
        have T9 := Aside.mk (works_ w9)
        clear T8 X8 P9 x21'
        go_wp2_with fail
        refine T9.out.mono ?_
        rintro e w10 ⟨rfl, b10⟩
        have BB := Aside.mk (X9.out.below b10).low
        clear b10 T9
        go_wp2_with fail
        go_ret
        exact ⟨rfl, BB.out⟩
      · go_wp2_with fail
        refine W1.out.mono ?_
        rintro e w3 ⟨rfl, b3⟩
        have BB := Aside.mk (X2.out.below b3).low
        clear b3
        go_wp2_with fail
        go_ret
        exact ⟨rfl, BB.out⟩
    · go_wp2_with fail
      refine W1.out.mono ?_
      rintro e w3 ⟨rfl, b3⟩
      have BB := Aside.mk (X2.out.below b3).low
      clear b3
      go_wp2_with fail
      go_ret
      exact ⟨rfl, BB.out⟩
  · go_wp2_with fail
    refine W1.out.mono ?_
    rintro e w3 ⟨rfl, b3⟩
    have BB := Aside.mk (X2.out.below b3).low
    clear b3
    go_wp2_with fail
    go_ret
    exact ⟨rfl, BB.out⟩
end Go.Proofs.Ytedbmpfjikaljaa
