/-
  Proved: 'BodiesSack' as a walk: whatever the arguments read as, the function answers true. No condition.
-/
import Derived.Test.YtedbmpfjikaljaaRefSack
namespace Go.Proofs.Ytedbmpfjikaljaa
open Go.RowKit
set_option linter.unusedVariables false
set_option linter.unusedSimpArgs false
set_option linter.unusedSectionVars false
set_option maxRecDepth 100000

theorem getSackG_ (w : World) {k f : Int} {A : Option Addr} {n c : Nat} {xs : List Int} (h : Rd .u8 w A n c xs) (hy : Byt xs) (hn : n ≤ 100000) :
    Calls Try.prog 30 #[chunkV k f A n c] w fun e w' => ∃ B m d B2 m2 d2, e = .returned (.tuple #[sackV (sackX k f xs 0) (sackX k f xs 4) B m d B2 m2 d2, errV (sackE k f xs)]) ∧ Aside (Rd2 w' B m d (sackGotP k f xs) ∧ Rd .u32 w' B2 m2 d2 (sackGotD k f xs) ∧ Below w.heap.size w w') := by
  have hl := h.len
  refine (getSack_ w h hy hn).mono ?_
  rintro e w' ⟨B, m, d, B2, m2, d2, rfl, o, o2, b⟩
  have hm := o.len
  have hm2 := o2.len
  have c1 : sackG xs ≤ 50000 := by unfold sackG; omega
  have c2 : sackD xs ≤ 50000 := by unfold sackD; omega
  unfold sackPs at hm
  unfold sackDs at hm2
  rw [prs_len] at hm
  rw [dds_len] at hm2
  cases hE : sackE k f xs
  · obtain ⟨e1, e2, e3⟩ := sack_no hE
    rw [e1, e1, e2, e3]
    exact ⟨none, 0, 0, none, 0, 0, rfl, ⟨(ownP_nil 84 w' 0).rd2 (by omega) (fun p hp => by simp at hp), (ownD_nil w' 0).rd (by omega), b⟩⟩
  · obtain ⟨e1, e2, e3⟩ := sack_yes hE
    rw [e1, e1, e2, e3]
    exact ⟨B, m, d, B2, m2, d2, rfl, ⟨o.rd2 (by omega) (prs_bd hy _ _), o2.rd (by omega), b⟩⟩
theorem refGetSackG_ (w : World) {k f : Int} {A : Option Addr} {n c : Nat} {xs : List Int} (h : Rd .u8 w A n c xs) (hy : Byt xs) (hn : n ≤ 100000) :
    Calls Try.prog 31 #[chunkV k f A n c] w fun e w' => ∃ B m d B2 m2 d2, e = .returned (.tuple #[sackV (sackX k f xs 0) (sackX k f xs 4) B m d B2 m2 d2, errV (sackE k f xs)]) ∧ Aside (Rd2 w' B m d (sackGotP k f xs) ∧ Rd .u32 w' B2 m2 d2 (sackGotD k f xs) ∧ Below w.heap.size w w') := by
  have hl := h.len
  refine (refGetSack_ w h hy hn).mono ?_
  rintro e w' ⟨B, m, d, B2, m2, d2, rfl, o, o2, b⟩
  have hm := o.len
  have hm2 := o2.len
  have c1 : sackG xs ≤ 50000 := by unfold sackG; omega
  have c2 : sackD xs ≤ 50000 := by unfold sackD; omega
  have l1 : (sackPs xs).length = sackG xs := by unfold sackPs; rw [prs_len]
  have l2 : (sackDs xs).length = sackD xs := by unfold sackDs; rw [dds_len]
  refine ⟨B, m, d, B2, m2, d2, rfl, ⟨o.rd2 ?_ ?_, o2.rd ?_, b⟩⟩
  · rw [← hm]
    unfold sackGotP
    split
    · omega
    · simp
  · unfold sackGotP
    split
    · exact prs_bd hy _ _
    · exact fun p hp => by simp at hp
  · rw [← hm2]
    unfold sackGotD
    split
    · omega
    · simp

set_option maxHeartbeats 8000000 in
theorem lawSack_ (w : World) (x y : Int) (hx : 0 ≤ x ∧ x < 4294967296) (hyy : 0 ≤ y ∧ y < 4294967296) {A1 : Option Addr} {m1 d1 : Nat} {ps : List (Int × Int)} {A2 : Option Addr} {m2 d2 : Nat} {ds : List Int} (h2 : Rdx2 w A1 m1 d1 ps) (h3 : Rdx .u32 w A2 m2 d2 ds) (hds : ∀ i, 0 ≤ ds.getD i 0 ∧ ds.getD i 0 < 4294967296) {k f : Int} {A : Option Addr} {n c : Nat} {xs : List Int} (hk : 0 ≤ k ∧ k < 256) (hf : 0 ≤ f ∧ f < 256) (h : Rdx .u8 w A n c xs) (hy : Byt xs) :
    Calls Try.prog 6 #[.agg #[.int .u32 x, .int .u32 y, .slice A1 m1 d1, .slice A2 m2 d2], chunkV k f A n c] w fun e w' => e = .returned (.bool true) ∧ Below w.heap.size w w' := by
  have H := Aside.mk h
  have H2 := Aside.mk h2
  have H3 := Aside.mk h3
  have DS := Aside.mk hds
  have Y := Aside.mk hy
  have hcap := h.cap
  have hmx := h.mx
  have hcap2 := h2.cap
  have hmx2 := h2.mx
  have hcap3 := h3.cap
  have hmx3 := h3.mx
  clear h hy h2 h3 hds
  have X0 := Aside.mk (hold_two w (.cells #[.int .u32 x, .int .u32 y, .slice A1 m1 d1, .slice A2 m2 d2] 38) (.cells #[.int .u8 k, .int .u8 f, .slice A n c] 24))
  have kb0 := keep3 X0.out.h0
  have kw0 := keep4 X0.out.tail.h0
  have kz0 : w.heap.size + 1 < ((w.alloc (.cells #[.int .u32 x, .int .u32 y, .slice A1 m1 d1, .slice A2 m2 d2] 38)).alloc (.cells #[.int .u8 k, .int .u8 f, .slice A n c] 24)).heap.size := lt_of_block X0.out.h0
  unfold chunkV
  go_enter Try.func6, Try.ntmps6
  cases hl : decide (8192 < n)
  · have hl' : n ≤ 8192 := by have := of_decide_eq_false hl; omega
    have T1 := Aside.mk (fun V => large_ V k f A n c hl)
    obtain ⟨M, hM⟩ : ∃ M, isMany m1 m2 0 = M := ⟨_, rfl⟩
    have T2 := Aside.mk (fun V => many_ V x y 0 A1 A2 none m1 d1 m2 d2 0 0 (E := M) hM)
    have HM := Aside.mk hM
    have KK : Aside (∀ V : World, Hold w [(w.heap.size + 1, .cells #[.int .u8 k, .int .u8 f, .slice A n c] 24), (w.heap.size, .cells #[.int .u32 x, .int .u32 y, .slice A1 m1 d1, .slice A2 m2 d2] 38)] V → V.cell? ⟨w.heap.size, 0, none⟩ = some (.int .u32 x) ∧ V.cell? ⟨w.heap.size, 1, none⟩ = some (.int .u32 y) ∧ V.cell? ⟨w.heap.size, 2, none⟩ = some (.slice A1 m1 d1) ∧ V.cell? ⟨w.heap.size, 3, none⟩ = some (.slice A2 m2 d2) ∧ V.cell? ⟨w.heap.size + 1, 0, none⟩ = some (.int .u8 k) ∧ V.cell? ⟨w.heap.size + 1, 1, none⟩ = some (.int .u8 f) ∧ V.cell? ⟨w.heap.size + 1, 2, none⟩ = some (.slice A n c)) := ⟨fun V h => ⟨(keep4 h.tail.h0).1, (keep4 h.tail.h0).2.1, (keep4 h.tail.h0).2.2.1, (keep4 h.tail.h0).2.2.2, keep3 h.h0⟩⟩
    clear hM
    go_wp2_with fail
    refine (T1.out _).mono ?_
    rintro e w2 ⟨rfl, b2⟩
    have X2 := Aside.mk (X0.out.below b2)
    have k2 := KK.out _ X2.out
    clear b2 T1 X0 kb0 kw0 kz0
    go_wp2_with fail
    refine (T2.out _).mono ?_
    rintro e w3 ⟨rfl, b3⟩
    have X3 := Aside.mk (X2.out.below b3)
    have k3 := KK.out _ X3.out
    clear b3 T2 X2 k2
    cases M
    · obtain ⟨g1, g2, g3⟩ := not_many HM.out
      have HR := Aside.mk (H.out.rd (by omega))
      have HP := Aside.mk (H2.out.rd (by omega))
      have HD := Aside.mk (H3.out.rd (by omega))
      clear HM H H2 H3
      have X4 := Aside.mk (X3.out.alloc (.cells #[.int .u32 x, .int .u32 y, .slice none 0 0, .slice none 0 0] 38))
      have k4 := KK.out _ X4.out.tail
      obtain ⟨B1, e1', w5, hrun, o5, g5⟩ := append_gap (ownP_nil 84 (w3.alloc (.cells #[.int .u32 x, .int .u32 y, .slice none 0 0, .slice none 0 0] 38)) (w3.heap.size + 1)) (by simp) (HP.out.below X4.out.low) (by omega)
      rw [Nat.zero_add] at hrun o5
      rw [List.nil_append] at o5
      have z3 : w.heap.size + 1 < w3.heap.size := lt_of_block X3.out.h0
      have X5 := Aside.mk (X4.out.grown g5 (fun b hb => by simp [Value.ownBlock] at hb) (base := w3.heap.size + 1) (by intro p hp; simp at hp; rcases hp with rfl | rfl | rfl <;> simp <;> omega) (by omega))
      have k5 := keep4 X5.out.h0
      have f5 := blk_free (i := 2) X5.out.h0
      have R := Aside.mk hrun
      have X6 : Aside (Hold w [(w3.heap.size, .cells #[.int .u32 x, .int .u32 y, .slice B1 m1 e1', .slice none 0 0] 38), (w.heap.size + 1, .cells #[.int .u8 k, .int .u8 f, .slice A n c] 24), (w.heap.size, .cells #[.int .u32 x, .int .u32 y, .slice A1 m1 d1, .slice A2 m2 d2] 38)] (w5.setCell ⟨w3.heap.size, 2, none⟩ (.slice B1 m1 e1'))) := ⟨by
        have := X5.out.set4 (by omega) (by intro p hp; simp at hp; rcases hp with rfl | rfl <;> simp <;> omega) 2 (.slice B1 m1 e1')
        simpa using this⟩
      have O6 := Aside.mk (o5.upd ((Upd.refl (Just w3.heap.size) w5).setCell ⟨w3.heap.size, 2, none⟩ (.slice B1 m1 e1') (fun _ => rfl)) (fun j hj => by rw [show j = _ from hj]; omega))
      have k6 := KK.out _ X6.out.tail
      have k6' := keep4 X6.out.h0
      have s6 := X6.out.low.size
      have s6' : w3.heap.size < (w5.setCell ⟨w3.heap.size, 2, none⟩ (.slice B1 m1 e1')).heap.size := lt_of_block X6.out.h0
      generalize hw6 : w5.setCell ⟨w3.heap.size, 2, none⟩ (.slice B1 m1 e1') = w6 at *
      obtain ⟨D1, e2', w7, hrun2, o7, g7⟩ := append_dup (ownD_nil w6 (w3.heap.size + 1)) (by omega) (HD.out.below X6.out.low) (by omega)
      rw [Nat.zero_add] at hrun2 o7
      rw [List.nil_append] at o7
      have X7 := Aside.mk (X6.out.grown g7 (fun b hb => by simp [Value.ownBlock] at hb) (base := w3.heap.size + 1) (by intro p hp; simp at hp; rcases hp with rfl | rfl | rfl <;> simp <;> omega) (by omega))
      have k7 := keep4 X7.out.h0
      have f7 := blk_free (i := 3) X7.out.h0
      have R2 := Aside.mk hrun2
      have O7 := Aside.mk (O6.out.below (below_grown (Below.refl _ _) g7 (fun b hb => by simp [Value.ownBlock] at hb) (Nat.le_refl _)))
      have X8 : Aside (Hold w [(w3.heap.size, .cells #[.int .u32 x, .int .u32 y, .slice B1 m1 e1', .slice D1 m2 e2'] 38), (w.heap.size + 1, .cells #[.int .u8 k, .int .u8 f, .slice A n c] 24), (w.heap.size, .cells #[.int .u32 x, .int .u32 y, .slice A1 m1 d1, .slice A2 m2 d2] 38)] (w7.setCell ⟨w3.heap.size, 3, none⟩ (.slice D1 m2 e2'))) := ⟨by
        have := X7.out.set4 (by omega) (by intro p hp; simp at hp; rcases hp with rfl | rfl <;> simp <;> omega) 3 (.slice D1 m2 e2')
        simpa using this⟩
      have O8 := Aside.mk ((O7.out.upd ((Upd.refl (Just w3.heap.size) w7).setCell ⟨w3.heap.size, 3, none⟩ (.slice D1 m2 e2') (fun _ => rfl)) (fun j hj => by rw [show j = _ from hj]; omega)).rd2 (by omega) HP.out.num)
      have O9 := Aside.mk ((o7.upd ((Upd.refl (Just w3.heap.size) w7).setCell ⟨w3.heap.size, 3, none⟩ (.slice D1 m2 e2') (fun _ => rfl)) (fun j hj => by rw [show j = _ from hj]; omega)).rd (by omega))
      have k8 := keep4 X8.out.h0
      generalize hw8 : w7.setCell ⟨w3.heap.size, 3, none⟩ (.slice D1 m2 e2') = w8 at *
      have T4 := Aside.mk (putSackN_ w8 x y hx hyy O8.out O9.out (by omega) DS.out)
      clear hrun o5 g5 hrun2 o7 g7 O6 O7
      go_wp2_with (at_builtin; first | refine wpList_append_run 35 _ _ _ _ rfl rfl rfl rfl R.out ?_ | refine wpList_append_run 36 _ _ _ _ rfl rfl rfl rfl R2.out ?_)
      refine T4.out.mono ?_
      rintro e w9 ⟨Ap, cp, rfl, P7⟩
      have XP := Aside.mk ((X8.out.below P7.out.2).alloc (.cells #[.int .u8 3, .int .u8 0, .slice Ap (12 + m1 * 4 + m2 * 4) cp] 24))
      have RI := Aside.mk (And.intro ((O8.out.below P7.out.2).below (below_alloc w9 (.cells #[.int .u8 3, .int .u8 0, .slice Ap (12 + m1 * 4 + m2 * 4) cp] 24))) (And.intro ((O9.out.below P7.out.2).below (below_alloc w9 (.cells #[.int .u8 3, .int .u8 0, .slice Ap (12 + m1 * 4 + m2 * 4) cp] 24))) ((P7.out.1.rd (by omega)).below (below_alloc w9 (.cells #[.int .u8 3, .int .u8 0, .slice Ap (12 + m1 * 4 + m2 * 4) cp] 24)))))
      have z7 : w3.heap.size < w9.heap.size := lt_of_block (X8.out.below P7.out.2).h0
      have zc := XP.out.tail.tail.h0
      generalize w3.heap.size = gi at *
      generalize hgp : w9.heap.size = gp at *
      unfold chunkV
      clear T4 R R2 P7 O8 O9 X8 X7 X6 X5 X4 X3 k3 k4 k5 f5 k6 k6' k7 f7 k8 KK s6 s6'
      go_upto_region 7 with (fail)
      generalize w9.alloc (.cells #[.int .u8 3, .int .u8 0, .slice Ap (12 + m1 * 4 + m2 * 4) cp] 24) = wp at *
      go_cut [7] (fun s7 wx => ∃ g gr : Nat, s7 = .pointer (some ⟨g, 0, none⟩) ∧ Aside (Hold w [(g, .cells #[.int .u8 k, .int .u8 f, .slice (some ⟨gr, 0, none⟩) n (n + 16)] 24), (gr, .cells (rowOf_ (marked xs)) 5), (gp, .cells #[.int .u8 3, .int .u8 0, .slice Ap (12 + m1 * 4 + m2 * 4) cp] 24), (gi, .cells #[.int .u32 x, .int .u32 y, .slice B1 m1 e1', .slice D1 m2 e2'] 38), (w.heap.size + 1, .cells #[.int .u8 k, .int .u8 f, .slice A n c] 24), (w.heap.size, .cells #[.int .u32 x, .int .u32 y, .slice A1 m1 d1, .slice A2 m2 d2] 38)] wx ∧ Rd2 wx B1 m1 e1' ps ∧ Rd .u32 wx D1 m2 e2' ds ∧ Rd .u8 wx Ap (12 + m1 * 4 + m2 * 4) cp (sackL x y ps ds)))
      case first =>
        as_aux_lemma =>
          have TR := Aside.mk (fun (V : World) (b : Below w.heap.size w V) => roomy_ V (HR.out.below b) (by omega))
          have KC : Aside (∀ V : World, V.heap[w.heap.size + 1]? = some (.cells #[.int .u8 k, .int .u8 f, .slice A n c] 24) → V.cell? ⟨w.heap.size + 1, 0, none⟩ = some (.int .u8 k) ∧ V.cell? ⟨w.heap.size + 1, 1, none⟩ = some (.int .u8 f) ∧ V.cell? ⟨w.heap.size + 1, 2, none⟩ = some (.slice A n c)) := ⟨fun V h => keep3 h⟩
          have XA := Aside.mk (XP.out.alloc (.cells #[.int .u8 0, .int .u8 0, .slice none 0 0] 24))
          have RF := Aside.mk (fun (V : World) (b : Below wp.heap.size wp V) => And.intro (RI.out.1.below b) (And.intro (RI.out.2.1.below b) (RI.out.2.2.below b)))
          have kh0 := XP.out.drew.tail.tail.h0
          have kh1 := XA.out.drew.tail.tail.tail.h0
          have zl : w.heap.size + 1 < wp.heap.size := lt_of_block zc
          have zg : gi < wp.heap.size := lt_of_block XP.out.tail.h0
          have zp : gp < wp.heap.size := lt_of_block XP.out.h0
          have BX : Aside (Below wp.heap.size wp wp.drew) := ⟨below_drewN (Below.refl _ _) 1⟩
          have BY : Aside (Below wp.heap.size wp (wp.alloc (.cells #[.int .u8 0, .int .u8 0, .slice none 0 0] 24)).drew) := ⟨below_drewN (below_alloc _ _) 1⟩
          clear zc
          go_region_held3 (fun w' => w'.cell? ⟨w.heap.size + 1, 0, none⟩ = some (.int .u8 k) ∧ w'.cell? ⟨w.heap.size + 1, 1, none⟩ = some (.int .u8 f) ∧ w'.cell? ⟨w.heap.size + 1, 2, none⟩ = some (.slice A n c))
            (first | (with_reducible exact KC.out _ (set3_hold kh5 (by omega) _ _ _)) | (with_reducible exact KC.out _ (alloc_keep kh5)) | (with_reducible exact KC.out _ kh5) | (with_reducible exact KC.out _ kh0) | (with_reducible exact KC.out _ kh1) | exact KC.out _ kh0 | exact KC.out _ kh1 | go_keep)
            (first
              | (go_at_call 23; refine (TR.out _ (by first | with_reducible exact XP.out.drew.low | with_reducible exact XA.out.drew.low)).mono ?_; rintro e wr ⟨rfl, P9⟩; (first | (have Y5 := Aside.mk ((XP.out.drew.below P9.out.2).add P9.out.1); have kh5 := Y5.out.tail.tail.tail.h0; have b5 := BX.out.trans (P9.out.2.mono (by simp))) | (have Y5 := Aside.mk ((XA.out.drew.below P9.out.2)); have Y6 := Aside.mk (Y5.out.tail.add P9.out.1); have kh5 := Y5.out.tail.tail.tail.h0; have kv := keep3 Y5.out.h0; have kf := free7 Y5.out.h0; have b5 := BY.out.trans (P9.out.2.mono (by simp))))))
          all_goals (
            have b5' := Aside.mk b5
            clear b5
            go_wp2_with fail
            go_meet
            have hw2 := XP.out.low.size
            first
              | (with_reducible exact ⟨_, _, rfl, ⟨Y5.out.alloc _, RF.out _ (b5'.out.trans (below_alloc _ _))⟩⟩)
              | exact ⟨_, _, rfl, ⟨Y5.out.alloc _, RF.out _ (b5'.out.alloc (by have := b5'.out.size; omega) _)⟩⟩
              | (have Y7 : Hold w [(wp.heap.size + 1, .cells (rowOf_ (marked xs)) 5), (gp, .cells #[.int .u8 3, .int .u8 0, .slice Ap (12 + m1 * 4 + m2 * 4) cp] 24), (gi, .cells #[.int .u32 x, .int .u32 y, .slice B1 m1 e1', .slice D1 m2 e2'] 38), (w.heap.size + 1, .cells #[.int .u8 k, .int .u8 f, .slice A n c] 24), (w.heap.size, .cells #[.int .u32 x, .int .u32 y, .slice A1 m1 d1, .slice A2 m2 d2] 38)] wr := (by
                   have hz : (wp.alloc (.cells #[.int .u8 0, .int .u8 0, .slice none 0 0] 24)).drew.heap.size = wp.heap.size + 1 := by simp
                   rw [← hz]
                   exact Y6.out)
                 exact ⟨_, _, rfl, ⟨Hold.set3 (Y7.add Y5.out.h0) (by omega) (by intro p hp; simp at hp; rcases hp with rfl | rfl | rfl | rfl | rfl <;> simp <;> omega) _ _ _, RF.out _ (fin_below b5'.out (Nat.le_refl _) _ _ _)⟩⟩))
      case rest =>
        obtain ⟨g, gr, rfl, X9⟩ := hcut
        clear XP RI zc
        have RM := Aside.mk (fun (V : World) (h : V.heap[gr]? = some (.cells (rowOf_ (marked xs)) 5)) => rd_marked h HR.out.len (by omega))
        have G1 := Aside.mk (fun (V : World) (h : V.heap[gr]? = some (.cells (rowOf_ (marked xs)) 5)) => getSackG_ V (k := k) (f := f) (RM.out V h) Y.out (by omega))
        have G2 := Aside.mk (fun (V : World) (b : Below w.heap.size w V) => refGetSackG_ V (k := k) (f := f) (HR.out.below b) Y.out (by omega))
        obtain ⟨e1, he1⟩ : ∃ e1, errV (sackE k f xs) = .int .i64 e1 := ⟨_, rfl⟩
        rw [he1] at G1 G2
        generalize sackX k f xs 0 = y1 at *
        generalize sackX k f xs 4 = y2 at *
        generalize sackGotP k f xs = L at *
        generalize sackGotD k f xs = LD at *
        clear he1
        have kq := keep3 X9.out.1.h0
        have kc := keep3 X9.out.1.tail.tail.tail.tail.h0
        go_wp2_with fail
        refine (G1.out _ X9.out.1.tail.h0).mono ?_
        rintro e wx ⟨Bx, mx, dx, Ex, nx, fx, rfl, Px⟩
        have XX := Aside.mk ((X9.out.1.below Px.out.2.2).alloc (.cells #[.int .u32 y1, .int .u32 y2, .slice Bx mx dx, .slice Ex nx fx] 38))
        have RX := Aside.mk (And.intro (X9.out.2.1.below Px.out.2.2) (And.intro (X9.out.2.2.1.below Px.out.2.2) (And.intro (X9.out.2.2.2.below Px.out.2.2) (And.intro Px.out.1 Px.out.2.1))))
        have kc2 := keep3 XX.out.tail.tail.tail.tail.tail.h0
        generalize hgx : wx.heap.size = gx at *
        clear G1 X9 Px kq kc
        unfold sackV
        go_wp2_with fail
        refine (G2.out _ XX.out.low).mono ?_
        rintro e wy ⟨By, my, dy, Ey, ny, fy, rfl, Py⟩
        have XY := Aside.mk ((XX.out.below Py.out.2.2).alloc (.cells #[.int .u32 y1, .int .u32 y2, .slice By my dy, .slice Ey ny fy] 38))
        have by' := (below_alloc wx (.cells #[.int .u32 y1, .int .u32 y2, .slice Bx mx dx, .slice Ex nx fx] 38)).trans (Py.out.2.2.mono (by simp))
        have by2 := by'.trans ((below_alloc wy (.cells #[.int .u32 y1, .int .u32 y2, .slice By my dy, .slice Ey ny fy] 38)).mono by'.size)
        have RY := Aside.mk (And.intro (RX.out.1.below by2) (And.intro (RX.out.2.1.below by2) (And.intro (RX.out.2.2.1.below by2) (And.intro (RX.out.2.2.2.1.below by2) (And.intro (RX.out.2.2.2.2.below by2) (And.intro (Py.out.1.below (below_alloc wy (.cells #[.int .u32 y1, .int .u32 y2, .slice By my dy, .slice Ey ny fy] 38))) (Py.out.2.1.below (below_alloc wy (.cells #[.int .u32 y1, .int .u32 y2, .slice By my dy, .slice Ey ny fy] 38)))))))))
        clear by' by2
        generalize hgy : wy.heap.size = gy at *
        clear G2 XX RX Py kc2 hgx
        unfold sackV
        go_upto_region 10 with (fail)
        generalize hwz : wy.alloc (.cells #[.int .u32 y1, .int .u32 y2, .slice By my dy, .slice Ey ny fy] 38) = wz at *
        clear hwz hgy
        have hbE := bytq_sack x y ps ds
        have F1 := Aside.mk (fun (V : World) (b : Below wz.heap.size wz V) => And.intro (RY.out.1.below b) (And.intro (RY.out.2.1.below b) (And.intro (RY.out.2.2.1.below b) (And.intro (RY.out.2.2.2.1.below b) (And.intro (RY.out.2.2.2.2.1.below b) (And.intro (RY.out.2.2.2.2.2.1.below b) (RY.out.2.2.2.2.2.2.below b)))))))
        clear RY
        have HBE := Aside.mk hbE
        clear hbE
        have KK : Aside (∀ V : World, Hold w [(gy, .cells #[.int .u32 y1, .int .u32 y2, .slice By my dy, .slice Ey ny fy] 38), (gx, .cells #[.int .u32 y1, .int .u32 y2, .slice Bx mx dx, .slice Ex nx fx] 38), (g, .cells #[.int .u8 k, .int .u8 f, .slice (some ⟨gr, 0, none⟩) n (n + 16)] 24), (gr, .cells (rowOf_ (marked xs)) 5), (gp, .cells #[.int .u8 3, .int .u8 0, .slice Ap (12 + m1 * 4 + m2 * 4) cp] 24), (gi, .cells #[.int .u32 x, .int .u32 y, .slice B1 m1 e1', .slice D1 m2 e2'] 38), (w.heap.size + 1, .cells #[.int .u8 k, .int .u8 f, .slice A n c] 24), (w.heap.size, .cells #[.int .u32 x, .int .u32 y, .slice A1 m1 d1, .slice A2 m2 d2] 38)] V →
            V.cell? ⟨gy, 0, none⟩ = some (.int .u32 y1) ∧ V.cell? ⟨gy, 1, none⟩ = some (.int .u32 y2) ∧ V.cell? ⟨gy, 2, none⟩ = some (.slice By my dy) ∧ V.cell? ⟨gy, 3, none⟩ = some (.slice Ey ny fy) ∧ V.cell? ⟨gx, 0, none⟩ = some (.int .u32 y1) ∧ V.cell? ⟨gx, 1, none⟩ = some (.int .u32 y2) ∧ V.cell? ⟨gx, 2, none⟩ = some (.slice Bx mx dx) ∧ V.cell? ⟨gx, 3, none⟩ = some (.slice Ex nx fx) ∧ V.cell? ⟨g, 2, none⟩ = some (.slice (some ⟨gr, 0, none⟩) n (n + 16)) ∧ V.cell? ⟨gp, 0, none⟩ = some (.int .u8 3) ∧ V.cell? ⟨gp, 1, none⟩ = some (.int .u8 0) ∧ V.cell? ⟨gp, 2, none⟩ = some (.slice Ap (12 + m1 * 4 + m2 * 4) cp) ∧ V.cell? ⟨gi, 0, none⟩ = some (.int .u32 x) ∧ V.cell? ⟨gi, 1, none⟩ = some (.int .u32 y) ∧ V.cell? ⟨gi, 2, none⟩ = some (.slice B1 m1 e1') ∧ V.cell? ⟨gi, 3, none⟩ = some (.slice D1 m2 e2') ∧ V.cell? ⟨w.heap.size + 1, 2, none⟩ = some (.slice A n c) ∧ V.cell? ⟨w.heap.size, 0, none⟩ = some (.int .u32 x) ∧ V.cell? ⟨w.heap.size, 1, none⟩ = some (.int .u32 y) ∧ V.cell? ⟨w.heap.size, 2, none⟩ = some (.slice A1 m1 d1) ∧ V.cell? ⟨w.heap.size, 3, none⟩ = some (.slice A2 m2 d2)) := ⟨fun V h => ⟨(keep4 h.h0).1, (keep4 h.h0).2.1, (keep4 h.h0).2.2.1, (keep4 h.h0).2.2.2, (keep4 h.tail.h0).1, (keep4 h.tail.h0).2.1, (keep4 h.tail.h0).2.2.1, (keep4 h.tail.h0).2.2.2, (keep3 h.tail.tail.h0).2.2, (keep3 h.tail.tail.tail.tail.h0).1, (keep3 h.tail.tail.tail.tail.h0).2.1, (keep3 h.tail.tail.tail.tail.h0).2.2, (keep4 h.tail.tail.tail.tail.tail.h0).1, (keep4 h.tail.tail.tail.tail.tail.h0).2.1, (keep4 h.tail.tail.tail.tail.tail.h0).2.2.1, (keep4 h.tail.tail.tail.tail.tail.h0).2.2.2, (keep3 h.tail.tail.tail.tail.tail.tail.h0).2.2, (keep4 h.tail.tail.tail.tail.tail.tail.tail.h0).1, (keep4 h.tail.tail.tail.tail.tail.tail.tail.h0).2.1, (keep4 h.tail.tail.tail.tail.tail.tail.tail.h0).2.2.1, (keep4 h.tail.tail.tail.tail.tail.tail.tail.h0).2.2.2⟩⟩
        have Z0 := XY.out.drew
        have D0 : Below wz.heap.size wz wz.drew := below_drewN (Below.refl _ _) 1
        go_region_held3 (fun w' => w'.cell? ⟨gy, 0, none⟩ = some (.int .u32 y1) ∧ w'.cell? ⟨gy, 1, none⟩ = some (.int .u32 y2) ∧ w'.cell? ⟨gy, 2, none⟩ = some (.slice By my dy) ∧ w'.cell? ⟨gy, 3, none⟩ = some (.slice Ey ny fy) ∧ w'.cell? ⟨gx, 0, none⟩ = some (.int .u32 y1) ∧ w'.cell? ⟨gx, 1, none⟩ = some (.int .u32 y2) ∧ w'.cell? ⟨gx, 2, none⟩ = some (.slice Bx mx dx) ∧ w'.cell? ⟨gx, 3, none⟩ = some (.slice Ex nx fx) ∧ w'.cell? ⟨g, 2, none⟩ = some (.slice (some ⟨gr, 0, none⟩) n (n + 16)) ∧ w'.cell? ⟨gp, 0, none⟩ = some (.int .u8 3) ∧ w'.cell? ⟨gp, 1, none⟩ = some (.int .u8 0) ∧ w'.cell? ⟨gp, 2, none⟩ = some (.slice Ap (12 + m1 * 4 + m2 * 4) cp) ∧ w'.cell? ⟨gi, 0, none⟩ = some (.int .u32 x) ∧ w'.cell? ⟨gi, 1, none⟩ = some (.int .u32 y) ∧ w'.cell? ⟨gi, 2, none⟩ = some (.slice B1 m1 e1') ∧ w'.cell? ⟨gi, 3, none⟩ = some (.slice D1 m2 e2') ∧ w'.cell? ⟨w.heap.size + 1, 2, none⟩ = some (.slice A n c) ∧ w'.cell? ⟨w.heap.size, 0, none⟩ = some (.int .u32 x) ∧ w'.cell? ⟨w.heap.size, 1, none⟩ = some (.int .u32 y) ∧ w'.cell? ⟨w.heap.size, 2, none⟩ = some (.slice A1 m1 d1) ∧ w'.cell? ⟨w.heap.size, 3, none⟩ = some (.slice A2 m2 d2))
          (first | (with_reducible exact KK.out _ Z6) | (with_reducible exact KK.out _ Z5) | (with_reducible exact KK.out _ Z4) | (with_reducible exact KK.out _ Z3) | (with_reducible exact KK.out _ Z2) | (with_reducible exact KK.out _ Z1) | exact KK.out _ Z0 | go_keep)
          (first
            | (go_at_call 13; refine (works_ _).mono ?_; rintro e u6 ⟨rfl, d6⟩; have Z6 := Z5.below d6; clear d6)
            | (have _z := Z4; clear _z; go_at_call 33; refine (sameSack_ _ y1 y2 y1 y2 (F1.out _ D4).2.2.2.1 (F1.out _ D4).2.2.2.2.2.1 (F1.out _ D4).2.2.2.2.1 (F1.out _ D4).2.2.2.2.2.2 (E := true) (by simp)).mono ?_; rintro e u5 ⟨rfl, d5⟩; have Z5 := Z4.below d5; clear d5)
            | (go_at_call 27; refine (kept_ _ Z3.tail.tail.tail.h0 (HR.out.below Z3.low) Y.out (by omega)).mono ?_; rintro e u4 ⟨rfl, q4, rfl⟩; have Z4 := Z3.drewN q4; have D4 := below_drewN D3 q4)
            | (have _z := Z2; clear _z; go_at_call 33; refine (sameSack_ _ x y x y (F1.out _ D2).1 (HP.out.below Z2.low) (F1.out _ D2).2.1 (HD.out.below Z2.low) (E := true) (by simp)).mono ?_; rintro e u3 ⟨rfl, d3⟩; have Z3 := Z2.below d3; have D3 := D2.trans (d3.mono D2.size); clear d3)
            | (have _z := Q1; clear _z; go_at_call 25; refine (same_ _ 3 0 3 0 ((F1.out _ D1).2.2.1) (Q1.out.1.rd (by omega)) HBE.out HBE.out (E := true) (by simp)).mono ?_; rintro e u2 ⟨rfl, d2⟩; have Z2 := Z1.below d2; have D2 := D1.trans (d2.mono D1.size); clear d2)
            | (go_at_call 32; refine (refPutSack_ _ x y hx hyy (HP.out.below Z0.low) (HD.out.below Z0.low) (by omega) DS.out).mono ?_; rintro e u1 ⟨AA, cc, rfl, Q1⟩; have Z1 := Z0.below Q1.out.2; have D1 := D0.trans (Q1.out.2.mono D0.size)))
        all_goals (
          have BB := Aside.mk Z6.low
          go_wp2_with fail
          go_ret
          exact ⟨rfl, BB.out⟩)
    · have T3 := Aside.mk (works_ w3)
      go_wp2_with fail
      refine T3.out.mono ?_
      rintro e w4 ⟨rfl, b4⟩
      have BB := Aside.mk (X3.out.below b4).low
      clear b4 T3
      go_wp2_with fail
      go_ret
      exact ⟨rfl, BB.out⟩
  · have T1 := Aside.mk (fun V => large_ V k f A n c hl)
    go_wp2_with fail
    refine (T1.out _).mono ?_
    rintro e w2 ⟨rfl, b2⟩
    have X2 := Aside.mk (X0.out.below b2)
    have T2 := Aside.mk (works_ w2)
    clear b2 T1 X0 kb0 kw0 kz0
    go_wp2_with fail
    refine T2.out.mono ?_
    rintro e w3 ⟨rfl, b3⟩
    have BB := Aside.mk (X2.out.below b3).low
    clear b3 T2
    go_wp2_with fail
    go_ret
    exact ⟨rfl, BB.out⟩
end Go.Proofs.Ytedbmpfjikaljaa
