/-
  Proved: 'BodiesForward' as a walk: whatever the arguments read as, the function answers true. No condition.
-/
import Derived.Test.YtedbmpfjikaljaaRefFwd
namespace Go.Proofs.Ytedbmpfjikaljaa
open Go.RowKit
set_option linter.unusedVariables false
set_option linter.unusedSimpArgs false
set_option linter.unusedSectionVars false
set_option maxRecDepth 100000

theorem getFwdG_ (w : World) {k f : Int} {A : Option Addr} {n c : Nat} {xs : List Int} (h : Rd .u8 w A n c xs) (hy : Byt xs) (hn : n ≤ 100000) :
    Calls Try.prog 34 #[chunkV k f A n c] w fun e w' => ∃ B m d, e = .returned (.tuple #[fwdV (fwdGot k f xs).1 B m d, errV (fwdE k f xs)]) ∧ Aside (Rd2 w' B m d (fwdGot k f xs).2 ∧ Below w.heap.size w w') := by
  have hl := h.len
  refine (getFwd_ w h hy hn).mono ?_
  rintro e w' ⟨B, m, d, rfl, o, b⟩
  have hm := o.len
  unfold fwdPs at hm
  rw [prs_len] at hm
  unfold fwdGot
  cases hE : fwdE k f xs
  · exact ⟨none, 0, 0, rfl, ⟨(ownP_nil 88 w' 0).rd2 (by omega) (fun p hp => by simp at hp), b⟩⟩
  · exact ⟨B, m, d, rfl, ⟨o.rd2 (by omega) (prs_bd hy _ _), b⟩⟩
theorem refGetFwdG_ (w : World) {k f : Int} {A : Option Addr} {n c : Nat} {xs : List Int} (h : Rd .u8 w A n c xs) (hy : Byt xs) (hn : n ≤ 100000) :
    Calls Try.prog 35 #[chunkV k f A n c] w fun e w' => ∃ B m d, e = .returned (.tuple #[fwdV (fwdGot k f xs).1 B m d, errV (fwdE k f xs)]) ∧ Aside (Rd2 w' B m d (fwdGot k f xs).2 ∧ Below w.heap.size w w') := by
  have hl := h.len
  refine (refGetFwd_ w h hy hn).mono ?_
  rintro e w' ⟨B, m, d, rfl, o, b⟩
  have hm := o.len
  have hb : ∀ p ∈ (fwdGot k f xs).2, (0 ≤ p.1 ∧ p.1 < 65536) ∧ (0 ≤ p.2 ∧ p.2 < 65536) := by
    unfold fwdGot
    split
    · exact prs_bd hy _ _
    · exact fun p hp => by simp at hp
  have hl2 : (fwdGot k f xs).2.length ≤ 50000 := by
    unfold fwdGot
    split
    · unfold fwdPs
      rw [prs_len]
      omega
    · simp
  exact ⟨B, m, d, rfl, ⟨o.rd2 (by omega) hb, b⟩⟩

set_option maxHeartbeats 8000000 in
theorem lawFwd_ (w : World) (x : Int) (hx : 0 ≤ x ∧ x < 4294967296) {A1 : Option Addr} {m1 d1 : Nat} {ps : List (Int × Int)} (h2 : Rdx2 w A1 m1 d1 ps) {k f : Int} {A : Option Addr} {n c : Nat} {xs : List Int} (hk : 0 ≤ k ∧ k < 256) (hf : 0 ≤ f ∧ f < 256) (h : Rdx .u8 w A n c xs) (hy : Byt xs) :
    Calls Try.prog 7 #[.agg #[.int .u32 x, .slice A1 m1 d1], chunkV k f A n c] w fun e w' => e = .returned (.bool true) ∧ Below w.heap.size w w' := by
  have H := Aside.mk h
  have H2 := Aside.mk h2
  have Y := Aside.mk hy
  have hcap := h.cap
  have hmx := h.mx
  have hcap2 := h2.cap
  have hmx2 := h2.mx
  clear h hy h2
  have X0 := Aside.mk (hold_two w (.cells #[.int .u32 x, .slice A1 m1 d1] 41) (.cells #[.int .u8 k, .int .u8 f, .slice A n c] 24))
  have kb0 := keep3 X0.out.h0
  have kw0 := keep2 X0.out.tail.h0
  have kz0 : w.heap.size + 1 < ((w.alloc (.cells #[.int .u32 x, .slice A1 m1 d1] 41)).alloc (.cells #[.int .u8 k, .int .u8 f, .slice A n c] 24)).heap.size := lt_of_block X0.out.h0
  unfold chunkV
  go_enter Try.func7, Try.ntmps7
  cases hl : decide (8192 < n)
  · have hl' : n ≤ 8192 := by have := of_decide_eq_false hl; omega
    have T1 := Aside.mk (fun V => large_ V k f A n c hl)
    obtain ⟨M, hM⟩ : ∃ M, isMany 0 0 m1 = M := ⟨_, rfl⟩
    have T2 := Aside.mk (fun V => many_ V 0 0 x none none A1 0 0 0 0 m1 d1 (E := M) hM)
    have HM := Aside.mk hM
    have KK : Aside (∀ V : World, Hold w [(w.heap.size + 1, .cells #[.int .u8 k, .int .u8 f, .slice A n c] 24), (w.heap.size, .cells #[.int .u32 x, .slice A1 m1 d1] 41)] V → V.cell? ⟨w.heap.size, 0, none⟩ = some (.int .u32 x) ∧ V.cell? ⟨w.heap.size, 1, none⟩ = some (.slice A1 m1 d1) ∧ V.cell? ⟨w.heap.size + 1, 0, none⟩ = some (.int .u8 k) ∧ V.cell? ⟨w.heap.size + 1, 1, none⟩ = some (.int .u8 f) ∧ V.cell? ⟨w.heap.size + 1, 2, none⟩ = some (.slice A n c)) := ⟨fun V h => ⟨(keep2 h.tail.h0).1, (keep2 h.tail.h0).2, keep3 h.h0⟩⟩
    clear hM
    go_wp2_with fail
    refine (T1.out _).mono ?_
    rintro e w2 ⟨rfl, b2⟩
    have X2 := Aside.mk (X0.out.below b2)
    have k2 := KK.out _ X2.out
    clear b2 T1 X0 kb0 kw0 kz0
    go_wp2_with fail
    refine (T2.out _).mono ?_
    rintro e w3 ⟨rfl, b3⟩
    have X3 := Aside.mk (X2.out.below b3)
    have k3 := KK.out _ X3.out
    clear b3 T2 X2 k2
    cases M
    · obtain ⟨g1, g2, g3⟩ := not_many HM.out
      have HR := Aside.mk (H.out.rd (by omega))
      have HP := Aside.mk (H2.out.rd (by omega))
      clear HM H H2
      have X4 := Aside.mk (X3.out.alloc (.cells #[.int .u32 x, .slice none 0 0] 41))
      have k4 := KK.out _ X4.out.tail
      obtain ⟨B1, e1', w5, hrun, o5, g5⟩ := append_skip (ownP_nil 88 (w3.alloc (.cells #[.int .u32 x, .slice none 0 0] 41)) (w3.heap.size + 1)) (by simp) (HP.out.below X4.out.low) (by omega)
      rw [Nat.zero_add] at hrun o5
      rw [List.nil_append] at o5
      have z3 : w.heap.size + 1 < w3.heap.size := lt_of_block X3.out.h0
      have X5 := Aside.mk (X4.out.grown g5 (fun b hb => by simp [Value.ownBlock] at hb) (base := w3.heap.size + 1) (by intro p hp; simp at hp; rcases hp with rfl | rfl | rfl <;> simp <;> omega) (by omega))
      have k5 := keep2 X5.out.h0
      have f5 := blk_free (i := 1) X5.out.h0
      have R := Aside.mk hrun
      have X6 := Aside.mk (X5.out.set2b (by omega) (by intro p hp; simp at hp; rcases hp with rfl | rfl <;> simp <;> omega) (.slice B1 m1 e1'))
      have O6 := Aside.mk ((o5.upd ((Upd.refl (Just w3.heap.size) w5).setCell ⟨w3.heap.size, 1, none⟩ (.slice B1 m1 e1') (fun _ => rfl)) (fun j hj => by rw [show j = _ from hj]; omega)).rd2 (by omega) (HP.out.num))
      have k6 := keep2 X6.out.h0
      generalize hw6 : w5.setCell ⟨w3.heap.size, 1, none⟩ (.slice B1 m1 e1') = w6 at *
      have T4 := Aside.mk (putFwdN_ w6 x hx O6.out)
      clear hrun o5 g5
      go_wp2_with (at_builtin; refine wpList_append_run 39 _ _ _ _ rfl rfl rfl rfl R.out ?_)
      refine T4.out.mono ?_
      rintro e w7 ⟨Ap, cp, rfl, P7⟩
      have X8 := Aside.mk ((X6.out.below P7.out.2).alloc (.cells #[.int .u8 192, .int .u8 0, .slice Ap (4 + m1 * 4) cp] 24))
      have RI := Aside.mk ((O6.out.below P7.out.2).below (below_alloc w7 (.cells #[.int .u8 192, .int .u8 0, .slice Ap (4 + m1 * 4) cp] 24)))
      have RP := Aside.mk ((P7.out.1.rd (by omega)).below (below_alloc w7 (.cells #[.int .u8 192, .int .u8 0, .slice Ap (4 + m1 * 4) cp] 24)))
      have z7 : w3.heap.size < w7.heap.size := lt_of_block (X6.out.below P7.out.2).h0
      have zc := X8.out.tail.tail.h0
      generalize w3.heap.size = gi at *
      generalize hgp : w7.heap.size = gp at *
      unfold chunkV
      clear T4 R P7 O6 X6 X5 X4 X3 k3 k4 k5 f5 k6 KK
      go_upto_region 6 with (fail)
      generalize w7.alloc (.cells #[.int .u8 192, .int .u8 0, .slice Ap (4 + m1 * 4) cp] 24) = w8 at *
      go_cut [7] (fun s7 wx => ∃ g gr : Nat, s7 = .pointer (some ⟨g, 0, none⟩) ∧ Aside (Hold w [(g, .cells #[.int .u8 k, .int .u8 f, .slice (some ⟨gr, 0, none⟩) n (n + 16)] 24), (gr, .cells (rowOf_ (marked xs)) 5), (gp, .cells #[.int .u8 192, .int .u8 0, .slice Ap (4 + m1 * 4) cp] 24), (gi, .cells #[.int .u32 x, .slice B1 m1 e1'] 41), (w.heap.size + 1, .cells #[.int .u8 k, .int .u8 f, .slice A n c] 24), (w.heap.size, .cells #[.int .u32 x, .slice A1 m1 d1] 41)] wx ∧ Rd2 wx B1 m1 e1' ps ∧ Rd .u8 wx Ap (4 + m1 * 4) cp (fwdL x ps)))
      case first =>
        as_aux_lemma =>
          have TR := Aside.mk (fun (V : World) (b : Below w.heap.size w V) => roomy_ V (HR.out.below b) (by omega))
          have KC : Aside (∀ V : World, V.heap[w.heap.size + 1]? = some (.cells #[.int .u8 k, .int .u8 f, .slice A n c] 24) → V.cell? ⟨w.heap.size + 1, 0, none⟩ = some (.int .u8 k) ∧ V.cell? ⟨w.heap.size + 1, 1, none⟩ = some (.int .u8 f) ∧ V.cell? ⟨w.heap.size + 1, 2, none⟩ = some (.slice A n c)) := ⟨fun V h => keep3 h⟩
          have XA := Aside.mk (X8.out.alloc (.cells #[.int .u8 0, .int .u8 0, .slice none 0 0] 24))
          have RF := Aside.mk (fun (V : World) (b : Below w8.heap.size w8 V) => And.intro (RI.out.below b) (RP.out.below b))
          have kh0 := X8.out.drew.tail.tail.h0
          have kh1 := XA.out.drew.tail.tail.tail.h0
          have zl : w.heap.size + 1 < w8.heap.size := lt_of_block zc
          have zg : gi < w8.heap.size := lt_of_block X8.out.tail.h0
          have zp : gp < w8.heap.size := lt_of_block X8.out.h0
          have BX : Aside (Below w8.heap.size w8 w8.drew) := ⟨below_drewN (Below.refl _ _) 1⟩
          have BY : Aside (Below w8.heap.size w8 (w8.alloc (.cells #[.int .u8 0, .int .u8 0, .slice none 0 0] 24)).drew) := ⟨below_drewN (below_alloc _ _) 1⟩
          clear zc
          go_region_held3 (fun w' => w'.cell? ⟨w.heap.size + 1, 0, none⟩ = some (.int .u8 k) ∧ w'.cell? ⟨w.heap.size + 1, 1, none⟩ = some (.int .u8 f) ∧ w'.cell? ⟨w.heap.size + 1, 2, none⟩ = some (.slice A n c))
            (first | (with_reducible exact KC.out _ (set3_hold kh5 (by omega) _ _ _)) | (with_reducible exact KC.out _ (alloc_keep kh5)) | (with_reducible exact KC.out _ kh5) | (with_reducible exact KC.out _ kh0) | (with_reducible exact KC.out _ kh1) | exact KC.out _ kh0 | exact KC.out _ kh1 | go_keep)
            (first
              | (go_at_call 23; refine (TR.out _ (by first | with_reducible exact X8.out.drew.low | with_reducible exact XA.out.drew.low)).mono ?_; rintro e w9 ⟨rfl, P9⟩; (first | (have Y5 := Aside.mk ((X8.out.drew.below P9.out.2).add P9.out.1); have kh5 := Y5.out.tail.tail.tail.h0; have b5 := BX.out.trans (P9.out.2.mono (by simp))) | (have Y5 := Aside.mk ((XA.out.drew.below P9.out.2)); have Y6 := Aside.mk (Y5.out.tail.add P9.out.1); have kh5 := Y5.out.tail.tail.tail.h0; have kv := keep3 Y5.out.h0; have kf := free7 Y5.out.h0; have b5 := BY.out.trans (P9.out.2.mono (by simp))))))
          all_goals (
            have b5' := Aside.mk b5
            clear b5
            go_wp2_with fail
            go_meet
            have hw2 := X8.out.low.size
            first
              | (with_reducible exact ⟨_, _, rfl, ⟨Y5.out.alloc _, RF.out _ (b5'.out.trans (below_alloc _ _))⟩⟩)
              | exact ⟨_, _, rfl, ⟨Y5.out.alloc _, RF.out _ (b5'.out.alloc (by have := b5'.out.size; omega) _)⟩⟩
              | (have Y7 : Hold w [(w8.heap.size + 1, .cells (rowOf_ (marked xs)) 5), (gp, .cells #[.int .u8 192, .int .u8 0, .slice Ap (4 + m1 * 4) cp] 24), (gi, .cells #[.int .u32 x, .slice B1 m1 e1'] 41), (w.heap.size + 1, .cells #[.int .u8 k, .int .u8 f, .slice A n c] 24), (w.heap.size, .cells #[.int .u32 x, .slice A1 m1 d1] 41)] w9 := (by
                   have hz : (w8.alloc (.cells #[.int .u8 0, .int .u8 0, .slice none 0 0] 24)).drew.heap.size = w8.heap.size + 1 := by simp
                   rw [← hz]
                   exact Y6.out)
                 exact ⟨_, _, rfl, ⟨Hold.set3 (Y7.add Y5.out.h0) (by omega) (by intro p hp; simp at hp; rcases hp with rfl | rfl | rfl | rfl | rfl <;> simp <;> omega) _ _ _, RF.out _ (fin_below b5'.out (Nat.le_refl _) _ _ _)⟩⟩))
      case rest =>
        obtain ⟨g, gr, rfl, X9⟩ := hcut
        clear X8 RI RP zc
        have RM := Aside.mk (fun (V : World) (h : V.heap[gr]? = some (.cells (rowOf_ (marked xs)) 5)) => rd_marked h HR.out.len (by omega))
        have G1 := Aside.mk (fun (V : World) (h : V.heap[gr]? = some (.cells (rowOf_ (marked xs)) 5)) => getFwdG_ V (k := k) (f := f) (RM.out V h) Y.out (by omega))
        have G2 := Aside.mk (fun (V : World) (b : Below w.heap.size w V) => refGetFwdG_ V (k := k) (f := f) (HR.out.below b) Y.out (by omega))
        obtain ⟨e1, he1⟩ : ∃ e1, errV (fwdE k f xs) = .int .i64 e1 := ⟨_, rfl⟩
        rw [he1] at G1 G2
        generalize (fwdGot k f xs).1 = y1 at *
        generalize (fwdGot k f xs).2 = L at *
        clear he1
        have kq := keep3 X9.out.1.h0
        have kc := keep3 X9.out.1.tail.tail.tail.tail.h0
        go_wp2_with fail
        refine (G1.out _ X9.out.1.tail.h0).mono ?_
        rintro e wx ⟨Bx, mx, dx, rfl, Px⟩
        have XX := Aside.mk ((X9.out.1.below Px.out.2).alloc (.cells #[.int .u32 y1, .slice Bx mx dx] 41))
        have RX := Aside.mk (And.intro (X9.out.2.1.below Px.out.2) (And.intro (X9.out.2.2.below Px.out.2) Px.out.1))
        have kc2 := keep3 XX.out.tail.tail.tail.tail.tail.h0
        generalize hgx : wx.heap.size = gx at *
        clear G1 X9 Px kq kc
        unfold fwdV
        go_wp2_with fail
        refine (G2.out _ XX.out.low).mono ?_
        rintro e wy ⟨By, my, dy, rfl, Py⟩
        have XY := Aside.mk ((XX.out.below Py.out.2).alloc (.cells #[.int .u32 y1, .slice By my dy] 41))
        have by' := (below_alloc wx (.cells #[.int .u32 y1, .slice Bx mx dx] 41)).trans (Py.out.2.mono (by simp))
        have by2 := by'.trans ((below_alloc wy (.cells #[.int .u32 y1, .slice By my dy] 41)).mono by'.size)
        have RY := Aside.mk (And.intro (RX.out.1.below by2) (And.intro (RX.out.2.1.below by2) (And.intro (RX.out.2.2.below by2) (Py.out.1.below (below_alloc wy (.cells #[.int .u32 y1, .slice By my dy] 41))))))
        clear by' by2
        generalize hgy : wy.heap.size = gy at *
        clear G2 XX RX Py kc2 hgx
        unfold fwdV
        go_upto_region 9 with (fail)
        generalize hwz : wy.alloc (.cells #[.int .u32 y1, .slice By my dy] 41) = wz at *
        clear hwz hgy
        have hbE := bytq_fwd x ps
        have F1 := Aside.mk (fun (V : World) (b : Below wz.heap.size wz V) => And.intro (RY.out.1.below b) (And.intro (RY.out.2.1.below b) (And.intro (RY.out.2.2.1.below b) (RY.out.2.2.2.below b))))
        clear RY
        have HBE := Aside.mk hbE
        clear hbE
        have KK : Aside (∀ V : World, Hold w [(gy, .cells #[.int .u32 y1, .slice By my dy] 41), (gx, .cells #[.int .u32 y1, .slice Bx mx dx] 41), (g, .cells #[.int .u8 k, .int .u8 f, .slice (some ⟨gr, 0, none⟩) n (n + 16)] 24), (gr, .cells (rowOf_ (marked xs)) 5), (gp, .cells #[.int .u8 192, .int .u8 0, .slice Ap (4 + m1 * 4) cp] 24), (gi, .cells #[.int .u32 x, .slice B1 m1 e1'] 41), (w.heap.size + 1, .cells #[.int .u8 k, .int .u8 f, .slice A n c] 24), (w.heap.size, .cells #[.int .u32 x, .slice A1 m1 d1] 41)] V →
            V.cell? ⟨gy, 0, none⟩ = some (.int .u32 y1) ∧ V.cell? ⟨gy, 1, none⟩ = some (.slice By my dy) ∧ V.cell? ⟨gx, 0, none⟩ = some (.int .u32 y1) ∧ V.cell? ⟨gx, 1, none⟩ = some (.slice Bx mx dx) ∧ V.cell? ⟨g, 2, none⟩ = some (.slice (some ⟨gr, 0, none⟩) n (n + 16)) ∧ V.cell? ⟨gp, 0, none⟩ = some (.int .u8 192) ∧ V.cell? ⟨gp, 1, none⟩ = some (.int .u8 0) ∧ V.cell? ⟨gp, 2, none⟩ = some (.slice Ap (4 + m1 * 4) cp) ∧ V.cell? ⟨gi, 0, none⟩ = some (.int .u32 x) ∧ V.cell? ⟨gi, 1, none⟩ = some (.slice B1 m1 e1') ∧ V.cell? ⟨w.heap.size + 1, 2, none⟩ = some (.slice A n c) ∧ V.cell? ⟨w.heap.size, 0, none⟩ = some (.int .u32 x) ∧ V.cell? ⟨w.heap.size, 1, none⟩ = some (.slice A1 m1 d1)) := ⟨fun V h => ⟨(keep2 h.h0).1, (keep2 h.h0).2, (keep2 h.tail.h0).1, (keep2 h.tail.h0).2, (keep3 h.tail.tail.h0).2.2, (keep3 h.tail.tail.tail.tail.h0).1, (keep3 h.tail.tail.tail.tail.h0).2.1, (keep3 h.tail.tail.tail.tail.h0).2.2, (keep2 h.tail.tail.tail.tail.tail.h0).1, (keep2 h.tail.tail.tail.tail.tail.h0).2, (keep3 h.tail.tail.tail.tail.tail.tail.h0).2.2, (keep2 h.tail.tail.tail.tail.tail.tail.tail.h0).1, (keep2 h.tail.tail.tail.tail.tail.tail.tail.h0).2⟩⟩
        have Z0 := XY.out.drew
        have D0 : Below wz.heap.size wz wz.drew := below_drewN (Below.refl _ _) 1
        go_region_held3 (fun w' => w'.cell? ⟨gy, 0, none⟩ = some (.int .u32 y1) ∧ w'.cell? ⟨gy, 1, none⟩ = some (.slice By my dy) ∧ w'.cell? ⟨gx, 0, none⟩ = some (.int .u32 y1) ∧ w'.cell? ⟨gx, 1, none⟩ = some (.slice Bx mx dx) ∧ w'.cell? ⟨g, 2, none⟩ = some (.slice (some ⟨gr, 0, none⟩) n (n + 16)) ∧ w'.cell? ⟨gp, 0, none⟩ = some (.int .u8 192) ∧ w'.cell? ⟨gp, 1, none⟩ = some (.int .u8 0) ∧ w'.cell? ⟨gp, 2, none⟩ = some (.slice Ap (4 + m1 * 4) cp) ∧ w'.cell? ⟨gi, 0, none⟩ = some (.int .u32 x) ∧ w'.cell? ⟨gi, 1, none⟩ = some (.slice B1 m1 e1') ∧ w'.cell? ⟨w.heap.size + 1, 2, none⟩ = some (.slice A n c) ∧ w'.cell? ⟨w.heap.size, 0, none⟩ = some (.int .u32 x) ∧ w'.cell? ⟨w.heap.size, 1, none⟩ = some (.slice A1 m1 d1))
          (first | (with_reducible exact KK.out _ Z6) | (with_reducible exact KK.out _ Z5) | (with_reducible exact KK.out _ Z4) | (with_reducible exact KK.out _ Z3) | (with_reducible exact KK.out _ Z2) | (with_reducible exact KK.out _ Z1) | exact KK.out _ Z0 | go_keep)
          (first
            | (go_at_call 13; refine (works_ _).mono ?_; rintro e u6 ⟨rfl, d6⟩; have Z6 := Z5.below d6; clear d6)
            | (have _z := Z4; clear _z; go_at_call 37; refine (sameFwd_ _ y1 y1 (F1.out _ D4).2.2.1 (F1.out _ D4).2.2.2 (E := true) (by simp)).mono ?_; rintro e u5 ⟨rfl, d5⟩; have Z5 := Z4.below d5; clear d5)
            | (go_at_call 27; refine (kept_ _ Z3.tail.tail.tail.h0 (HR.out.below Z3.low) Y.out (by omega)).mono ?_; rintro e u4 ⟨rfl, q4, rfl⟩; have Z4 := Z3.drewN q4; have D4 := below_drewN D3 q4)
            | (have _z := Z2; clear _z; go_at_call 37; refine (sameFwd_ _ x x (F1.out _ D2).1 (HP.out.below Z2.low) (E := true) (by simp)).mono ?_; rintro e u3 ⟨rfl, d3⟩; have Z3 := Z2.below d3; have D3 := D2.trans (d3.mono D2.size); clear d3)
            | (have _z := Q1; clear _z; go_at_call 25; refine (same_ _ 192 0 192 0 ((F1.out _ D1).2.1) (Q1.out.1.rd (by omega)) HBE.out HBE.out (E := true) (by simp)).mono ?_; rintro e u2 ⟨rfl, d2⟩; have Z2 := Z1.below d2; have D2 := D1.trans (d2.mono D1.size); clear d2)
            | (go_at_call 36; refine (refPutFwd_ _ x hx (HP.out.below Z0.low)).mono ?_; rintro e u1 ⟨AA, cc, rfl, Q1⟩; have Z1 := Z0.below Q1.out.2; have D1 := D0.trans (Q1.out.2.mono D0.size)))
        all_goals (
          have BB := Aside.mk Z6.low
          go_wp2_with fail
          go_ret
          exact ⟨rfl, BB.out⟩)
    · have T3 := Aside.mk (works_ w3)
      go_wp2_with fail
      refine T3.out.mono ?_
      rintro e w4 ⟨rfl, b4⟩
      have BB := Aside.mk (X3.out.below b4).low
      clear b4 T3
      go_wp2_with fail
      go_ret
      exact ⟨rfl, BB.out⟩
  · have T1 := Aside.mk (fun V => large_ V k f A n c hl)
    go_wp2_with fail
    refine (T1.out _).mono ?_
    rintro e w2 ⟨rfl, b2⟩
    have X2 := Aside.mk (X0.out.below b2)
    have T2 := Aside.mk (works_ w2)
    clear b2 T1 X0 kb0 kw0 kz0
    go_wp2_with fail
    refine T2.out.mono ?_
    rintro e w3 ⟨rfl, b3⟩
    have BB := Aside.mk (X2.out.below b3).low
    clear b3 T2
    go_wp2_with fail
    go_ret
    exact ⟨rfl, BB.out⟩
end Go.Proofs.Ytedbmpfjikaljaa
