/-
  Proved: 'BodiesInit' as a walk: whatever the arguments read as, the function answers true. No condition.
-/
import Derived.Test.YtedbmpfjikaljaaRefInitb
import Derived.Test.YtedbmpfjikaljaaApartc
namespace Go.Proofs.Ytedbmpfjikaljaa
open Go.RowKit
set_option linter.unusedVariables false
set_option linter.unusedSimpArgs false
set_option linter.unusedSectionVars false
set_option maxRecDepth 100000

theorem getInitG_ (w : World) {k f : Int} {A : Option Addr} {n c : Nat} {xs : List Int} (h : Rd .u8 w A n c xs) (hy : Byt xs) (hn : n ≤ 100000) :
    Calls Try.prog 44 #[chunkV k f A n c] w fun e w' => ∃ B m d, e = .returned (.tuple #[initG k f xs B m d, errV (initE k f xs)]) ∧ Own w' w.heap.size B m d (initR k f xs) ∧ Below w.heap.size w w' := by
  refine (getInit_ w h hy hn).mono ?_
  rintro e w' ⟨B, m, d, rfl, o, b⟩
  unfold initG
  cases hE : initE k f xs
  · obtain ⟨e1, e2⟩ := init_no hE
    rw [e1, e1, e1, e1, e1, e2]
    exact ⟨none, 0, 0, rfl, own_nil _ _, b⟩
  · obtain ⟨e1, e2⟩ := init_yes hE
    rw [e1, e1, e1, e1, e1, e2]
    exact ⟨B, m, d, rfl, o, b⟩
theorem ckL_in (xs : List Int) : (ckL xs).length ≤ xs.length ∧ ∀ y ∈ ckL xs, y ∈ xs := by
  unfold ckL
  split
  · exact ⟨by rw [List.length_take, List.length_drop]; omega, fun y h => List.mem_of_mem_drop (List.mem_of_mem_take h)⟩
  · exact ⟨by simp, fun y h => by simp at h⟩
theorem initR_len {k f : Int} {xs : List Int} : (initR k f xs).length ≤ xs.length := by
  unfold initR initCk
  split
  · split
    · exact (ckL_in xs).1
    · simp
  · simp
theorem initR_byt {k f : Int} {xs : List Int} (hy : Byt xs) : Byt (initR k f xs) := by
  unfold initR initCk
  split
  · split
    · exact fun y h => hy y ((ckL_in xs).2 y h)
    · exact fun y h => by simp at h
  · exact fun y h => by simp at h
theorem Hold.sub {w V : World} {K K' : List (Nat × Obj)} (h : Hold w K V) (hs : ∀ p ∈ K', p ∈ K) : Hold w K' V := ⟨fun p hp => h.keep p (hs p hp), h.low⟩

set_option maxHeartbeats 8000000 in
theorem lawInit_ (w : World) (kd : Int) (hkd : 0 ≤ kd ∧ kd < 256) (a1 a2 a3 a4 a5 : Int) (h1 : 0 ≤ a1 ∧ a1 < 4294967296) (h2_ : 0 ≤ a2 ∧ a2 < 4294967296) (h3 : 0 ≤ a3 ∧ a3 < 65536) (h4 : 0 ≤ a4 ∧ a4 < 65536) (h5 : 0 ≤ a5 ∧ a5 < 4294967296) {A1 : Option Addr} {m1 d1 : Nat} {ds : List Int} (hr2 : Rdx .u8 w A1 m1 d1 ds) (hy2 : Byt ds) {k f : Int} {A : Option Addr} {n c : Nat} {xs : List Int} (hk : 0 ≤ k ∧ k < 256) (hf : 0 ≤ f ∧ f < 256) (h : Rdx .u8 w A n c xs) (hy : Byt xs) :
    Calls Try.prog 10 #[.int .u8 kd, .agg #[.int .u32 a1, .int .u32 a2, .int .u16 a3, .int .u16 a4, .int .u32 a5, .slice A1 m1 d1], chunkV k f A n c] w fun e w' => e = .returned (.bool true) ∧ Below w.heap.size w w' := by
  have H := Aside.mk h
  have H2 := Aside.mk hr2
  have Y := Aside.mk hy
  have Y2 := Aside.mk hy2
  have hcap := h.cap
  have hmx := h.mx
  have hcap2 := hr2.cap
  have hmx2 := hr2.mx
  clear h hy hr2 hy2
  have X0 := Aside.mk (hold_two w (.cells #[.int .u32 a1, .int .u32 a2, .int .u16 a3, .int .u16 a4, .int .u32 a5, .slice A1 m1 d1] 34) (.cells #[.int .u8 k, .int .u8 f, .slice A n c] 24))
  have kb0 := keep3 X0.out.h0
  have kw0 := keep6 X0.out.tail.h0
  have kz0 : w.heap.size + 1 < ((w.alloc (.cells #[.int .u32 a1, .int .u32 a2, .int .u16 a3, .int .u16 a4, .int .u32 a5, .slice A1 m1 d1] 34)).alloc (.cells #[.int .u8 k, .int .u8 f, .slice A n c] 24)).heap.size := lt_of_block X0.out.h0
  obtain ⟨NP, hNP'⟩ : ∃ NP, (if kd = 2 then 20 + (m1 + 3) / 4 * 4 else 16) = NP := ⟨_, rfl⟩
  have hNP := Aside.mk hNP'
  clear hNP'
  unfold chunkV
  go_enter Try.func10, Try.ntmps10
  cases hl : decide (8192 < n)
  · have hl' : n ≤ 8192 := by have := of_decide_eq_false hl; omega
    have T1 := Aside.mk (fun V => large_ V k f A n c hl)
    have KK : Aside (∀ V : World, Hold w [(w.heap.size + 1, .cells #[.int .u8 k, .int .u8 f, .slice A n c] 24), (w.heap.size, .cells #[.int .u32 a1, .int .u32 a2, .int .u16 a3, .int .u16 a4, .int .u32 a5, .slice A1 m1 d1] 34)] V → V.cell? ⟨w.heap.size, 0, none⟩ = some (.int .u32 a1) ∧ V.cell? ⟨w.heap.size, 1, none⟩ = some (.int .u32 a2) ∧ V.cell? ⟨w.heap.size, 2, none⟩ = some (.int .u16 a3) ∧ V.cell? ⟨w.heap.size, 3, none⟩ = some (.int .u16 a4) ∧ V.cell? ⟨w.heap.size, 4, none⟩ = some (.int .u32 a5) ∧ V.cell? ⟨w.heap.size, 5, none⟩ = some (.slice A1 m1 d1) ∧ V.cell? ⟨w.heap.size + 1, 0, none⟩ = some (.int .u8 k) ∧ V.cell? ⟨w.heap.size + 1, 1, none⟩ = some (.int .u8 f) ∧ V.cell? ⟨w.heap.size + 1, 2, none⟩ = some (.slice A n c)) := ⟨fun V h => ⟨(keep6 h.tail.h0).1, (keep6 h.tail.h0).2.1, (keep6 h.tail.h0).2.2.1, (keep6 h.tail.h0).2.2.2.1, (keep6 h.tail.h0).2.2.2.2.1, (keep6 h.tail.h0).2.2.2.2.2, keep3 h.h0⟩⟩
    cases hl2 : decide ((8192 : Int) < (m1 : Int))
    · have hl2' : m1 ≤ 8192 := by have := of_decide_eq_false hl2; omega
      go_wp2_with fail
      refine (T1.out _).mono ?_
      rintro e w2 ⟨rfl, b2⟩
      have X2 := Aside.mk (X0.out.below b2)
      have k2 := KK.out _ X2.out
      have z2 : w.heap.size + 1 < w2.heap.size := lt_of_block X2.out.h0
      clear b2 T1 X0 kb0 kw0 kz0
      have HR := Aside.mk (H.out.rd (by omega))
      have HP := Aside.mk (H2.out.rd (by omega))
      clear H H2
      have X4 := Aside.mk (X2.out.alloc (.cells #[.int .u32 a1, .int .u32 a2, .int .u16 a3, .int .u16 a4, .int .u32 a5, .slice A1 m1 d1] 34))
      have k4 := KK.out _ X4.out.tail
      have k4' := keep6 X4.out.h0
      have T3 := Aside.mk (roomy_ (w2.alloc (.cells #[.int .u32 a1, .int .u32 a2, .int .u16 a3, .int .u16 a4, .int .u32 a5, .slice A1 m1 d1] 34)) (HP.out.below X4.out.low) (by omega))
      go_wp2_with fail
      refine T3.out.mono ?_
      rintro e w5 ⟨rfl, P5⟩
      have X5 := Aside.mk (X4.out.below P5.out.2)
      generalize hgb : (w2.alloc (.cells #[.int .u32 a1, .int .u32 a2, .int .u16 a3, .int .u16 a4, .int .u32 a5, .slice A1 m1 d1] 34)).heap.size = gb at *
      have hgb2 : w2.heap.size < gb := by rw [← hgb]; simp
      have hgbe : w2.heap.size + 1 = gb := by rw [← hgb]; simp
      have P5' := P5.out.1
      have f5 := blk_free (i := 5) X5.out.h0
      have k5 := keep6 X5.out.h0
      have XB : Aside ((w5.setCell ⟨w2.heap.size, 5, none⟩ (.slice (some ⟨gb, 0, none⟩) m1 (m1 + 16))).heap[gb]? = some (.cells (rowOf_ (marked ds)) 5)) := ⟨by rw [Below.heap_setCell _ _ _ _ (show gb ≠ w2.heap.size by omega)]; exact P5'⟩
      generalize hgi : w2.heap.size = gi at *
      have X6 : Aside (Hold w [(gb, .cells (rowOf_ (marked ds)) 5), (gi, .cells #[.int .u32 a1, .int .u32 a2, .int .u16 a3, .int .u16 a4, .int .u32 a5, .slice (some ⟨gb, 0, none⟩) m1 (m1 + 16)] 34), (w.heap.size + 1, .cells #[.int .u8 k, .int .u8 f, .slice A n c] 24), (w.heap.size, .cells #[.int .u32 a1, .int .u32 a2, .int .u16 a3, .int .u16 a4, .int .u32 a5, .slice A1 m1 d1] 34)] (w5.setCell ⟨gi, 5, none⟩ (.slice (some ⟨gb, 0, none⟩) m1 (m1 + 16)))) := ⟨by
        have := X5.out.setI (by omega) (by intro p hp; simp at hp; rcases hp with rfl | rfl <;> simp <;> omega) 5 (.slice (some ⟨gb, 0, none⟩) m1 (m1 + 16))
        exact Hold.add (by simpa using this) XB.out⟩
      have k6 := keep6 X6.out.tail.h0
      clear T3 P5 P5' X5 XB X4 k4 k4' k2 X2
      generalize hw6 : w5.setCell ⟨gi, 5, none⟩ (.slice (some ⟨gb, 0, none⟩) m1 (m1 + 16)) = w6 at *
      have T4 := Aside.mk ((fun (V : World) (r : Rd .u8 V (some ⟨gb, 0, none⟩) m1 (m1 + 16) ds) => putInitN_ V kd a1 a2 a3 a4 a5 h1 h2_ h3 h4 h5 r (by omega) NP hNP.out) w6 (rd_marked X6.out.h0 HP.out.len (by omega)))
      clear hgi hgb
      go_wp2_with fail
      refine T4.out.mono ?_
      rintro e w7 ⟨Ap, cp, rfl, P7⟩
      obtain ⟨yp, fp, bp⟩ := P7.out.1.full
      have XP := Aside.mk ((X6.out.below P7.out.2).alloc (.cells #[.int .u8 kd, .int .u8 0, .slice Ap NP cp] 24))
      have z6 : gb < w6.heap.size := lt_of_block X6.out.h0
      have s7 := P7.out.2.size
      have BP : Aside (∀ g, RB Ap g → gb < g ∧ g < w7.heap.size) := ⟨fun g hg => ⟨by have := bp g hg; omega, fp.lt hg⟩⟩
      have RI := Aside.mk (And.intro (fp.below (below_alloc w7 (.cells #[.int .u8 kd, .int .u8 0, .slice Ap NP cp] 24))) ((P7.out.1.rd (by have := P7.out.1.len; have := hNP.out; split at this <;> omega)).below (below_alloc w7 (.cells #[.int .u8 kd, .int .u8 0, .slice Ap NP cp] 24))))
      have zgp : gb < w7.heap.size := by omega
      have zc := XP.out.tail.tail.tail.h0
      generalize hgp : w7.heap.size = gp at *
      unfold chunkV
      clear T4 P7 X6 k6 f5 k5 bp fp z6 s7 KK
      go_upto_region 6 with (fail)
      generalize w7.alloc (.cells #[.int .u8 kd, .int .u8 0, .slice Ap NP cp] 24) = wp at *
      go_cut [9] (fun s7 wx => ∃ g gr : Nat, s7 = .pointer (some ⟨g, 0, none⟩) ∧ gp < gr ∧ gp < g ∧ g ≠ gr ∧ Aside (Hold w [(g, .cells #[.int .u8 k, .int .u8 f, .slice (some ⟨gr, 0, none⟩) n (n + 16)] 24), (gr, .cells (rowOf_ (marked xs)) 5), (gp, .cells #[.int .u8 kd, .int .u8 0, .slice Ap NP cp] 24), (gb, .cells (rowOf_ (marked ds)) 5), (gi, .cells #[.int .u32 a1, .int .u32 a2, .int .u16 a3, .int .u16 a4, .int .u32 a5, .slice (some ⟨gb, 0, none⟩) m1 (m1 + 16)] 34), (w.heap.size + 1, .cells #[.int .u8 k, .int .u8 f, .slice A n c] 24), (w.heap.size, .cells #[.int .u32 a1, .int .u32 a2, .int .u16 a3, .int .u16 a4, .int .u32 a5, .slice A1 m1 d1] 34)] wx ∧ Full wx Ap (NP) cp yp ∧ Rd .u8 wx Ap (NP) cp (initL kd a1 a2 a3 a4 a5 ds)))
      case first =>
        as_aux_lemma =>
          have TR := Aside.mk (fun (V : World) (b : Below w.heap.size w V) => roomy_ V (HR.out.below b) (by omega))
          have KC : Aside (∀ V : World, V.heap[w.heap.size + 1]? = some (.cells #[.int .u8 k, .int .u8 f, .slice A n c] 24) → V.cell? ⟨w.heap.size + 1, 0, none⟩ = some (.int .u8 k) ∧ V.cell? ⟨w.heap.size + 1, 1, none⟩ = some (.int .u8 f) ∧ V.cell? ⟨w.heap.size + 1, 2, none⟩ = some (.slice A n c)) := ⟨fun V h => keep3 h⟩
          have XA := Aside.mk (XP.out.alloc (.cells #[.int .u8 0, .int .u8 0, .slice none 0 0] 24))
          have RF := Aside.mk (fun (V : World) (b : Below wp.heap.size wp V) => And.intro (RI.out.1.below b) (RI.out.2.below b))
          have kh0 := XP.out.drew.tail.tail.tail.h0
          have kh1 := XA.out.drew.tail.tail.tail.tail.h0
          have zl : w.heap.size + 1 < wp.heap.size := lt_of_block zc
          have zp : gp < wp.heap.size := lt_of_block XP.out.h0
          have BX : Aside (Below wp.heap.size wp wp.drew) := ⟨below_drewN (Below.refl _ _) 1⟩
          have BY : Aside (Below wp.heap.size wp (wp.alloc (.cells #[.int .u8 0, .int .u8 0, .slice none 0 0] 24)).drew) := ⟨below_drewN (below_alloc _ _) 1⟩
          clear zc
          go_region_held3 (fun w' => w'.cell? ⟨w.heap.size + 1, 0, none⟩ = some (.int .u8 k) ∧ w'.cell? ⟨w.heap.size + 1, 1, none⟩ = some (.int .u8 f) ∧ w'.cell? ⟨w.heap.size + 1, 2, none⟩ = some (.slice A n c))
            (first | (with_reducible exact KC.out _ (set3_hold kh5 (by omega) _ _ _)) | (with_reducible exact KC.out _ (alloc_keep kh5)) | (with_reducible exact KC.out _ kh5) | (with_reducible exact KC.out _ kh0) | (with_reducible exact KC.out _ kh1) | exact KC.out _ kh0 | exact KC.out _ kh1 | go_keep)
            (first
              | (go_at_call 23; refine (TR.out _ (by first | with_reducible exact XP.out.drew.low | with_reducible exact XA.out.drew.low)).mono ?_; rintro e wr ⟨rfl, P9⟩; (first | (have Y5 := Aside.mk ((XP.out.drew.below P9.out.2).add P9.out.1); have kh5 := Y5.out.tail.tail.tail.tail.h0; have zr := lt_of_block P9.out.1; have b5 := BX.out.trans (P9.out.2.mono (by simp))) | (have Y5 := Aside.mk ((XA.out.drew.below P9.out.2)); have Y6 := Aside.mk (Y5.out.tail.add P9.out.1); have kh5 := Y5.out.tail.tail.tail.tail.h0; have kv := keep3 Y5.out.h0; have kf := free7 Y5.out.h0; have b5 := BY.out.trans (P9.out.2.mono (by simp))))))
          all_goals (
            have b5' := Aside.mk b5
            clear b5
            go_wp2_with fail
            go_meet
            have hw2 := XP.out.low.size
            have hw3 := b5'.out.size
            first
              | (with_reducible exact ⟨_, _, rfl, zp, by omega, by omega, ⟨Y5.out.alloc _, RF.out _ (b5'.out.trans (below_alloc _ _))⟩⟩)
              | exact ⟨_, _, rfl, zp, by omega, by (have zr2 : wp.heap.size < wr.heap.size := zr; omega), ⟨Y5.out.alloc _, RF.out _ (b5'.out.alloc (by have := b5'.out.size; omega) _)⟩⟩
              | (have Y7 : Hold w [(wp.heap.size + 1, .cells (rowOf_ (marked xs)) 5), (gp, .cells #[.int .u8 kd, .int .u8 0, .slice Ap NP cp] 24), (gb, .cells (rowOf_ (marked ds)) 5), (gi, .cells #[.int .u32 a1, .int .u32 a2, .int .u16 a3, .int .u16 a4, .int .u32 a5, .slice (some ⟨gb, 0, none⟩) m1 (m1 + 16)] 34), (w.heap.size + 1, .cells #[.int .u8 k, .int .u8 f, .slice A n c] 24), (w.heap.size, .cells #[.int .u32 a1, .int .u32 a2, .int .u16 a3, .int .u16 a4, .int .u32 a5, .slice A1 m1 d1] 34)] wr := (by
                   have hz : (wp.alloc (.cells #[.int .u8 0, .int .u8 0, .slice none 0 0] 24)).drew.heap.size = wp.heap.size + 1 := by simp
                   rw [← hz]
                   exact Y6.out)
                 exact ⟨_, _, rfl, by omega, by omega, by omega, ⟨Hold.set3 (Y7.add Y5.out.h0) (by omega) (by intro p hp; simp at hp; rcases hp with rfl | rfl | rfl | rfl | rfl | rfl <;> simp <;> omega) _ _ _, RF.out _ (fin_below b5'.out (Nat.le_refl _) _ _ _)⟩⟩))
      case rest =>
        obtain ⟨g, gr, rfl, hgr, hgq, hgqr, X9⟩ := hcut
        clear XP RI zc
        have RM := Aside.mk (fun (V : World) (h : V.heap[gr]? = some (.cells (rowOf_ (marked xs)) 5)) => rd_marked h HR.out.len (by omega))
        have hRn : (initR k f xs).length ≤ 8192 := by have := initR_len (k := k) (f := f) (xs := xs); have := HR.out.len; omega
        have BR := Aside.mk (initR_byt (k := k) (f := f) Y.out)
        obtain ⟨y1, y2, y3, y4, y5, hG⟩ : ∃ y1 y2 y3 y4 y5, ∀ B m d, initG k f xs B m d = initV y1 y2 y3 y4 y5 B m d := ⟨_, _, _, _, _, fun _ _ _ => rfl⟩
        have G1 := Aside.mk (fun (V : World) (h : V.heap[gr]? = some (.cells (rowOf_ (marked xs)) 5)) => getInitG_ V (k := k) (f := f) (RM.out V h) Y.out (by omega))
        have G2 := Aside.mk (fun (V : World) (b : Below w.heap.size w V) => refGetInit_ V (k := k) (f := f) (HR.out.below b) Y.out (by omega))
        simp only [hG] at G1 G2
        clear hG
        obtain ⟨e1, he1⟩ : ∃ e1, errV (initE k f xs) = .int .i64 e1 := ⟨_, rfl⟩
        rw [he1] at G1 G2
        generalize initR k f xs = L at *
        clear he1
        have kq := keep3 X9.out.1.h0
        have kc := keep3 X9.out.1.tail.tail.tail.tail.tail.h0
        have zr1 : gr < wc.heap.size := lt_of_block X9.out.1.tail.h0
        have zq1 : g < wc.heap.size := lt_of_block X9.out.1.h0
        go_wp2_with fail
        refine (G1.out _ X9.out.1.tail.h0).mono ?_
        rintro e wx ⟨Bx, mx, dx, rfl, ox, bx⟩
        obtain ⟨yx, fx, hx⟩ := ox.full
        have BX : Aside (∀ i, RB Bx i → wc.heap.size ≤ i ∧ i < wx.heap.size) := ⟨fun i hi => ⟨hx i hi, fx.lt hi⟩⟩
        have lx := ox.len
        have sx := bx.size
        have XX := Aside.mk ((X9.out.1.below bx).alloc (.cells #[.int .u32 y1, .int .u32 y2, .int .u16 y3, .int .u16 y4, .int .u32 y5, .slice Bx mx dx] 34))
        have RX := Aside.mk (And.intro (X9.out.2.1.below bx) (And.intro (X9.out.2.2.below bx) (And.intro fx (ox.rd (by omega)))))
        have kc2 := keep3 XX.out.tail.tail.tail.tail.tail.tail.h0
        generalize hgx : wx.heap.size = gx at *
        clear G1 X9 ox bx fx hx kq kc
        unfold initV
        go_wp2_with fail
        refine (G2.out _ XX.out.low).mono ?_
        rintro e wy ⟨By, my, dy, rfl, oy, by0⟩
        have ly := oy.len
        have XY := Aside.mk ((XX.out.below by0).alloc (.cells #[.int .u32 y1, .int .u32 y2, .int .u16 y3, .int .u16 y4, .int .u32 y5, .slice By my dy] 34))
        have by' := (below_alloc wx (.cells #[.int .u32 y1, .int .u32 y2, .int .u16 y3, .int .u16 y4, .int .u32 y5, .slice Bx mx dx] 34)).trans (by0.mono (by simp))
        have by2 := by'.trans ((below_alloc wy (.cells #[.int .u32 y1, .int .u32 y2, .int .u16 y3, .int .u16 y4, .int .u32 y5, .slice By my dy] 34)).mono by'.size)
        have RY := Aside.mk (And.intro (RX.out.1.below by2) (And.intro (RX.out.2.1.below by2) (And.intro (RX.out.2.2.1.below by2) (And.intro (RX.out.2.2.2.below by2) ((oy.rd (by omega)).below (below_alloc wy (.cells #[.int .u32 y1, .int .u32 y2, .int .u16 y3, .int .u16 y4, .int .u32 y5, .slice By my dy] 34)))))))
        have zgy : gx < wy.heap.size := by have := by'.size; have := lt_of_block (XX.out.below by0).h0; omega
        clear by' by2 by0 oy
        generalize hgy : wy.heap.size = gy at *
        clear G2 XX RX kc2 hgx
        unfold initV
        go_upto_region 9 with (fail)
        generalize hwz : wy.alloc (.cells #[.int .u32 y1, .int .u32 y2, .int .u16 y3, .int .u16 y4, .int .u32 y5, .slice By my dy] 34) = wz at *
        clear hwz hgy
        have HBE := Aside.mk (show Byt (initL kd a1 a2 a3 a4 a5 ds) from bytq_init kd a1 a2 a3 a4 a5 Y2.out)
        have F1 : Aside (∀ V : World, Below wz.heap.size wz V → (V.heap[gb]? = some (.cells (rowOf_ (marked ds)) 5) ∧ V.heap[gr]? = some (.cells (rowOf_ (marked xs)) 5)) ∧ Full V Ap (NP) cp yp ∧ Rd .u8 V Ap (NP) cp (initL kd a1 a2 a3 a4 a5 ds) ∧ Full V Bx mx dx yx ∧ Rd .u8 V Bx mx dx L ∧ Rd .u8 V By my dy L) := ⟨fun V b => ⟨⟨((XY.out.tail.tail.tail.tail.tail.below b).h0), ((XY.out.tail.tail.tail.below b).h0)⟩, RY.out.1.below b, RY.out.2.1.below b, RY.out.2.2.1.below b, RY.out.2.2.2.1.below b, RY.out.2.2.2.2.below b⟩⟩
        have XB : Aside (Hold w [(gy, .cells #[.int .u32 y1, .int .u32 y2, .int .u16 y3, .int .u16 y4, .int .u32 y5, .slice By my dy] 34), (gx, .cells #[.int .u32 y1, .int .u32 y2, .int .u16 y3, .int .u16 y4, .int .u32 y5, .slice Bx mx dx] 34), (g, .cells #[.int .u8 k, .int .u8 f, .slice (some ⟨gr, 0, none⟩) n (n + 16)] 24), (gp, .cells #[.int .u8 kd, .int .u8 0, .slice Ap NP cp] 24), (gi, .cells #[.int .u32 a1, .int .u32 a2, .int .u16 a3, .int .u16 a4, .int .u32 a5, .slice (some ⟨gb, 0, none⟩) m1 (m1 + 16)] 34), (w.heap.size + 1, .cells #[.int .u8 k, .int .u8 f, .slice A n c] 24), (w.heap.size, .cells #[.int .u32 a1, .int .u32 a2, .int .u16 a3, .int .u16 a4, .int .u32 a5, .slice A1 m1 d1] 34)] wz) := ⟨XY.out.sub (by intro p hp; simp only [List.mem_cons, List.not_mem_nil, or_false] at hp ⊢; rcases hp with h | h | h | h | h | h | h <;> simp [h])⟩
        have KK : Aside (∀ V : World, Hold w [(gy, .cells #[.int .u32 y1, .int .u32 y2, .int .u16 y3, .int .u16 y4, .int .u32 y5, .slice By my dy] 34), (gx, .cells #[.int .u32 y1, .int .u32 y2, .int .u16 y3, .int .u16 y4, .int .u32 y5, .slice Bx mx dx] 34), (g, .cells #[.int .u8 k, .int .u8 f, .slice (some ⟨gr, 0, none⟩) n (n + 16)] 24), (gp, .cells #[.int .u8 kd, .int .u8 0, .slice Ap NP cp] 24), (gi, .cells #[.int .u32 a1, .int .u32 a2, .int .u16 a3, .int .u16 a4, .int .u32 a5, .slice (some ⟨gb, 0, none⟩) m1 (m1 + 16)] 34), (w.heap.size + 1, .cells #[.int .u8 k, .int .u8 f, .slice A n c] 24), (w.heap.size, .cells #[.int .u32 a1, .int .u32 a2, .int .u16 a3, .int .u16 a4, .int .u32 a5, .slice A1 m1 d1] 34)] V →
            V.cell? ⟨gy, 0, none⟩ = some (.int .u32 y1) ∧ V.cell? ⟨gy, 1, none⟩ = some (.int .u32 y2) ∧ V.cell? ⟨gy, 2, none⟩ = some (.int .u16 y3) ∧ V.cell? ⟨gy, 3, none⟩ = some (.int .u16 y4) ∧ V.cell? ⟨gy, 4, none⟩ = some (.int .u32 y5) ∧ V.cell? ⟨gy, 5, none⟩ = some (.slice By my dy) ∧ V.cell? ⟨gx, 0, none⟩ = some (.int .u32 y1) ∧ V.cell? ⟨gx, 1, none⟩ = some (.int .u32 y2) ∧ V.cell? ⟨gx, 2, none⟩ = some (.int .u16 y3) ∧ V.cell? ⟨gx, 3, none⟩ = some (.int .u16 y4) ∧ V.cell? ⟨gx, 4, none⟩ = some (.int .u32 y5) ∧ V.cell? ⟨gx, 5, none⟩ = some (.slice Bx mx dx) ∧ V.cell? ⟨g, 2, none⟩ = some (.slice (some ⟨gr, 0, none⟩) n (n + 16)) ∧ V.cell? ⟨gp, 0, none⟩ = some (.int .u8 kd) ∧ V.cell? ⟨gp, 1, none⟩ = some (.int .u8 0) ∧ V.cell? ⟨gp, 2, none⟩ = some (.slice Ap (NP) cp) ∧ V.cell? ⟨gi, 5, none⟩ = some (.slice (some ⟨gb, 0, none⟩) m1 (m1 + 16)) ∧ V.cell? ⟨w.heap.size + 1, 2, none⟩ = some (.slice A n c) ∧ V.cell? ⟨w.heap.size, 0, none⟩ = some (.int .u32 a1) ∧ V.cell? ⟨w.heap.size, 1, none⟩ = some (.int .u32 a2) ∧ V.cell? ⟨w.heap.size, 2, none⟩ = some (.int .u16 a3) ∧ V.cell? ⟨w.heap.size, 3, none⟩ = some (.int .u16 a4) ∧ V.cell? ⟨w.heap.size, 4, none⟩ = some (.int .u32 a5) ∧ V.cell? ⟨w.heap.size, 5, none⟩ = some (.slice A1 m1 d1)) := ⟨fun V h => ⟨(keep6 h.h0).1, (keep6 h.h0).2.1, (keep6 h.h0).2.2.1, (keep6 h.h0).2.2.2.1, (keep6 h.h0).2.2.2.2.1, (keep6 h.h0).2.2.2.2.2, (keep6 h.tail.h0).1, (keep6 h.tail.h0).2.1, (keep6 h.tail.h0).2.2.1, (keep6 h.tail.h0).2.2.2.1, (keep6 h.tail.h0).2.2.2.2.1, (keep6 h.tail.h0).2.2.2.2.2, (keep3 h.tail.tail.h0).2.2, (keep3 h.tail.tail.tail.h0).1, (keep3 h.tail.tail.tail.h0).2.1, (keep3 h.tail.tail.tail.h0).2.2, (keep6 h.tail.tail.tail.tail.h0).2.2.2.2.2, (keep3 h.tail.tail.tail.tail.tail.h0).2.2, (keep6 h.tail.tail.tail.tail.tail.tail.h0).1, (keep6 h.tail.tail.tail.tail.tail.tail.h0).2.1, (keep6 h.tail.tail.tail.tail.tail.tail.h0).2.2.1, (keep6 h.tail.tail.tail.tail.tail.tail.h0).2.2.2.1, (keep6 h.tail.tail.tail.tail.tail.tail.h0).2.2.2.2.1, (keep6 h.tail.tail.tail.tail.tail.tail.h0).2.2.2.2.2⟩⟩
        have sw := XY.out.low.size
        have AP : Aside (∀ V : World, Below wz.heap.size wz V → Hold w [(gy, .cells #[.int .u32 y1, .int .u32 y2, .int .u16 y3, .int .u16 y4, .int .u32 y5, .slice By my dy] 34), (gx, .cells #[.int .u32 y1, .int .u32 y2, .int .u16 y3, .int .u16 y4, .int .u32 y5, .slice Bx mx dx] 34), (g, .cells #[.int .u8 k, .int .u8 f, .slice (some ⟨gr, 0, none⟩) n (n + 16)] 24), (gp, .cells #[.int .u8 kd, .int .u8 0, .slice Ap NP cp] 24), (gi, .cells #[.int .u32 a1, .int .u32 a2, .int .u16 a3, .int .u16 a4, .int .u32 a5, .slice (some ⟨gb, 0, none⟩) m1 (m1 + 16)] 34), (w.heap.size + 1, .cells #[.int .u8 k, .int .u8 f, .slice A n c] 24), (w.heap.size, .cells #[.int .u32 a1, .int .u32 a2, .int .u16 a3, .int .u16 a4, .int .u32 a5, .slice A1 m1 d1] 34)] V → Calls Try.prog 29 #[.slice (some ⟨V.heap.size, 0, none⟩) 4 4] (V.alloc (.cells #[.slice Ap (NP) cp, .slice (some ⟨gb, 0, none⟩) m1 (m1 + 16), .slice Bx mx dx, .slice (some ⟨gr, 0, none⟩) n (n + 16)] 22)) fun e w' => e = .returned (.bool true) ∧ Hold w [(gy, .cells #[.int .u32 y1, .int .u32 y2, .int .u16 y3, .int .u16 y4, .int .u32 y5, .slice By my dy] 34), (gx, .cells #[.int .u32 y1, .int .u32 y2, .int .u16 y3, .int .u16 y4, .int .u32 y5, .slice Bx mx dx] 34), (g, .cells #[.int .u8 k, .int .u8 f, .slice (some ⟨gr, 0, none⟩) n (n + 16)] 24), (gp, .cells #[.int .u8 kd, .int .u8 0, .slice Ap NP cp] 24), (gi, .cells #[.int .u32 a1, .int .u32 a2, .int .u16 a3, .int .u16 a4, .int .u32 a5, .slice (some ⟨gb, 0, none⟩) m1 (m1 + 16)] 34), (w.heap.size + 1, .cells #[.int .u8 k, .int .u8 f, .slice A n c] 24), (w.heap.size, .cells #[.int .u32 a1, .int .u32 a2, .int .u16 a3, .int .u16 a4, .int .u32 a5, .slice A1 m1 d1] 34)] w') := ⟨fun V b hV => by
          have zz := b.size
          have b' := b.alloc b.size (.cells #[.slice Ap (NP) cp, .slice (some ⟨gb, 0, none⟩) m1 (m1 + 16), .slice Bx mx dx, .slice (some ⟨gr, 0, none⟩) n (n + 16)] 22)
          obtain ⟨⟨r1, r2⟩, q1, q2, q3, q4, q5⟩ := F1.out _ b'
          obtain ⟨⟨r1', r2'⟩, q1', q2', q3', q4', q5'⟩ := F1.out _ b
          have lb := lt_of_block r1'
          have lr := lt_of_block r2'
          refine (apart4_ (V.alloc (.cells #[.slice Ap (NP) cp, .slice (some ⟨gb, 0, none⟩) m1 (m1 + 16), .slice Bx mx dx, .slice (some ⟨gr, 0, none⟩) n (n + 16)] 22)) q1 (full_marked r1 HP.out.len (by omega)) q3 (full_marked r2 HR.out.len (by omega))
            (fun i ha hb => by have := BP.out i ha; have := rb_some hb; omega) (fun i ha hb => by have := BP.out i ha; have := BX.out i hb; omega) (fun i ha hb => by have := BP.out i ha; have := rb_some hb; omega)
            (fun i ha hb => by have := rb_some ha; have := BX.out i hb; omega) (fun i ha hb => by have := rb_some ha; have := rb_some hb; omega) (fun i ha hb => by have := BX.out i ha; have := rb_some hb; omega)
            (heap_alloc_new V _) (fun h => by have := q1'.lt h; omega) (fun h => by have := rb_some h; omega) (fun h => by have := q3'.lt h; omega) (fun h => by have := rb_some h; omega)).mono ?_
          rintro e w' ⟨rfl, hu⟩
          refine ⟨rfl, (hV.alloc _).tail.turn hu ?_ ?_⟩
          · rintro i (h | h | h | h)
            · have := BP.out i h; omega
            · have := rb_some h; omega
            · have := BX.out i h; omega
            · have := rb_some h; omega
          · intro p hp
            simp at hp
            rcases hp with rfl | rfl | rfl | rfl | rfl | rfl | rfl
            all_goals (
              rintro (h | h | h | h)
              · have := BP.out _ h; simp only at this; omega
              · have := rb_some h; simp only at this; omega
              · have := BX.out _ h; simp only at this; omega
              · have := rb_some h; simp only at this; omega)⟩
        clear RY XY
        have Z0 := XB.out.drew
        have D0 : Below wz.heap.size wz wz.drew := below_drewN (Below.refl _ _) 1
        go_region_held3 (fun w' => w'.cell? ⟨gy, 0, none⟩ = some (.int .u32 y1) ∧ w'.cell? ⟨gy, 1, none⟩ = some (.int .u32 y2) ∧ w'.cell? ⟨gy, 2, none⟩ = some (.int .u16 y3) ∧ w'.cell? ⟨gy, 3, none⟩ = some (.int .u16 y4) ∧ w'.cell? ⟨gy, 4, none⟩ = some (.int .u32 y5) ∧ w'.cell? ⟨gy, 5, none⟩ = some (.slice By my dy) ∧ w'.cell? ⟨gx, 0, none⟩ = some (.int .u32 y1) ∧ w'.cell? ⟨gx, 1, none⟩ = some (.int .u32 y2) ∧ w'.cell? ⟨gx, 2, none⟩ = some (.int .u16 y3) ∧ w'.cell? ⟨gx, 3, none⟩ = some (.int .u16 y4) ∧ w'.cell? ⟨gx, 4, none⟩ = some (.int .u32 y5) ∧ w'.cell? ⟨gx, 5, none⟩ = some (.slice Bx mx dx) ∧ w'.cell? ⟨g, 2, none⟩ = some (.slice (some ⟨gr, 0, none⟩) n (n + 16)) ∧ w'.cell? ⟨gp, 0, none⟩ = some (.int .u8 kd) ∧ w'.cell? ⟨gp, 1, none⟩ = some (.int .u8 0) ∧ w'.cell? ⟨gp, 2, none⟩ = some (.slice Ap (NP) cp) ∧ w'.cell? ⟨gi, 5, none⟩ = some (.slice (some ⟨gb, 0, none⟩) m1 (m1 + 16)) ∧ w'.cell? ⟨w.heap.size + 1, 2, none⟩ = some (.slice A n c) ∧ w'.cell? ⟨w.heap.size, 0, none⟩ = some (.int .u32 a1) ∧ w'.cell? ⟨w.heap.size, 1, none⟩ = some (.int .u32 a2) ∧ w'.cell? ⟨w.heap.size, 2, none⟩ = some (.int .u16 a3) ∧ w'.cell? ⟨w.heap.size, 3, none⟩ = some (.int .u16 a4) ∧ w'.cell? ⟨w.heap.size, 4, none⟩ = some (.int .u32 a5) ∧ w'.cell? ⟨w.heap.size, 5, none⟩ = some (.slice A1 m1 d1))
          (first | (with_reducible exact KK.out _ Z4) | (with_reducible exact KK.out _ Z3) | (with_reducible exact KK.out _ Z2) | (with_reducible exact KK.out _ Z1) | exact KK.out _ Z0 | go_keep)
          (first
            | (have _z := Z3; clear _z; go_at_call 27; refine (kept_ _ (F1.out _ D3).1.2 (HR.out.below Z3.low) Y.out (by omega)).mono ?_; rintro e u4 ⟨rfl, q4, rfl⟩; have Z4 := Z2.drewN (q3 + q4); have D4 := below_drewN D2 (q3 + q4))
            | (have _z := Z2; clear _z; go_at_call 27; refine (kept_ _ (F1.out _ D2).1.1 (HP.out.below Z2.low) Y2.out (by omega)).mono ?_; rintro e u3 ⟨rfl, q3, rfl⟩; have Z3 := Z2.drewN q3; have D3 := below_drewN D2 q3)
            | (have _z := Q1; clear _z; go_at_call 25; refine (same_ _ (kd) (0) (kd) (0) ((F1.out _ D1).2.2.1) (Q1.out.1.rd (by have := hNP.out; split at this <;> omega)) HBE.out HBE.out (E := true) (by simp)).mono ?_; rintro e u2 ⟨rfl, d2⟩; have Z2 := Z1.below d2; have D2 := D1.trans (d2.mono D1.size); clear d2)
            | (go_at_call 46; refine ((fun (V : World) (r : Rd .u8 V A1 m1 d1 ds) => refPutInit_ V kd a1 a2 a3 a4 a5 h1 h2_ h3 h4 h5 r (by omega) NP hNP.out) _ (HP.out.below Z0.low)).mono ?_; rintro e u1 ⟨AA, cc, rfl, Q1⟩; have Z1 := Z0.below Q1.out.2; have D1 := D0.trans (Q1.out.2.mono D0.size)))
        all_goals (
          go_upto_region 11 with (fail)
          have ZA := Aside.mk Z4
          have DA := Aside.mk D4
          clear Z0 Z1 Z2 Z3 D0 D1 D2 D3 Z4 D4
          have ka := KK.out _ ZA.out
          go_wp2_with fail
          refine (sameInit_ _ y1 y2 y3 y4 y5 y1 y2 y3 y4 y5 (F1.out _ DA.out).2.2.2.2.1 (F1.out _ DA.out).2.2.2.2.2 BR.out BR.out (E := true) (by simp)).mono ?_
          rintro e u5 ⟨rfl, d5⟩
          have Z5 := Aside.mk (ZA.out.below d5)
          have D5 := Aside.mk (DA.out.trans (d5.mono DA.out.size))
          clear d5 ka ZA DA
          have k5 := KK.out _ Z5.out
          go_wp2_with fail
          refine (AP.out _ D5.out Z5.out).mono ?_
          rintro e u6 ⟨rfl, z6⟩
          have Z6 := Aside.mk z6
          have T7 := Aside.mk (works_ u6)
          clear z6 k5 Z5 D5
          go_wp2_with fail
          refine T7.out.mono ?_
          rintro e u7 ⟨rfl, d7⟩
          have BB := Aside.mk (Z6.out.below d7).low
          clear d7 T7 Z6
          go_wp2_with fail
          go_ret
          exact ⟨rfl, BB.out⟩)
    · go_wp2_with fail
      refine (T1.out _).mono ?_
      rintro e w2 ⟨rfl, b2⟩
      have X2 := Aside.mk (X0.out.below b2)
      have k2 := KK.out _ X2.out
      have T2 := Aside.mk (works_ w2)
      clear b2 T1 X0 kb0 kw0 kz0
      go_wp2_with fail
      refine T2.out.mono ?_
      rintro e w3 ⟨rfl, b3⟩
      have BB := Aside.mk (X2.out.below b3).low
      clear b3 T2
      go_wp2_with fail
      go_ret
      exact ⟨rfl, BB.out⟩
  · have T1 := Aside.mk (fun V => large_ V k f A n c hl)
    go_wp2_with fail
    refine (T1.out _).mono ?_
    rintro e w2 ⟨rfl, b2⟩
    have X2 := Aside.mk (X0.out.below b2)
    have T2 := Aside.mk (works_ w2)
    clear b2 T1 X0 kb0 kw0 kz0
    go_wp2_with fail
    refine T2.out.mono ?_
    rintro e w3 ⟨rfl, b3⟩
    have BB := Aside.mk (X2.out.below b3).low
    clear b3 T2
    go_wp2_with fail
    go_ret
    exact ⟨rfl, BB.out⟩
end Go.Proofs.Ytedbmpfjikaljaa
