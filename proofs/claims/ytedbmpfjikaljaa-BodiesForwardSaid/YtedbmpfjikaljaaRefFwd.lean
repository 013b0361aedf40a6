/-
  Proved: what the reference's function that reads a chunk of what will not come does to memory and what it answers. Conditions: rows are shorter than a hundred thousand.
-/
import Derived.Test.YtedbmpfjikaljaaRefh
namespace Go.Proofs.Ytedbmpfjikaljaa
open Go.RowKit
set_option linter.unusedVariables false
set_option linter.unusedSimpArgs false
set_option linter.unusedSectionVars false
set_option maxRecDepth 100000

theorem fwd_ref (x : Int) {xs : List Int} {n : Nat} (hl : xs.length = n) (h4 : 4 ≤ n) : decide (fwdL x (fwdPs xs) = xs) = decide (fwdL x (prs xs 4 ((n - 4) / 4)) = xs) := by
  subst hl
  rcases Nat.lt_or_ge 0 (xs.length % 4) with h | h
  · rw [decide_eq_false, decide_eq_false]
    · intro e
      have := congrArg List.length e
      rw [fwdL_len, prs_len] at this
      omega
    · intro e
      have := congrArg List.length e
      unfold fwdPs at this
      rw [fwdL_len, prs_len] at this
      omega
  · unfold fwdPs
    rw [show (xs.length - 1) / 4 = (xs.length - 4) / 4 by omega]
theorem fwd_short (x k f : Int) {xs : List Int} (h4 : xs.length < 4) : fwdE k f xs = false := by
  unfold fwdE
  rw [decide_eq_false, Bool.and_false]
  intro e
  have := congrArg List.length e
  rw [fwdL_len] at this
  omega
/-- What a reading of a chunk of what will not come is: its number and its pairs. -/
def fwdGot (k f : Int) (xs : List Int) : Int × List (Int × Int) := if fwdE k f xs = true then (gt xs 0 4, fwdPs xs) else (0, [])

theorem fwd_prs {k f : Int} {xs : List Int} {n : Nat} (hl : xs.length = n) (h : fwdE k f xs = true) : prs xs 4 ((n - 4) / 4) = fwdPs xs ∧ fwdGot k f xs = (gt xs 0 4, fwdPs xs) := by
  subst hl
  refine ⟨?_, by unfold fwdGot; rw [if_pos h]⟩
  unfold fwdE at h
  have e := of_decide_eq_true ((Bool.and_eq_true _ _ ▸ h).2)
  have := congrArg List.length e
  unfold fwdPs at this
  rw [fwdL_len, prs_len] at this
  unfold fwdPs
  rw [show (xs.length - 1) / 4 = (xs.length - 4) / 4 by omega]
theorem fwd_none {k f : Int} {xs : List Int} (h : fwdE k f xs = false) : fwdGot k f xs = (0, []) := by
  unfold fwdGot
  rw [h]
  rfl
set_option maxHeartbeats 16000000 in
theorem refGetFwd_ (w : World) {k f : Int} {A : Option Addr} {n c : Nat} {xs : List Int} (h : Rd .u8 w A n c xs) (hy : Byt xs) (hn : n ≤ 100000) :
    Calls Try.prog 35 #[chunkV k f A n c] w fun e w' => ∃ B m d, e = .returned (.tuple #[fwdV (fwdGot k f xs).1 B m d, errV (fwdE k f xs)]) ∧ OwnP 88 w' w.heap.size B m d (fwdGot k f xs).2 ∧ Below w.heap.size w w' := by
  have H := Aside.mk h
  have Y := Aside.mk hy
  have hlen := Aside.mk h.len
  have hcap := h.cap
  have hmx := h.mx
  clear h hy
  have X0 := Aside.mk (hold_two w (.cells #[.int .u8 k, .int .u8 f, .slice A n c] 24) (.cells #[.int .u32 0, .slice none 0 0] 41))
  have kb0 := keep3 X0.out.tail.h0
  have kz0 : w.heap.size + 1 < ((w.alloc (.cells #[.int .u8 k, .int .u8 f, .slice A n c] 24)).alloc (.cells #[.int .u32 0, .slice none 0 0] 41)).heap.size := lt_of_block X0.out.h0
  have N := Aside.mk (fun (V : World) (b : Below w.heap.size w V) (at_ : Nat) (h2 : at_ ≤ 200000) (s : Nat) (hs : isSized s = true) (ai si : Int) (ha : ai = (at_ : Int)) (hsi : si = (s : Int)) => numberI_ V (H.out.below b) Y.out at_ h2 s hs ha hsi)
  by_cases h4 : n < 4
  · have hE : fwdE k f xs = false := fwd_short 0 k f (by rw [hlen.out]; exact h4)
    have hd : decide ((n : Int) < 4) = true := decide_eq_true (by omega)
    have f0 := blk_free (i := 0) X0.out.h0
    have f1 := blk_free (i := 1) X0.out.h0
    have kz := keep2 X0.out.h0
    rw [fwd_none hE, hE]
    clear hE N
    unfold chunkV
    go_enter Try.func35, Try.ntmps35
    go_wp2_with fail
    refine bodyPost_ret (v := .tuple #[fwdZ, .int .i64 7]) (by simp [results, Try.results35, go_sem, fwdZ, fwdV, kz]) rfl ⟨none, 0, 0, rfl, ownP_nil _ _ _, ?_⟩
    exact X0.out.low
  · have hd : decide ((n : Int) < 4) = false := decide_eq_false (by omega)
    have hb := gt_4 Y.out 0
    have T1 := Aside.mk (N.out _ X0.out.low 0 (by omega) 4 rfl 0 4 rfl rfl)
    generalize hx : gt xs 0 4 = x at *
    have XX := Aside.mk hx
    clear hx
    have wx : IntKind.u32.wrap x = x := by rw [IntKind.wrap_u32]; omega
    unfold chunkV
    go_enter Try.func35, Try.ntmps35
    go_wp2_with fail
    refine T1.out.mono ?_
    rintro e w2 ⟨rfl, b2⟩
    have X2 := Aside.mk (X0.out.below b2)
    have X3 := Aside.mk (X2.out.alloc (.cells #[.int .u32 x, .slice none 0 0] 41))
    have z2 : w.heap.size + 1 < w2.heap.size := lt_of_block X2.out.h0
    clear b2 T1 X0 kb0 kz0
    go_wp2_with fail
    go_loopg [5] ((n - 4) / 4) (fun j s5 wr => ∃ i B d, i + j = (n - 4) / 4 ∧ s5 = .int .i64 ((4 + 4 * i : Nat) : Int) ∧ Aside (Hold w [(w2.heap.size, .cells #[.int .u32 x, .slice B i d] 41), (w.heap.size + 1, .cells #[.int .u32 0, .slice none 0 0] 41), (w.heap.size, .cells #[.int .u8 k, .int .u8 f, .slice A n c] 24)] wr ∧ OwnP 88 wr (w2.heap.size + 1) B i d (prs xs 4 i)))
    case atStart => exact ⟨0, none, 0, by omega, rfl, X3.out, ownP_nil _ _ _⟩
    case round =>
      obtain ⟨i, B, d, hij, rfl, ⟨hR, hO⟩⟩ := hrel
      have RR := Aside.mk hR
      have OO := Aside.mk hO
      clear hR hO
      have kb := keep3 RR.out.tail.tail.h0
      by_cases ci : i < (n - 4) / 4
      · have hd2 : decide (4 + 4 * (i : Int) + 4 ≤ (n : Int)) = true := decide_eq_true (by omega)
        have k4 := keep2 RR.out.h0
        have kd4 := keep2 RR.out.drew.h0
        have kdb := keep3 RR.out.drew.tail.tail.h0
        have ps := Aside.mk (prs_succ xs 4 i)
        have ha := gt_2 Y.out (4 + 4 * i)
        have hb' := gt_2 Y.out (4 + 4 * i + 2)
        have T2 := Aside.mk (fun (V : World) (b : Below w.heap.size w V) (ai : Int) (h : ai = ((4 + 4 * i : Nat) : Int)) => N.out V b (4 + 4 * i) (by omega) 2 rfl ai 2 h rfl)
        have T3 := Aside.mk (fun (V : World) (b : Below w.heap.size w V) (ai : Int) (h : ai = ((4 + 4 * i + 2 : Nat) : Int)) => N.out V b (4 + 4 * i + 2) (by omega) 2 rfl ai 2 h rfl)
        have hw2 := X2.out.low.size
        generalize gt xs (4 + 4 * i) 2 = a at *
        generalize gt xs (4 + 4 * i + 2) 2 = b at *
        have wa : IntKind.u16.wrap a = a := by rw [IntKind.wrap_u16]; omega
        have wb : IntKind.u16.wrap b = b := by rw [IntKind.wrap_u16]; omega
        have O4 := Aside.mk (OO.out.below (below_drewN (Below.refl _ wr) 1))
        have X4 := Aside.mk RR.out.drew
        clear RR OO N X2 X3
        have hwr : IntKind.i64.wrap (4 + 4 * (i : Int) + 2) = 4 + 4 * (i : Int) + 2 := by rw [IntKind.wrap_i64]; omega
        clear XX hlen hb
        go_wp2_with fail
        go_region_law
          (first
            | (have _z := P6; clear _z; obtain ⟨B', d', w6, hrun, o6, g6⟩ := append_skip (O6.out.below (below_alloc w5 _)) (by simp; omega) (rd2_one (heap_alloc_new w5 (.cells #[.int .u16 a, .int .u16 b] 88)) ha hb') (by omega); refine step_append_run 39 _ _ _ _ rfl rfl rfl rfl hrun ?_; have P7 := Aside.mk (And.intro ((P6.out.alloc _).tail.grown g6 (fun g hg => row_base O6.out hg) (by simp; omega) (by first | omega | (simp; omega))) o6); have h7 := keep2 P7.out.1.h0; have f7 := blk_free (i := 1) P7.out.1.h0; clear hrun o6 g6)
            | (have _z := P5; clear _z; go_simp; go_at_call 55; refine (T3.out _ P5.out.low _ (by omega)).mono ?_; rintro e w5 ⟨rfl, b5⟩; have P6 := Aside.mk (P5.out.below b5); have O6 := Aside.mk (O5.out.below b5); have k6 := keep2 P6.out.h0; have kb6 := keep3 P6.out.tail.tail.h0; have z5 := lt_of_block P6.out.h0; clear b5)
            | (go_simp; go_at_call 55; refine (T2.out _ X4.out.low _ (by omega)).mono ?_; rintro e w4 ⟨rfl, b4⟩; have P5 := Aside.mk (X4.out.below b4); have O5 := Aside.mk (O4.out.below b4); have k5 := keep2 P5.out.h0; have kb5 := keep3 P5.out.tail.tail.h0; have z4 := lt_of_block P5.out.h0; clear b4))
        all_goals (
          have RR := Aside.mk (P7.out.1.set2b (by omega) (by simp; omega) (.slice B' (i + 1) d'))
          have OO := Aside.mk (P7.out.2.upd ((Upd.refl (Just w2.heap.size) w6).setCell ⟨w2.heap.size, 1, none⟩ (.slice B' (i + 1) d') (fun _ => rfl)) (fun j hj => by rw [show j = _ from hj]; omega))
          rw [← ps.out] at OO
          clear P5 P6 P7 T2 T3 O4 O5 O6 X4
          go_wp2_with fail
          go_roundg ((n - 4) / 4 - (i + 1))
          case' rel => exact ⟨i + 1, B', d', by omega, by go_num, ⟨RR.out, OO.out⟩⟩
          case' measure => omega)
      · obtain rfl : i = (n - 4) / 4 := by omega
        have hd2 : decide (4 + 4 * (((n - 4) / 4 : Nat) : Int) + 4 ≤ (n : Int)) = false := decide_eq_false (by omega)
        have E1 := (OO.out.rd2 (by omega) (prs_bd Y.out _ _))
        have TP := Aside.mk (fun (V : World) (b : Below wr.heap.size wr V) => refPutFwd_ V x hb (E1.below b))
        obtain ⟨E, hE⟩ : ∃ E, fwdE k f xs = E := ⟨_, rfl⟩
        have EQ : Aside ((((192 : Int) == k) && ((0 : Int) == f) && decide (fwdL x (prs xs 4 ((n - 4) / 4)) = xs)) = E) := ⟨by rw [← hE, ← fwd_ref x hlen.out (by omega)]; unfold fwdE; rw [XX.out, Bool.true_and]⟩
        have HE := Aside.mk hE
        clear hE E1 N
        have BY : Byt (fwdL x (prs xs 4 ((n - 4) / 4))) := bytq_fwd _ _
        have TS := Aside.mk (fun (V : World) (hV : Below w.heap.size w V) (A2 : Option Addr) (c2 : Nat) (h2 : Rd .u8 V A2 (4 + (n - 4) / 4 * 4) c2 (fwdL x (prs xs 4 ((n - 4) / 4)))) => same_ V 192 0 k f h2 (H.out.below hV) BY Y.out EQ.out)
        clear BY EQ
        have KK : Aside (∀ V : World, Hold w [(w2.heap.size, .cells #[.int .u32 x, .slice B ((n - 4) / 4) d] 41), (w.heap.size + 1, .cells #[.int .u32 0, .slice none 0 0] 41), (w.heap.size, .cells #[.int .u8 k, .int .u8 f, .slice A n c] 24)] V → V.cell? ⟨w2.heap.size, 0, none⟩ = some (.int .u32 x) ∧ V.cell? ⟨w2.heap.size, 1, none⟩ = some (.slice B ((n - 4) / 4) d) ∧ V.cell? ⟨w.heap.size, 0, none⟩ = some (.int .u8 k) ∧ V.cell? ⟨w.heap.size, 1, none⟩ = some (.int .u8 f) ∧ V.cell? ⟨w.heap.size, 2, none⟩ = some (.slice A n c)) := ⟨fun V h => ⟨(keep2 h.h0).1, (keep2 h.h0).2, keep3 h.tail.tail.h0⟩⟩
        have Z0 := RR.out.drew
        have B0 := below_drewN (Below.refl wr.heap.size wr) 1
        cases E
        all_goals (
          go_wp2_with fail
          go_region_held3 (fun w' => w'.cell? ⟨w2.heap.size, 0, none⟩ = some (.int .u32 x) ∧ w'.cell? ⟨w2.heap.size, 1, none⟩ = some (.slice B ((n - 4) / 4) d) ∧ w'.cell? ⟨w.heap.size, 0, none⟩ = some (.int .u8 k) ∧ w'.cell? ⟨w.heap.size, 1, none⟩ = some (.int .u8 f) ∧ w'.cell? ⟨w.heap.size, 2, none⟩ = some (.slice A n c))
            (first | (with_reducible exact KK.out _ Z2) | (with_reducible exact KK.out _ Z1) | exact KK.out _ Z0 | go_keep)
            (first
              | (have _z := PP; clear _z; go_at_call 25; refine (TS.out _ Z1.low _ _ (PP.out.1.rd (by omega))).mono ?_; rintro e u2 ⟨rfl, d2⟩; have Z2 := Z1.below d2; have B2 := B1.trans (d2.mono B1.size); clear d2)
              | (go_at_call 36; refine (TP.out _ B0).mono ?_; rintro e u1 ⟨AA, cc, rfl, PP⟩; have Z1 := Z0.below PP.out.2; have B1 := B0.trans (PP.out.2.mono B0.size)))
          all_goals (
            have O5 := Aside.mk (OO.out.below B2)
            have ZZ := Aside.mk Z2
            have kz5 := keep2 Z2.tail.h0
            have fz0 := blk_free (i := 0) Z2.tail.h0
            have fz1 := blk_free (i := 1) Z2.tail.h0
            have hw2 := X2.out.low.size
            go_wp2_with fail
            have fin : ∀ (v0 v1 : Value), OwnP 88 ((u2.setCell ⟨w.heap.size + 1, 0, none⟩ v0).setCell ⟨w.heap.size + 1, 1, none⟩ v1) w.heap.size B ((n - 4) / 4) d (prs xs 4 ((n - 4) / 4)) ∧ Below w.heap.size w ((u2.setCell ⟨w.heap.size + 1, 0, none⟩ v0).setCell ⟨w.heap.size + 1, 1, none⟩ v1) := fun v0 v1 => ⟨(O5.out.upd (((Upd.refl (Just (w.heap.size + 1)) u2).setCell ⟨w.heap.size + 1, 0, none⟩ v0 (fun _ => rfl)).setCell ⟨w.heap.size + 1, 1, none⟩ v1 (fun _ => rfl)) (fun j hj => by rw [show j = _ from hj]; omega)).mono (by omega), (ZZ.out.low.setCell (p := ⟨w.heap.size + 1, 0, none⟩) (by simp) v0).setCell (p := ⟨w.heap.size + 1, 1, none⟩) (by simp) v1⟩
            first
              | (refine bodyPost_ret (v := .tuple #[fwdZ, .int .i64 7]) (by simp [results, Try.results35, go_sem, fwdZ, fwdV, kz5]) rfl ⟨none, 0, 0, ?_, ?_, (fin _ _).2⟩
                 · rw [fwd_none HE.out, HE.out]
                   rfl
                 · rw [fwd_none HE.out]
                   exact ownP_nil _ _ _)
              | (refine bodyPost_ret (v := .tuple #[fwdV x B ((n - 4) / 4) d, .int .i64 0]) (by simp [results, Try.results35, go_sem, fwdV, kz5]) rfl ⟨B, (n - 4) / 4, d, ?_, ?_, (fin _ _).2⟩
                 · rw [(fwd_prs hlen.out HE.out).2, XX.out, HE.out]
                   rfl
                 · rw [(fwd_prs hlen.out HE.out).2, ← (fwd_prs hlen.out HE.out).1]
                   exact (fin _ _).1)))
end Go.Proofs.Ytedbmpfjikaljaa
