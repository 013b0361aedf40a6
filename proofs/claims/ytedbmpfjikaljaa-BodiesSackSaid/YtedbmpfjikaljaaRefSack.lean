/-
  Proved: what the reference's function that reads a chunk of an acknowledgement does to memory and what it answers. Conditions: rows are shorter than a hundred thousand.
-/
import Derived.Test.YtedbmpfjikaljaaRefh
namespace Go.Proofs.Ytedbmpfjikaljaa
open Go.RowKit
set_option linter.unusedVariables false
set_option linter.unusedSimpArgs false
set_option linter.unusedSectionVars false
set_option maxRecDepth 100000

theorem Hold.set4 {w V : World} {K : List (Nat × Obj)} {g : Nat} {cs : Array Value} {t : TypeId} (h : Hold w ((g, .cells cs t) :: K) V) (hg : w.heap.size ≤ g) (hK : ∀ p ∈ K, p.1 ≠ g) (i : Nat) (v : Value) :
    Hold w ((g, .cells (cs.setIfInBounds i v) t) :: K) (V.setCell ⟨g, i, none⟩ v) := ⟨fun p hp => by
  rcases List.mem_cons.1 hp with rfl | hp
  · exact setCell_block (i := i) (v := v) h.h0
  · rw [Below.heap_setCell _ _ _ _ (hK p hp)]
    exact h.keep p (List.mem_cons_of_mem _ hp), h.low.setCell (p := ⟨g, i, none⟩) hg v⟩
theorem Hold.setAll4 {w V : World} {K : List (Nat × Obj)} {g : Nat} {a0 a1 a2 a3 : Value} {t : TypeId} (h : Hold w ((g, .cells #[a0, a1, a2, a3] t) :: K) V) (hg : w.heap.size ≤ g) (hK : ∀ p ∈ K, p.1 ≠ g) (v0 v1 v2 v3 : Value) :
    Hold w ((g, .cells #[v0, v1, v2, v3] t) :: K) ((((V.setCell ⟨g, 0, none⟩ v0).setCell ⟨g, 1, none⟩ v1).setCell ⟨g, 2, none⟩ v2).setCell ⟨g, 3, none⟩ v3) := by
  have := (((h.set4 hg hK 0 v0).set4 hg hK 1 v1).set4 hg hK 2 v2).set4 hg hK 3 v3
  simpa using this
theorem set4_hold {V : World} {h r : Nat} {o : Obj} (k : V.heap[h]? = some o) (hr : h ≠ r) (v0 v1 v2 v3 : Value) : ((((V.setCell ⟨r, 0, none⟩ v0).setCell ⟨r, 1, none⟩ v1).setCell ⟨r, 2, none⟩ v2).setCell ⟨r, 3, none⟩ v3).heap[h]? = some o := by
  rw [Below.heap_setCell _ _ _ _ hr]
  exact set3_hold k hr _ _ _
theorem sack_short {k f : Int} {xs : List Int} (h : xs.length < 12) : sackE k f xs = false := by
  unfold sackE
  rw [decide_eq_false, Bool.and_false]
  intro e
  have := congrArg List.length e
  rw [sackL_len] at this
  omega
theorem sack_fit {k f : Int} {xs : List Int} {gn dn n : Nat} (hl : xs.length = n) (hn : n ≤ 100000) (h1 : gt xs 8 2 = (gn : Nat)) (h2 : gt xs 10 2 = (dn : Nat)) (hne : n ≠ 12 + 4 * gn + 4 * dn) : sackE k f xs = false := by
  cases hE : sackE k f xs
  · rfl
  · exfalso
    unfold sackE at hE
    have e := of_decide_eq_true ((Bool.and_eq_true _ _ ▸ hE).2)
    have hp : (sackPs xs).length = sackG xs := by unfold sackPs; rw [prs_len]
    have hd : (sackDs xs).length = sackD xs := by unfold sackDs; rw [dds_len]
    have m1 : sackG xs ≤ 25000 := by unfold sackG; omega
    have m2 : sackD xs ≤ 25000 := by unfold sackD; omega
    have g1 := sack_g (gt xs 0 4) (gt xs 4 4) (sackPs xs) (sackDs xs) (by omega)
    have g2 := sack_d (gt xs 0 4) (gt xs 4 4) (sackPs xs) (sackDs xs) (by omega)
    rw [e, h1] at g1
    rw [e, h2] at g2
    have l := congrArg List.length e
    rw [sackL_len] at l
    omega
theorem sack_exact {xs : List Int} {gn dn n : Nat} (hl : xs.length = n) (h1 : gt xs 8 2 = (gn : Nat)) (h2 : gt xs 10 2 = (dn : Nat)) (hn : n = 12 + 4 * gn + 4 * dn) : sackPs xs = prs xs 12 gn ∧ sackDs xs = dds xs (12 + 4 * gn) dn := by
  have e1 : sackG xs = gn := by unfold sackG; rw [h1, Int.toNat_natCast]; omega
  have e2 : sackD xs = dn := by unfold sackD; rw [h2, Int.toNat_natCast, e1]; omega
  unfold sackPs sackDs
  rw [e1, e2]
  exact ⟨rfl, rfl⟩
/-- What a reading of a chunk of an acknowledgement is. -/
def sackX (k f : Int) (xs : List Int) (at_ : Nat) : Int := if sackE k f xs = true then gt xs at_ 4 else 0
def sackGotP (k f : Int) (xs : List Int) : List (Int × Int) := if sackE k f xs = true then sackPs xs else []
def sackGotD (k f : Int) (xs : List Int) : List Int := if sackE k f xs = true then sackDs xs else []
theorem sack_no {k f : Int} {xs : List Int} (h : sackE k f xs = false) : (∀ at_, sackX k f xs at_ = 0) ∧ sackGotP k f xs = [] ∧ sackGotD k f xs = [] := by
  unfold sackX sackGotP sackGotD
  rw [h]
  exact ⟨fun _ => rfl, rfl, rfl⟩
theorem sack_yes {k f : Int} {xs : List Int} (h : sackE k f xs = true) : (∀ at_, sackX k f xs at_ = gt xs at_ 4) ∧ sackGotP k f xs = sackPs xs ∧ sackGotD k f xs = sackDs xs := by
  unfold sackX sackGotP sackGotD
  rw [h]
  exact ⟨fun _ => rfl, rfl, rfl⟩

theorem fin4_below {B : Nat} {w w2 : World} {r : Nat} (h : Below B w w2) (hr : B ≤ r) (v0 v1 v2 v3 : Value) : Below B w ((((w2.setCell ⟨r, 0, none⟩ v0).setCell ⟨r, 1, none⟩ v1).setCell ⟨r, 2, none⟩ v2).setCell ⟨r, 3, none⟩ v3) :=
  (fin_below h hr v0 v1 v2).setCell (p := ⟨r, 3, none⟩) hr v3

set_option maxHeartbeats 16000000 in
theorem refGetSack_ (w : World) {k f : Int} {A : Option Addr} {n c : Nat} {xs : List Int} (h : Rd .u8 w A n c xs) (hy : Byt xs) (hn : n ≤ 100000) :
    Calls Try.prog 31 #[chunkV k f A n c] w fun e w' => ∃ B m d B2 m2 d2, e = .returned (.tuple #[sackV (sackX k f xs 0) (sackX k f xs 4) B m d B2 m2 d2, errV (sackE k f xs)]) ∧ OwnP 84 w' w.heap.size B m d (sackGotP k f xs) ∧ OwnD w' w.heap.size B2 m2 d2 (sackGotD k f xs) ∧ Below w.heap.size w w' := by
  have H := Aside.mk h
  have Y := Aside.mk hy
  have hlen := Aside.mk h.len
  have hcap := h.cap
  have hmx := h.mx
  clear h hy
  have X0 := Aside.mk (hold_two w (.cells #[.int .u8 k, .int .u8 f, .slice A n c] 24) (.cells #[.int .u32 0, .int .u32 0, .slice none 0 0, .slice none 0 0] 38))
  have kb0 := keep3 X0.out.tail.h0
  have kz0 : w.heap.size + 1 < ((w.alloc (.cells #[.int .u8 k, .int .u8 f, .slice A n c] 24)).alloc (.cells #[.int .u32 0, .int .u32 0, .slice none 0 0, .slice none 0 0] 38)).heap.size := lt_of_block X0.out.h0
  have N := Aside.mk (fun (V : World) (b : Below w.heap.size w V) (at_ : Nat) (h2 : at_ ≤ 200000) (s : Nat) (hs : isSized s = true) (ai si : Int) (ha : ai = (at_ : Int)) (hsi : si = (s : Int)) => numberI_ V (H.out.below b) Y.out at_ h2 s hs ha hsi)
  -- what the law comes to where the chunk is refused
  have NO : Aside (sackE k f xs = false → ∀ W : World, Below w.heap.size w W → ∃ B m d B2 m2 d2, Ending.returned (.tuple #[sackZ, .int .i64 7]) = .returned (.tuple #[sackV (sackX k f xs 0) (sackX k f xs 4) B m d B2 m2 d2, errV (sackE k f xs)]) ∧ OwnP 84 W w.heap.size B m d (sackGotP k f xs) ∧ OwnD W w.heap.size B2 m2 d2 (sackGotD k f xs) ∧ Below w.heap.size w W) := ⟨fun hE W b => by
    obtain ⟨e1, e2, e3⟩ := sack_no hE
    rw [e1, e1, e2, e3, hE]
    exact ⟨none, 0, 0, none, 0, 0, rfl, ownP_nil _ _ _, ownD_nil _ _, b⟩⟩
  by_cases h4 : n < 12
  · have hE := Aside.mk (NO.out (sack_short (by rw [hlen.out]; exact h4)))
    have hd : decide ((n : Int) < 12) = true := decide_eq_true (by omega)
    have fz := free7 X0.out.h0
    have kz := keep4 X0.out.h0
    clear N NO
    unfold chunkV
    go_enter Try.func31, Try.ntmps31
    go_wp2_with fail
    exact bodyPost_ret (v := .tuple #[sackZ, .int .i64 7]) (by simp [results, Try.results31, go_sem, sackZ, sackV, kz]) rfl (hE.out _ (by first | exact X0.out.low | exact fin4_below X0.out.low (by omega) _ _ _ _))
  · have hd : decide ((n : Int) < 12) = false := decide_eq_false (by omega)
    have hb1 := gt_4 Y.out 0
    have hb2 := gt_4 Y.out 4
    have hb3 := gt_2 Y.out 8
    have hb4 := gt_2 Y.out 10
    obtain ⟨gn, hgn⟩ := Int.eq_ofNat_of_zero_le hb3.1
    obtain ⟨dn, hdn⟩ := Int.eq_ofNat_of_zero_le hb4.1
    have T1 := Aside.mk (fun (V : World) (b : Below w.heap.size w V) => N.out V b 0 (by omega) 4 rfl 0 4 rfl rfl)
    have T2 := Aside.mk (fun (V : World) (b : Below w.heap.size w V) => N.out V b 4 (by omega) 4 rfl 4 4 rfl rfl)
    have T3 := Aside.mk (fun (V : World) (b : Below w.heap.size w V) => N.out V b 8 (by omega) 2 rfl 8 2 rfl rfl)
    have T4 := Aside.mk (fun (V : World) (b : Below w.heap.size w V) => N.out V b 10 (by omega) 2 rfl 10 2 rfl rfl)
    rw [hgn] at T3 hb3
    rw [hdn] at T4 hb4
    have GN := Aside.mk (And.intro hgn hdn)
    obtain ⟨x1, hx1⟩ : ∃ x1, gt xs 0 4 = x1 := ⟨_, rfl⟩
    obtain ⟨x2, hx2⟩ : ∃ x2, gt xs 4 4 = x2 := ⟨_, rfl⟩
    rw [hx1] at hb1 T1
    rw [hx2] at hb2 T2
    have XX := Aside.mk (And.intro hx1 hx2)
    clear hgn hdn hx1 hx2
    have wx1 : IntKind.u32.wrap x1 = x1 := by rw [IntKind.wrap_u32]; omega
    have wx2 : IntKind.u32.wrap x2 = x2 := by rw [IntKind.wrap_u32]; omega
    unfold chunkV
    go_enter Try.func31, Try.ntmps31
    have KB : Aside (∀ V : World, V.heap[w.heap.size]? = some (.cells #[.int .u8 k, .int .u8 f, .slice A n c] 24) → V.cell? ⟨w.heap.size, 2, none⟩ = some (.slice A n c)) := ⟨fun V h => (keep3 h).2.2⟩
    go_upto_region 2 with (fail)
    go_cut [4] (fun s4 wx => ∃ g : Nat, s4 = .pointer (some ⟨g, 0, none⟩) ∧ w.heap.size + 1 < g ∧ Aside (Hold w [(g, .cells #[.int .u32 x1, .int .u32 x2, .slice none 0 0, .slice none 0 0] 38), (w.heap.size + 1, .cells #[.int .u32 0, .int .u32 0, .slice none 0 0, .slice none 0 0] 38), (w.heap.size, .cells #[.int .u8 k, .int .u8 f, .slice A n c] 24)] wx))
    case first =>
      have XA : Aside (Hold w ((w.heap.size + 1 + 1, .cells #[.int .u32 0, .int .u32 0, .slice none 0 0, .slice none 0 0] 38) :: [(w.heap.size + 1, .cells #[.int .u32 0, .int .u32 0, .slice none 0 0, .slice none 0 0] 38), (w.heap.size, .cells #[.int .u8 k, .int .u8 f, .slice A n c] 24)]) (((w.alloc (.cells #[.int .u8 k, .int .u8 f, .slice A n c] 24)).alloc (.cells #[.int .u32 0, .int .u32 0, .slice none 0 0, .slice none 0 0] 38)).alloc (.cells #[.int .u32 0, .int .u32 0, .slice none 0 0, .slice none 0 0] 38)).drew) := ⟨by simpa using (X0.out.alloc (.cells #[.int .u32 0, .int .u32 0, .slice none 0 0, .slice none 0 0] 38)).drew⟩
      have ha0 := X0.out.drew.tail.h0
      have hz0 := XA.out.tail.tail.h0
      go_region_held3 (fun w' => w'.cell? ⟨w.heap.size, 2, none⟩ = some (.slice A n c))
        (first | (with_reducible exact KB.out _ (set4_hold ha2 (by omega) _ _ _ _)) | (with_reducible exact KB.out _ (alloc_keep ha2)) | (with_reducible exact KB.out _ ha2) | (with_reducible exact KB.out _ (alloc_keep ha1)) | (with_reducible exact KB.out _ ha1) | (with_reducible exact KB.out _ hz0) | (with_reducible exact KB.out _ ha0) | exact KB.out _ ha0 | go_keep)
        (first
          | (have _z := X1; clear _z; go_at_call 55; refine (T2.out _ (by first | with_reducible exact X1.out.low | with_reducible exact (X1.out.alloc _).low)).mono ?_; rintro e w2 ⟨rfl, b2⟩; (first | (have Y2 := Aside.mk (Y1.out.below b2); have X2 := Aside.mk Y2.out.tail; have kg2 := keep4 Y2.out.h0; have fg2 := free7 Y2.out.h0) | (with_reducible have X2 := Aside.mk (X1.out.below b2)) | (have Y2 := Aside.mk ((X1.out.alloc (.cells #[.int .u32 0, .int .u32 0, .slice none 0 0, .slice none 0 0] 38)).below b2); have X2 := Aside.mk Y2.out.tail; have kg2 := keep4 Y2.out.h0; have fg2 := free7 Y2.out.h0)); have ha2 := X2.out.tail.h0; have z2 : w.heap.size + 1 < w2.heap.size := lt_of_block X2.out.h0; clear b2)
          | (go_at_call 55; refine (T1.out _ (by first | with_reducible exact X0.out.drew.low | with_reducible exact XA.out.low)).mono ?_; rintro e w1 ⟨rfl, b1⟩; (first | (with_reducible have X1 := Aside.mk (X0.out.drew.below b1)) | (have Y1 := Aside.mk (XA.out.below b1); have X1 := Aside.mk Y1.out.tail; have kg1 := keep4 Y1.out.h0)); have ha1 := X1.out.tail.h0; have z1 : w.heap.size + 1 < w1.heap.size := lt_of_block X1.out.h0; clear b1))
      all_goals (
        go_wp2_with fail
        go_meet
        first
          | (with_reducible exact ⟨_, rfl, z2, ⟨X2.out.alloc _⟩⟩)
          | exact ⟨_, rfl, by omega, ⟨Hold.setAll4 Y2.out (by omega) (by intro p hp; simp at hp; rcases hp with rfl | rfl <;> simp <;> omega) _ _ _ _⟩⟩)
    case rest =>
      obtain ⟨g, rfl, hg, X3⟩ := hcut
      clear T1 T2 X0 kb0 kz0
      have kb3 := keep3 X3.out.tail.tail.h0
      go_wp2_with fail
      refine (T3.out _ X3.out.low).mono ?_
      rintro e w3 ⟨rfl, b3⟩
      have X4 := Aside.mk (X3.out.below b3)
      clear b3 T3 kb3
      have kb4 := keep3 X4.out.tail.tail.h0
      go_wp2_with fail
      refine (T4.out _ X4.out.low).mono ?_
      rintro e w4 ⟨rfl, b4⟩
      have X5 := Aside.mk (X4.out.below b4)
      clear b4 T4 kb4 X4 X3
      have kb5 := keep3 X5.out.tail.tail.h0
      have wm1 : IntKind.i64.wrap (4 * (gn : Int)) = 4 * (gn : Int) := by rw [IntKind.wrap_i64]; omega
      have wm2 : IntKind.i64.wrap (4 * (dn : Int)) = 4 * (dn : Int) := by rw [IntKind.wrap_i64]; omega
      have wm3 : IntKind.i64.wrap (12 + 4 * (gn : Int)) = 12 + 4 * (gn : Int) := by rw [IntKind.wrap_i64]; omega
      have wm4 : IntKind.i64.wrap (12 + 4 * (gn : Int) + 4 * (dn : Int)) = 12 + 4 * (gn : Int) + 4 * (dn : Int) := by rw [IntKind.wrap_i64]; omega
      by_cases hfit : n = 12 + 4 * gn + 4 * dn
      case neg =>
        have hne : ((n : Int) != 12 + 4 * (gn : Int) + 4 * (dn : Int)) = true := bne_iff_ne.2 (by omega)
        have hE := Aside.mk (NO.out (sack_fit hlen.out hn GN.out.1 GN.out.2 hfit))
        have fz := free7 X5.out.tail.h0
        have kz := keep4 X5.out.tail.h0
        clear N NO
        go_wp2_with fail
        exact bodyPost_ret (v := .tuple #[sackZ, .int .i64 7]) (by simp [results, Try.results31, go_sem, sackZ, sackV, kz]) rfl (hE.out _ (by first | exact X5.out.low | exact fin4_below X5.out.low (by omega) _ _ _ _))
      case pos =>
        have hne : ((n : Int) != 12 + 4 * (gn : Int) + 4 * (dn : Int)) = false := by rw [bne, show ((n : Int) == 12 + 4 * (gn : Int) + 4 * (dn : Int)) = true from beq_iff_eq.2 (by omega)]; rfl
        have hgn2 : gn ≤ 25000 := by omega
        have hdn2 : dn ≤ 25000 := by omega
        have EX := Aside.mk (sack_exact hlen.out GN.out.1 GN.out.2 hfit)
        have hfit1 : n ≤ 12 + 4 * gn + 4 * dn := by omega
        have hfit2 : 12 + 4 * gn + 4 * dn ≤ n := by omega
        clear GN hfit
        go_wp2_with fail
        go_loopg [7] gn (fun j s7 wr => ∃ i B d, i + j = gn ∧ s7 = .int .i64 (i : Nat) ∧ Aside (Hold w [(g, .cells #[.int .u32 x1, .int .u32 x2, .slice B i d, .slice none 0 0] 38), (w.heap.size + 1, .cells #[.int .u32 0, .int .u32 0, .slice none 0 0, .slice none 0 0] 38), (w.heap.size, .cells #[.int .u8 k, .int .u8 f, .slice A n c] 24)] wr ∧ OwnP 84 wr (g + 1) B i d (prs xs 12 i)))
        case atStart => exact ⟨0, none, 0, by omega, rfl, ⟨X5.out, ownP_nil _ _ _⟩⟩
        case round =>
          obtain ⟨i, B, d, hij, rfl, ⟨hR, hO⟩⟩ := hrel
          have RR := Aside.mk hR
          have OO := Aside.mk hO
          clear hR hO
          by_cases ci : i < gn
          · have hd2 : decide ((i : Int) < (gn : Int)) = true := decide_eq_true (by omega)
            have kd4 := keep4 RR.out.drew.h0
            have kdb := keep3 RR.out.drew.tail.tail.h0
            have ps := Aside.mk (prs_succ xs 12 i)
            have ha := gt_2 Y.out (12 + 4 * i)
            have hb' := gt_2 Y.out (12 + 4 * i + 2)
            have T2 := Aside.mk (fun (V : World) (b : Below w.heap.size w V) (ai : Int) (h : ai = ((12 + 4 * i : Nat) : Int)) => N.out V b (12 + 4 * i) (by omega) 2 rfl ai 2 h rfl)
            have T3 := Aside.mk (fun (V : World) (b : Below w.heap.size w V) (ai : Int) (h : ai = ((12 + 4 * i + 2 : Nat) : Int)) => N.out V b (12 + 4 * i + 2) (by omega) 2 rfl ai 2 h rfl)
            generalize gt xs (12 + 4 * i) 2 = a at *
            generalize gt xs (12 + 4 * i + 2) 2 = b at *
            have wa : IntKind.u16.wrap a = a := by rw [IntKind.wrap_u16]; omega
            have wb : IntKind.u16.wrap b = b := by rw [IntKind.wrap_u16]; omega
            have wi1 : IntKind.i64.wrap (4 * (i : Int)) = 4 * (i : Int) := by rw [IntKind.wrap_i64]; omega
            have wi2 : IntKind.i64.wrap (12 + 4 * (i : Int)) = 12 + 4 * (i : Int) := by rw [IntKind.wrap_i64]; omega
            have wi3 : IntKind.i64.wrap (14 + 4 * (i : Int)) = 14 + 4 * (i : Int) := by rw [IntKind.wrap_i64]; omega
            have O4 := Aside.mk (OO.out.below (below_drewN (Below.refl _ wr) 1))
            have X4 := Aside.mk RR.out.drew
            clear RR OO N NO X5 XX EX hlen kb5 wm1 wm2 wm3 wm4 hne hd H Y hb3 hb4
            go_wp2_with fail
            go_region_law
              (first
                | (have _z := P6; clear _z; obtain ⟨B', d', w6, hrun, o6, g6⟩ := append_gap (O6.out.below (below_alloc w5 _)) (by simp; omega) (rd2_one (heap_alloc_new w5 (.cells #[.int .u16 a, .int .u16 b] 84)) ha hb') (by omega); refine step_append_run 35 _ _ _ _ rfl rfl rfl rfl hrun ?_; have P7 := Aside.mk (And.intro ((P6.out.alloc _).tail.grown g6 (fun g hg => row_base O6.out hg) (by simp; omega) (by first | omega | (simp; omega))) o6); have h7 := keep4 P7.out.1.h0; have f7 := blk_free (i := 2) P7.out.1.h0; clear hrun o6 g6)
                | (have _z := P5; clear _z; go_simp; go_at_call 55; refine (T3.out _ P5.out.low _ (by omega)).mono ?_; rintro e w5 ⟨rfl, b5⟩; have P6 := Aside.mk (P5.out.below b5); have O6 := Aside.mk (O5.out.below b5); have k6 := keep4 P6.out.h0; have kb6 := keep3 P6.out.tail.tail.h0; have z5 := lt_of_block P6.out.h0; clear b5)
                | (go_simp; go_at_call 55; refine (T2.out _ X4.out.low _ (by omega)).mono ?_; rintro e w4 ⟨rfl, b4⟩; have P5 := Aside.mk (X4.out.below b4); have O5 := Aside.mk (O4.out.below b4); have k5 := keep4 P5.out.h0; have kb5 := keep3 P5.out.tail.tail.h0; have z4 := lt_of_block P5.out.h0; clear b4))
            all_goals (
              have RR := Aside.mk (P7.out.1.set4 (by omega) (by simp; omega) 2 (.slice B' (i + 1) d'))
              have OO := Aside.mk (P7.out.2.upd ((Upd.refl (Just g) w6).setCell ⟨g, 2, none⟩ (.slice B' (i + 1) d') (fun _ => rfl)) (fun j hj => by rw [show j = _ from hj]; omega))
              rw [← ps.out] at OO
              clear P5 P6 P7 T2 T3 O4 O5 O6 X4
              go_wp2_with fail
              go_roundg (gn - (i + 1))
              case' rel => exact ⟨i + 1, B', d', by omega, by go_num, ⟨RR.out, OO.out⟩⟩
              case' measure => omega)
          · obtain rfl : i = gn := by omega
            have hd2 : decide ((i : Int) < (i : Int)) = false := decide_eq_false (by omega)
            have kb := keep3 RR.out.tail.tail.h0
            have XW := Aside.mk RR.out
            have OW := Aside.mk OO.out
            obtain ⟨wo, rfl⟩ : ∃ wo : World, wo = wr := ⟨_, rfl⟩
            clear X5 kb5 RR OO
            go_wp2_with fail
            go_loopg [8] dn (fun j s8 wr => ∃ i' B2 d2, i' + j = dn ∧ s8 = .int .i64 (i' : Nat) ∧ Aside (Hold w [(g, .cells #[.int .u32 x1, .int .u32 x2, .slice B i d, .slice B2 i' d2] 38), (w.heap.size + 1, .cells #[.int .u32 0, .int .u32 0, .slice none 0 0, .slice none 0 0] 38), (w.heap.size, .cells #[.int .u8 k, .int .u8 f, .slice A n c] 24)] wr ∧ OwnD wr wo.heap.size B2 i' d2 (dds xs (12 + 4 * i) i') ∧ Upd (fun j => j = g) wo wr))
            case atStart => exact ⟨0, none, 0, by omega, rfl, ⟨XW.out, ownD_nil _ _, Upd.refl _ _⟩⟩
            case round =>
              obtain ⟨i', B2, d2, hij', rfl, ⟨hR, hO, hU⟩⟩ := hrel
              have RR := Aside.mk hR
              have OO := Aside.mk hO
              have UU := Aside.mk hU
              have hus := hU.size
              have hgw : g < wo.heap.size := lt_of_block XW.out.h0
              clear hR hO hU
              by_cases ci' : i' < dn
              · have hd3 : decide ((i' : Int) < (dn : Int)) = true := decide_eq_true (by omega)
                have kd4 := keep4 RR.out.drew.h0
                have kdb := keep3 RR.out.drew.tail.tail.h0
                have ds := Aside.mk (dds_succ xs (12 + 4 * i) i')
                have ha := gt_4 Y.out (12 + 4 * i + 4 * i')
                have T2 := Aside.mk (fun (V : World) (b : Below w.heap.size w V) (ai : Int) (h : ai = ((12 + 4 * i + 4 * i' : Nat) : Int)) => N.out V b (12 + 4 * i + 4 * i') (by omega) 4 rfl ai 4 h rfl)
                generalize gt xs (12 + 4 * i + 4 * i') 4 = a at *
                have wa : IntKind.u32.wrap a = a := by rw [IntKind.wrap_u32]; omega
                have wi1 : IntKind.i64.wrap (4 * (i' : Int)) = 4 * (i' : Int) := by rw [IntKind.wrap_i64]; omega
                have wi2 : IntKind.i64.wrap (12 + 4 * (i : Int) + 4 * (i' : Int)) = 12 + 4 * (i : Int) + 4 * (i' : Int) := by rw [IntKind.wrap_i64]; omega
                have O4 := Aside.mk (OO.out.below (below_drewN (Below.refl _ wr) 1))
                have U4 := Aside.mk UU.out.drew
                have X4 := Aside.mk RR.out.drew
                clear RR OO UU N NO XX EX hlen hne hd H Y hb3 hb4 XW OW
                go_wp2_with fail
                go_region_law
                  (first
                    | (have _z := P6; clear _z; obtain ⟨B', d', w6, hrun, o6, g6⟩ := append_dup (O6.out.below (below_alloc w5 _)) (by simp; omega) (rdd_one (heap_alloc_new w5 (.cells #[.int .u32 a] 29))) (by omega); refine step_append_run 36 _ _ _ _ rfl rfl rfl rfl hrun ?_; have P7 := Aside.mk (And.intro ((P6.out.alloc _).tail.grown g6 (fun g hg => row_base O6.out hg) (by simp; omega) (by first | omega | (simp; omega))) o6); have U7 := Aside.mk ((U6.out.alloc (.cells #[.int .u32 a] 29)).grown g6 (fun g hg => row_base O6.out hg)); have h7 := keep4 P7.out.1.h0; have f7 := blk_free (i := 3) P7.out.1.h0; clear hrun o6 g6)
                    | (go_simp; go_at_call 55; refine (T2.out _ X4.out.low _ (by omega)).mono ?_; rintro e w5 ⟨rfl, b5⟩; have P6 := Aside.mk (X4.out.below b5); have O6 := Aside.mk (O4.out.below b5); have U6 := Aside.mk (U4.out.trans (Upd.of_below b5)); have k6 := keep4 P6.out.h0; have kb6 := keep3 P6.out.tail.tail.h0; have z5 := lt_of_block P6.out.h0; have z6 := U6.out.size; clear b5))
                all_goals (
                  have RR := Aside.mk (P7.out.1.set4 (by omega) (by simp; omega) 3 (.slice B' (i' + 1) d'))
                  have OO := Aside.mk (P7.out.2.upd ((Upd.refl (Just g) w6).setCell ⟨g, 3, none⟩ (.slice B' (i' + 1) d') (fun _ => rfl)) (fun j hj => by rw [show j = _ from hj]; omega))
                  have U9 := Aside.mk (U7.out.setCell ⟨g, 3, none⟩ (.slice B' (i' + 1) d') (fun _ => rfl))
                  rw [← ds.out] at OO
                  clear P6 P7 T2 O4 O6 U4 U6 U7 X4
                  go_wp2_with fail
                  go_roundg (dn - (i' + 1))
                  case' rel => exact ⟨i' + 1, B', d', by omega, by go_num, ⟨RR.out, OO.out, U9.out⟩⟩
                  case' measure => omega)
              · obtain rfl : i' = dn := by omega
                have hd3 : decide ((i' : Int) < (i' : Int)) = false := decide_eq_false (by omega)
                have OP := Aside.mk (OwnP.upd OW.out UU.out (fun j hj => by rw [hj]; omega))
                have OD := Aside.mk (OO.out.mono (show g + 1 ≤ wo.heap.size by omega))
                have E1 := Aside.mk (OP.out.rd2 (by omega) (prs_bd Y.out _ _))
                have E2 := Aside.mk (OD.out.rd (by omega))
                have TA := Aside.mk (fun (V : World) (b : Below wr.heap.size wr V) => apart_ V (E1.out.below b))
                have TP := Aside.mk (fun (V : World) (b : Below wr.heap.size wr V) => refPutSack_ V x1 x2 hb1 hb2 (E1.out.below b) (E2.out.below b) (by omega) (dds_bd Y.out _ _))
                have PB := Aside.mk (bytq_sack x1 x2 (prs xs 12 i) (dds xs (12 + 4 * i) i'))
                have EQ0 : Aside (sackE k f xs = ((aptS (prs xs 12 i)).1 && ((3 : Int) == k) && ((0 : Int) == f) && decide (sackL x1 x2 (prs xs 12 i) (dds xs (12 + 4 * i) i') = xs))) := ⟨by unfold sackE; rw [EX.out.1, EX.out.2, XX.out.1, XX.out.2]⟩
                clear E1 E2 N OO OW UU XW
                obtain ⟨ap, hap⟩ : ∃ ap, (aptS (prs xs 12 i)).1 = ap := ⟨_, rfl⟩
                rw [hap] at TA EQ0
                have B0 := Aside.mk (below_drewN (Below.refl wr.heap.size wr) 1)
                have Z0 := RR.out.drew
                have kg := keep4 RR.out.h0
                cases ap
                · have hE := Aside.mk (NO.out (by rw [EQ0.out]; rfl))
                  clear NO TP EQ0 hap
                  go_wp2_with fail
                  first
                    | (go_region_law ((go_simp; go_at_call 61; refine (TA.out _ B0.out).mono ?_; rintro e u1 ⟨rfl, d1⟩; have Z1 := Aside.mk (Z0.below d1); have fz := free7 Z1.out.tail.h0; have kz := keep4 Z1.out.tail.h0; clear d1)))
                    | fail
                  all_goals (
                    go_wp2_with fail
                    exact bodyPost_ret (v := .tuple #[sackZ, .int .i64 7]) (by simp [results, Try.results31, go_sem, sackZ, sackV, kz]) rfl (hE.out _ (by first | exact Z1.out.low | exact fin4_below Z1.out.low (by omega) _ _ _ _ | exact fin4_below (below_drewN Z1.out.low _) (by omega) _ _ _ _)))
                · obtain ⟨E, hE⟩ : ∃ E, sackE k f xs = E := ⟨_, rfl⟩
                  have EQ : Aside ((((3 : Int) == k) && ((0 : Int) == f) && decide (sackL x1 x2 (prs xs 12 i) (dds xs (12 + 4 * i) i') = xs)) = E) := ⟨by rw [← hE, EQ0.out, Bool.true_and]⟩
                  have HE := Aside.mk hE
                  clear hE EQ0 hap
                  have TS := Aside.mk (fun (V : World) (hV : Below w.heap.size w V) (A2 : Option Addr) (c2 : Nat) (h2 : Rd .u8 V A2 (12 + i * 4 + i' * 4) c2 (sackL x1 x2 (prs xs 12 i) (dds xs (12 + 4 * i) i'))) => same_ V 3 0 k f h2 (H.out.below hV) PB.out Y.out EQ.out)
                  have KK : Aside (∀ V : World, Hold w [(g, .cells #[.int .u32 x1, .int .u32 x2, .slice B i d, .slice B2 i' d2] 38), (w.heap.size + 1, .cells #[.int .u32 0, .int .u32 0, .slice none 0 0, .slice none 0 0] 38), (w.heap.size, .cells #[.int .u8 k, .int .u8 f, .slice A n c] 24)] V → V.cell? ⟨g, 0, none⟩ = some (.int .u32 x1) ∧ V.cell? ⟨g, 1, none⟩ = some (.int .u32 x2) ∧ V.cell? ⟨g, 2, none⟩ = some (.slice B i d) ∧ V.cell? ⟨g, 3, none⟩ = some (.slice B2 i' d2) ∧ V.cell? ⟨w.heap.size, 0, none⟩ = some (.int .u8 k) ∧ V.cell? ⟨w.heap.size, 1, none⟩ = some (.int .u8 f) ∧ V.cell? ⟨w.heap.size, 2, none⟩ = some (.slice A n c)) := ⟨fun V h => ⟨(keep4 h.h0).1, (keep4 h.h0).2.1, (keep4 h.h0).2.2.1, (keep4 h.h0).2.2.2, keep3 h.tail.tail.h0⟩⟩
                  clear PB EQ
                  cases E
                  all_goals (
                    go_wp2_with fail
                    go_region_held3 (fun w' => w'.cell? ⟨g, 0, none⟩ = some (.int .u32 x1) ∧ w'.cell? ⟨g, 1, none⟩ = some (.int .u32 x2) ∧ w'.cell? ⟨g, 2, none⟩ = some (.slice B i d) ∧ w'.cell? ⟨g, 3, none⟩ = some (.slice B2 i' d2) ∧ w'.cell? ⟨w.heap.size, 0, none⟩ = some (.int .u8 k) ∧ w'.cell? ⟨w.heap.size, 1, none⟩ = some (.int .u8 f) ∧ w'.cell? ⟨w.heap.size, 2, none⟩ = some (.slice A n c))
                      (first | (with_reducible exact KK.out _ Z2) | (with_reducible exact KK.out _ Z1) | (with_reducible exact KK.out _ Zp) | exact KK.out _ Z0 | go_keep)
                      (first
                        | (have _z := PP; clear _z; go_at_call 25; refine (TS.out _ Z1.low _ _ (PP.out.1.rd (by omega))).mono ?_; rintro e u2 ⟨rfl, d2⟩; have Z2 := Z1.below d2; have B3 := B2.trans (d2.mono B2.size); clear d2)
                        | (have _z := Zp; clear _z; go_at_call 32; refine (TP.out _ B1.out).mono ?_; rintro e u1 ⟨AA, cc, rfl, PP⟩; have Z1 := Zp.below PP.out.2; have B2 := B1.out.trans (PP.out.2.mono B1.out.size))
                        | (go_at_call 61; refine (TA.out _ B0.out).mono ?_; rintro e u0 ⟨rfl, d0⟩; have Zp := Z0.below d0; have B1 := Aside.mk (B0.out.trans (d0.mono B0.out.size)); clear d0))
                    all_goals (
                      have O5 := Aside.mk (OP.out.below B3)
                      have O6 := Aside.mk (OD.out.below B3)
                      have ZZ := Aside.mk Z2
                      have kz5 := keep4 Z2.tail.h0
                      have fz := free7 Z2.tail.h0
                      clear TA TS TP KK Z0 Zp Z1 B0 B1 B2 B3
                      go_wp2_with fail
                      have fin : Aside (∀ v0 v1 v2 v3 : Value, OwnP 84 ((((u2.setCell ⟨w.heap.size + 1, 0, none⟩ v0).setCell ⟨w.heap.size + 1, 1, none⟩ v1).setCell ⟨w.heap.size + 1, 2, none⟩ v2).setCell ⟨w.heap.size + 1, 3, none⟩ v3) w.heap.size B i d (prs xs 12 i) ∧ OwnD ((((u2.setCell ⟨w.heap.size + 1, 0, none⟩ v0).setCell ⟨w.heap.size + 1, 1, none⟩ v1).setCell ⟨w.heap.size + 1, 2, none⟩ v2).setCell ⟨w.heap.size + 1, 3, none⟩ v3) w.heap.size B2 i' d2 (dds xs (12 + 4 * i) i') ∧ Below w.heap.size w ((((u2.setCell ⟨w.heap.size + 1, 0, none⟩ v0).setCell ⟨w.heap.size + 1, 1, none⟩ v1).setCell ⟨w.heap.size + 1, 2, none⟩ v2).setCell ⟨w.heap.size + 1, 3, none⟩ v3)) := ⟨fun v0 v1 v2 v3 => by
                        have u := ((((Upd.refl (Just (w.heap.size + 1)) u2).setCell ⟨w.heap.size + 1, 0, none⟩ v0 (fun _ => rfl)).setCell ⟨w.heap.size + 1, 1, none⟩ v1 (fun _ => rfl)).setCell ⟨w.heap.size + 1, 2, none⟩ v2 (fun _ => rfl)).setCell ⟨w.heap.size + 1, 3, none⟩ v3 (fun _ => rfl)
                        exact ⟨(O5.out.upd u (fun j hj => by rw [show j = _ from hj]; omega)).mono (by omega), (O6.out.upd u (fun j hj => by rw [show j = _ from hj]; omega)).mono (by omega), fin4_below ZZ.out.low (by omega) _ _ _ _⟩⟩
                      first
                        | (have hN := NO.out HE.out
                           refine bodyPost_ret (v := .tuple #[sackZ, .int .i64 7]) (by simp [results, Try.results31, go_sem, sackZ, sackV, kz5]) rfl (hN _ (by first | exact ZZ.out.low | exact fin4_below ZZ.out.low (by omega) _ _ _ _))
                           done)
                        | (refine bodyPost_ret (v := .tuple #[sackV x1 x2 B i d B2 i' d2, .int .i64 0]) (by simp [results, Try.results31, go_sem, sackV, kz5]) rfl ⟨B, i, d, B2, i', d2, ?_, ?_⟩
                           · rw [(sack_yes HE.out).1, (sack_yes HE.out).1, XX.out.1, XX.out.2, HE.out]
                             rfl
                           · rw [(sack_yes HE.out).2.1, (sack_yes HE.out).2.2, EX.out.1, EX.out.2]
                             exact fin.out _ _ _ _)))
end Go.Proofs.Ytedbmpfjikaljaa
