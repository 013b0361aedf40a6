/-
  Proved: what the reference's function that reads a chunk of a beginning does to memory and what it answers. Conditions: rows are shorter than fifty thousand.
-/
import Derived.Test.YtedbmpfjikaljaaRefInit
namespace Go.Proofs.Ytedbmpfjikaljaa
open Go.RowKit
set_option linter.unusedVariables false
set_option linter.unusedSimpArgs false
set_option linter.unusedSectionVars false
set_option maxRecDepth 100000

/-- What a reading of a chunk of a beginning is. -/
def initX (k f : Int) (xs : List Int) (at_ s : Nat) : Int := if initE k f xs = true then gt xs at_ s else 0
def initR (k f : Int) (xs : List Int) : List Int := if initE k f xs = true then initCk k xs else []
def initG (k f : Int) (xs : List Int) (B : Option Addr) (m d : Nat) : Value := initV (initX k f xs 0 4) (initX k f xs 4 4) (initX k f xs 8 2) (initX k f xs 10 2) (initX k f xs 12 4) B m d
theorem init_no {k f : Int} {xs : List Int} (h : initE k f xs = false) : (∀ a s, initX k f xs a s = 0) ∧ initR k f xs = [] := by
  unfold initX initR
  rw [h]
  exact ⟨fun _ _ => rfl, rfl⟩
theorem init_yes {k f : Int} {xs : List Int} (h : initE k f xs = true) : (∀ a s, initX k f xs a s = gt xs a s) ∧ initR k f xs = initCk k xs := by
  unfold initX initR
  rw [h]
  exact ⟨fun _ _ => rfl, rfl⟩
theorem initL_ge (k a b c d e : Int) (bs : List Int) : 16 ≤ (initL k a b c d e bs).length := by
  unfold initL ackL
  split
  · simp [headL_len, bes_len]
  · rw [headL_len]
    omega
theorem init_short {k f : Int} {xs : List Int} (h : xs.length < 16) : initE k f xs = false := by
  unfold initE
  rw [decide_eq_false, Bool.and_false]
  intro e
  have := congrArg List.length e
  have := initL_ge k (gt xs 0 4) (gt xs 4 4) (gt xs 8 2) (gt xs 10 2) (gt xs 12 4) (initCk k xs)
  omega
theorem init_kind {k f : Int} {xs : List Int} (h1 : k ≠ 1) (h2 : k ≠ 2) : initE k f xs = false := by
  unfold initE initMay
  rw [show (k == 1) = false from beq_eq_false_iff_ne.2 h1, show (k == 2) = false from beq_eq_false_iff_ne.2 h2]
  simp
theorem set6_keep {V : World} {h r : Nat} {o : Obj} (k : V.heap[h]? = some o) (hr : h ≠ r) (v0 v1 v2 v3 v4 v5 : Value) : ((((((V.setCell ⟨r, 0, none⟩ v0).setCell ⟨r, 1, none⟩ v1).setCell ⟨r, 2, none⟩ v2).setCell ⟨r, 3, none⟩ v3).setCell ⟨r, 4, none⟩ v4).setCell ⟨r, 5, none⟩ v5).heap[h]? = some o := by
  rw [Below.heap_setCell _ _ _ _ hr, Below.heap_setCell _ _ _ _ hr, Below.heap_setCell _ _ _ _ hr, Below.heap_setCell _ _ _ _ hr, Below.heap_setCell _ _ _ _ hr, Below.heap_setCell _ _ _ _ hr]
  exact k
theorem Hold.setAll6 {w V : World} {K : List (Nat × Obj)} {g : Nat} {a0 a1 a2 a3 a4 a5 : Value} {t : TypeId} (h : Hold w ((g, .cells #[a0, a1, a2, a3, a4, a5] t) :: K) V) (hg : w.heap.size ≤ g) (hK : ∀ p ∈ K, p.1 ≠ g) (v0 v1 v2 v3 v4 v5 : Value) :
    Hold w ((g, .cells #[v0, v1, v2, v3, v4, v5] t) :: K) ((((((V.setCell ⟨g, 0, none⟩ v0).setCell ⟨g, 1, none⟩ v1).setCell ⟨g, 2, none⟩ v2).setCell ⟨g, 3, none⟩ v3).setCell ⟨g, 4, none⟩ v4).setCell ⟨g, 5, none⟩ v5) := by
  have := (((((h.setI hg hK 0 v0).setI hg hK 1 v1).setI hg hK 2 v2).setI hg hK 3 v3).setI hg hK 4 v4).setI hg hK 5 v5
  simpa using this
theorem initE_1 {f : Int} {xs : List Int} : initE 1 f xs = (nz3 (gt xs 0 4) (gt xs 8 2) (gt xs 10 2) && (((0 : Int) == f) && decide (initL 1 (gt xs 0 4) (gt xs 4 4) (gt xs 8 2) (gt xs 10 2) (gt xs 12 4) [] = xs))) := by
  unfold initE initMay initCk
  simp [Bool.and_assoc]
theorem initE_2 {f : Int} {xs bs : List Int} (hc : ckL xs = bs) (h0 : 0 < bs.length) : initE 2 f xs = (nz3 (gt xs 0 4) (gt xs 8 2) (gt xs 10 2) && (((0 : Int) == f) && decide (initL 2 (gt xs 0 4) (gt xs 4 4) (gt xs 8 2) (gt xs 10 2) (gt xs 12 4) bs = xs))) := by
  unfold initE initMay initCk
  rw [if_pos rfl, hc, decide_eq_true h0]
  simp [Bool.and_assoc]
theorem initE_no {f : Int} {xs : List Int} (hc : ckL xs = []) : initE 2 f xs = false := by
  unfold initE initMay
  rw [hc]
  simp

set_option maxHeartbeats 8000000 in
theorem refGetInitK_1 (w : World) {f : Int} {A : Option Addr} {n c : Nat} {xs : List Int} (h : Rd .u8 w A n c xs) (hy : Byt xs) (hn : n ≤ 50000) :
    Calls Try.prog 45 #[chunkV 1 f A n c] w fun e w' => ∃ B m d, e = .returned (.tuple #[initG 1 f xs B m d, errV (initE 1 f xs)]) ∧ Own w' w.heap.size B m d (initR 1 f xs) ∧ Below w.heap.size w w' := by
  have H := Aside.mk h
  have Y := Aside.mk hy
  have hlen := Aside.mk h.len
  have hcap := h.cap
  have hmx := h.mx
  clear h hy
  have X0 := Aside.mk (hold_two w (.cells #[.int .u8 1, .int .u8 f, .slice A n c] 24) (.cells #[.int .u32 0, .int .u32 0, .int .u16 0, .int .u16 0, .int .u32 0, .slice none 0 0] 34))
  have kb0 := keep3 X0.out.tail.h0
  have kz0 : w.heap.size + 1 < ((w.alloc (.cells #[.int .u8 1, .int .u8 f, .slice A n c] 24)).alloc (.cells #[.int .u32 0, .int .u32 0, .int .u16 0, .int .u16 0, .int .u32 0, .slice none 0 0] 34)).heap.size := lt_of_block X0.out.h0
  have NO : Aside (initE 1 f xs = false → ∀ W : World, Below w.heap.size w W → ∃ B m d, Ending.returned (.tuple #[initZ, .int .i64 7]) = .returned (.tuple #[initG 1 f xs B m d, errV (initE 1 f xs)]) ∧ Own W w.heap.size B m d (initR 1 f xs) ∧ Below w.heap.size w W) := ⟨fun hE W b => by
    obtain ⟨e1, e2⟩ := init_no hE
    unfold initG
    rw [e1, e1, e1, e1, e1, e2, hE]
    exact ⟨none, 0, 0, rfl, own_nil _ _, b⟩⟩
  have N := Aside.mk (fun (V : World) (b : Below w.heap.size w V) (at_ : Nat) (h2 : at_ ≤ 200000) (s : Nat) (hs : isSized s = true) => number_ V (H.out.below b) Y.out at_ (by omega) s hs)
  have T1 := Aside.mk (fun (V : World) (b : Below w.heap.size w V) => N.out V b 0 (by omega) 4 rfl)
  have T2 := Aside.mk (fun (V : World) (b : Below w.heap.size w V) => N.out V b 4 (by omega) 4 rfl)
  have T3 := Aside.mk (fun (V : World) (b : Below w.heap.size w V) => N.out V b 8 (by omega) 2 rfl)
  have T4 := Aside.mk (fun (V : World) (b : Below w.heap.size w V) => N.out V b 10 (by omega) 2 rfl)
  have T5 := Aside.mk (fun (V : World) (b : Below w.heap.size w V) => N.out V b 12 (by omega) 4 rfl)
  have hb1 := gt_4 Y.out 0
  have hb2 := gt_4 Y.out 4
  have hb3 := gt_2 Y.out 8
  have hb4 := gt_2 Y.out 10
  have hb5 := gt_4 Y.out 12
  have GG : Aside (initE 1 f xs = true → ∀ B m d, initG 1 f xs B m d = initV (gt xs 0 4) (gt xs 4 4) (gt xs 8 2) (gt xs 10 2) (gt xs 12 4) B m d ∧ initR 1 f xs = initCk 1 xs) := ⟨fun hE B m d => by
    obtain ⟨e1, e2⟩ := init_yes hE
    unfold initG
    rw [e1, e1, e1, e1, e1, e2]
    exact ⟨rfl, rfl⟩⟩
  have EQ0 := Aside.mk (initE_1 (f := f) (xs := xs))
  generalize gt xs 0 4 = x1 at *
  generalize gt xs 4 4 = x2 at *
  generalize gt xs 8 2 = x3 at *
  generalize gt xs 10 2 = x4 at *
  generalize gt xs 12 4 = x5 at *
  have wr1 : IntKind.u32.wrap x1 = x1 := by rw [IntKind.wrap_u32]; omega
  have wr2 : IntKind.u32.wrap x2 = x2 := by rw [IntKind.wrap_u32]; omega
  have wr3 : IntKind.u16.wrap x3 = x3 := by rw [IntKind.wrap_u16]; omega
  have wr4 : IntKind.u16.wrap x4 = x4 := by rw [IntKind.wrap_u16]; omega
  have wr5 : IntKind.u32.wrap x5 = x5 := by rw [IntKind.wrap_u32]; omega
  -- the walk
  have hk1 : ((1 : Int) != 1) = false := rfl
  have hk2 : ((1 : Int) != 2) = true := rfl
  have hk3 : ((1 : Int) == 2) = false := rfl
  by_cases h4 : n < 16
  · have hE := Aside.mk (NO.out (init_short (by rw [hlen.out]; exact h4)))
    have hd : decide ((n : Int) < 16) = true := decide_eq_true (by omega)
    have fz := free7 X0.out.h0
    have kz := keep6 X0.out.h0
    have XE := X0
    clear NO T1 T2 T3 T4 T5
    unfold chunkV
    go_enter Try.func45, Try.ntmps45
    go_wp2_with fail
    try go_quiet (fail)
    go_wp2_with fail
    exact bodyPost_ret (v := .tuple #[initZ, .int .i64 7]) (by simp [results, Try.results45, go_sem, initZ, initV, kz]) rfl (hE.out _ (by first | with_reducible exact XE.out.low | with_reducible exact below_set6 XE.out.low (by omega) _ _ _ _ _ _ | with_reducible exact below_drewN XE.out.low _ | exact below_set6 (below_drewN XE.out.low _) (by omega) _ _ _ _ _ _))
  · have hd : decide ((n : Int) < 16) = false := decide_eq_false (by omega)
    unfold chunkV
    go_enter Try.func45, Try.ntmps45
    have KB : Aside (∀ V : World, V.heap[w.heap.size]? = some (.cells #[.int .u8 1, .int .u8 f, .slice A n c] 24) → V.cell? ⟨w.heap.size, 2, none⟩ = some (.slice A n c)) := ⟨fun V h => (keep3 h).2.2⟩
    go_upto_region 2 with (fail)
    go_cut [4] (fun s4 wx => ∃ (g : Nat), s4 = .pointer (some ⟨g, 0, none⟩) ∧ w.heap.size + 1 < g ∧ Aside (Hold w [(g, .cells #[.int .u32 x1, .int .u32 x2, .int .u16 x3, .int .u16 x4, .int .u32 x5, .slice none 0 0] 34), (w.heap.size + 1, .cells #[.int .u32 0, .int .u32 0, .int .u16 0, .int .u16 0, .int .u32 0, .slice none 0 0] 34), (w.heap.size, .cells #[.int .u8 1, .int .u8 f, .slice A n c] 24)] wx))
    case first =>
      have XA : Aside (Hold w ((w.heap.size + 1 + 1, .cells #[.int .u32 0, .int .u32 0, .int .u16 0, .int .u16 0, .int .u32 0, .slice none 0 0] 34) :: [(w.heap.size + 1, .cells #[.int .u32 0, .int .u32 0, .int .u16 0, .int .u16 0, .int .u32 0, .slice none 0 0] 34), (w.heap.size, .cells #[.int .u8 1, .int .u8 f, .slice A n c] 24)]) (((w.alloc (.cells #[.int .u8 1, .int .u8 f, .slice A n c] 24)).alloc (.cells #[.int .u32 0, .int .u32 0, .int .u16 0, .int .u16 0, .int .u32 0, .slice none 0 0] 34)).alloc (.cells #[.int .u32 0, .int .u32 0, .int .u16 0, .int .u16 0, .int .u32 0, .slice none 0 0] 34)).drew) := ⟨by simpa using (X0.out.alloc (.cells #[.int .u32 0, .int .u32 0, .int .u16 0, .int .u16 0, .int .u32 0, .slice none 0 0] 34)).drew⟩
      have ha0 := X0.out.drew.tail.h0
      have hz0 := XA.out.tail.tail.h0
      go_region_held3 (fun w' => w'.cell? ⟨w.heap.size, 2, none⟩ = some (.slice A n c))
        (first | (with_reducible exact KB.out _ (set6_keep ha5 (by omega) _ _ _ _ _ _)) | (with_reducible exact KB.out _ (alloc_keep ha5)) | (with_reducible exact KB.out _ (alloc_keep ha4)) | (with_reducible exact KB.out _ (alloc_keep ha3)) | (with_reducible exact KB.out _ (alloc_keep ha2)) | (with_reducible exact KB.out _ (alloc_keep ha1)) | (with_reducible exact KB.out _ ha5) | (with_reducible exact KB.out _ ha4) | (with_reducible exact KB.out _ ha3) | (with_reducible exact KB.out _ ha2) | (with_reducible exact KB.out _ ha1) | (with_reducible exact KB.out _ hz0) | (with_reducible exact KB.out _ ha0) | exact KB.out _ ha0 | go_keep)
        (first
          | (have _z := X4; clear _z; go_at_call 55; refine (T5.out _ (by first | with_reducible exact X4.out.low | with_reducible exact (X4.out.alloc _).low)).mono ?_; rintro e w5' ⟨rfl, b5⟩; (first | (have Y5 := Aside.mk (Y4.out.below b5); have X5 := Aside.mk Y5.out.tail; have kg5 := keep6 Y5.out.h0; have fg5 := free7 Y5.out.h0) | (with_reducible have X5 := Aside.mk (X4.out.below b5)) | (have Y5 := Aside.mk ((X4.out.alloc (.cells #[.int .u32 0, .int .u32 0, .int .u16 0, .int .u16 0, .int .u32 0, .slice none 0 0] 34)).below b5); have X5 := Aside.mk Y5.out.tail; have kg5 := keep6 Y5.out.h0; have fg5 := free7 Y5.out.h0)); have ha5 := X5.out.tail.h0; have z5 : w.heap.size + 1 < w5'.heap.size := lt_of_block X5.out.h0; clear b5)
          | (have _z := X3; clear _z; go_at_call 55; refine (T4.out _ (by first | with_reducible exact X3.out.low | with_reducible exact (X3.out.alloc _).low)).mono ?_; rintro e w4' ⟨rfl, b4⟩; (first | (have Y4 := Aside.mk (Y3.out.below b4); have X4 := Aside.mk Y4.out.tail; have kg4 := keep6 Y4.out.h0; have fg4 := free7 Y4.out.h0) | (with_reducible have X4 := Aside.mk (X3.out.below b4)) | (have Y4 := Aside.mk ((X3.out.alloc (.cells #[.int .u32 0, .int .u32 0, .int .u16 0, .int .u16 0, .int .u32 0, .slice none 0 0] 34)).below b4); have X4 := Aside.mk Y4.out.tail; have kg4 := keep6 Y4.out.h0; have fg4 := free7 Y4.out.h0)); have ha4 := X4.out.tail.h0; have z4 : w.heap.size + 1 < w4'.heap.size := lt_of_block X4.out.h0; clear b4)
          | (have _z := X2; clear _z; go_at_call 55; refine (T3.out _ (by first | with_reducible exact X2.out.low | with_reducible exact (X2.out.alloc _).low)).mono ?_; rintro e w3' ⟨rfl, b3⟩; (first | (have Y3 := Aside.mk (Y2.out.below b3); have X3 := Aside.mk Y3.out.tail; have kg3 := keep6 Y3.out.h0; have fg3 := free7 Y3.out.h0) | (with_reducible have X3 := Aside.mk (X2.out.below b3)) | (have Y3 := Aside.mk ((X2.out.alloc (.cells #[.int .u32 0, .int .u32 0, .int .u16 0, .int .u16 0, .int .u32 0, .slice none 0 0] 34)).below b3); have X3 := Aside.mk Y3.out.tail; have kg3 := keep6 Y3.out.h0; have fg3 := free7 Y3.out.h0)); have ha3 := X3.out.tail.h0; have z3 : w.heap.size + 1 < w3'.heap.size := lt_of_block X3.out.h0; clear b3)
          | (have _z := X1; clear _z; go_at_call 55; refine (T2.out _ (by first | with_reducible exact X1.out.low | with_reducible exact (X1.out.alloc _).low)).mono ?_; rintro e w2' ⟨rfl, b2⟩; (first | (have Y2 := Aside.mk (Y1.out.below b2); have X2 := Aside.mk Y2.out.tail; have kg2 := keep6 Y2.out.h0; have fg2 := free7 Y2.out.h0) | (with_reducible have X2 := Aside.mk (X1.out.below b2)) | (have Y2 := Aside.mk ((X1.out.alloc (.cells #[.int .u32 0, .int .u32 0, .int .u16 0, .int .u16 0, .int .u32 0, .slice none 0 0] 34)).below b2); have X2 := Aside.mk Y2.out.tail; have kg2 := keep6 Y2.out.h0; have fg2 := free7 Y2.out.h0)); have ha2 := X2.out.tail.h0; have z2 : w.heap.size + 1 < w2'.heap.size := lt_of_block X2.out.h0; clear b2)
          | (go_at_call 55; refine (T1.out _ (by first | with_reducible exact X0.out.drew.low | with_reducible exact XA.out.low)).mono ?_; rintro e w1' ⟨rfl, b1'⟩; (first | (with_reducible have X1 := Aside.mk (X0.out.drew.below b1')) | (have Y1 := Aside.mk (XA.out.below b1'); have X1 := Aside.mk Y1.out.tail; have kg1 := keep6 Y1.out.h0)); have ha1 := X1.out.tail.h0; have z1 : w.heap.size + 1 < w1'.heap.size := lt_of_block X1.out.h0; clear b1'))
      all_goals (
        go_wp2_with fail
        go_meet
        first
          | (with_reducible exact ⟨_, rfl, z5, ⟨X5.out.alloc _⟩⟩)
          | exact ⟨_, rfl, by omega, ⟨Hold.setAll6 Y5.out (by omega) (by intro p hp; simp at hp; rcases hp with rfl | rfl <;> simp <;> omega) _ _ _ _ _ _⟩⟩)
    case rest =>
      obtain ⟨g, rfl, hg, X6⟩ := hcut
      clear T1 T2 T3 T4 T5 X0 kb0 kz0 KB
      have O6 : Aside (Own wc (w.heap.size + 2) none 0 0 []) := ⟨own_nil _ _⟩
      have BDD : Aside (Byt ([] : List Int)) := ⟨fun y hy => by simp at hy⟩
      have kx := keep6 X6.out.h0
      have kb := keep3 X6.out.tail.tail.h0
      have XE := X6
      have fz := free7 X6.out.tail.h0
      have kz := keep6 X6.out.tail.h0
      cases e1 : (x1 == 0)
      case true =>
        have hE := Aside.mk (NO.out (by rw [EQ0.out]; unfold nz3; rw [show (x1 != 0) = false by rw [bne, e1]; rfl]; rfl))
        clear NO EQ0 O6 GG
        go_wp2_with fail
        go_quiet (fail)
        go_wp2_with fail
        exact bodyPost_ret (v := .tuple #[initZ, .int .i64 7]) (by simp [results, Try.results45, go_sem, initZ, initV, kz]) rfl (hE.out _ (by first | with_reducible exact XE.out.low | with_reducible exact below_set6 XE.out.low (by omega) _ _ _ _ _ _ | with_reducible exact below_drewN XE.out.low _ | exact below_set6 (below_drewN XE.out.low _) (by omega) _ _ _ _ _ _))
      case false =>
        cases e3 : (x3 == 0)
        case true =>
          have hE := Aside.mk (NO.out (by rw [EQ0.out]; unfold nz3; rw [show (x3 != 0) = false by rw [bne, e3]; rfl]; simp))
          clear NO EQ0 O6 GG
          go_wp2_with fail
          go_quiet (fail)
          go_wp2_with fail
          exact bodyPost_ret (v := .tuple #[initZ, .int .i64 7]) (by simp [results, Try.results45, go_sem, initZ, initV, kz]) rfl (hE.out _ (by first | with_reducible exact XE.out.low | with_reducible exact below_set6 XE.out.low (by omega) _ _ _ _ _ _ | with_reducible exact below_drewN XE.out.low _ | exact below_set6 (below_drewN XE.out.low _) (by omega) _ _ _ _ _ _))
        case false =>
          cases e4 : (x4 == 0)
          case true =>
            have hE := Aside.mk (NO.out (by rw [EQ0.out]; unfold nz3; rw [show (x4 != 0) = false by rw [bne, e4]; rfl]; simp))
            clear NO EQ0 O6 GG
            go_wp2_with fail
            go_quiet (fail)
            go_wp2_with fail
            exact bodyPost_ret (v := .tuple #[initZ, .int .i64 7]) (by simp [results, Try.results45, go_sem, initZ, initV, kz]) rfl (hE.out _ (by first | with_reducible exact XE.out.low | with_reducible exact below_set6 XE.out.low (by omega) _ _ _ _ _ _ | with_reducible exact below_drewN XE.out.low _ | exact below_set6 (below_drewN XE.out.low _) (by omega) _ _ _ _ _ _))
          case false =>
            obtain ⟨E, hE⟩ : ∃ E, initE 1 f xs = E := ⟨_, rfl⟩
            have EQ : Aside ((((1 : Int) == 1) && ((0 : Int) == f) && decide (initL 1 x1 x2 x3 x4 x5 [] = xs)) = E) := ⟨by rw [← hE, EQ0.out]; unfold nz3; rw [bne, e1, bne, e3, bne, e4]; simp⟩
            have HE := Aside.mk hE
            clear hE EQ0
            have RB := Aside.mk (O6.out.rd (by omega))
            have BD := Aside.mk (bytq_init 1 x1 x2 x3 x4 x5 BDD.out)
            have TP := Aside.mk (fun (V : World) (b : Below wc.heap.size wc V) => refPutInit_ V 1 x1 x2 x3 x4 x5 hb1 hb2 hb3 hb4 hb5 (RB.out.below b) (by omega) (16) (by first | rfl | simp))
            have TS := Aside.mk (fun (V : World) (hV : Below w.heap.size w V) (A2 : Option Addr) (c2 : Nat) (h2 : Rd .u8 V A2 (16) c2 (initL 1 x1 x2 x3 x4 x5 [])) => same_ V 1 0 1 f h2 (H.out.below hV) BD.out Y.out EQ.out)
            have KK : Aside (∀ V : World, Hold w [(g, .cells #[.int .u32 x1, .int .u32 x2, .int .u16 x3, .int .u16 x4, .int .u32 x5, .slice none 0 0] 34), (w.heap.size + 1, .cells #[.int .u32 0, .int .u32 0, .int .u16 0, .int .u16 0, .int .u32 0, .slice none 0 0] 34), (w.heap.size, .cells #[.int .u8 1, .int .u8 f, .slice A n c] 24)] V → V.cell? ⟨g, 0, none⟩ = some (.int .u32 x1) ∧ V.cell? ⟨g, 1, none⟩ = some (.int .u32 x2) ∧ V.cell? ⟨g, 2, none⟩ = some (.int .u16 x3) ∧ V.cell? ⟨g, 3, none⟩ = some (.int .u16 x4) ∧ V.cell? ⟨g, 4, none⟩ = some (.int .u32 x5) ∧ V.cell? ⟨g, 5, none⟩ = some (.slice none 0 0) ∧ V.cell? ⟨w.heap.size, 0, none⟩ = some (.int .u8 1) ∧ V.cell? ⟨w.heap.size, 1, none⟩ = some (.int .u8 f) ∧ V.cell? ⟨w.heap.size, 2, none⟩ = some (.slice A n c)) := ⟨fun V h => ⟨(keep6 h.h0).1, (keep6 h.h0).2.1, (keep6 h.h0).2.2.1, (keep6 h.h0).2.2.2.1, (keep6 h.h0).2.2.2.2.1, (keep6 h.h0).2.2.2.2.2, keep3 h.tail.tail.h0⟩⟩
            have Z0 := X6.out.drew
            have B0 := below_drewN (Below.refl wc.heap.size wc) 1
            clear EQ BD XE fz kz
            cases E
            all_goals (
              go_wp2_with fail
              go_region_held3 (fun w' => w'.cell? ⟨g, 0, none⟩ = some (.int .u32 x1) ∧ w'.cell? ⟨g, 1, none⟩ = some (.int .u32 x2) ∧ w'.cell? ⟨g, 2, none⟩ = some (.int .u16 x3) ∧ w'.cell? ⟨g, 3, none⟩ = some (.int .u16 x4) ∧ w'.cell? ⟨g, 4, none⟩ = some (.int .u32 x5) ∧ w'.cell? ⟨g, 5, none⟩ = some (.slice none 0 0) ∧ w'.cell? ⟨w.heap.size, 0, none⟩ = some (.int .u8 1) ∧ w'.cell? ⟨w.heap.size, 1, none⟩ = some (.int .u8 f) ∧ w'.cell? ⟨w.heap.size, 2, none⟩ = some (.slice A n c))
                (first | (with_reducible exact KK.out _ Z2) | (with_reducible exact KK.out _ Z1) | exact KK.out _ Z0 | go_keep)
                (first
                  | (have _z := PP; clear _z; go_at_call 25; refine (TS.out _ Z1.low _ _ (PP.out.1.rd (by omega))).mono ?_; rintro e u2 ⟨rfl, d2⟩; have Z2 := Z1.below d2; have B2 := B1.trans (d2.mono B1.size); clear d2)
                  | (go_at_call 46; refine (TP.out _ B0).mono ?_; rintro e u1 ⟨AA, cc, rfl, PP⟩; have Z1 := Z0.below PP.out.2; have B1 := B0.trans (PP.out.2.mono B0.size)))
              all_goals (
                have O5 := Aside.mk (O6.out.below B2)
                have ZZ := Aside.mk Z2
                have kz5 := keep6 Z2.tail.h0
                have fz := free7 Z2.tail.h0
                clear TS TP KK Z0 Z1 B0 B1 B2
                go_wp2_with fail
                first
                  | (have hN := NO.out HE.out
                     refine bodyPost_ret (v := .tuple #[initZ, .int .i64 7]) (by simp [results, Try.results45, go_sem, initZ, initV, kz5]) rfl (hN _ (by first | with_reducible exact ZZ.out.low | with_reducible exact below_set6 ZZ.out.low (by omega) _ _ _ _ _ _))
                     done)
                  | (refine bodyPost_ret (v := .tuple #[initV x1 x2 x3 x4 x5 none 0 0, .int .i64 0]) (by simp [results, Try.results45, go_sem, initV, kz5]) rfl ⟨none, 0, 0, ?_, ?_, ?_⟩
                     · rw [(GG.out HE.out none 0 0).1, HE.out]
                       rfl
                     · rw [(GG.out HE.out none 0 0).2]
                       exact (own_set6 (r := w.heap.size + 1) O5.out (by omega) _ _ _ _ _ _).mono (by omega)
                     · exact below_set6 ZZ.out.low (by omega) _ _ _ _ _ _)))
set_option maxHeartbeats 8000000 in
theorem refGetInitK_2 (w : World) {f : Int} {A : Option Addr} {n c : Nat} {xs : List Int} (h : Rd .u8 w A n c xs) (hy : Byt xs) (hn : n ≤ 50000) :
    Calls Try.prog 45 #[chunkV 2 f A n c] w fun e w' => ∃ B m d, e = .returned (.tuple #[initG 2 f xs B m d, errV (initE 2 f xs)]) ∧ Own w' w.heap.size B m d (initR 2 f xs) ∧ Below w.heap.size w w' := by
  have H := Aside.mk h
  have Y := Aside.mk hy
  have hlen := Aside.mk h.len
  have hcap := h.cap
  have hmx := h.mx
  clear h hy
  have X0 := Aside.mk (hold_two w (.cells #[.int .u8 2, .int .u8 f, .slice A n c] 24) (.cells #[.int .u32 0, .int .u32 0, .int .u16 0, .int .u16 0, .int .u32 0, .slice none 0 0] 34))
  have kb0 := keep3 X0.out.tail.h0
  have kz0 : w.heap.size + 1 < ((w.alloc (.cells #[.int .u8 2, .int .u8 f, .slice A n c] 24)).alloc (.cells #[.int .u32 0, .int .u32 0, .int .u16 0, .int .u16 0, .int .u32 0, .slice none 0 0] 34)).heap.size := lt_of_block X0.out.h0
  have NO : Aside (initE 2 f xs = false → ∀ W : World, Below w.heap.size w W → ∃ B m d, Ending.returned (.tuple #[initZ, .int .i64 7]) = .returned (.tuple #[initG 2 f xs B m d, errV (initE 2 f xs)]) ∧ Own W w.heap.size B m d (initR 2 f xs) ∧ Below w.heap.size w W) := ⟨fun hE W b => by
    obtain ⟨e1, e2⟩ := init_no hE
    unfold initG
    rw [e1, e1, e1, e1, e1, e2, hE]
    exact ⟨none, 0, 0, rfl, own_nil _ _, b⟩⟩
  have N := Aside.mk (fun (V : World) (b : Below w.heap.size w V) (at_ : Nat) (h2 : at_ ≤ 200000) (s : Nat) (hs : isSized s = true) => number_ V (H.out.below b) Y.out at_ (by omega) s hs)
  have T1 := Aside.mk (fun (V : World) (b : Below w.heap.size w V) => N.out V b 0 (by omega) 4 rfl)
  have T2 := Aside.mk (fun (V : World) (b : Below w.heap.size w V) => N.out V b 4 (by omega) 4 rfl)
  have T3 := Aside.mk (fun (V : World) (b : Below w.heap.size w V) => N.out V b 8 (by omega) 2 rfl)
  have T4 := Aside.mk (fun (V : World) (b : Below w.heap.size w V) => N.out V b 10 (by omega) 2 rfl)
  have T5 := Aside.mk (fun (V : World) (b : Below w.heap.size w V) => N.out V b 12 (by omega) 4 rfl)
  have hb1 := gt_4 Y.out 0
  have hb2 := gt_4 Y.out 4
  have hb3 := gt_2 Y.out 8
  have hb4 := gt_2 Y.out 10
  have hb5 := gt_4 Y.out 12
  have GG : Aside (initE 2 f xs = true → ∀ B m d, initG 2 f xs B m d = initV (gt xs 0 4) (gt xs 4 4) (gt xs 8 2) (gt xs 10 2) (gt xs 12 4) B m d ∧ initR 2 f xs = initCk 2 xs) := ⟨fun hE B m d => by
    obtain ⟨e1, e2⟩ := init_yes hE
    unfold initG
    rw [e1, e1, e1, e1, e1, e2]
    exact ⟨rfl, rfl⟩⟩
  have T6 := Aside.mk (fun (V : World) (b : Below w.heap.size w V) => N.out V b 18 (by omega) 2 rfl)
  have hb6 := gt_2 Y.out 18
  have CK : Aside (ckL xs = if isWithin n ((20 : Nat) : Int) (gt xs 18 2 - 4) = true then (xs.drop 20).take (gt xs 18 2 - 4).toNat else []) := ⟨by unfold ckL; rw [hlen.out]⟩
  have EQ2 := Aside.mk (fun (bs : List Int) (hc : ckL xs = bs) (h0 : 0 < bs.length) => initE_2 (f := f) hc h0)
  have EN := Aside.mk (fun (hc : ckL xs = []) => initE_no (f := f) hc)
  have CK2 : Aside (initCk 2 xs = ckL xs) := ⟨rfl⟩
  generalize gt xs 18 2 = y at *
  generalize gt xs 0 4 = x1 at *
  generalize gt xs 4 4 = x2 at *
  generalize gt xs 8 2 = x3 at *
  generalize gt xs 10 2 = x4 at *
  generalize gt xs 12 4 = x5 at *
  have wr1 : IntKind.u32.wrap x1 = x1 := by rw [IntKind.wrap_u32]; omega
  have wr2 : IntKind.u32.wrap x2 = x2 := by rw [IntKind.wrap_u32]; omega
  have wr3 : IntKind.u16.wrap x3 = x3 := by rw [IntKind.wrap_u16]; omega
  have wr4 : IntKind.u16.wrap x4 = x4 := by rw [IntKind.wrap_u16]; omega
  have wr5 : IntKind.u32.wrap x5 = x5 := by rw [IntKind.wrap_u32]; omega
  -- the walk
  have hk1 : ((2 : Int) != 1) = true := rfl
  have hk2 : ((2 : Int) != 2) = false := rfl
  have hk3 : ((2 : Int) == 2) = true := rfl
  by_cases h4 : n < 16
  · have hE := Aside.mk (NO.out (init_short (by rw [hlen.out]; exact h4)))
    have hd : decide ((n : Int) < 16) = true := decide_eq_true (by omega)
    have fz := free7 X0.out.h0
    have kz := keep6 X0.out.h0
    have XE := X0
    clear NO T1 T2 T3 T4 T5
    unfold chunkV
    go_enter Try.func45, Try.ntmps45
    go_wp2_with fail
    try go_quiet (fail)
    go_wp2_with fail
    exact bodyPost_ret (v := .tuple #[initZ, .int .i64 7]) (by simp [results, Try.results45, go_sem, initZ, initV, kz]) rfl (hE.out _ (by first | with_reducible exact XE.out.low | with_reducible exact below_set6 XE.out.low (by omega) _ _ _ _ _ _ | with_reducible exact below_drewN XE.out.low _ | exact below_set6 (below_drewN XE.out.low _) (by omega) _ _ _ _ _ _))
  · have hd : decide ((n : Int) < 16) = false := decide_eq_false (by omega)
    unfold chunkV
    go_enter Try.func45, Try.ntmps45
    have KB : Aside (∀ V : World, V.heap[w.heap.size]? = some (.cells #[.int .u8 2, .int .u8 f, .slice A n c] 24) → V.cell? ⟨w.heap.size, 2, none⟩ = some (.slice A n c)) := ⟨fun V h => (keep3 h).2.2⟩
    go_upto_region 2 with (fail)
    go_cut [4] (fun s4 wx => ∃ (g : Nat), s4 = .pointer (some ⟨g, 0, none⟩) ∧ w.heap.size + 1 < g ∧ Aside (Hold w [(g, .cells #[.int .u32 x1, .int .u32 x2, .int .u16 x3, .int .u16 x4, .int .u32 x5, .slice none 0 0] 34), (w.heap.size + 1, .cells #[.int .u32 0, .int .u32 0, .int .u16 0, .int .u16 0, .int .u32 0, .slice none 0 0] 34), (w.heap.size, .cells #[.int .u8 2, .int .u8 f, .slice A n c] 24)] wx))
    case first =>
      have XA : Aside (Hold w ((w.heap.size + 1 + 1, .cells #[.int .u32 0, .int .u32 0, .int .u16 0, .int .u16 0, .int .u32 0, .slice none 0 0] 34) :: [(w.heap.size + 1, .cells #[.int .u32 0, .int .u32 0, .int .u16 0, .int .u16 0, .int .u32 0, .slice none 0 0] 34), (w.heap.size, .cells #[.int .u8 2, .int .u8 f, .slice A n c] 24)]) (((w.alloc (.cells #[.int .u8 2, .int .u8 f, .slice A n c] 24)).alloc (.cells #[.int .u32 0, .int .u32 0, .int .u16 0, .int .u16 0, .int .u32 0, .slice none 0 0] 34)).alloc (.cells #[.int .u32 0, .int .u32 0, .int .u16 0, .int .u16 0, .int .u32 0, .slice none 0 0] 34)).drew) := ⟨by simpa using (X0.out.alloc (.cells #[.int .u32 0, .int .u32 0, .int .u16 0, .int .u16 0, .int .u32 0, .slice none 0 0] 34)).drew⟩
      have ha0 := X0.out.drew.tail.h0
      have hz0 := XA.out.tail.tail.h0
      go_region_held3 (fun w' => w'.cell? ⟨w.heap.size, 2, none⟩ = some (.slice A n c))
        (first | (with_reducible exact KB.out _ (set6_keep ha5 (by omega) _ _ _ _ _ _)) | (with_reducible exact KB.out _ (alloc_keep ha5)) | (with_reducible exact KB.out _ (alloc_keep ha4)) | (with_reducible exact KB.out _ (alloc_keep ha3)) | (with_reducible exact KB.out _ (alloc_keep ha2)) | (with_reducible exact KB.out _ (alloc_keep ha1)) | (with_reducible exact KB.out _ ha5) | (with_reducible exact KB.out _ ha4) | (with_reducible exact KB.out _ ha3) | (with_reducible exact KB.out _ ha2) | (with_reducible exact KB.out _ ha1) | (with_reducible exact KB.out _ hz0) | (with_reducible exact KB.out _ ha0) | exact KB.out _ ha0 | go_keep)
        (first
          | (have _z := X4; clear _z; go_at_call 55; refine (T5.out _ (by first | with_reducible exact X4.out.low | with_reducible exact (X4.out.alloc _).low)).mono ?_; rintro e w5' ⟨rfl, b5⟩; (first | (have Y5 := Aside.mk (Y4.out.below b5); have X5 := Aside.mk Y5.out.tail; have kg5 := keep6 Y5.out.h0; have fg5 := free7 Y5.out.h0) | (with_reducible have X5 := Aside.mk (X4.out.below b5)) | (have Y5 := Aside.mk ((X4.out.alloc (.cells #[.int .u32 0, .int .u32 0, .int .u16 0, .int .u16 0, .int .u32 0, .slice none 0 0] 34)).below b5); have X5 := Aside.mk Y5.out.tail; have kg5 := keep6 Y5.out.h0; have fg5 := free7 Y5.out.h0)); have ha5 := X5.out.tail.h0; have z5 : w.heap.size + 1 < w5'.heap.size := lt_of_block X5.out.h0; clear b5)
          | (have _z := X3; clear _z; go_at_call 55; refine (T4.out _ (by first | with_reducible exact X3.out.low | with_reducible exact (X3.out.alloc _).low)).mono ?_; rintro e w4' ⟨rfl, b4⟩; (first | (have Y4 := Aside.mk (Y3.out.below b4); have X4 := Aside.mk Y4.out.tail; have kg4 := keep6 Y4.out.h0; have fg4 := free7 Y4.out.h0) | (with_reducible have X4 := Aside.mk (X3.out.below b4)) | (have Y4 := Aside.mk ((X3.out.alloc (.cells #[.int .u32 0, .int .u32 0, .int .u16 0, .int .u16 0, .int .u32 0, .slice none 0 0] 34)).below b4); have X4 := Aside.mk Y4.out.tail; have kg4 := keep6 Y4.out.h0; have fg4 := free7 Y4.out.h0)); have ha4 := X4.out.tail.h0; have z4 : w.heap.size + 1 < w4'.heap.size := lt_of_block X4.out.h0; clear b4)
          | (have _z := X2; clear _z; go_at_call 55; refine (T3.out _ (by first | with_reducible exact X2.out.low | with_reducible exact (X2.out.alloc _).low)).mono ?_; rintro e w3' ⟨rfl, b3⟩; (first | (have Y3 := Aside.mk (Y2.out.below b3); have X3 := Aside.mk Y3.out.tail; have kg3 := keep6 Y3.out.h0; have fg3 := free7 Y3.out.h0) | (with_reducible have X3 := Aside.mk (X2.out.below b3)) | (have Y3 := Aside.mk ((X2.out.alloc (.cells #[.int .u32 0, .int .u32 0, .int .u16 0, .int .u16 0, .int .u32 0, .slice none 0 0] 34)).below b3); have X3 := Aside.mk Y3.out.tail; have kg3 := keep6 Y3.out.h0; have fg3 := free7 Y3.out.h0)); have ha3 := X3.out.tail.h0; have z3 : w.heap.size + 1 < w3'.heap.size := lt_of_block X3.out.h0; clear b3)
          | (have _z := X1; clear _z; go_at_call 55; refine (T2.out _ (by first | with_reducible exact X1.out.low | with_reducible exact (X1.out.alloc _).low)).mono ?_; rintro e w2' ⟨rfl, b2⟩; (first | (have Y2 := Aside.mk (Y1.out.below b2); have X2 := Aside.mk Y2.out.tail; have kg2 := keep6 Y2.out.h0; have fg2 := free7 Y2.out.h0) | (with_reducible have X2 := Aside.mk (X1.out.below b2)) | (have Y2 := Aside.mk ((X1.out.alloc (.cells #[.int .u32 0, .int .u32 0, .int .u16 0, .int .u16 0, .int .u32 0, .slice none 0 0] 34)).below b2); have X2 := Aside.mk Y2.out.tail; have kg2 := keep6 Y2.out.h0; have fg2 := free7 Y2.out.h0)); have ha2 := X2.out.tail.h0; have z2 : w.heap.size + 1 < w2'.heap.size := lt_of_block X2.out.h0; clear b2)
          | (go_at_call 55; refine (T1.out _ (by first | with_reducible exact X0.out.drew.low | with_reducible exact XA.out.low)).mono ?_; rintro e w1' ⟨rfl, b1'⟩; (first | (with_reducible have X1 := Aside.mk (X0.out.drew.below b1')) | (have Y1 := Aside.mk (XA.out.below b1'); have X1 := Aside.mk Y1.out.tail; have kg1 := keep6 Y1.out.h0)); have ha1 := X1.out.tail.h0; have z1 : w.heap.size + 1 < w1'.heap.size := lt_of_block X1.out.h0; clear b1'))
      all_goals (
        go_wp2_with fail
        go_meet
        first
          | (with_reducible exact ⟨_, rfl, z5, ⟨X5.out.alloc _⟩⟩)
          | exact ⟨_, rfl, by omega, ⟨Hold.setAll6 Y5.out (by omega) (by intro p hp; simp at hp; rcases hp with rfl | rfl <;> simp <;> omega) _ _ _ _ _ _⟩⟩)
    case rest =>
      obtain ⟨g, rfl, hg, X6⟩ := hcut
      clear T1 T2 T3 T4 T5 X0 kb0 kz0 KB
      have kx := keep6 X6.out.h0
      have kb := keep3 X6.out.tail.tail.h0
      go_wp2_with fail
      refine (T6.out _ X6.out.low).mono ?_
      rintro e w7 ⟨rfl, b7⟩
      have X7 := Aside.mk (X6.out.below b7)
      have kb7 := keep3 X7.out.tail.tail.h0
      have wy : IntKind.i64.wrap y = y := by rw [IntKind.wrap_i64]; omega
      have wy4 : IntKind.i64.wrap (y - 4) = y - 4 := by rw [IntKind.wrap_i64]; omega
      have T7 := Aside.mk (fun (V : World) (b : Below w.heap.size w V) => rcut_ V (H.out.below b) 20 (by omega) (y - 4) (by omega) (by omega))
      clear b7 T6 X6 kx kb
      cases hw : isWithin n ((20 : Nat) : Int) (y - 4)
      case false =>
        rw [hw] at T7
        have hE := Aside.mk (NO.out (EN.out (by rw [CK.out, hw]; rfl)))
        clear NO EQ2 EN CK GG
        go_wp2_with fail
        refine (T7.out _ X7.out.low).mono ?_
        rintro e w8 ⟨b8, he8⟩
        have he8' : e = .returned (.tuple #[.slice none 0 0, .bool false]) := he8
        subst he8'
        have X8 := Aside.mk (X7.out.below b8)
        have XE := X8
        have fz := free7 X8.out.tail.h0
        have kz := keep6 X8.out.tail.h0
        clear b8 he8 T7
        go_wp2_with fail
        try go_quiet (fail)
        go_wp2_with fail
        exact bodyPost_ret (v := .tuple #[initZ, .int .i64 7]) (by simp [results, Try.results45, go_sem, initZ, initV, kz]) rfl (hE.out _ (by first | with_reducible exact XE.out.low | with_reducible exact below_set6 XE.out.low (by omega) _ _ _ _ _ _ | with_reducible exact below_drewN XE.out.low _ | exact below_set6 (below_drewN XE.out.low _) (by omega) _ _ _ _ _ _))
      case true =>
        rw [hw] at T7
        have hw2 := hw
        unfold isWithin at hw2
        simp only [Bool.and_eq_true, decide_eq_true_eq] at hw2
        have hy0 : 0 ≤ y - 4 := hw2.1.1.2
        have hyn : 20 + (y - 4) ≤ n := by omega
        clear hw2
        go_wp2_with fail
        refine (T7.out _ X7.out.low).mono ?_
        rintro e w8 ⟨b8, he8⟩
        obtain ⟨B, d, rfl, o8⟩ : ∃ A' c', e = .returned (.tuple #[.slice A' (y - 4).toNat c', .bool true]) ∧ Own w8 w7.heap.size A' (y - 4).toNat c' ((xs.drop 20).take (y - 4).toNat) := he8
        have X8 := Aside.mk (X7.out.below b8)
        have z7 := lt_of_block X7.out.h0
        obtain ⟨m, hm⟩ : ∃ m, (y - 4).toNat = m := ⟨_, rfl⟩
        rw [hm] at o8
        have CKB : Aside (ckL xs = (xs.drop 20).take m) := ⟨by rw [CK.out, hw, hm]; rfl⟩
        clear b8 T7 hw
        by_cases hy1 : y - 4 < 1
        · have hd1 : decide (y - 4 < 1) = true := decide_eq_true hy1
          have hE := Aside.mk (NO.out (EN.out (by rw [CKB.out, show m = 0 by omega]; rfl)))
          have XE := X8
          have fz := free7 X8.out.tail.h0
          have kz := keep6 X8.out.tail.h0
          clear NO EQ2 EN CK GG o8
          go_wp2_with fail
          try go_quiet (fail)
          go_wp2_with fail
          exact bodyPost_ret (v := .tuple #[initZ, .int .i64 7]) (by simp [results, Try.results45, go_sem, initZ, initV, kz]) rfl (hE.out _ (by first | with_reducible exact XE.out.low | with_reducible exact below_set6 XE.out.low (by omega) _ _ _ _ _ _ | with_reducible exact below_drewN XE.out.low _ | exact below_set6 (below_drewN XE.out.low _) (by omega) _ _ _ _ _ _))
        · have hd1 : decide (y - 4 < 1) = false := decide_eq_false hy1
          have hml := o8.len
          have kg8 := keep6 X8.out.h0
          have fg8 := free7 X8.out.h0
          have kb8 := keep3 X8.out.tail.tail.h0
          have O6 := Aside.mk ((own_setCell (i := 5) o8 z7 (.slice B m d)).mono (show w.heap.size + 2 ≤ w7.heap.size by omega))
          have X6 : Aside (Hold w [(g, .cells #[.int .u32 x1, .int .u32 x2, .int .u16 x3, .int .u16 x4, .int .u32 x5, .slice B m d] 34), (w.heap.size + 1, .cells #[.int .u32 0, .int .u32 0, .int .u16 0, .int .u16 0, .int .u32 0, .slice none 0 0] 34), (w.heap.size, .cells #[.int .u8 2, .int .u8 f, .slice A n c] 24)] (w8.setCell ⟨g, 5, none⟩ (.slice B m d))) := ⟨by
            have := X8.out.setI (by omega) (by intro p hp; simp at hp; rcases hp with rfl | rfl <;> simp <;> omega) 5 (.slice B m d)
            simpa using this⟩
          have EQ0 := Aside.mk (EQ2.out _ CKB.out (by rw [hml]; omega))
          have GG2 := Aside.mk (fun (hE : initE 2 f xs = true) (B : Option Addr) (m' d : Nat) => (⟨(GG.out hE B m' d).1, (GG.out hE B m' d).2.trans (CK2.out.trans CKB.out)⟩ : initG 2 f xs B m' d = initV x1 x2 x3 x4 x5 B m' d ∧ initR 2 f xs = (xs.drop 20).take m))
          have BDD : Aside (Byt ((xs.drop 20).take m)) := ⟨fun y hy => Y.out y (List.mem_of_mem_drop (List.mem_of_mem_take hy))⟩
          have hmn : m ≤ 50000 := by omega
          generalize hdd : (xs.drop 20).take m = bs at *
          clear GG hdd o8 EQ2 EN CK CKB CK2 X7
          have GG := GG2
          clear GG2
          generalize hw9 : w8.setCell ⟨g, 5, none⟩ (.slice B m d) = w9 at *
          have kx := keep6 X6.out.h0
          have kb := keep3 X6.out.tail.tail.h0
          have XE := X6
          have fz := free7 X6.out.tail.h0
          have kz := keep6 X6.out.tail.h0
          cases e1 : (x1 == 0)
          case true =>
            have hE := Aside.mk (NO.out (by rw [EQ0.out]; unfold nz3; rw [show (x1 != 0) = false by rw [bne, e1]; rfl]; rfl))
            clear NO EQ0 O6 GG
            go_wp2_with fail
            go_quiet (fail)
            go_wp2_with fail
            exact bodyPost_ret (v := .tuple #[initZ, .int .i64 7]) (by simp [results, Try.results45, go_sem, initZ, initV, kz]) rfl (hE.out _ (by first | with_reducible exact XE.out.low | with_reducible exact below_set6 XE.out.low (by omega) _ _ _ _ _ _ | with_reducible exact below_drewN XE.out.low _ | exact below_set6 (below_drewN XE.out.low _) (by omega) _ _ _ _ _ _))
          case false =>
            cases e3 : (x3 == 0)
            case true =>
              have hE := Aside.mk (NO.out (by rw [EQ0.out]; unfold nz3; rw [show (x3 != 0) = false by rw [bne, e3]; rfl]; simp))
              clear NO EQ0 O6 GG
              go_wp2_with fail
              go_quiet (fail)
              go_wp2_with fail
              exact bodyPost_ret (v := .tuple #[initZ, .int .i64 7]) (by simp [results, Try.results45, go_sem, initZ, initV, kz]) rfl (hE.out _ (by first | with_reducible exact XE.out.low | with_reducible exact below_set6 XE.out.low (by omega) _ _ _ _ _ _ | with_reducible exact below_drewN XE.out.low _ | exact below_set6 (below_drewN XE.out.low _) (by omega) _ _ _ _ _ _))
            case false =>
              cases e4 : (x4 == 0)
              case true =>
                have hE := Aside.mk (NO.out (by rw [EQ0.out]; unfold nz3; rw [show (x4 != 0) = false by rw [bne, e4]; rfl]; simp))
                clear NO EQ0 O6 GG
                go_wp2_with fail
                go_quiet (fail)
                go_wp2_with fail
                exact bodyPost_ret (v := .tuple #[initZ, .int .i64 7]) (by simp [results, Try.results45, go_sem, initZ, initV, kz]) rfl (hE.out _ (by first | with_reducible exact XE.out.low | with_reducible exact below_set6 XE.out.low (by omega) _ _ _ _ _ _ | with_reducible exact below_drewN XE.out.low _ | exact below_set6 (below_drewN XE.out.low _) (by omega) _ _ _ _ _ _))
              case false =>
                obtain ⟨E, hE⟩ : ∃ E, initE 2 f xs = E := ⟨_, rfl⟩
                have EQ : Aside ((((2 : Int) == 2) && ((0 : Int) == f) && decide (initL 2 x1 x2 x3 x4 x5 bs = xs)) = E) := ⟨by rw [← hE, EQ0.out]; unfold nz3; rw [bne, e1, bne, e3, bne, e4]; simp⟩
                have HE := Aside.mk hE
                clear hE EQ0
                have RB := Aside.mk (O6.out.rd (by omega))
                have BD := Aside.mk (bytq_init 2 x1 x2 x3 x4 x5 BDD.out)
                have TP := Aside.mk (fun (V : World) (b : Below w9.heap.size w9 V) => refPutInit_ V 2 x1 x2 x3 x4 x5 hb1 hb2 hb3 hb4 hb5 (RB.out.below b) (by omega) (20 + (m + 3) / 4 * 4) (by first | rfl | simp))
                have TS := Aside.mk (fun (V : World) (hV : Below w.heap.size w V) (A2 : Option Addr) (c2 : Nat) (h2 : Rd .u8 V A2 (20 + (m + 3) / 4 * 4) c2 (initL 2 x1 x2 x3 x4 x5 bs)) => same_ V 2 0 2 f h2 (H.out.below hV) BD.out Y.out EQ.out)
                have KK : Aside (∀ V : World, Hold w [(g, .cells #[.int .u32 x1, .int .u32 x2, .int .u16 x3, .int .u16 x4, .int .u32 x5, .slice B m d] 34), (w.heap.size + 1, .cells #[.int .u32 0, .int .u32 0, .int .u16 0, .int .u16 0, .int .u32 0, .slice none 0 0] 34), (w.heap.size, .cells #[.int .u8 2, .int .u8 f, .slice A n c] 24)] V → V.cell? ⟨g, 0, none⟩ = some (.int .u32 x1) ∧ V.cell? ⟨g, 1, none⟩ = some (.int .u32 x2) ∧ V.cell? ⟨g, 2, none⟩ = some (.int .u16 x3) ∧ V.cell? ⟨g, 3, none⟩ = some (.int .u16 x4) ∧ V.cell? ⟨g, 4, none⟩ = some (.int .u32 x5) ∧ V.cell? ⟨g, 5, none⟩ = some (.slice B m d) ∧ V.cell? ⟨w.heap.size, 0, none⟩ = some (.int .u8 2) ∧ V.cell? ⟨w.heap.size, 1, none⟩ = some (.int .u8 f) ∧ V.cell? ⟨w.heap.size, 2, none⟩ = some (.slice A n c)) := ⟨fun V h => ⟨(keep6 h.h0).1, (keep6 h.h0).2.1, (keep6 h.h0).2.2.1, (keep6 h.h0).2.2.2.1, (keep6 h.h0).2.2.2.2.1, (keep6 h.h0).2.2.2.2.2, keep3 h.tail.tail.h0⟩⟩
                have Z0 := X6.out.drew
                have B0 := below_drewN (Below.refl w9.heap.size w9) 1
                clear EQ BD XE fz kz
                cases E
                all_goals (
                  go_wp2_with fail
                  go_region_held3 (fun w' => w'.cell? ⟨g, 0, none⟩ = some (.int .u32 x1) ∧ w'.cell? ⟨g, 1, none⟩ = some (.int .u32 x2) ∧ w'.cell? ⟨g, 2, none⟩ = some (.int .u16 x3) ∧ w'.cell? ⟨g, 3, none⟩ = some (.int .u16 x4) ∧ w'.cell? ⟨g, 4, none⟩ = some (.int .u32 x5) ∧ w'.cell? ⟨g, 5, none⟩ = some (.slice B m d) ∧ w'.cell? ⟨w.heap.size, 0, none⟩ = some (.int .u8 2) ∧ w'.cell? ⟨w.heap.size, 1, none⟩ = some (.int .u8 f) ∧ w'.cell? ⟨w.heap.size, 2, none⟩ = some (.slice A n c))
                    (first | (with_reducible exact KK.out _ Z2) | (with_reducible exact KK.out _ Z1) | exact KK.out _ Z0 | go_keep)
                    (first
                      | (have _z := PP; clear _z; go_at_call 25; refine (TS.out _ Z1.low _ _ (PP.out.1.rd (by omega))).mono ?_; rintro e u2 ⟨rfl, d2⟩; have Z2 := Z1.below d2; have B2 := B1.trans (d2.mono B1.size); clear d2)
                      | (go_at_call 46; refine (TP.out _ B0).mono ?_; rintro e u1 ⟨AA, cc, rfl, PP⟩; have Z1 := Z0.below PP.out.2; have B1 := B0.trans (PP.out.2.mono B0.size)))
                  all_goals (
                    have O5 := Aside.mk (O6.out.below B2)
                    have ZZ := Aside.mk Z2
                    have kz5 := keep6 Z2.tail.h0
                    have fz := free7 Z2.tail.h0
                    clear TS TP KK Z0 Z1 B0 B1 B2
                    go_wp2_with fail
                    first
                      | (have hN := NO.out HE.out
                         refine bodyPost_ret (v := .tuple #[initZ, .int .i64 7]) (by simp [results, Try.results45, go_sem, initZ, initV, kz5]) rfl (hN _ (by first | with_reducible exact ZZ.out.low | with_reducible exact below_set6 ZZ.out.low (by omega) _ _ _ _ _ _))
                         done)
                      | (refine bodyPost_ret (v := .tuple #[initV x1 x2 x3 x4 x5 B m d, .int .i64 0]) (by simp [results, Try.results45, go_sem, initV, kz5]) rfl ⟨B, m, d, ?_, ?_, ?_⟩
                         · rw [(GG.out HE.out B m d).1, HE.out]
                           rfl
                         · rw [(GG.out HE.out B m d).2]
                           exact (own_set6 (r := w.heap.size + 1) O5.out (by omega) _ _ _ _ _ _).mono (by omega)
                         · exact below_set6 ZZ.out.low (by omega) _ _ _ _ _ _)))

set_option maxHeartbeats 2000000 in
theorem refGetInit_ (w : World) {k f : Int} {A : Option Addr} {n c : Nat} {xs : List Int} (h : Rd .u8 w A n c xs) (hy : Byt xs) (hn : n ≤ 50000) :
    Calls Try.prog 45 #[chunkV k f A n c] w fun e w' => ∃ B m d, e = .returned (.tuple #[initG k f xs B m d, errV (initE k f xs)]) ∧ Own w' w.heap.size B m d (initR k f xs) ∧ Below w.heap.size w w' := by
  by_cases hk1 : k = 1
  · subst hk1
    exact refGetInitK_1 w h hy hn
  · by_cases hk2 : k = 2
    · subst hk2
      exact refGetInitK_2 w h hy hn
    · have hE : initE k f xs = false := init_kind hk1 hk2
      obtain ⟨e1, e2⟩ := init_no hE
      have X0 := Aside.mk (hold_two w (.cells #[.int .u8 k, .int .u8 f, .slice A n c] 24) (.cells #[.int .u32 0, .int .u32 0, .int .u16 0, .int .u16 0, .int .u32 0, .slice none 0 0] 34))
      have kb0 := keep3 X0.out.tail.h0
      have fz := free7 X0.out.h0
      have kz := keep6 X0.out.h0
      have g1 : (k != 1) = true := bne_iff_ne.2 hk1
      have g2 : (k != 2) = true := bne_iff_ne.2 hk2
      unfold initG
      rw [e1, e1, e1, e1, e1, e2, hE]
      clear h hy
      unfold chunkV
      go_enter Try.func45, Try.ntmps45
      go_wp2_with fail
      try go_quiet (fail)
      go_wp2_with fail
      exact bodyPost_ret (v := .tuple #[initZ, .int .i64 7]) (by simp [results, Try.results45, go_sem, initZ, initV, kz]) rfl ⟨none, 0, 0, rfl, own_nil _ _, by first | with_reducible exact X0.out.low | with_reducible exact below_set6 X0.out.low (by omega) _ _ _ _ _ _ | with_reducible exact below_drewN X0.out.low _ | exact below_set6 (below_drewN X0.out.low _) (by omega) _ _ _ _ _ _⟩
end Go.Proofs.Ytedbmpfjikaljaa
