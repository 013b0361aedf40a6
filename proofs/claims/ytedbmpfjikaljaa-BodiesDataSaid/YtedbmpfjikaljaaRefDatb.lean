/-
  Proved: what the reference's function that reads a chunk of data does to memory and what it answers. Conditions: rows are shorter than fifty thousand.
-/
import Derived.Test.YtedbmpfjikaljaaRefData
namespace Go.Proofs.Ytedbmpfjikaljaa
open Go.RowKit
set_option linter.unusedVariables false
set_option linter.unusedSimpArgs false
set_option linter.unusedSectionVars false
set_option maxRecDepth 100000

/-- What a reading of a chunk of data is. -/
def dataT (k f : Int) (xs : List Int) : Int := if dataE k f xs = true then gt xs 0 4 else 0
def dataS (k f : Int) (xs : List Int) : Int := if dataE k f xs = true then gt xs 4 2 else 0
def dataQ (k f : Int) (xs : List Int) : Int := if dataE k f xs = true then gt xs 6 2 else 0
def dataB (k f x : Int) (xs : List Int) : Bool := if dataE k f xs = true then fl f x else false
def dataR (k f : Int) (xs : List Int) : List Int := if dataE k f xs = true then xs.drop 12 else []
theorem data_no {k f : Int} {xs : List Int} (h : dataE k f xs = false) : dataT k f xs = 0 ∧ dataS k f xs = 0 ∧ dataQ k f xs = 0 ∧ (∀ x, dataB k f x xs = false) ∧ dataR k f xs = [] := by
  unfold dataT dataS dataQ dataB dataR
  rw [h]
  exact ⟨rfl, rfl, rfl, fun _ => rfl, rfl⟩
theorem data_yes {k f : Int} {xs : List Int} (h : dataE k f xs = true) : dataT k f xs = gt xs 0 4 ∧ dataS k f xs = gt xs 4 2 ∧ dataQ k f xs = gt xs 6 2 ∧ (∀ x, dataB k f x xs = fl f x) ∧ dataR k f xs = xs.drop 12 := by
  unfold dataT dataS dataQ dataB dataR
  rw [h]
  exact ⟨rfl, rfl, rfl, fun _ => rfl, rfl⟩
def dataG (k f : Int) (xs : List Int) (B : Option Addr) (m d : Nat) : Value := dataV (dataT k f xs) (dataS k f xs) (dataQ k f xs) (dataB k f 4 xs) (dataB k f 2 xs) (dataB k f 1 xs) B m d
theorem Hold.setAll7 {w V : World} {K : List (Nat × Obj)} {g : Nat} {a0 a1 a2 a3 a4 a5 a6 : Value} {t : TypeId} (h : Hold w ((g, .cells #[a0, a1, a2, a3, a4, a5, a6] t) :: K) V) (hg : w.heap.size ≤ g) (hK : ∀ p ∈ K, p.1 ≠ g) (v0 v1 v2 v3 v4 v5 v6 : Value) :
    Hold w ((g, .cells #[v0, v1, v2, v3, v4, v5, v6] t) :: K) (((((((V.setCell ⟨g, 0, none⟩ v0).setCell ⟨g, 1, none⟩ v1).setCell ⟨g, 2, none⟩ v2).setCell ⟨g, 3, none⟩ v3).setCell ⟨g, 4, none⟩ v4).setCell ⟨g, 5, none⟩ v5).setCell ⟨g, 6, none⟩ v6) := by
  have := ((((((h.setI hg hK 0 v0).setI hg hK 1 v1).setI hg hK 2 v2).setI hg hK 3 v3).setI hg hK 4 v4).setI hg hK 5 v5).setI hg hK 6 v6
  simpa using this

set_option maxHeartbeats 8000000 in
theorem refGetData_ (w : World) {k f : Int} {A : Option Addr} {n c : Nat} {xs : List Int} (h : Rd .u8 w A n c xs) (hy : Byt xs) (hn : n ≤ 50000) :
    Calls Try.prog 24 #[chunkV k f A n c] w fun e w' => ∃ B m d, e = .returned (.tuple #[dataG k f xs B m d, errV (dataE k f xs)]) ∧ Own w' w.heap.size B m d (dataR k f xs) ∧ Below w.heap.size w w' := by
  have H := Aside.mk h
  have Y := Aside.mk hy
  have hlen := Aside.mk h.len
  have hcap := h.cap
  have hmx := h.mx
  clear h hy
  have X0 := Aside.mk (hold_two w (.cells #[.int .u8 k, .int .u8 f, .slice A n c] 24) (.cells #[.int .u32 0, .int .u16 0, .int .u16 0, .bool false, .bool false, .bool false, .slice none 0 0] 32))
  have kb0 := keep3 X0.out.tail.h0
  have kz0 : w.heap.size + 1 < ((w.alloc (.cells #[.int .u8 k, .int .u8 f, .slice A n c] 24)).alloc (.cells #[.int .u32 0, .int .u16 0, .int .u16 0, .bool false, .bool false, .bool false, .slice none 0 0] 32)).heap.size := lt_of_block X0.out.h0
  have NO : Aside (dataE k f xs = false → ∀ W : World, Below w.heap.size w W → ∃ B m d, Ending.returned (.tuple #[dataZ, .int .i64 7]) = .returned (.tuple #[dataG k f xs B m d, errV (dataE k f xs)]) ∧ Own W w.heap.size B m d (dataR k f xs) ∧ Below w.heap.size w W) := ⟨fun hE W b => by
    obtain ⟨e1, e2, e3, e4, e5⟩ := data_no hE
    unfold dataG
    rw [e1, e2, e3, e4, e4, e4, e5, hE]
    exact ⟨none, 0, 0, rfl, own_nil _ _, b⟩⟩
  by_cases h4 : n < 13
  · have hE := Aside.mk (NO.out (by unfold dataE; rw [decide_eq_false (by have := hlen.out; omega)]; rfl))
    have hd : decide ((n : Int) < 13) = true := decide_eq_true (by omega)
    have fz := free7 X0.out.h0
    have kz := keep7 X0.out.h0
    clear NO
    unfold chunkV
    go_enter Try.func24, Try.ntmps24
    go_wp2_with fail
    exact bodyPost_ret (v := .tuple #[dataZ, .int .i64 7]) (by simp [results, Try.results24, go_sem, dataZ, dataV, kz]) rfl (hE.out _ (by first | with_reducible exact X0.out.low | with_reducible exact below_set7 X0.out.low (by omega) _ _ _ _ _ _ _))
  · have hd : decide ((n : Int) < 13) = false := decide_eq_false (by omega)
    have hn1 : (12 : Int) ≤ (n : Int) := by omega
    have hn2 : (n : Int) ≤ (c : Int) := by omega
    have hn3 : (12 : Int) ≤ (c : Int) := by omega
    have hn4 : ¬ (c = 12) := by omega
    have hn5 : ¬ (c - 12 = 0) := by omega
    obtain ⟨ab, ao, rfl, _, _⟩ := H.out.get (i := 0) (by omega)
    have N := Aside.mk (fun (V : World) (b : Below w.heap.size w V) (at_ : Nat) (h2 : at_ ≤ 200000) (s : Nat) (hs : isSized s = true) => number_ V (H.out.below b) Y.out at_ (by omega) s hs)
    have T1 := Aside.mk (fun (V : World) (b : Below w.heap.size w V) => N.out V b 0 (by omega) 4 rfl)
    have T2 := Aside.mk (fun (V : World) (b : Below w.heap.size w V) => N.out V b 4 (by omega) 2 rfl)
    have T3 := Aside.mk (fun (V : World) (b : Below w.heap.size w V) => N.out V b 6 (by omega) 2 rfl)
    have T4 := Aside.mk (fun (V : World) (b : Below w.heap.size w V) => copy_ V ((H.out.below b).sub 12 (n - 12) (by omega)))
    have hdl : (xs.drop 12).take (n - 12) = xs.drop 12 := List.take_of_length_le (by rw [List.length_drop, hlen.out]; omega)
    rw [hdl] at T4
    simp only [Option.map_some, add_at] at T4
    obtain ⟨m, hm⟩ : ∃ m, n - 12 = m := ⟨_, rfl⟩
    rw [hm] at T4
    have hm1 : m + 12 ≤ n := by omega
    have hm2 : n ≤ m + 12 := by omega
    have hdr : (xs.drop 12).length = m := by rw [List.length_drop, hlen.out]; omega
    have HDR := Aside.mk hdr
    have hb1 := gt_4 Y.out 0
    have hb2 := gt_2 Y.out 4
    have hb3 := gt_2 Y.out 6
    have EQ0 : Aside (dataE k f xs = (((0 : Int) == k) && (flagsV (fl f 4) (fl f 2) (fl f 1) == f) && decide (dataL (gt xs 0 4) (gt xs 4 2) (gt xs 6 2) (xs.drop 12) = xs))) := ⟨by unfold dataE; rw [decide_eq_true (by have := hlen.out; omega), Bool.true_and]⟩
    have GG : Aside (dataE k f xs = true → ∀ B d, dataG k f xs B m d = dataV (gt xs 0 4) (gt xs 4 2) (gt xs 6 2) (fl f 4) (fl f 2) (fl f 1) B m d ∧ dataR k f xs = xs.drop 12) := ⟨fun hE B d => by
      obtain ⟨e1, e2, e3, e4, e5⟩ := data_yes hE
      unfold dataG
      rw [e1, e2, e3, e4, e4, e4, e5]
      exact ⟨rfl, rfl⟩⟩
    clear hdl hdr
    generalize gt xs 0 4 = x1 at *
    generalize gt xs 4 2 = x2 at *
    generalize gt xs 6 2 = x3 at *
    have wr1 : IntKind.u32.wrap x1 = x1 := by rw [IntKind.wrap_u32]; omega
    have wr2 : IntKind.u16.wrap x2 = x2 := by rw [IntKind.wrap_u16]; omega
    have wr3 : IntKind.u16.wrap x3 = x3 := by rw [IntKind.wrap_u16]; omega
    have u1 : (bits .and .u8 f 4 != 0) = fl f 4 := rfl
    have u2 : (bits .and .u8 f 2 != 0) = fl f 2 := rfl
    have u3 : (bits .and .u8 f 1 != 0) = fl f 1 := rfl
    generalize fl f 4 = b1 at *
    generalize fl f 2 = b2 at *
    generalize fl f 1 = b3 at *
    have BDD : Aside (Byt (xs.drop 12)) := ⟨fun y hy => Y.out y (List.mem_of_mem_drop hy)⟩
    generalize xs.drop 12 = dd at *
    have wsub : IntKind.i64.wrap ((n : Int) - 12) = ((m : Nat) : Int) := by rw [IntKind.wrap_i64]; omega
    have hsub : (n : Int) - 12 = ((m : Nat) : Int) := by omega
    unfold chunkV
    go_enter Try.func24, Try.ntmps24
    have KB : Aside (∀ V : World, V.heap[w.heap.size]? = some (.cells #[.int .u8 k, .int .u8 f, .slice (some ⟨ab, ao, none⟩) n c] 24) → V.cell? ⟨w.heap.size, 1, none⟩ = some (.int .u8 f) ∧ V.cell? ⟨w.heap.size, 2, none⟩ = some (.slice (some ⟨ab, ao, none⟩) n c)) := ⟨fun V h => (keep3 h).2⟩
    go_upto_region 2 with (fail)
    clear hd hsub
    go_cut [4] (fun s4 wx => ∃ (g : Nat) (B : Option Addr) (d : Nat), s4 = .pointer (some ⟨g, 0, none⟩) ∧ w.heap.size + 1 < g ∧ Aside (Hold w [(g, .cells #[.int .u32 x1, .int .u16 x2, .int .u16 x3, .bool b1, .bool b2, .bool b3, .slice B m d] 32), (w.heap.size + 1, .cells #[.int .u32 0, .int .u16 0, .int .u16 0, .bool false, .bool false, .bool false, .slice none 0 0] 32), (w.heap.size, .cells #[.int .u8 k, .int .u8 f, .slice (some ⟨ab, ao, none⟩) n c] 24)] wx ∧ Own wx (w.heap.size + 2) B m d dd))
    case first =>
      have XA : Aside (Hold w ((w.heap.size + 1 + 1, .cells #[.int .u32 0, .int .u16 0, .int .u16 0, .bool false, .bool false, .bool false, .slice none 0 0] 32) :: [(w.heap.size + 1, .cells #[.int .u32 0, .int .u16 0, .int .u16 0, .bool false, .bool false, .bool false, .slice none 0 0] 32), (w.heap.size, .cells #[.int .u8 k, .int .u8 f, .slice (some ⟨ab, ao, none⟩) n c] 24)]) (((w.alloc (.cells #[.int .u8 k, .int .u8 f, .slice (some ⟨ab, ao, none⟩) n c] 24)).alloc (.cells #[.int .u32 0, .int .u16 0, .int .u16 0, .bool false, .bool false, .bool false, .slice none 0 0] 32)).alloc (.cells #[.int .u32 0, .int .u16 0, .int .u16 0, .bool false, .bool false, .bool false, .slice none 0 0] 32)).drew) := ⟨by simpa using (X0.out.alloc (.cells #[.int .u32 0, .int .u16 0, .int .u16 0, .bool false, .bool false, .bool false, .slice none 0 0] 32)).drew⟩
      have ha0 := X0.out.drew.tail.h0
      have hz0 := XA.out.tail.tail.h0
      go_region_held3 (fun w' => w'.cell? ⟨w.heap.size, 1, none⟩ = some (.int .u8 f) ∧ w'.cell? ⟨w.heap.size, 2, none⟩ = some (.slice (some ⟨ab, ao, none⟩) n c))
        (first | (with_reducible exact KB.out _ (set7_keep ha4 (by omega) _ _ _ _ _ _ _)) | (with_reducible exact KB.out _ (alloc_keep ha4)) | (with_reducible exact KB.out _ (alloc_keep ha3)) | (with_reducible exact KB.out _ (alloc_keep ha2)) | (with_reducible exact KB.out _ (alloc_keep ha1)) | (with_reducible exact KB.out _ ha4) | (with_reducible exact KB.out _ ha3) | (with_reducible exact KB.out _ ha2) | (with_reducible exact KB.out _ ha1) | (with_reducible exact KB.out _ hz0) | (with_reducible exact KB.out _ ha0) | exact KB.out _ ha0 | go_keep)
        (first
          | (have _z := X3; clear _z; go_at_call 56; refine (T4.out _ (by first | with_reducible exact X3.out.low | with_reducible exact (X3.out.alloc _).low)).mono ?_; rintro e w4' ⟨B, d, rfl, o4, b4⟩; (first | (have Y4 := Aside.mk (Y3.out.below b4); have X4 := Aside.mk Y4.out.tail; have kg4 := keep7 Y4.out.h0; have fg4 := free7 Y4.out.h0; have zY := lt_of_block Y3.out.h0) | (with_reducible have X4 := Aside.mk (X3.out.below b4)) | (have Y4 := Aside.mk ((X3.out.alloc (.cells #[.int .u32 0, .int .u16 0, .int .u16 0, .bool false, .bool false, .bool false, .slice none 0 0] 32)).below b4); have X4 := Aside.mk Y4.out.tail; have kg4 := keep7 Y4.out.h0; have fg4 := free7 Y4.out.h0; have zY : w3'.heap.size < (w3'.alloc (.cells #[.int .u32 0, .int .u16 0, .int .u16 0, .bool false, .bool false, .bool false, .slice none 0 0] 32)).heap.size := (by simp))); have ha4 := X4.out.tail.h0; have z4 : w.heap.size + 1 < w4'.heap.size := lt_of_block X4.out.h0; have O4 := Aside.mk o4; clear b4 o4)
          | (have _z := X2; clear _z; go_at_call 55; refine (T3.out _ (by first | with_reducible exact X2.out.low | with_reducible exact (X2.out.alloc _).low)).mono ?_; rintro e w3' ⟨rfl, b3⟩; (first | (have Y3 := Aside.mk (Y2.out.below b3); have X3 := Aside.mk Y3.out.tail; have kg3 := keep7 Y3.out.h0; have fg3 := free7 Y3.out.h0; have zY := lt_of_block Y2.out.h0) | (with_reducible have X3 := Aside.mk (X2.out.below b3)) | (have Y3 := Aside.mk ((X2.out.alloc (.cells #[.int .u32 0, .int .u16 0, .int .u16 0, .bool false, .bool false, .bool false, .slice none 0 0] 32)).below b3); have X3 := Aside.mk Y3.out.tail; have kg3 := keep7 Y3.out.h0; have fg3 := free7 Y3.out.h0; have zY : w2'.heap.size < (w2'.alloc (.cells #[.int .u32 0, .int .u16 0, .int .u16 0, .bool false, .bool false, .bool false, .slice none 0 0] 32)).heap.size := (by simp))); have ha3 := X3.out.tail.h0; have z3 : w.heap.size + 1 < w3'.heap.size := lt_of_block X3.out.h0; clear b3)
          | (have _z := X1; clear _z; go_at_call 55; refine (T2.out _ (by first | with_reducible exact X1.out.low | with_reducible exact (X1.out.alloc _).low)).mono ?_; rintro e w2' ⟨rfl, b2⟩; (first | (have Y2 := Aside.mk (Y1.out.below b2); have X2 := Aside.mk Y2.out.tail; have kg2 := keep7 Y2.out.h0; have fg2 := free7 Y2.out.h0; have zY := lt_of_block Y1.out.h0) | (with_reducible have X2 := Aside.mk (X1.out.below b2)) | (have Y2 := Aside.mk ((X1.out.alloc (.cells #[.int .u32 0, .int .u16 0, .int .u16 0, .bool false, .bool false, .bool false, .slice none 0 0] 32)).below b2); have X2 := Aside.mk Y2.out.tail; have kg2 := keep7 Y2.out.h0; have fg2 := free7 Y2.out.h0; have zY : w1'.heap.size < (w1'.alloc (.cells #[.int .u32 0, .int .u16 0, .int .u16 0, .bool false, .bool false, .bool false, .slice none 0 0] 32)).heap.size := (by simp))); have ha2 := X2.out.tail.h0; have z2 : w.heap.size + 1 < w2'.heap.size := lt_of_block X2.out.h0; clear b2)
          | (go_at_call 55; refine (T1.out _ (by first | with_reducible exact X0.out.drew.low | with_reducible exact XA.out.low)).mono ?_; rintro e w1' ⟨rfl, b1'⟩; (first | (with_reducible have X1 := Aside.mk (X0.out.drew.below b1')) | (have Y1 := Aside.mk (XA.out.below b1'); have X1 := Aside.mk Y1.out.tail; have kg1 := keep7 Y1.out.h0)); have ha1 := X1.out.tail.h0; have z1 : w.heap.size + 1 < w1'.heap.size := lt_of_block X1.out.h0; clear b1'))
      all_goals (
        go_wp2_with fail
        go_meet
        first
          | (with_reducible exact ⟨_, B, d, rfl, z4, ⟨X4.out.alloc _, (O4.out.mono (by omega)).below (below_alloc _ _)⟩⟩)
          | exact ⟨_, B, d, rfl, by omega, ⟨Hold.setAll7 Y4.out (by omega) (by intro p hp; simp at hp; rcases hp with rfl | rfl <;> simp <;> omega) _ _ _ _ _ _ _, (own_set7 O4.out zY _ _ _ _ _ _ _).mono (by first | omega | (simp; omega))⟩⟩)
    case rest =>
      obtain ⟨g, B, d, rfl, hg, X4⟩ := hcut
      clear T1 T2 T3 T4 X0 kb0 kz0 N
      obtain ⟨E, hE⟩ : ∃ E, dataE k f xs = E := ⟨_, rfl⟩
      have EQ : Aside ((((0 : Int) == k) && (flagsV b1 b2 b3 == f) && decide (dataL x1 x2 x3 dd = xs)) = E) := ⟨by rw [← EQ0.out, hE]⟩
      have HE := Aside.mk hE
      clear hE EQ0 KB
      have RB := Aside.mk (X4.out.2.rd (by omega))
      have BD := Aside.mk (bytq_data x1 x2 x3 (bs := dd) BDD.out)
      have TP := Aside.mk (fun (V : World) (b : Below wc.heap.size wc V) => refPutData_ V x1 x2 x3 b1 b2 b3 hb1 hb2 hb3 (RB.out.below b) (by omega))
      have TS := Aside.mk (fun (V : World) (hV : Below w.heap.size w V) (A2 : Option Addr) (c2 : Nat) (h2 : Rd .u8 V A2 (12 + m) c2 (dataL x1 x2 x3 dd)) => same_ V 0 (flagsV b1 b2 b3) k f h2 (H.out.below hV) BD.out Y.out EQ.out)
      have KK : Aside (∀ V : World, Hold w [(g, .cells #[.int .u32 x1, .int .u16 x2, .int .u16 x3, .bool b1, .bool b2, .bool b3, .slice B m d] 32), (w.heap.size + 1, .cells #[.int .u32 0, .int .u16 0, .int .u16 0, .bool false, .bool false, .bool false, .slice none 0 0] 32), (w.heap.size, .cells #[.int .u8 k, .int .u8 f, .slice (some ⟨ab, ao, none⟩) n c] 24)] V → V.cell? ⟨g, 0, none⟩ = some (.int .u32 x1) ∧ V.cell? ⟨g, 1, none⟩ = some (.int .u16 x2) ∧ V.cell? ⟨g, 2, none⟩ = some (.int .u16 x3) ∧ V.cell? ⟨g, 3, none⟩ = some (.bool b1) ∧ V.cell? ⟨g, 4, none⟩ = some (.bool b2) ∧ V.cell? ⟨g, 5, none⟩ = some (.bool b3) ∧ V.cell? ⟨g, 6, none⟩ = some (.slice B m d) ∧ V.cell? ⟨w.heap.size, 0, none⟩ = some (.int .u8 k) ∧ V.cell? ⟨w.heap.size, 1, none⟩ = some (.int .u8 f) ∧ V.cell? ⟨w.heap.size, 2, none⟩ = some (.slice (some ⟨ab, ao, none⟩) n c)) := ⟨fun V h => ⟨(keep7 h.h0).1, (keep7 h.h0).2.1, (keep7 h.h0).2.2.1, (keep7 h.h0).2.2.2.1, (keep7 h.h0).2.2.2.2.1, (keep7 h.h0).2.2.2.2.2.1, (keep7 h.h0).2.2.2.2.2.2, keep3 h.tail.tail.h0⟩⟩
      have Z0 := X4.out.1.drew
      have B0 := below_drewN (Below.refl wc.heap.size wc) 1
      clear EQ BD
      cases E
      all_goals (
        go_wp2_with fail
        go_region_held3 (fun w' => w'.cell? ⟨g, 0, none⟩ = some (.int .u32 x1) ∧ w'.cell? ⟨g, 1, none⟩ = some (.int .u16 x2) ∧ w'.cell? ⟨g, 2, none⟩ = some (.int .u16 x3) ∧ w'.cell? ⟨g, 3, none⟩ = some (.bool b1) ∧ w'.cell? ⟨g, 4, none⟩ = some (.bool b2) ∧ w'.cell? ⟨g, 5, none⟩ = some (.bool b3) ∧ w'.cell? ⟨g, 6, none⟩ = some (.slice B m d) ∧ w'.cell? ⟨w.heap.size, 0, none⟩ = some (.int .u8 k) ∧ w'.cell? ⟨w.heap.size, 1, none⟩ = some (.int .u8 f) ∧ w'.cell? ⟨w.heap.size, 2, none⟩ = some (.slice (some ⟨ab, ao, none⟩) n c))
          (first | (with_reducible exact KK.out _ Z2) | (with_reducible exact KK.out _ Z1) | exact KK.out _ Z0 | go_keep)
          (first
            | (have _z := PP; clear _z; go_at_call 25; refine (TS.out _ Z1.low _ _ (PP.out.1.rd (by omega))).mono ?_; rintro e u2 ⟨rfl, d2⟩; have Z2 := Z1.below d2; have B2 := B1.trans (d2.mono B1.size); clear d2)
            | (go_at_call 26; refine (TP.out _ B0).mono ?_; rintro e u1 ⟨AA, cc, rfl, PP⟩; have Z1 := Z0.below PP.out.2; have B1 := B0.trans (PP.out.2.mono B0.size)))
        all_goals (
          have O5 := Aside.mk (X4.out.2.below B2)
          have ZZ := Aside.mk Z2
          have kz5 := keep7 Z2.tail.h0
          have fz := free7 Z2.tail.h0
          clear TS TP KK Z0 Z1 B0 B1 B2
          go_wp2_with fail
          first
            | (have hN := NO.out HE.out
               refine bodyPost_ret (v := .tuple #[dataZ, .int .i64 7]) (by simp [results, Try.results24, go_sem, dataZ, dataV, kz5]) rfl (hN _ (by first | with_reducible exact ZZ.out.low | with_reducible exact below_set7 ZZ.out.low (by omega) _ _ _ _ _ _ _))
               done)
            | (refine bodyPost_ret (v := .tuple #[dataV x1 x2 x3 b1 b2 b3 B m d, .int .i64 0]) (by simp [results, Try.results24, go_sem, dataV, kz5]) rfl ⟨B, m, d, ?_, ?_, ?_⟩
               · rw [(GG.out HE.out B d).1, HE.out]
                 rfl
               · rw [(GG.out HE.out B d).2]
                 exact (own_set7 (r := w.heap.size + 1) O5.out (by omega) _ _ _ _ _ _ _).mono (by omega)
               · exact below_set7 ZZ.out.low (by omega) _ _ _ _ _ _ _)))
end Go.Proofs.Ytedbmpfjikaljaa
