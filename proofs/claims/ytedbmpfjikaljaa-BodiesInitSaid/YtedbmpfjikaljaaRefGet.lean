/-
  Proved: what the reference's functions that read a chunk of a number and one of a time do to memory and what they answer. Conditions: rows are shorter than five hundred thousand.
-/
import Derived.Test.YtedbmpfjikaljaaRefPut
namespace Go.Proofs.Ytedbmpfjikaljaa
open Go.RowKit
set_option linter.unusedVariables false
set_option linter.unusedSimpArgs false
set_option linter.unusedSectionVars false
set_option maxRecDepth 100000

theorem bytq_be : ∀ (n : Nat) (x : Int), Byt (be n x)
  | 0, x => fun y hy => by simp [be] at hy
  | n + 1, x => fun y hy => by
    rw [be] at hy
    rcases List.mem_cons.1 hy with rfl | hy
    · omega
    · exact bytq_be n x y hy
theorem bytq_app {a b : List Int} (h : Byt a) (k : Byt b) : Byt (a ++ b) := fun y hy => by
  rcases List.mem_append.1 hy with hy | hy
  · exact h y hy
  · exact k y hy
theorem bytq_bes (n : Nat) (l : List Int) : Byt (bes n l) := fun y hy => by
  obtain ⟨x, _, hx⟩ := List.mem_flatMap.1 hy
  exact bytq_be n x y hx
theorem bytq_pairs (l : List (Int × Int)) : Byt (pairsL l) := fun y hy => by
  obtain ⟨x, _, hx⟩ := List.mem_flatMap.1 hy
  exact bytq_bes 2 _ y hx
theorem bytq_init (k a b c d e : Int) {bs : List Int} (h : Byt bs) : Byt (initL k a b c d e bs) := by
  have hh : Byt (headL a b c d e) := bytq_app (bytq_app (bytq_bes _ _) (bytq_bes _ _)) (bytq_bes _ _)
  unfold initL ackL
  split
  · refine bytq_app (bytq_app (bytq_app hh (bytq_bes _ _)) h) fun y hy => ?_
    rw [(List.mem_replicate.1 hy).2]
    decide
  · exact hh
theorem bytq_sack (a b : Int) (ps : List (Int × Int)) (ds : List Int) : Byt (sackL a b ps ds) := bytq_app (bytq_app (bytq_app (bytq_bes _ _) (bytq_bes _ _)) (bytq_pairs _)) (bytq_bes _ _)
theorem bytq_fwd (a : Int) (ps : List (Int × Int)) : Byt (fwdL a ps) := bytq_app (bytq_bes _ _) (bytq_pairs _)
theorem bytq_time (x : Int) : Byt (timeL x) := bytq_app (bytq_bes _ _) (bytq_bes _ _)
theorem bytq_cum (x : Int) : Byt (cumL x) := bytq_bes _ _
theorem bytq_data (a b c : Int) {bs : List Int} (h : Byt bs) : Byt (dataL a b c bs) := bytq_app (bytq_app (bytq_app (bytq_bes _ _) (bytq_bes _ _)) (bytq_bes _ _)) h

set_option maxHeartbeats 2000000 in
theorem refGetCum_ (w : World) {k f : Int} {A : Option Addr} {n c : Nat} {xs : List Int} (h : Rd .u8 w A n c xs) (hy : Byt xs) (hn : n ≤ 500000) :
    Calls Try.prog 41 #[chunkV k f A n c] w fun e w' => e = .returned (.tuple #[pickV (cumE k f xs) (cumV (gt xs 0 4)) cumZ, errV (cumE k f xs)]) ∧ Below w.heap.size w w' := by
  have H := Aside.mk h
  have Y := Aside.mk hy
  clear h hy
  have X0 := Aside.mk (boxed_new w (chunkO k f A n c))
  have kb0 := keep3 X0.out.box
  have T1 := Aside.mk (number_ _ (H.out.below X0.out.low) Y.out 0 (by omega) 4 rfl)
  have hb := gt_4 Y.out 0
  obtain ⟨E, hE⟩ : ∃ E, cumE k f xs = E := ⟨_, rfl⟩
  have EQ : Aside ((((7 : Int) == k) && ((0 : Int) == f) && decide (cumL (gt xs 0 4) = xs)) = E) := ⟨by rw [← hE]; simp [cumE]⟩
  rw [hE]
  clear hE
  generalize gt xs 0 4 = x at *
  have wx : IntKind.u32.wrap x = x := by rw [IntKind.wrap_u32]; omega
  unfold chunkV
  go_enter Try.func41, Try.ntmps41
  go_wp2_with fail
  refine T1.out.mono ?_
  rintro e w1 ⟨rfl, b1⟩
  have X1 := Aside.mk (X0.out.below b1)
  have kb1 := keep3 X1.out.box
  clear b1 T1 X0 kb0
  have TP := Aside.mk (refPutCum_ w1.drew x hb)
  have TS := Aside.mk (fun (V : World) (hV : Boxed w (chunkO k f A n c) V) (A2 : Option Addr) (c2 : Nat) (h2 : Rd .u8 V A2 4 c2 (cumL x)) => same_ V 7 0 k f h2 (H.out.below hV.low) (bytq_cum x) Y.out EQ.out)
  have KK : Aside (∀ V : World, V.heap[w.heap.size]? = some (chunkO k f A n c) → V.cell? ⟨w.heap.size, 0, none⟩ = some (.int .u8 k) ∧ V.cell? ⟨w.heap.size, 1, none⟩ = some (.int .u8 f) ∧ V.cell? ⟨w.heap.size, 2, none⟩ = some (.slice A n c)) := ⟨fun V h1 => keep3 h1⟩
  cases E
  all_goals (
    go_wp2_with fail
    go_region_held3 (fun w' => w'.cell? ⟨w.heap.size, 0, none⟩ = some (.int .u8 k) ∧ w'.cell? ⟨w.heap.size, 1, none⟩ = some (.int .u8 f) ∧ w'.cell? ⟨w.heap.size, 2, none⟩ = some (.slice A n c))
      (first | (with_reducible exact KK.out _ hc1) | (with_reducible exact KK.out _ ha1) | exact KK.out _ X1.out.drew.box | go_keep)
      (first
        | (go_at_call 25; refine (TS.out _ Y1.out _ _ (PP.out.1.rd (by omega))).mono ?_; rintro e u2 ⟨rfl, b2⟩; have Y2 := Aside.mk (Y1.out.below b2); have hc1 := Y2.out.box; clear b2)
        | (go_at_call 43; refine TP.out.mono ?_; rintro e u1 ⟨AA, cc, rfl, PP⟩; unfold chunkV; have Y1 := Aside.mk (X1.out.drew.below PP.out.2); have ha1 := Y1.out.box))
    all_goals (
      go_wp2_with fail
      go_ret2
      exact ⟨rfl, Y2.out.low⟩))

set_option maxHeartbeats 4000000 in
theorem refGetTime_ (w : World) {k f : Int} {A : Option Addr} {n c : Nat} {xs : List Int} (h : Rd .u8 w A n c xs) (hy : Byt xs) (hn : n ≤ 500000) :
    Calls Try.prog 39 #[chunkV k f A n c] w fun e w' => e = .returned (.tuple #[pickV (timeE k f xs) (timeV (tim (gt xs 4 8))) timeZ, errV (timeE k f xs)]) ∧ Below w.heap.size w w' := by
  have H := Aside.mk h
  have Y := Aside.mk hy
  clear h hy
  have X0 := Aside.mk (boxed_new w (chunkO k f A n c))
  have kb0 := keep3 X0.out.box
  have T1 := Aside.mk (number_ _ (H.out.below X0.out.low) Y.out 4 (by omega) 8 rfl)
  have hb := tim_bd (gt xs 4 8)
  have hw : IntKind.i64.wrap (gt xs 4 8) = tim (gt xs 4 8) := rfl
  obtain ⟨E, hE⟩ : ∃ E, timeE k f xs = E := ⟨_, rfl⟩
  have EQ : Aside ((((k == 4) || (k == 5)) && (k == k) && ((0 : Int) == f) && decide (timeL (tim (gt xs 4 8)) = xs)) = E) := ⟨hE⟩
  rw [hE]
  clear hE
  generalize tim (gt xs 4 8) = x at *
  generalize gt xs 4 8 = y at *
  unfold chunkV
  go_enter Try.func39, Try.ntmps39
  go_wp2_with fail
  refine T1.out.mono ?_
  rintro e w1 ⟨rfl, b1⟩
  have X1 := Aside.mk (X0.out.below b1)
  have kb1 := keep3 X1.out.box
  clear b1 T1 X0 kb0
  have KK : Aside (∀ V : World, V.heap[w.heap.size]? = some (chunkO k f A n c) → V.cell? ⟨w.heap.size, 0, none⟩ = some (.int .u8 k) ∧ V.cell? ⟨w.heap.size, 1, none⟩ = some (.int .u8 f) ∧ V.cell? ⟨w.heap.size, 2, none⟩ = some (.slice A n c)) := ⟨fun V h1 => keep3 h1⟩
  have TP := Aside.mk (refPutTime_ w1.drew k x hb)
  by_cases hk : k = 4 ∨ k = 5
  · rcases hk with rfl | rfl
    · have EQ2 : Aside ((((4 : Int) == 4) && ((0 : Int) == f) && decide (timeL x = xs)) = E) := ⟨by rw [← EQ.out]; simp⟩
      have TS := Aside.mk (fun (V : World) (hV : Boxed w (chunkO 4 f A n c) V) (A2 : Option Addr) (c2 : Nat) (h2 : Rd .u8 V A2 12 c2 (timeL x)) => same_ V 4 0 4 f h2 (H.out.below hV.low) (bytq_time x) Y.out EQ2.out)
      clear EQ EQ2
      cases E
      all_goals (
        go_wp2_with fail
        first
          | (go_region_law (first
                  | (have _z := PP; clear _z; go_simp; go_at_call 25; refine (TS.out _ Y1.out _ _ (PP.out.1.rd (by omega))).mono ?_; rintro e u2 ⟨rfl, b2⟩; have Y2 := Aside.mk (Y1.out.below b2); have hc1 := KK.out _ Y2.out.box; clear b2)
                  | (go_simp; go_at_call 42; refine TP.out.mono ?_; rintro e u1 ⟨AA, cc, rfl, PP⟩; unfold chunkV; have Y1 := Aside.mk (X1.out.drew.below PP.out.2); have ha1 := KK.out _ Y1.out.box)))
          | fail
        all_goals (
          go_wp2_with fail
          go_ret2
          exact ⟨rfl, Y2.out.low⟩))
    · have EQ2 : Aside ((((5 : Int) == 5) && ((0 : Int) == f) && decide (timeL x = xs)) = E) := ⟨by rw [← EQ.out]; simp⟩
      have TS := Aside.mk (fun (V : World) (hV : Boxed w (chunkO 5 f A n c) V) (A2 : Option Addr) (c2 : Nat) (h2 : Rd .u8 V A2 12 c2 (timeL x)) => same_ V 5 0 5 f h2 (H.out.below hV.low) (bytq_time x) Y.out EQ2.out)
      clear EQ EQ2
      cases E
      all_goals (
        go_wp2_with fail
        go_region_held3 (fun w' => w'.cell? ⟨w.heap.size, 0, none⟩ = some (.int .u8 5) ∧ w'.cell? ⟨w.heap.size, 1, none⟩ = some (.int .u8 f) ∧ w'.cell? ⟨w.heap.size, 2, none⟩ = some (.slice A n c))
          (first | (with_reducible exact KK.out _ hc1) | (with_reducible exact KK.out _ ha1) | exact KK.out _ X1.out.drew.box | go_keep)
          (first
            | (go_at_call 25; refine (TS.out _ Y1.out _ _ (PP.out.1.rd (by omega))).mono ?_; rintro e u2 ⟨rfl, b2⟩; have Y2 := Aside.mk (Y1.out.below b2); have hc1 := Y2.out.box; clear b2)
            | (go_at_call 42; refine TP.out.mono ?_; rintro e u1 ⟨AA, cc, rfl, PP⟩; unfold chunkV; have Y1 := Aside.mk (X1.out.drew.below PP.out.2); have ha1 := Y1.out.box))
        all_goals (
          go_wp2_with fail
          go_ret2
          exact ⟨rfl, Y2.out.low⟩))
  · obtain rfl : E = false := by rw [← EQ.out, show (k == 4) = false from beq_eq_false_iff_ne.2 (by omega), show (k == 5) = false from beq_eq_false_iff_ne.2 (by omega)]; rfl
    have h4 : (k != 4) = true := bne_iff_ne.2 (by omega)
    have h5 : (k != 5) = true := bne_iff_ne.2 (by omega)
    clear hk EQ
    go_wp2_with fail
    go_quiet (fail)
    all_goals (
      go_wp2_with fail
      go_ret2
      exact ⟨rfl, below_drewN X1.out.low _⟩)
end Go.Proofs.Ytedbmpfjikaljaa
