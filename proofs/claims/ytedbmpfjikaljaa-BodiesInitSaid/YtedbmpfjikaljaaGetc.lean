/-
  Proved: what the program's functions that read a chunk of a number and one of a time do to memory and what they answer. Conditions: rows are shorter than five hundred thousand.
-/
import Derived.Test.YtedbmpfjikaljaaGetb
namespace Go.Proofs.Ytedbmpfjikaljaa
open Go.RowKit
set_option linter.unusedVariables false
set_option linter.unusedSimpArgs false
set_option linter.unusedSectionVars false
set_option maxRecDepth 100000

def cumE (k f : Int) (xs : List Int) : Bool := true && ((7 : Int) == k) && ((0 : Int) == f) && decide (cumL (gt xs 0 4) = xs)
set_option maxHeartbeats 4000000 in
theorem getCum_ (w : World) {k f : Int} {A : Option Addr} {n c : Nat} {xs : List Int} (h : Rd .u8 w A n c xs) (hy : Byt xs) (hn : n ≤ 500000) :
    Calls Try.prog 40 #[chunkV k f A n c] w fun e w' => e = .returned (.tuple #[pickV (cumE k f xs) (cumV (gt xs 0 4)) cumZ, errV (cumE k f xs)]) ∧ Below w.heap.size w w' := by
  have H := Aside.mk h
  have Y := Aside.mk hy
  have hb := gt_4 hy 0
  have hw : IntKind.u32.wrap (gt xs 0 4) = gt xs 0 4 := by rw [IntKind.wrap_u32]; omega
  clear h hy
  have G := Aside.mk (rg_start1 w (.cells #[.int .u8 k, .int .u8 f, .slice A n c] 24) A n c 0)
  unfold chunkV
  go_enter Try.func40, Try.ntmps40
  go_wp2_with fail
  have T1 := Aside.mk (fun (V : World) (K : List (Nat × Obj)) (hV : Rg w (w.heap.size + 1) K A n c 0 V) => rg_take H.out Y.out hV (by omega) 4 4 rfl (si := 4) rfl rfl)
  generalize hx : gt xs 0 4 = x at *
  have KP : Aside (∀ (V : World), V.heap[w.heap.size]? = some (.cells #[.int .u8 k, .int .u8 f, .slice A n c] 24) → V.cell? ⟨w.heap.size, 0, none⟩ = some (.int .u8 k) ∧ V.cell? ⟨w.heap.size, 1, none⟩ = some (.int .u8 f) ∧ V.cell? ⟨w.heap.size, 2, none⟩ = some (.slice A n c)) := ⟨fun V hV => keep3 hV⟩
  have T2 := Aside.mk (fun V (b : Below w.heap.size w V) => getCum0_ V (k := k) (f := f) (H.out.below b) x true 7 0 (cumL x) (fun V' b' => (putCum_ V' x hb.1 hb.2).mono fun e w' ⟨A, n, c, h1, h2, h3⟩ => ⟨A, n, c, h1, h2.rd (by have := h2.len; simp [cumL, bes_len] at this; omega), h3⟩) (E := cumE k f xs) (by unfold cumE; rw [hx]))
  go_region_held3 (fun w' => w'.cell? ⟨w.heap.size, 0, none⟩ = some (.int .u8 k) ∧ w'.cell? ⟨w.heap.size, 1, none⟩ = some (.int .u8 f) ∧ w'.cell? ⟨w.heap.size, 2, none⟩ = some (.slice A n c))
    (first | exact KP.out _ ((P3.out.block _ (lt_of_block P2.out.h0)).trans P2.out.h0) | exact KP.out _ P2.out.h0 | exact KP.out _ G.out.drew.h0 | exact KP.out _ G.out.h0 | go_keep)
    (first
      | (go_at_call 65; refine (T2.out _ P2.out.low).mono ?_; rintro e w3 ⟨rfl, b3⟩; have P3 := Aside.mk b3; clear b3)
      | (go_at_call 51; refine (T1.out _ _ (by first | exact G.out.drew | exact G.out)).mono ?_; rintro e w2 ⟨rfl, P2⟩))
  all_goals (
    have B := Aside.mk (P2.out.low.trans (P3.out.mono P2.out.low.size))
    go_wp2_with fail
    go_ret2
    exact ⟨by rw [hx]; rfl, B.out⟩)

/-- The function within: a chunk of a time, of the kind that the chunk has. -/
theorem timeIn_ (w V : World) {q : Nat} {k f : Int} {A : Option Addr} {n c : Nat} (hq : V.heap[q]? = some (.cells #[.int .u8 k, .int .u8 f, .slice A n c] 24)) (x : Int) (h0 : -9223372036854775808 ≤ x) (h1 : x < 9223372036854775808) :
    Calls Try.prog 64 #[timeV x, .pointer (some ⟨q, 0, none⟩)] V fun e w' => ∃ A n c, e = .returned (chunkV k 0 A n c) ∧ Rd .u8 w' A n c (timeL x) ∧ Below V.heap.size V w' := by
  obtain ⟨k0, k1, k2⟩ := keep3 hq
  have hql := lt_of_block hq
  clear hq
  unfold timeV
  go_enter Try.func64, Try.ntmps64
  have T := Aside.mk (putTime_ (V.alloc (.cells #[.int .u8 0, .int .u8 0, .slice none 0 0] 24)) k x h0 h1)
  go_wp2_with fail
  refine T.out.mono ?_
  rintro e w2 ⟨A, n, c, rfl, o, b⟩
  have r0 : Res (V.alloc (.cells #[.int .u8 0, .int .u8 0, .slice none 0 0] 24)) V.heap.size := heap_alloc_new V _
  have r1 := r0.below b (by simp)
  obtain ⟨c0, c1, c2⟩ := r1.cells
  obtain ⟨f0, f1, f2⟩ := r1.free
  have O := Aside.mk o
  have B := Aside.mk ((below_alloc V (.cells #[.int .u8 0, .int .u8 0, .slice none 0 0] 24)).trans (b.mono (by simp)))
  clear o b r0 r1 T
  unfold chunkV
  go_wp2_with fail
  refine bodyPost_ret (v := chunkV k 0 A n c) (by simp [results, Try.results64, go_sem, chunkV, c0, c1, c2]) rfl ⟨A, n, c, rfl, ?_, ?_⟩
  · have hl := O.out.len
    exact (fin_own O.out (by simp) _ _ _).rd (by simp [timeL, bes_len] at hl; omega)
  · exact fin_below B.out (Nat.le_refl _) _ _ _

def tim (y : Int) : Int := IntKind.i64.wrap y
def timeE (k f : Int) (xs : List Int) : Bool := ((k == 4) || (k == 5)) && (k == k) && ((0 : Int) == f) && decide (timeL (tim (gt xs 4 8)) = xs)
theorem tim_bd (y : Int) : -9223372036854775808 ≤ tim y ∧ tim y < 9223372036854775808 := by unfold tim; rw [IntKind.wrap_i64]; omega
set_option maxHeartbeats 4000000 in
theorem getTime_ (w : World) {k f : Int} {A : Option Addr} {n c : Nat} {xs : List Int} (h : Rd .u8 w A n c xs) (hy : Byt xs) (hn : n ≤ 500000) :
    Calls Try.prog 38 #[chunkV k f A n c] w fun e w' => e = .returned (.tuple #[pickV (timeE k f xs) (timeV (tim (gt xs 4 8))) timeZ, errV (timeE k f xs)]) ∧ Below w.heap.size w w' := by
  have H := Aside.mk h
  have Y := Aside.mk hy
  clear h hy
  have G := Aside.mk (rg_start1 w (.cells #[.int .u8 k, .int .u8 f, .slice A n c] 24) A n c 4)
  obtain ⟨may, hmay⟩ : ∃ may : Bool, ((k == 4) || (k == 5)) = may := ⟨_, rfl⟩
  have eq0 : timeE k f xs = (may && (k == k) && ((0 : Int) == f) && decide (timeL (tim (gt xs 4 8)) = xs)) := by rw [← hmay]; rfl
  have EQ := Aside.mk eq0.symm
  clear eq0
  have KP : Aside (∀ (V : World), V.heap[w.heap.size]? = some (.cells #[.int .u8 k, .int .u8 f, .slice A n c] 24) → V.cell? ⟨w.heap.size, 0, none⟩ = some (.int .u8 k) ∧ V.cell? ⟨w.heap.size, 1, none⟩ = some (.int .u8 f) ∧ V.cell? ⟨w.heap.size, 2, none⟩ = some (.slice A n c)) := ⟨fun V hV => keep3 hV⟩
  have T1 := Aside.mk (fun (V : World) (K : List (Nat × Obj)) (hV : Rg w (w.heap.size + 1) K A n c 4 V) => rg_take H.out Y.out hV (by omega) 8 12 rfl (si := 8) rfl rfl)
  have hb := tim_bd (gt xs 4 8)
  have hw : IntKind.i64.wrap (gt xs 4 8) = tim (gt xs 4 8) := rfl
  generalize hx : tim (gt xs 4 8) = x at *
  generalize hg : gt xs 4 8 = y at *
  have T2 := Aside.mk (fun V (b : Below w.heap.size w V) (hq : V.heap[w.heap.size]? = some (.cells #[.int .u8 k, .int .u8 f, .slice A n c] 24)) => getTime0_ V (k := k) (f := f) (H.out.below b) x may w.heap.size k 0 (timeL x) (fun V' b' => timeIn_ w V' ((b'.block _ (lt_of_block hq)).trans hq) x hb.1 hb.2) (E := timeE k f xs) EQ.out)
  have XX := Aside.mk hx
  have GG := Aside.mk hg
  clear hx hg EQ hb
  have body : ((k == 4) = true ∧ may = true) ∨ ((k == 4) = false ∧ (k == 5) = true ∧ may = true) ∨ ((k == 4) = false ∧ (k == 5) = false ∧ may = false) := by
    rw [← hmay]
    cases k == 4 <;> cases k == 5 <;> simp
  clear hmay
  unfold chunkV
  rcases body with ⟨h4, rfl⟩ | ⟨h4, h5, rfl⟩ | ⟨h4, h5, rfl⟩
  all_goals (
    go_enter Try.func38, Try.ntmps38
    go_wp2_with fail
    go_region_held3 (fun w' => w'.cell? ⟨w.heap.size, 0, none⟩ = some (.int .u8 k) ∧ w'.cell? ⟨w.heap.size, 1, none⟩ = some (.int .u8 f) ∧ w'.cell? ⟨w.heap.size, 2, none⟩ = some (.slice A n c))
      (first | exact KP.out _ ((P3.out.block _ (lt_of_block P2.out.h0)).trans P2.out.h0) | exact KP.out _ P2.out.h0 | exact KP.out _ G.out.drew.h0 | exact KP.out _ G.out.h0 | go_keep)
      (first
        | (go_at_call 63; refine (T2.out _ P2.out.low P2.out.h0).mono ?_; rintro e w3 ⟨rfl, b3⟩; have P3 := Aside.mk b3; clear b3)
        | (go_at_call 51; refine (T1.out _ _ (by first | exact G.out.drew | exact G.out)).mono ?_; rintro e w2 ⟨rfl, P2⟩))
    all_goals (
      have B := Aside.mk (P2.out.low.trans (P3.out.mono P2.out.low.size))
      go_wp2_with fail
      go_ret2
      exact ⟨rfl, B.out⟩))
end Go.Proofs.Ytedbmpfjikaljaa
