/-
  Proved: what the program's function that makes a chunk of a beginning does to memory and what it answers: the bytes of the body are those of the document. Conditions: the cookie is shorter than five hundred thousand bytes.
-/
import Derived.Test.YtedbmpfjikaljaaPutd
namespace Go.Proofs.Ytedbmpfjikaljaa
open Go.RowKit
set_option linter.unusedVariables false
set_option linter.unusedSimpArgs false
set_option linter.unusedSectionVars false
set_option maxRecDepth 100000

def headL (tag rwnd out inn tsn : Int) : List Int := bes 4 [tag, rwnd] ++ bes 2 [out, inn] ++ bes 4 [tsn]
def ackL (tag rwnd out inn tsn : Int) (bs : List Int) : List Int := headL tag rwnd out inn tsn ++ bes 2 [7, 4 + (bs.length : Int)] ++ bs ++ List.replicate (rnd (20 + bs.length) - (20 + bs.length)) 0
def initL (kind tag rwnd out inn tsn : Int) (bs : List Int) : List Int := if kind = 2 then ackL tag rwnd out inn tsn bs else headL tag rwnd out inn tsn

theorem keep6 {w : World} {h : Nat} {a b c d e f : Value} {t : TypeId} (k : w.heap[h]? = some (.cells #[a, b, c, d, e, f] t)) : w.cell? ⟨h, 0, none⟩ = some a ∧ w.cell? ⟨h, 1, none⟩ = some b ∧ w.cell? ⟨h, 2, none⟩ = some c ∧ w.cell? ⟨h, 3, none⟩ = some d ∧ w.cell? ⟨h, 4, none⟩ = some e ∧ w.cell? ⟨h, 5, none⟩ = some f :=
  ⟨by rw [blk_cell k]; rfl, by rw [blk_cell k]; rfl, by rw [blk_cell k]; rfl, by rw [blk_cell k]; rfl, by rw [blk_cell k]; rfl, by rw [blk_cell k]; rfl⟩

set_option maxHeartbeats 4000000 in
theorem putInit_ (w : World) (kind tag rwnd out inn tsn : Int) (h0 : 0 ≤ tag) (h1 : tag < 4294967296) (h2 : 0 ≤ rwnd) (h3 : rwnd < 4294967296) (h4 : 0 ≤ out) (h5 : out < 65536) (h6 : 0 ≤ inn) (h7 : inn < 65536) (h8 : 0 ≤ tsn) (h9 : tsn < 4294967296)
    {B : Option Addr} {n d : Nat} {bs : List Int} (h : Rd .u8 w B n d bs) (hn : n ≤ 500000) :
    Calls Try.prog 16 #[.int .u8 kind, .agg #[.int .u32 tag, .int .u32 rwnd, .int .u16 out, .int .u16 inn, .int .u32 tsn, .slice B n d]] w fun e w' => ∃ A n c, e = .returned (chunkV kind 0 A n c) ∧ Own w' w.heap.size A n c (initL kind tag rwnd out inn tsn bs) ∧ Below w.heap.size w w' := by
  have H := Aside.mk h
  have hbl0 := h.len
  have hmx := h.mx
  have hcp := h.cap
  clear h
  by_cases hk : kind = 2
  all_goals (
    first | subst hk | have hkb : (kind == 2) = false := beq_eq_false_iff_ne.2 hk
    go_enter Try.func16, Try.ntmps16
    go_wp2_with fail
    generalize hO : Obj.cells #[.int .u32 tag, .int .u32 rwnd, .int .u16 out, .int .u16 inn, .int .u32 tsn, .slice B n d] 34 = O
    generalize hW : (w.alloc O).alloc (.cells #[.int .u8 0, .int .u8 0, .slice none 0 0] 24) = W
    obtain ⟨hbox, hres, hbl, hsz⟩ := setup2 w _ hW
    clear hW
    rw [← hO] at hbox
    obtain ⟨k0, k1, k2, k3, k4, k5⟩ := keep6 hbox
    rw [hO] at hbox
    have hw1 : IntKind.u64.wrap tag = tag := by rw [IntKind.wrap_u64]; omega
    have hw2 : IntKind.u64.wrap rwnd = rwnd := by rw [IntKind.wrap_u64]; omega
    have hw3 : IntKind.u64.wrap out = out := by rw [IntKind.wrap_u64]; omega
    have hw4 : IntKind.u64.wrap inn = inn := by rw [IntKind.wrap_u64]; omega
    have G : Aside (Good w O W) := ⟨hbox, hres, hbl, by omega⟩
    have C1 := Aside.mk (fun (V : World) (g : Nat) (hg : V.heap[g]? = some (.cells #[.int .u64 (IntKind.u64.wrap tag), .int .u64 (IntKind.u64.wrap rwnd)] 86)) (hG : Good w O V) => good_put2 w _ V tag rwnd hG (own_nil V (w.heap.size + 2)) (by omega) hg hw1 hw2 (by omega) (by omega) 4 (si := 4) rfl rfl)
    have C2 := Aside.mk (fun (V : World) (A : Option Addr) (c : Nat) (xs : List Int) (ho : Own V (w.heap.size + 2) A 8 c xs) (g : Nat) (hg : V.heap[g]? = some (.cells #[.int .u64 (IntKind.u64.wrap out), .int .u64 (IntKind.u64.wrap inn)] 86)) (hG : Good w O V) => good_put2 w _ V out inn hG ho (by omega) hg hw3 hw4 (by omega) (by omega) 2 (si := 2) rfl rfl)
    have KP : Aside (∀ (V : World), V.heap[w.heap.size]? = some O → V.cell? ⟨w.heap.size, 0, none⟩ = some (.int .u32 tag) ∧ V.cell? ⟨w.heap.size, 1, none⟩ = some (.int .u32 rwnd) ∧ V.cell? ⟨w.heap.size, 2, none⟩ = some (.int .u16 out) ∧ V.cell? ⟨w.heap.size, 3, none⟩ = some (.int .u16 inn)) := ⟨fun V hV => by
      rw [← hO] at hV
      exact ⟨(keep6 hV).1, (keep6 hV).2.1, (keep6 hV).2.2.1, (keep6 hV).2.2.2.1⟩⟩
    have KQ : Aside (∀ (V : World), V.heap[w.heap.size]? = some O → V.cell? ⟨w.heap.size, 4, none⟩ = some (.int .u32 tsn) ∧ V.cell? ⟨w.heap.size, 5, none⟩ = some (.slice B n d)) := ⟨fun V hV => by
      rw [← hO] at hV
      exact ⟨(keep6 hV).2.2.2.2.1, (keep6 hV).2.2.2.2.2⟩⟩
    clear hw1 hw2 hw3 hw4 hbox hres hbl hsz k0 k1 k2 k3 k4 k5 hO
    go_region_held3 (fun w' => w'.cell? ⟨w.heap.size, 0, none⟩ = some (.int .u32 tag) ∧ w'.cell? ⟨w.heap.size, 1, none⟩ = some (.int .u32 rwnd) ∧ w'.cell? ⟨w.heap.size, 2, none⟩ = some (.int .u16 out) ∧ w'.cell? ⟨w.heap.size, 3, none⟩ = some (.int .u16 inn))
      (first | exact KP.out _ P3.out.1.box | exact KP.out _ (alloc_keep P2.out.1.box) | exact KP.out _ P2.out.1.box | exact KP.out _ (alloc_keep (alloc_keep G.out.box)) | exact KP.out _ (alloc_keep G.out.box) | exact KP.out _ G.out.box | go_keep)
      (first
        | (go_at_call 48; refine (C2.out _ A2 c2 _ (by first | exact P2.out.2.1 | exact P2.out.2.1.below (below_alloc w2 _)) _ (by first | exact heap_alloc_new _ _ | (refine (P2.out.2.2.block _ (by simp <;> omega)).trans ?_; first | exact heap_alloc_new _ _ | exact blk_new2 _ _ _ | exact alloc_keep (heap_alloc_new _ _))) (by first | exact P2.out.1 | exact P2.out.1.alloc _)).mono ?_; rintro e w3 ⟨A3, c3, rfl, P3⟩)
        | (go_at_call 48; refine (C1.out _ _ (by first | exact heap_alloc_new _ _ | exact blk_new2 _ _ _ | exact alloc_keep (heap_alloc_new _ _)) (by first | exact (G.out.alloc _).drew | exact ((G.out.alloc _).alloc _).drew)).mono ?_; rintro e w2 ⟨A2, c2, rfl, P2⟩))
    all_goals (
      have G3 := Aside.mk P3.out.1
      have O3 : Aside (Own w3 (w.heap.size + 2) A3 12 c3 (bes 4 [tag, rwnd] ++ bes 2 [out, inn])) := ⟨by simpa using P3.out.2.1⟩
      obtain ⟨q4, q5⟩ := KQ.out _ P3.out.1.box
      have C3 := Aside.mk (good_put1 w _ _ tsn (G3.out.alloc (.cells #[.int .u64 tsn] 86)) (O3.out.below (below_alloc w3 _)) (by omega) (heap_alloc_new w3 _) rfl (by omega) (by omega) 4 (si := 4) rfl rfl)
      clear P3 P2 C1 C2 G
      go_wp2_with fail
      refine C3.out.mono ?_
      rintro e w4 ⟨A4, c4, rfl, P4⟩
      have O4 : Aside (Own w4 (w.heap.size + 2) A4 16 c4 (headL tag rwnd out inn tsn)) := ⟨by simpa [headL] using P4.out.2.1⟩
      have G4 := Aside.mk P4.out.1
      obtain ⟨q4, q5⟩ := KQ.out _ P4.out.1.box
      obtain ⟨p0, p1, p2⟩ := P4.out.1.res.cells
      obtain ⟨f0, f1, f2⟩ := P4.out.1.res.free
      have C4 := Aside.mk (good_put2 w _ _ 7 (4 + n) (G4.out.alloc (.cells #[.int .u64 7, .int .u64 (4 + n)] 86)) (O4.out.below (below_alloc w4 _)) (by omega) (heap_alloc_new w4 _) rfl rfl (by omega) (by omega) 2 (si := 2) rfl rfl)
      clear P4 C3 G3 O3
      go_wp2_with fail
      first
        | (refine bodyPost_ret (v := chunkV kind 0 A4 16 c4) (by simp [results, Try.results16, go_sem, chunkV, p0, p1, p2]) rfl ⟨A4, 16, c4, rfl, ?_, fin_below (r := w.heap.size + 1) G4.out.low (by omega) _ _ _⟩
           have e : initL kind tag rwnd out inn tsn bs = headL tag rwnd out inn tsn := if_neg hk
           rw [e]
           exact (fin_own O4.out (by omega) _ _ _).mono (by omega))
        | (clear p0 p1 p2 f0 f1 f2
           refine C4.out.mono ?_
           rintro e w5 ⟨A5, c5, rfl, P5⟩
           obtain ⟨q4, q5⟩ := KQ.out _ P5.out.1.box
           have hs5 := P5.out.1.size
           obtain ⟨A6, c6, w6, hrun, o6, g6⟩ := append_run P5.out.2.1 P5.out.1.size (H.out.below P5.out.1.low) (by omega)
           have R := Aside.mk hrun
           have G6 := Aside.mk (P5.out.1.grown g6 (fun g hg => P5.out.2.1.base_le hg))
           have O6 := Aside.mk o6
           have C6 := Aside.mk (pad_ w6 (o6.rd (by omega)) (by omega))
           clear hrun o6 g6 P5 C4 O4 G4
           go_wp2_with (at_builtin; refine wpList_append_run 22 _ _ _ _ rfl rfl rfl rfl R.out ?_)
           refine C6.out.mono ?_
           rintro e w7 ⟨A7, c7, rfl, o7, b7⟩
           have G7 := Aside.mk (G6.out.below b7)
           have O7 := Aside.mk (o7.mono (show w.heap.size + 2 ≤ w6.heap.size from G6.out.size))
           obtain ⟨p0, p1, p2⟩ := G7.out.res.cells
           obtain ⟨f0, f1, f2⟩ := G7.out.res.free
           clear C6 o7 b7 R
           go_wp2_with fail
           refine bodyPost_ret (v := chunkV 2 0 A7 (rnd (20 + n)) c7) (by simp [results, Try.results16, go_sem, chunkV, p0, p1, p2]) rfl ⟨A7, rnd (20 + n), c7, rfl, ?_, fin_below (r := w.heap.size + 1) G7.out.low (by omega) _ _ _⟩
           have e : initL 2 tag rwnd out inn tsn bs = headL tag rwnd out inn tsn ++ bes 2 [7, 4 + (n : Int)] ++ bs ++ List.replicate (rnd (20 + n) - (20 + n)) 0 := by unfold initL ackL; rw [if_pos rfl, hbl0]
           rw [e]
           exact (fin_own O7.out (by omega) _ _ _).mono (by omega))))
end Go.Proofs.Ytedbmpfjikaljaa
