/-
  Proved: what the program's function that makes a chunk of an acknowledgement does to memory and what it answers: the bytes of the body are those of the document. Conditions: rows are shorter than fifty thousand.
-/
import Derived.Test.YtedbmpfjikaljaaPutb
namespace Go.Proofs.Ytedbmpfjikaljaa
open Go.RowKit
set_option linter.unusedVariables false
set_option linter.unusedSimpArgs false
set_option linter.unusedSectionVars false
set_option maxRecDepth 100000

theorem setup2 (w : World) (o1 : Obj) {W : World} (hW : ((w.alloc o1).alloc (.cells #[.int .u8 0, .int .u8 0, .slice none 0 0] 24)) = W) :
    W.heap[w.heap.size]? = some o1 ∧ Res W (w.heap.size + 1) ∧ Below w.heap.size w W ∧ W.heap.size = w.heap.size + 2 := by
  subst hW
  refine ⟨?_, ?_, ?_, by simp⟩
  · have h1 := heap_alloc_new w o1
    have h2 := ((Upd.refl (fun _ => False) (w.alloc o1)).alloc (.cells #[.int .u8 0, .int .u8 0, .slice none 0 0] 24)).heap h1 (fun h => h)
    exact h2
  · exact blk_new2 w o1 (.cells #[.int .u8 0, .int .u8 0, .slice none 0 0] 24)
  · exact ((Below.refl w.heap.size w).alloc (Nat.le_refl _) _).alloc (by simp) _

theorem keep4 {w : World} {g : Nat} {a b c d : Value} {t : TypeId} (h : w.heap[g]? = some (.cells #[a, b, c, d] t)) : w.cell? ⟨g, 0, none⟩ = some a ∧ w.cell? ⟨g, 1, none⟩ = some b ∧ w.cell? ⟨g, 2, none⟩ = some c ∧ w.cell? ⟨g, 3, none⟩ = some d :=
  ⟨by rw [blk_cell h]; rfl, by rw [blk_cell h]; rfl, by rw [blk_cell h]; rfl, by rw [blk_cell h]; rfl⟩

theorem alloc_keep {w : World} {g : Nat} {o o' : Obj} (h : w.heap[g]? = some o) : (w.alloc o').heap[g]? = some o := ((Upd.refl (fun _ => False) w).alloc o').heap h (fun h => h)

/-- A world in which a function that makes a chunk is at work: its own parameter lies as it was, and so does the place of its answer. -/
structure Good (w : World) (o : Obj) (V : World) : Prop where
  box : V.heap[w.heap.size]? = some o
  res : Res V (w.heap.size + 1)
  low : Below w.heap.size w V
  size : w.heap.size + 2 ≤ V.heap.size
theorem Good.alloc {w V : World} {o : Obj} (h : Good w o V) (o' : Obj) : Good w o (V.alloc o') :=
  ⟨alloc_keep h.box, alloc_keep h.res, h.low.alloc (by have := h.size; omega) _, by have := h.size; simp; omega⟩
theorem Good.drew {w V : World} {o : Obj} (h : Good w o V) : Good w o V.drew := ⟨h.box, h.res, below_drewN h.low 1, h.size⟩
theorem Good.below {w V V' : World} {o : Obj} (h : Good w o V) (b : Below V.heap.size V V') : Good w o V' :=
  ⟨(b.block _ (by have := h.size; omega)).trans h.box, (b.block _ (by have := h.size; omega)).trans h.res, h.low.trans (b.mono (by have := h.size; omega)), by have := h.size; have := b.size; omega⟩
theorem good_put2 (w : World) (o : Obj) (V : World) (y z : Int) (hG : Good w o V) {A : Option Addr} {n c : Nat} {xs : List Int} (h : Own V (w.heap.size + 2) A n c xs) (hn : n ≤ 800000) {g : Nat} {y0 z0 : Int} (hg : V.heap[g]? = some (.cells #[.int .u64 y0, .int .u64 z0] 86)) (hy : y0 = y) (hz : z0 = z)
    (h0 : 0 ≤ y ∧ y < 18446744073709551616) (h1 : 0 ≤ z ∧ z < 18446744073709551616) (s : Nat) {si : Int} (hsi : si = (s : Int)) (hs : isSized s = true) :
    Calls Try.prog 48 #[.slice A n c, .int .i64 si, .slice (some ⟨g, 0, none⟩) 2 2] V fun e w' => ∃ A' c', e = .returned (.slice A' (n + 2 * s) c') ∧ Aside (Good w o w' ∧ Own w' (w.heap.size + 2) A' (n + 2 * s) c' (xs ++ bes s [y, z]) ∧ Below V.heap.size V w') :=
  (put2_ V h hG.size hn y z (hy ▸ hz ▸ hg) h0 h1 s hsi hs).mono fun e w' ⟨A', c', he, ho, hb⟩ => ⟨A', c', he, ⟨hG.below hb, ho, hb⟩⟩
theorem good_put1 (w : World) (o : Obj) (V : World) (y : Int) (hG : Good w o V) {A : Option Addr} {n c : Nat} {xs : List Int} (h : Own V (w.heap.size + 2) A n c xs) (hn : n ≤ 800000) {g : Nat} {y0 : Int} (hg : V.heap[g]? = some (.cells #[.int .u64 y0] 86)) (hy : y0 = y)
    (h0 : 0 ≤ y) (h1 : y < 18446744073709551616) (s : Nat) {si : Int} (hsi : si = (s : Int)) (hs : isSized s = true) :
    Calls Try.prog 48 #[.slice A n c, .int .i64 si, .slice (some ⟨g, 0, none⟩) 1 1] V fun e w' => ∃ A' c', e = .returned (.slice A' (n + s) c') ∧ Aside (Good w o w' ∧ Own w' (w.heap.size + 2) A' (n + s) c' (xs ++ bes s [y]) ∧ Below V.heap.size V w') :=
  (put1_ V h hG.size hn y (hy ▸ hg) h0 h1 s hsi hs).mono fun e w' ⟨A', c', he, ho, hb⟩ => ⟨A', c', he, ⟨hG.below hb, ho, hb⟩⟩

theorem bes_one (s : Nat) (y : Int) : bes s [y] = be s y := by simp [bes]

def sackL (cum rwnd : Int) (gaps : List (Int × Int)) (dups : List Int) : List Int := bes 4 [cum, rwnd] ++ bes 2 [gaps.length, dups.length] ++ pairsL gaps ++ bes 4 dups

set_option maxHeartbeats 2000000 in
theorem putSack_ (w : World) (cum rwnd : Int) (h0 : 0 ≤ cum) (h1 : cum < 4294967296) (h2 : 0 ≤ rwnd) (h3 : rwnd < 4294967296) {B D : Option Addr} {n d m q : Nat} {ps : List (Int × Int)} {ds : List Int} (h : Rd2 w B n d ps) (k : Rd .u32 w D m q ds)
    (hm : m ≤ 50000) (hds : ∀ i, 0 ≤ ds.getD i 0 ∧ ds.getD i 0 < 4294967296) :
    Calls Try.prog 17 #[.agg #[.int .u32 cum, .int .u32 rwnd, .slice B n d, .slice D m q]] w fun e w' => ∃ A n c, e = .returned (chunkV 3 0 A n c) ∧ Own w' w.heap.size A n c (sackL cum rwnd ps ds) ∧ Below w.heap.size w w' := by
  have hn := h.small
  have hc := h.cap
  have hmx := h.mx
  have kc := k.cap
  have kmx := k.mx
  have H := Aside.mk h
  have K := Aside.mk k
  have DS := Aside.mk hds
  clear h k hds
  go_enter Try.func17, Try.ntmps17
  go_wp2_with fail
  generalize hW : (w.alloc (.cells #[.int .u32 cum, .int .u32 rwnd, .slice B n d, .slice D m q] 38)).alloc (.cells #[.int .u8 0, .int .u8 0, .slice none 0 0] 24) = W
  obtain ⟨hbox, hres, hbl, hsz⟩ := setup2 w _ hW
  clear hW
  have k0 : W.cell? ⟨w.heap.size, 0, none⟩ = some (.int .u32 cum) := by rw [blk_cell hbox]; rfl
  have k1 : W.cell? ⟨w.heap.size, 1, none⟩ = some (.int .u32 rwnd) := by rw [blk_cell hbox]; rfl
  have k2 : W.cell? ⟨w.heap.size, 2, none⟩ = some (.slice B n d) := by rw [blk_cell hbox]; rfl
  have k3 : W.cell? ⟨w.heap.size, 3, none⟩ = some (.slice D m q) := by rw [blk_cell hbox]; rfl
  have hwn : IntKind.u64.wrap (n : Int) = n := by rw [IntKind.wrap_u64]; omega
  have hwm : IntKind.u64.wrap (m : Int) = m := by rw [IntKind.wrap_u64]; have := K.out.small; omega
  have hwc : IntKind.u64.wrap cum = cum := by rw [IntKind.wrap_u64]; omega
  have hwr : IntKind.u64.wrap rwnd = rwnd := by rw [IntKind.wrap_u64]; omega
  have G : Aside (Good w (.cells #[.int .u32 cum, .int .u32 rwnd, .slice B n d, .slice D m q] 38) W) := ⟨hbox, hres, hbl, by omega⟩
  have C1 := Aside.mk (fun (V : World) (g : Nat) (hg : V.heap[g]? = some (.cells #[.int .u64 (IntKind.u64.wrap cum), .int .u64 (IntKind.u64.wrap rwnd)] 86)) (hG : Good w (.cells #[.int .u32 cum, .int .u32 rwnd, .slice B n d, .slice D m q] 38) V) => good_put2 w _ V cum rwnd hG (own_nil V (w.heap.size + 2)) (by omega) hg hwc hwr (by omega) (by omega) 4 (si := 4) rfl rfl)
  have C2 := Aside.mk (fun (V : World) (A : Option Addr) (c : Nat) (xs : List Int) (ho : Own V (w.heap.size + 2) A 8 c xs) (g : Nat) (hg : V.heap[g]? = some (.cells #[.int .u64 (IntKind.u64.wrap (n : Int)), .int .u64 (IntKind.u64.wrap (m : Int))] 86)) (hG : Good w (.cells #[.int .u32 cum, .int .u32 rwnd, .slice B n d, .slice D m q] 38) V) => good_put2 w _ V (n : Int) (m : Int) hG ho (by omega) hg hwn hwm (by omega) (by have := K.out.small; omega) 2 (si := 2) rfl rfl)
  clear hwn hwm hwc hwr hbox hres hbl hsz
  have E := Aside.mk (rfl : W = W)
  go_region_held3 (fun w' => w'.cell? ⟨w.heap.size, 0, none⟩ = some (.int .u32 cum) ∧ w'.cell? ⟨w.heap.size, 1, none⟩ = some (.int .u32 rwnd) ∧ w'.cell? ⟨w.heap.size, 2, none⟩ = some (.slice B n d) ∧ w'.cell? ⟨w.heap.size, 3, none⟩ = some (.slice D m q))
    (first | exact keep4 P3.out.1.box | exact keep4 (alloc_keep P2.out.1.box) | exact keep4 P2.out.1.box | exact keep4 (alloc_keep (alloc_keep G.out.box)) | exact keep4 (alloc_keep G.out.box) | exact keep4 G.out.box | go_keep)
    (first
      | (go_at_call 48; refine (C2.out _ A2 c2 _ (by first | exact P2.out.2.1 | exact P2.out.2.1.below (below_alloc w2 _)) _ (by first | exact heap_alloc_new _ _ | (refine (P2.out.2.2.block _ (by simp <;> omega)).trans ?_; first | exact heap_alloc_new _ _ | exact blk_new2 _ _ _ | exact alloc_keep (heap_alloc_new _ _))) (by first | exact P2.out.1 | exact P2.out.1.alloc _)).mono ?_; rintro e w3 ⟨A3, c3, rfl, P3⟩)
      | (go_at_call 48; refine (C1.out _ _ (by first | exact heap_alloc_new _ _ | exact blk_new2 _ _ _ | exact alloc_keep (heap_alloc_new _ _)) (by first | exact (G.out.alloc _).drew | exact ((G.out.alloc _).alloc _).drew)).mono ?_; rintro e w2 ⟨A2, c2, rfl, P2⟩))
  all_goals (
    have k2 : w3.cell? ⟨w.heap.size, 2, none⟩ = some (.slice B n d) := (keep4 P3.out.1.box).2.2.1
    have hs3 : w.heap.size + 2 ≤ w3.heap.size := P3.out.1.size
    have O3 := Aside.mk P3.out.2.1
    have G3 := Aside.mk P3.out.1
    have hl2 := K.out.small
    clear P3 P2 C1 C2 G k0 k1 k3
    go_wp2_with fail
    go_loopw [3, 29] (fun v i wr => ∃ j A' c', j ≤ n ∧ i = .int .i64 (j : Nat) ∧ v = .slice A' (12 + j * 4) c' ∧ Own wr (w.heap.size + 2) A' (12 + j * 4) c' (bes 4 [cum, rwnd] ++ bes 2 [(n : Int), (m : Int)] ++ pairsL (ps.take j)) ∧ Good w (.cells #[.int .u32 cum, .int .u32 rwnd, .slice B n d, .slice D m q] 38) wr) (fun v i _ => n - (intOf i).toNat)
    case' atStart => exact ⟨0, A3, c3, by omega, rfl, rfl, by simpa [pairsL] using O3.out, G3.out⟩
    case' round =>
      obtain ⟨j, A', c', hj, rfl, rfl, ho, hG⟩ := hrel
      by_cases cj : j < n
      · obtain ⟨p, b1, o1, hp, rfl, hlt, k0, k1', hp1, hp2⟩ := (H.out.below hG.low).get cj
        have T := Aside.mk (pairs_take hp)
        obtain ⟨p0, p1⟩ := p
        simp only at k0 k1' hp1 hp2 T
        have hg3 := blk_new2 wr (.cells #[.int .u16 p0, .int .u16 p1] 84) (.cells #[.int .u64 p0, .int .u64 p1] 86)
        have b3 : Below wr.heap.size wr ((wr.alloc (.cells #[.int .u16 p0, .int .u16 p1] 84)).alloc (.cells #[.int .u64 p0, .int .u64 p1] 86)) := ((Below.refl wr.heap.size wr).alloc (Nat.le_refl _) _).alloc (by simp) _
        have C := Aside.mk (good_put2 w _ _ p0 p1 ((hG.alloc (.cells #[.int .u16 p0, .int .u16 p1] 84)).alloc (.cells #[.int .u64 p0, .int .u64 p1] 86)) (ho.below b3) (by omega) hg3 rfl rfl (by omega) (by omega) 2 (si := 2) rfl rfl)
        clear ho hG b3 hg3 hp
        go_wp2_with fail
        refine C.out.mono ?_
        rintro e w4 ⟨A4, c4, rfl, P4⟩
        clear C
        go_wp2_with fail
        go_round
        case' rel =>
          refine ⟨j + 1, A4, c4, by omega, by go_num, by rw [show 12 + (j + 1) * 4 = 12 + j * 4 + 4 by omega], ?_, P4.out.1⟩
          have := P4.out.2.1
          rw [List.append_assoc _ (pairsL _) _, ← T.out, show 12 + j * 4 + 2 * 2 = 12 + (j + 1) * 4 by omega] at this
          exact this
        case' measure => simp [intOf]; omega
      · obtain rfl : j = n := by omega
        have hd : decide (j < j) = false := decide_eq_false cj
        rw [List.take_of_length_le (by rw [H.out.len]; omega)] at ho
        have O := Aside.mk ho
        have G := Aside.mk hG
        have k3 : wr.cell? ⟨w.heap.size, 3, none⟩ = some (.slice D m q) := (keep4 hG.box).2.2.2
        clear ho hG
        go_wp2_with fail
        go_loopw [3, 46] (fun v i wr => ∃ i' A' c', i' ≤ m ∧ i = .int .i64 (i' : Nat) ∧ v = .slice A' (12 + j * 4 + i' * 4) c' ∧ Own wr (w.heap.size + 2) A' (12 + j * 4 + i' * 4) c' (bes 4 [cum, rwnd] ++ bes 2 [(j : Int), (m : Int)] ++ pairsL ps ++ bes 4 (ds.take i')) ∧ Good w (.cells #[.int .u32 cum, .int .u32 rwnd, .slice B j d, .slice D m q] 38) wr) (fun v i _ => m - (intOf i).toNat)
        case' atStart => exact ⟨0, A', c', by omega, rfl, rfl, by simpa [bes] using O.out, G.out⟩
        case' round =>
          obtain ⟨i', A5, c5, hi, rfl, rfl, ho, hG⟩ := hrel
          by_cases ci : i' < m
          · obtain ⟨b1, o1, rfl, hlt, k0⟩ := (K.out.below hG.low).get ci
            have hdb := DS.out i'
            have T := Aside.mk (bes_take 4 ds i' (by rw [K.out.len]; exact ci))
            generalize ds.getD i' 0 = x at *
            have hg3 := heap_alloc_new wr (.cells #[.int .u64 x] 86)
            have b3 := below_alloc wr (.cells #[.int .u64 x] 86)
            have C := Aside.mk (good_put1 w _ _ x (hG.alloc (.cells #[.int .u64 x] 86)) (ho.below b3) (by omega) hg3 rfl (by omega) (by omega) 4 (si := 4) rfl rfl)
            clear ho hG b3 hg3
            go_wp2_with fail
            refine C.out.mono ?_
            rintro e w4 ⟨A4, c4, rfl, P4⟩
            clear C
            go_wp2_with fail
            go_round
            case' rel =>
              refine ⟨i' + 1, A4, c4, by omega, by go_num, by rw [show 12 + j * 4 + (i' + 1) * 4 = 12 + j * 4 + i' * 4 + 4 by omega], ?_, P4.out.1⟩
              have := P4.out.2.1
              rw [bes_one, List.append_assoc _ (bes 4 _) _, ← T.out, show 12 + j * 4 + i' * 4 + 4 = 12 + j * 4 + (i' + 1) * 4 by omega] at this
              exact this
            case' measure => simp [intOf]; omega
          · obtain rfl : i' = m := by omega
            have hd : decide (i' < i') = false := decide_eq_false ci
            rw [List.take_of_length_le (by rw [K.out.len]; omega)] at ho
            obtain ⟨k0, k1, k2⟩ := hG.res.cells
            obtain ⟨f0, f1, f2⟩ := hG.res.free
            have O := Aside.mk ho
            have Bl := Aside.mk hG.low
            have hl1 := H.out.len
            have hl2 := K.out.len
            have S : Aside (sackL cum rwnd ps ds = bes 4 [cum, rwnd] ++ bes 2 [(j : Int), (i' : Int)] ++ pairsL ps ++ bes 4 ds) := ⟨by unfold sackL; rw [hl1, hl2]⟩
            clear ho hG
            go_wp2_with fail
            refine bodyPost_ret (v := chunkV 3 0 A5 (12 + j * 4 + i' * 4) c5) (by simp [results, Try.results17, go_sem, chunkV, k0, k1, k2]) rfl ⟨A5, 12 + j * 4 + i' * 4, c5, rfl, ?_, fin_below Bl.out (by omega) _ _ _⟩
            rw [S.out]
            exact (fin_own O.out (by omega) _ _ _).mono (by omega))
end Go.Proofs.Ytedbmpfjikaljaa
