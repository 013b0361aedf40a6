/-
  Proved: what the program's functions that make chunks out of rows do to memory and what they answer: the bytes of the body are those of the document. Conditions: rows are shorter than fifty thousand.
-/
import Derived.Test.YtedbmpfjikaljaaPuta
namespace Go.Proofs.Ytedbmpfjikaljaa
open Go.RowKit
set_option linter.unusedVariables false
set_option linter.unusedSimpArgs false
set_option linter.unusedSectionVars false
set_option maxRecDepth 100000

/-- A row of pairs that is read. -/
structure Rd2 (w : World) (A : Option Addr) (n c : Nat) (ps : List (Int × Int)) : Prop where
  len : ps.length = n
  small : n ≤ 50000
  cap : n ≤ c
  mx : c ≤ 9223372036854775807
  at_ : ∀ i p, ps[i]? = some p → ∃ b o, A = some ⟨b, o, none⟩ ∧ b < w.heap.size ∧ w.cell? ⟨b, o + i * 2, none⟩ = some (.int .u16 p.1) ∧ w.cell? ⟨b, o + i * 2 + 1, none⟩ = some (.int .u16 p.2)
  num : ∀ p ∈ ps, (0 ≤ p.1 ∧ p.1 < 65536) ∧ (0 ≤ p.2 ∧ p.2 < 65536)
theorem Rd2.upd {w w' : World} {A : Option Addr} {n c : Nat} {ps : List (Int × Int)} (h : Rd2 w A n c ps) (u : Upd (fun _ => False) w w') : Rd2 w' A n c ps :=
  ⟨h.len, h.small, h.cap, h.mx, fun i x hx => by
    obtain ⟨b, o, hA, hb, hc, hd⟩ := h.at_ i x hx
    exact ⟨b, o, hA, Nat.lt_of_lt_of_le hb u.size, (u.cell (p := ⟨b, o + i * 2, none⟩) hb (fun h => h)).trans hc, (u.cell (p := ⟨b, o + i * 2 + 1, none⟩) hb (fun h => h)).trans hd⟩, h.num⟩
theorem Rd2.below {w w' : World} {A : Option Addr} {n c : Nat} {ps : List (Int × Int)} (h : Rd2 w A n c ps) (u : Below w.heap.size w w') : Rd2 w' A n c ps := h.upd (Upd.of_below u)
theorem Rd2.get {w : World} {A : Option Addr} {n c : Nat} {ps : List (Int × Int)} (h : Rd2 w A n c ps) {i : Nat} (hi : i < n) : ∃ p b o, ps[i]? = some p ∧ A = some ⟨b, o, none⟩ ∧ b < w.heap.size ∧ w.cell? ⟨b, o + i * 2, none⟩ = some (.int .u16 p.1) ∧ w.cell? ⟨b, o + i * 2 + 1, none⟩ = some (.int .u16 p.2) ∧ (0 ≤ p.1 ∧ p.1 < 65536) ∧ (0 ≤ p.2 ∧ p.2 < 65536) := by
  have hl : i < ps.length := by rw [h.len]; exact hi
  obtain ⟨b, o, h1, h2, h3, h4⟩ := h.at_ i _ (List.getElem?_eq_getElem hl)
  exact ⟨ps[i], b, o, List.getElem?_eq_getElem hl, h1, h2, h3, h4, h.num _ (List.getElem_mem hl)⟩

def pairsL (ps : List (Int × Int)) : List Int := ps.flatMap fun p => bes 2 [p.1, p.2]
theorem pairs_take {ps : List (Int × Int)} {j : Nat} {p : Int × Int} (h : ps[j]? = some p) : pairsL (ps.take (j + 1)) = pairsL (ps.take j) ++ bes 2 [p.1, p.2] := by
  unfold pairsL
  rw [List.take_add_one, List.flatMap_append, h]
  simp
def fwdL (cum : Int) (ps : List (Int × Int)) : List Int := bes 4 [cum] ++ pairsL ps

theorem two_set {w : World} {t : TypeId} (a b x y : Value) : (((w.alloc (.cells #[a, b] t)).setCell ⟨w.heap.size, 0, none⟩ x).setCell ⟨w.heap.size, 1, none⟩ y).heap[w.heap.size]? = some (.cells #[x, y] t) := by
  have h := setCell_block (i := 1) (v := y) (setCell_block (i := 0) (v := x) (heap_alloc_new w (.cells #[a, b] t)))
  simpa using h

theorem setup3 (w : World) (o1 o3 : Obj) {W : World} (hW : ((w.alloc o1).alloc (.cells #[.int .u8 0, .int .u8 0, .slice none 0 0] 24)).alloc o3 = W) :
    W.heap[w.heap.size]? = some o1 ∧ Res W (w.heap.size + 1) ∧ W.heap[w.heap.size + 1 + 1]? = some o3 ∧ Below w.heap.size w W ∧ W.heap.size = w.heap.size + 3 := by
  subst hW
  refine ⟨?_, ?_, ?_, ?_, by simp⟩
  · have h1 := heap_alloc_new w o1
    have h2 := (((Upd.refl (fun _ => False) (w.alloc o1)).alloc (.cells #[.int .u8 0, .int .u8 0, .slice none 0 0] 24)).alloc o3).heap h1 (fun h => h)
    exact h2
  · have h1 := blk_new2 w o1 (.cells #[.int .u8 0, .int .u8 0, .slice none 0 0] 24)
    exact ((Upd.refl (fun _ => False) _).alloc o3).heap h1 (fun h => h)
  · have h1 := blk_new2 (w.alloc o1) (.cells #[.int .u8 0, .int .u8 0, .slice none 0 0] 24) o3
    simpa using h1
  · exact (((Below.refl w.heap.size w).alloc (Nat.le_refl _) _).alloc (by simp) _).alloc (by simp; omega) _

set_option maxHeartbeats 2000000 in
theorem putForward_ (w : World) (cum : Int) (h0 : 0 ≤ cum) (h1 : cum < 4294967296) {B : Option Addr} {n d : Nat} {ps : List (Int × Int)} (h : Rd2 w B n d ps) :
    Calls Try.prog 18 #[.agg #[.int .u32 cum, .slice B n d]] w fun e w' => ∃ A n c, e = .returned (chunkV 192 0 A n c) ∧ Own w' w.heap.size A n c (fwdL cum ps) ∧ Below w.heap.size w w' := by
  have hn := h.small
  have hc := h.cap
  have hmx := h.mx
  have H := Aside.mk h
  clear h
  go_enter Try.func18, Try.ntmps18
  go_wp2_with fail
  generalize hW : ((w.alloc (.cells #[.int .u32 cum, .slice B n d] 41)).alloc (.cells #[.int .u8 0, .int .u8 0, .slice none 0 0] 24)).alloc (.cells #[.int .u64 cum] 86) = W
  obtain ⟨hbox, hres, hg, hbl, hsz⟩ := setup3 w _ _ hW
  clear hW
  refine (put1_ W (own_nil _ (w.heap.size + 2)) (by omega) (by omega) cum hg h0 (by omega) 4 rfl rfl).mono ?_
  rintro e w2 ⟨A2, c2, rfl, o, b⟩
  have k1 : w2.cell? ⟨w.heap.size, 1, none⟩ = some (.slice B n d) := by rw [blk_cell ((b.block _ (by omega)).trans hbox)]; rfl
  have O2 := Aside.mk o
  have R2 := Aside.mk (hres.below b (by omega))
  have B2 := Aside.mk (hbl.trans (b.mono (show w.heap.size ≤ W.heap.size by omega)))
  have hsz2 : w.heap.size + 3 ≤ w2.heap.size := by have := b.size; omega
  clear o b hbox hres hg hbl hsz
  go_wp2_with fail
  go_loopw [3, 14] (fun v i wr => ∃ j A' c', j ≤ n ∧ i = .int .i64 (j : Nat) ∧ v = .slice A' (4 + j * 4) c' ∧ Own wr (w.heap.size + 2) A' (4 + j * 4) c' (bes 4 [cum] ++ pairsL (ps.take j)) ∧ Res wr (w.heap.size + 1) ∧ w.heap.size + 3 ≤ wr.heap.size ∧ Below w.heap.size w wr) (fun v i _ => n - (intOf i).toNat)
  case atStart => exact ⟨0, A2, c2, by omega, rfl, rfl, by simpa [pairsL] using O2.out, R2.out, hsz2, B2.out⟩
  case round =>
    obtain ⟨j, A', c', hj, rfl, rfl, ho, hr, hsr, hb⟩ := hrel
    by_cases cj : j < n
    · obtain ⟨p, b1, o1, hp, rfl, hlt, k0, k1', hp1, hp2⟩ := (H.out.below hb).get cj
      have T := Aside.mk (pairs_take hp)
      obtain ⟨p0, p1⟩ := p
      simp only at k0 k1' hp1 hp2 T
      have hg3 := blk_new2 wr (.cells #[.int .u16 p0, .int .u16 p1] 88) (.cells #[.int .u64 p0, .int .u64 p1] 86)
      have b3 : Below wr.heap.size wr ((wr.alloc (.cells #[.int .u16 p0, .int .u16 p1] 88)).alloc (.cells #[.int .u64 p0, .int .u64 p1] 86)) := ((Below.refl wr.heap.size wr).alloc (Nat.le_refl _) _).alloc (by simp) _
      have C := Aside.mk (put2_ _ (ho.below b3) (by have := b3.size; omega) (by omega) p0 p1 hg3 (by omega) (by omega) 2 rfl rfl)
      have R3 := Aside.mk (hr.below b3 (by omega))
      have B3 := Aside.mk (hb.trans (b3.mono (by omega)))
      have hs3 := b3.size
      clear ho hr hb b3 hg3 hp
      go_wp2_with fail
      refine C.out.mono ?_
      rintro e w4 ⟨A4, c4, rfl, o4, b4⟩
      have hs4 := b4.size
      have O4 := Aside.mk o4
      have R4 := Aside.mk (R3.out.below b4 (by omega))
      have B4 := Aside.mk (B3.out.trans (b4.mono (by omega)))
      clear o4 b4 R3 B3 C
      go_wp2_with fail
      go_round
      case rel =>
        refine ⟨j + 1, A4, c4, by omega, by go_num, by rw [show 4 + (j + 1) * 4 = 4 + j * 4 + 4 by omega], ?_, R4.out, by omega, B4.out⟩
        have := O4.out
        rw [List.append_assoc, ← T.out, show 4 + j * 4 + 2 * 2 = 4 + (j + 1) * 4 by omega] at this
        exact this
      case measure => simp [intOf]; omega
    · obtain rfl : j = n := by omega
      have hd : decide (j < j) = false := decide_eq_false cj
      rw [List.take_of_length_le (by rw [H.out.len]; omega)] at ho
      obtain ⟨k0, k1, k2⟩ := hr.cells
      obtain ⟨f0, f1, f2⟩ := hr.free
      have O := Aside.mk ho
      have B := Aside.mk hb
      clear ho hb hr
      go_wp2_with fail
      refine bodyPost_ret (v := chunkV 192 0 A' (4 + j * 4) c') (by simp [results, Try.results18, go_sem, chunkV, k0, k1, k2]) rfl ⟨A', 4 + j * 4, c', rfl, (fin_own O.out (by omega) _ _ _).mono (by omega), fin_below B.out (by omega) _ _ _⟩
end Go.Proofs.Ytedbmpfjikaljaa
