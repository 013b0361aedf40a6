/-
  Proved: what the program's functions that make chunks do to memory and what they answer: the bytes of the body are those of the document. Conditions: rows are shorter than ten thousand.
-/
import Derived.Test.YtedbmpfjikaljaaRdr
namespace Go.Proofs.Ytedbmpfjikaljaa
open Go.RowKit
set_option linter.unusedVariables false
set_option linter.unusedSimpArgs false
set_option linter.unusedSectionVars false
set_option maxRecDepth 100000

theorem rd_blk {k : IntKind} {w : World} {g : Nat} {t : TypeId} (ys : List Int) (hg : w.heap[g]? = some (.cells (ys.map (Value.int k)).toArray t)) (hl : ys.length ≤ 1000000) : Rd k w (some ⟨g, 0, none⟩) ys.length ys.length ys :=
  ⟨rfl, hl, Nat.le_refl _, by omega, fun i x h => ⟨g, 0, rfl, lt_of_block hg, by
    rw [Nat.zero_add, blk_cell hg]
    simp [h]⟩⟩

theorem put1_ (w : World) {base : Nat} {A : Option Addr} {n c : Nat} {xs : List Int} (h : Own w base A n c xs) (hb : base ≤ w.heap.size) (hn : n ≤ 800000) {g : Nat} (y : Int) (hg : w.heap[g]? = some (.cells #[.int .u64 y] 86))
    (h0 : 0 ≤ y) (h1 : y < 18446744073709551616) (s : Nat) {si : Int} (hsi : si = (s : Int)) (hs : isSized s = true) :
    Calls Try.prog 48 #[.slice A n c, .int .i64 si, .slice (some ⟨g, 0, none⟩) 1 1] w fun e w' => ∃ A' c', e = .returned (.slice A' (n + s) c') ∧ Own w' base A' (n + s) c' (xs ++ bes s [y]) ∧ Below w.heap.size w w' := by
  subst hsi
  have := put_ w h hb hn (rd_blk [y] hg (by simp)) (fun i => by
    rcases i with _ | i
    · exact ⟨h0, h1⟩
    · simp) (by simp) s hs
  simpa using this

theorem put2_ (w : World) {base : Nat} {A : Option Addr} {n c : Nat} {xs : List Int} (h : Own w base A n c xs) (hb : base ≤ w.heap.size) (hn : n ≤ 800000) {g : Nat} (y z : Int) (hg : w.heap[g]? = some (.cells #[.int .u64 y, .int .u64 z] 86))
    (h0 : 0 ≤ y ∧ y < 18446744073709551616) (h1 : 0 ≤ z ∧ z < 18446744073709551616) (s : Nat) {si : Int} (hsi : si = (s : Int)) (hs : isSized s = true) :
    Calls Try.prog 48 #[.slice A n c, .int .i64 si, .slice (some ⟨g, 0, none⟩) 2 2] w fun e w' => ∃ A' c', e = .returned (.slice A' (n + 2 * s) c') ∧ Own w' base A' (n + 2 * s) c' (xs ++ bes s [y, z]) ∧ Below w.heap.size w w' := by
  subst hsi
  have := put_ w h hb hn (rd_blk [y, z] hg (by simp)) (fun i => by
    rcases i with _ | i
    · exact h0
    · rcases i with _ | i
      · exact h1
      · simp) (by simp) s hs
  simpa using this


/-- A chunk. -/
def chunkV (k f : Int) (A : Option Addr) (n c : Nat) : Value := .agg #[.int .u8 k, .int .u8 f, .slice A n c]

/-- Where a function lays the chunk that it answers. -/
def Res (w : World) (r : Nat) : Prop := w.heap[r]? = some (.cells #[.int .u8 0, .int .u8 0, .slice none 0 0] 24)
theorem Res.cells {w : World} {r : Nat} (h : Res w r) : w.cell? ⟨r, 0, none⟩ = some (.int .u8 0) ∧ w.cell? ⟨r, 1, none⟩ = some (.int .u8 0) ∧ w.cell? ⟨r, 2, none⟩ = some (.slice none 0 0) := ⟨by rw [blk_cell h]; rfl, by rw [blk_cell h]; rfl, by rw [blk_cell h]; rfl⟩
theorem Res.free {w : World} {r : Nat} (h : Res w r) : w.frozen? ⟨r, 0, none⟩ = false ∧ w.frozen? ⟨r, 1, none⟩ = false ∧ w.frozen? ⟨r, 2, none⟩ = false := ⟨blk_free h, blk_free h, blk_free h⟩
theorem Res.below {w w' : World} {r B : Nat} (h : Res w r) (b : Below B w w') (hr : r < B) : Res w' r := (b.block r hr).trans h
theorem Res.upd {w w' : World} {r : Nat} {S : Nat → Prop} (h : Res w r) (b : Upd S w w') (hr : ¬ S r) : Res w' r := b.heap h hr
theorem fin_own {w2 : World} {base r : Nat} {A : Option Addr} {n c : Nat} {xs : List Int} (h : Own w2 base A n c xs) (hr : r < base) (v0 v1 v2 : Value) : Own (((w2.setCell ⟨r, 0, none⟩ v0).setCell ⟨r, 1, none⟩ v1).setCell ⟨r, 2, none⟩ v2) base A n c xs :=
  own_setCell (own_setCell (own_setCell h hr v0) hr v1) hr v2
theorem fin_below {B : Nat} {w w2 : World} {r : Nat} (h : Below B w w2) (hr : B ≤ r) (v0 v1 v2 : Value) : Below B w (((w2.setCell ⟨r, 0, none⟩ v0).setCell ⟨r, 1, none⟩ v1).setCell ⟨r, 2, none⟩ v2) :=
  ((h.setCell (a := w) (p := ⟨r, 0, none⟩) hr v0).setCell (p := ⟨r, 1, none⟩) hr v1).setCell (p := ⟨r, 2, none⟩) hr v2

def cumL (x : Int) : List Int := bes 4 [x]
set_option maxHeartbeats 1000000 in
theorem putCum_ (w : World) (x : Int) (h0 : 0 ≤ x) (h1 : x < 4294967296) :
    Calls Try.prog 20 #[.int .u32 x] w fun e w' => ∃ A n c, e = .returned (chunkV 7 0 A n c) ∧ Own w' w.heap.size A n c (cumL x) ∧ Below w.heap.size w w' := by
  go_enter Try.func20, Try.ntmps20
  go_wp2_with fail
  have r0 : Res (w.alloc (.cells #[.int .u8 0, .int .u8 0, .slice none 0 0] 24)) w.heap.size := heap_alloc_new w _
  have hg : ((w.alloc (.cells #[.int .u8 0, .int .u8 0, .slice none 0 0] 24)).alloc (.cells #[.int .u64 x] 86)).heap[w.heap.size + 1]? = some (.cells #[.int .u64 x] 86) := by
    have := heap_alloc_new (w.alloc (.cells #[.int .u8 0, .int .u8 0, .slice none 0 0] 24)) (.cells #[.int .u64 x] 86)
    simpa using this
  have r1 : Res ((w.alloc (.cells #[.int .u8 0, .int .u8 0, .slice none 0 0] 24)).alloc (.cells #[.int .u64 x] 86)) w.heap.size := r0.upd ((Upd.refl (fun _ => False) _).alloc _) (fun h => h)
  have b1 : Below w.heap.size w ((w.alloc (.cells #[.int .u8 0, .int .u8 0, .slice none 0 0] 24)).alloc (.cells #[.int .u64 x] 86)) := ((Below.refl w.heap.size w).alloc (Nat.le_refl _) _).alloc (by simp) _
  have hz : w.heap.size + 2 = ((w.alloc (.cells #[.int .u8 0, .int .u8 0, .slice none 0 0] 24)).alloc (.cells #[.int .u64 x] 86)).heap.size := by simp
  generalize (w.alloc (.cells #[.int .u8 0, .int .u8 0, .slice none 0 0] 24)).alloc (.cells #[.int .u64 x] 86) = W at *
  refine (put1_ W (own_nil _ (w.heap.size + 1)) (by omega) (by omega) x hg h0 (by omega) 4 rfl rfl).mono ?_
  rintro e w2 ⟨A, c, rfl, o, b⟩
  obtain ⟨c0, c1, c2⟩ := (r1.below b (by omega)).cells
  obtain ⟨f0, f1, f2⟩ := (r1.below b (by omega)).free
  have O := Aside.mk o
  have B := Aside.mk (b1.trans (b.mono (by omega)))
  clear o b b1 r0 r1 hg
  go_wp2_with fail
  refine bodyPost_ret (v := chunkV 7 0 A 4 c) (by simp [results, Try.results20, go_sem, chunkV, c0, c1, c2]) rfl ⟨A, 4, c, rfl, (fin_own O.out (by omega) _ _ _).mono (by omega), fin_below B.out (Nat.le_refl _) _ _ _⟩

theorem blk_new2 (w : World) (o o' : Obj) : ((w.alloc o).alloc o').heap[w.heap.size + 1]? = some o' := by
  have := heap_alloc_new (w.alloc o) o'
  simpa using this

def timeL (x : Int) : List Int := bes 2 [1, 12] ++ bes 8 [x % 18446744073709551616]
set_option maxHeartbeats 1000000 in
theorem putTime_ (w : World) (k x : Int) (h0 : -9223372036854775808 ≤ x) (h1 : x < 9223372036854775808) :
    Calls Try.prog 19 #[.int .u8 k, .int .i64 x] w fun e w' => ∃ A n c, e = .returned (chunkV k 0 A n c) ∧ Own w' w.heap.size A n c (timeL x) ∧ Below w.heap.size w w' := by
  go_enter Try.func19, Try.ntmps19
  go_wp2_with fail
  have r0 : Res (w.alloc (.cells #[.int .u8 0, .int .u8 0, .slice none 0 0] 24)) w.heap.size := heap_alloc_new w _
  have hg := blk_new2 w (.cells #[.int .u8 0, .int .u8 0, .slice none 0 0] 24) (.cells #[.int .u64 1, .int .u64 12] 86)
  have r1 : Res ((w.alloc (.cells #[.int .u8 0, .int .u8 0, .slice none 0 0] 24)).alloc (.cells #[.int .u64 1, .int .u64 12] 86)) w.heap.size := r0.upd ((Upd.refl (fun _ => False) _).alloc _) (fun h => h)
  have b1 : Below w.heap.size w ((w.alloc (.cells #[.int .u8 0, .int .u8 0, .slice none 0 0] 24)).alloc (.cells #[.int .u64 1, .int .u64 12] 86)) := ((Below.refl w.heap.size w).alloc (Nat.le_refl _) _).alloc (by simp) _
  have hz : w.heap.size + 2 = ((w.alloc (.cells #[.int .u8 0, .int .u8 0, .slice none 0 0] 24)).alloc (.cells #[.int .u64 1, .int .u64 12] 86)).heap.size := by simp
  generalize (w.alloc (.cells #[.int .u8 0, .int .u8 0, .slice none 0 0] 24)).alloc (.cells #[.int .u64 1, .int .u64 12] 86) = W at *
  refine (put2_ W (own_nil _ (w.heap.size + 1)) (by omega) (by omega) 1 12 hg (by decide) (by decide) 2 rfl rfl).mono ?_
  rintro e w2 ⟨A, c, rfl, o, b⟩
  have hz2 := b.size
  have hg2 := heap_alloc_new w2 (.cells #[.int .u64 (x % 18446744073709551616)] 86)
  have P := Aside.mk (put1_ (w2.alloc (.cells #[.int .u64 (x % 18446744073709551616)] 86)) (o.below (below_alloc w2 _)) (by simp; omega) (by omega) _ hg2 (by omega) (by omega) 8 rfl rfl)
  have R2 := Aside.mk ((r1.below b (by omega)).upd ((Upd.refl (fun _ => False) _).alloc (.cells #[.int .u64 (x % 18446744073709551616)] 86)) (fun h => h))
  have B2 := Aside.mk ((b1.trans (b.mono (show w.heap.size ≤ W.heap.size by omega))).alloc (by omega) (.cells #[.int .u64 (x % 18446744073709551616)] 86))
  clear o b b1 r0 r1 hg hg2
  go_wp2_with fail
  refine P.out.mono ?_
  rintro e w3 ⟨A3, c3, rfl, o3, b3⟩
  obtain ⟨c0, c1, c2⟩ := (R2.out.below b3 (by simp; omega)).cells
  obtain ⟨f0, f1, f2⟩ := (R2.out.below b3 (by simp; omega)).free
  have O := Aside.mk o3
  have B := Aside.mk (B2.out.trans (b3.mono (show w.heap.size ≤ _ by simp; omega)))
  clear o3 b3 P R2 B2
  go_wp2_with fail
  refine bodyPost_ret (v := chunkV k 0 A3 12 c3) (by simp [results, Try.results19, go_sem, chunkV, c0, c1, c2]) rfl ⟨A3, 12, c3, rfl, (fin_own O.out (by omega) _ _ _).mono (by omega), fin_below B.out (Nat.le_refl _) _ _ _⟩
end Go.Proofs.Ytedbmpfjikaljaa
