/-
  Proved: a world in which a law is at work: the blocks that are told of stay as they were.
-/
import Derived.Test.YtedbmpfjikaljaaRoom
namespace Go.Proofs.Ytedbmpfjikaljaa
open Go.RowKit
set_option linter.unusedVariables false
set_option linter.unusedSimpArgs false
set_option linter.unusedSectionVars false
set_option maxRecDepth 100000

structure Hold (w : World) (K : List (Nat × Obj)) (V : World) : Prop where
  keep : ∀ p ∈ K, V.heap[p.1]? = some p.2
  low : Below w.heap.size w V
theorem Hold.h0 {w V : World} {p : Nat × Obj} {K : List (Nat × Obj)} (h : Hold w (p :: K) V) : V.heap[p.1]? = some p.2 := h.keep p (List.mem_cons_self ..)
theorem Hold.tail {w V : World} {p : Nat × Obj} {K : List (Nat × Obj)} (h : Hold w (p :: K) V) : Hold w K V := ⟨fun q hq => h.keep q (List.mem_cons_of_mem _ hq), h.low⟩
theorem Hold.below {w V V' : World} {K : List (Nat × Obj)} (h : Hold w K V) (b : Below V.heap.size V V') : Hold w K V' := ⟨fun p hp => (b.block _ (lt_of_block (h.keep p hp))).trans (h.keep p hp), h.low.trans (b.mono h.low.size)⟩
theorem Hold.drewN {w V : World} {K : List (Nat × Obj)} (h : Hold w K V) (q : Nat) : Hold w K (V.drewN q) := ⟨h.keep, below_drewN h.low q⟩
theorem Hold.drew {w V : World} {K : List (Nat × Obj)} (h : Hold w K V) : Hold w K V.drew := h.drewN 1
theorem Hold.alloc {w V : World} {K : List (Nat × Obj)} (h : Hold w K V) (o : Obj) : Hold w ((V.heap.size, o) :: K) (V.alloc o) := ⟨fun p hp => by
  rcases List.mem_cons.1 hp with rfl | hp
  · exact heap_alloc_new V o
  · exact alloc_keep (h.keep p hp), h.low.alloc h.low.size o⟩
theorem Hold.add {w V : World} {K : List (Nat × Obj)} (h : Hold w K V) {g : Nat} {o : Obj} (k : V.heap[g]? = some o) : Hold w ((g, o) :: K) V := ⟨fun p hp => by
  rcases List.mem_cons.1 hp with rfl | hp
  · exact k
  · exact h.keep p hp, h.low⟩
theorem Hold.set3 {w V : World} {K : List (Nat × Obj)} {g : Nat} {a0 a1 a2 : Value} {t : TypeId} (h : Hold w ((g, .cells #[a0, a1, a2] t) :: K) V) (hg : w.heap.size ≤ g) (hK : ∀ p ∈ K, p.1 ≠ g) (v0 v1 v2 : Value) :
    Hold w ((g, .cells #[v0, v1, v2] t) :: K) (((V.setCell ⟨g, 0, none⟩ v0).setCell ⟨g, 1, none⟩ v1).setCell ⟨g, 2, none⟩ v2) := ⟨fun p hp => by
  rcases List.mem_cons.1 hp with rfl | hp
  · have := setCell_block (i := 2) (v := v2) (setCell_block (i := 1) (v := v1) (setCell_block (i := 0) (v := v0) h.h0))
    simpa using this
  · rw [Below.heap_setCell _ _ _ _ (hK p hp), Below.heap_setCell _ _ _ _ (hK p hp), Below.heap_setCell _ _ _ _ (hK p hp)]
    exact h.keep p (List.mem_cons_of_mem _ hp), fin_below h.low hg _ _ _⟩
theorem hold_two (w : World) (o1 o2 : Obj) : Hold w [(w.heap.size + 1, o2), (w.heap.size, o1)] ((w.alloc o1).alloc o2) := ⟨fun p hp => by
  rcases List.mem_cons.1 hp with rfl | hp
  · exact blk_new2 w o1 o2
  · obtain rfl := List.mem_singleton.1 hp
    exact alloc_keep (heap_alloc_new w o1), ((Below.refl w.heap.size w).alloc (Nat.le_refl _) _).alloc (by simp) _⟩
theorem set3_hold {V : World} {h r : Nat} {o : Obj} (k : V.heap[h]? = some o) (hr : h ≠ r) (v0 v1 v2 : Value) : (((V.setCell ⟨r, 0, none⟩ v0).setCell ⟨r, 1, none⟩ v1).setCell ⟨r, 2, none⟩ v2).heap[h]? = some o := by
  rw [Below.heap_setCell _ _ _ _ hr, Below.heap_setCell _ _ _ _ hr, Below.heap_setCell _ _ _ _ hr]
  exact k
end Go.Proofs.Ytedbmpfjikaljaa
