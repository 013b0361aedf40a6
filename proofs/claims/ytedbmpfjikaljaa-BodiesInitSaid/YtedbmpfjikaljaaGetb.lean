/-
  Proved: what the methods of the reader do while a function that reads a chunk is at work: the blocks that it made stay as they were. Conditions: rows are shorter than nine hundred thousand.
-/
import Derived.Test.YtedbmpfjikaljaaGeta
namespace Go.Proofs.Ytedbmpfjikaljaa
open Go.RowKit
set_option linter.unusedVariables false
set_option linter.unusedSimpArgs false
set_option linter.unusedSectionVars false
set_option maxRecDepth 100000

/-- A world in which a function that reads a chunk is at work: a reader at block r, and the blocks of K as told. -/
structure Rg (w : World) (r : Nat) (K : List (Nat × Obj)) (A : Option Addr) (n c : Nat) (at_ : Nat) (V : World) : Prop where
  keep : ∀ p ∈ K, V.heap[p.1]? = some p.2 ∧ p.1 ≠ r ∧ w.heap.size ≤ p.1
  rdr : Rdr V r A n c at_
  low : Below w.heap.size w V
  base : w.heap.size ≤ r
theorem Rg.h0 {w : World} {r : Nat} {p : Nat × Obj} {K : List (Nat × Obj)} {A : Option Addr} {n c at_ : Nat} {V : World} (h : Rg w r (p :: K) A n c at_ V) : V.heap[p.1]? = some p.2 := (h.keep p (List.mem_cons_self ..)).1
theorem Rg.tail {w : World} {r : Nat} {p : Nat × Obj} {K : List (Nat × Obj)} {A : Option Addr} {n c at_ : Nat} {V : World} (h : Rg w r (p :: K) A n c at_ V) : Rg w r K A n c at_ V := ⟨fun q hq => h.keep q (List.mem_cons_of_mem _ hq), h.rdr, h.low, h.base⟩
theorem Rg.h1 {w : World} {r : Nat} {p q : Nat × Obj} {K : List (Nat × Obj)} {A : Option Addr} {n c at_ : Nat} {V : World} (h : Rg w r (p :: q :: K) A n c at_ V) : V.heap[q.1]? = some q.2 := h.tail.h0
theorem Rg.h2 {w : World} {r : Nat} {p q s : Nat × Obj} {K : List (Nat × Obj)} {A : Option Addr} {n c at_ : Nat} {V : World} (h : Rg w r (p :: q :: s :: K) A n c at_ V) : V.heap[s.1]? = some s.2 := h.tail.tail.h0
theorem Rg.size {w : World} {r : Nat} {K : List (Nat × Obj)} {A : Option Addr} {n c at_ : Nat} {V : World} (h : Rg w r K A n c at_ V) : r < V.heap.size := lt_of_block h.rdr
theorem Rg.alloc {w : World} {r : Nat} {K : List (Nat × Obj)} {A : Option Addr} {n c at_ : Nat} {V : World} (h : Rg w r K A n c at_ V) (o : Obj) : Rg w r ((V.heap.size, o) :: K) A n c at_ (V.alloc o) :=
  ⟨fun p hp => by
    rcases List.mem_cons.1 hp with rfl | hp
    · exact ⟨heap_alloc_new V o, by have := h.size; simp; omega, h.low.size⟩
    · obtain ⟨h1, h2, h3⟩ := h.keep p hp
      exact ⟨alloc_keep h1, h2, h3⟩, alloc_keep h.rdr, h.low.alloc h.low.size o, h.base⟩
theorem Rg.drewN {w : World} {r : Nat} {K : List (Nat × Obj)} {A : Option Addr} {n c at_ : Nat} {V : World} (h : Rg w r K A n c at_ V) (q : Nat) : Rg w r K A n c at_ (V.drewN q) := ⟨h.keep, h.rdr, below_drewN h.low q, h.base⟩
theorem Rg.drew {w : World} {r : Nat} {K : List (Nat × Obj)} {A : Option Addr} {n c at_ : Nat} {V : World} (h : Rg w r K A n c at_ V) : Rg w r K A n c at_ V.drew := h.drewN 1
theorem Rg.upd {w : World} {r : Nat} {K : List (Nat × Obj)} {A : Option Addr} {n c at_ : Nat} {V V' : World} (h : Rg w r K A n c at_ V) (u : Upd (Just r) V V') {to : Nat} (hr : Rdr V' r A n c to) : Rg w r K A n c to V' :=
  ⟨fun p hp => by
    obtain ⟨h1, h2, h3⟩ := h.keep p hp
    exact ⟨u.heap h1 h2, h2, h3⟩, hr, h.low.trans (u.below h.low.size (fun i hi => by rw [show i = r from hi]; exact h.base)), h.base⟩
theorem Rg.below {w : World} {r : Nat} {K : List (Nat × Obj)} {A : Option Addr} {n c at_ : Nat} {V V' : World} (h : Rg w r K A n c at_ V) (b : Below V.heap.size V V') : Rg w r K A n c at_ V' :=
  h.upd (Upd.of_below b) ((b.block _ h.size).trans h.rdr)
/-- A store into a block that is told of. -/
theorem Rg.set {w : World} {r : Nat} {K : List (Nat × Obj)} {A : Option Addr} {n c at_ : Nat} {V : World} {g : Nat} {cs : Array Value} {t : TypeId} (h : Rg w r ((g, .cells cs t) :: K) A n c at_ V) (hg : ∀ p ∈ K, p.1 ≠ g) (i : Nat) (v : Value) :
    Rg w r ((g, .cells (cs.setIfInBounds i v) t) :: K) A n c at_ (V.setCell ⟨g, i, none⟩ v) := by
  obtain ⟨h1, h2, h3⟩ := h.keep _ (List.mem_cons_self ..)
  refine ⟨fun p hp => ?_, ?_, h.low.setCell (p := ⟨g, i, none⟩) h3 v, h.base⟩
  · rcases List.mem_cons.1 hp with rfl | hp
    · exact ⟨setCell_block h1, h2, h3⟩
    · obtain ⟨k1, k2, k3⟩ := h.keep p (List.mem_cons_of_mem _ hp)
      exact ⟨(Below.heap_setCell V ⟨g, i, none⟩ v p.1 (hg p hp)).trans k1, k2, k3⟩
  · exact (Below.heap_setCell V ⟨g, i, none⟩ v r (fun e => h2 e.symm)).trans h.rdr

theorem rg_take {w : World} {r : Nat} {K : List (Nat × Obj)} {A : Option Addr} {n c at_ : Nat} {V : World} {xs : List Int} (h : Rd .u8 w A n c xs) (hy : Byt xs) (hg : Rg w r K A n c at_ V) (h2 : at_ ≤ 900000) (s to : Nat) (hto : at_ + s = to) {si : Int} (hsi : si = (s : Int)) (hs : isSized s = true) :
    Calls Try.prog 51 #[.pointer (some ⟨r, 0, none⟩), .int .i64 si] V fun e V' => e = .returned (.int .u64 (gt xs at_ s)) ∧ Aside (Rg w r K A n c to V') := by
  subst hto hsi
  refine (take_ V hg.rdr (h.below hg.low) hy h2 s hs).mono ?_
  rintro e V' ⟨rfl, h1, h2⟩
  exact ⟨rfl, ⟨hg.upd h2 h1⟩⟩
theorem rg_left {w : World} {r : Nat} {K : List (Nat × Obj)} {A : Option Addr} {n c at_ : Nat} {V : World} (hg : Rg w r K A n c at_ V) (h1 : n ≤ 1000000) (h2 : at_ ≤ 1000000) :
    Calls Try.prog 53 #[.pointer (some ⟨r, 0, none⟩)] V fun e V' => e = .returned (.int .i64 ((n : Int) - at_)) ∧ Aside (Rg w r K A n c at_ V') := by
  refine (left_ V hg.rdr h1 h2).mono ?_
  rintro e V' ⟨rfl, q, rfl⟩
  exact ⟨rfl, ⟨hg.drewN q⟩⟩
theorem rg_rest {w : World} {r : Nat} {K : List (Nat × Obj)} {A : Option Addr} {n c at_ : Nat} {V : World} {xs : List Int} (h : Rd .u8 w A n c xs) (hg : Rg w r K A n c at_ V) (h2 : at_ ≤ 900000) (k : Int) (h3 : -1000000 ≤ k) (h4 : k ≤ 1000000) :
    Calls Try.prog 52 #[.pointer (some ⟨r, 0, none⟩), .int .i64 k] V fun e V' => ∃ A' m c', e = .returned (.slice A' m c') ∧ Aside (∃ to, Own V' V.heap.size A' m c' (if isWithin n at_ k = true then (xs.drop at_).take k.toNat else []) ∧ Rg w r K A n c to V') := by
  refine (rest_ V hg.rdr (h.below hg.low) h2 k h3 h4).mono ?_
  rintro e V' ⟨A', m, c', to, rfl, ho, h1, h2⟩
  exact ⟨A', m, c', rfl, ⟨to, ho, hg.upd h2 h1⟩⟩

theorem gt_bd {xs : List Int} (hy : Byt xs) (at_ s : Nat) : 0 ≤ gt xs at_ s ∧ gt xs at_ s < 256 ^ s := by
  unfold gt
  split
  · exact num_bound (hy.drop at_) s
  · exact ⟨by omega, Int.pow_pos (by omega)⟩
theorem gt_2 {xs : List Int} (hy : Byt xs) (at_ : Nat) : 0 ≤ gt xs at_ 2 ∧ gt xs at_ 2 < 65536 := gt_bd hy at_ 2
theorem gt_4 {xs : List Int} (hy : Byt xs) (at_ : Nat) : 0 ≤ gt xs at_ 4 ∧ gt xs at_ 4 < 4294967296 := gt_bd hy at_ 4
theorem gt_8 {xs : List Int} (hy : Byt xs) (at_ : Nat) : 0 ≤ gt xs at_ 8 ∧ gt xs at_ 8 < 18446744073709551616 := gt_bd hy at_ 8
theorem rg_start1 (w : World) (o1 : Obj) (A : Option Addr) (n c a0 : Nat) : Rg w (w.heap.size + 1) [(w.heap.size, o1)] A n c a0 ((w.alloc o1).alloc (.cells #[.slice A n c, .int .i64 a0] 92)) :=
  ⟨fun p hp => by
    obtain rfl := List.mem_singleton.1 hp
    exact ⟨alloc_keep (heap_alloc_new w o1), by simp, Nat.le_refl _⟩, blk_new2 w o1 _, (((Below.refl w.heap.size w).alloc (Nat.le_refl _) _).alloc (by simp) _), by omega⟩
theorem rg_start2 (w : World) (o1 o2 : Obj) (A : Option Addr) (n c a0 : Nat) : Rg w (w.heap.size + 1 + 1) [(w.heap.size + 1, o2), (w.heap.size, o1)] A n c a0 (((w.alloc o1).alloc o2).alloc (.cells #[.slice A n c, .int .i64 a0] 92)) := by
  obtain ⟨h1, h2, h3, h4, h5⟩ := setup3b w o1 o2 (.cells #[.slice A n c, .int .i64 a0] 92) rfl
  refine ⟨fun p hp => ?_, h3, h4, by omega⟩
  rcases List.mem_cons.1 hp with rfl | hp
  · exact ⟨h2, by simp, by simp⟩
  · obtain rfl := List.mem_singleton.1 hp
    exact ⟨h1, by simp; omega, Nat.le_refl _⟩
end Go.Proofs.Ytedbmpfjikaljaa
