/-
  Proved: what a slice of numbers that is read, and one that a call has made, come to in memory. No condition.
-/
import Derived.Test.YtedbmpfjikaljaaRows
import Derived.WalkKit
import Derived.WalkSpells
import Derived.WalkLawsBesides
import Derived.Maps.AppendAt
import Derived.Deep.AppendLies
import Derived.Deep.QuietTactic
import Derived.BigQuiet
import Derived.Deep.RegionHeld3
namespace Go.Proofs.Ytedbmpfjikaljaa
open Go.RowKit
set_option linter.unusedVariables false
set_option linter.unusedSimpArgs false
set_option linter.unusedSectionVars false

/-- A fact that the walk's simp does not look into. -/
structure Aside (p : Prop) : Prop where mk :: (out : p)

/-! ### 1. Worlds: only the blocks of S, and what is new, have turned -/
structure Upd (S : Nat → Prop) (w w' : World) : Prop where
  os : w'.os = w.os
  tape : w'.tape = w.tape
  output : w'.output = w.output
  size : w.heap.size ≤ w'.heap.size
  block : ∀ i, i < w.heap.size → ¬ S i → w'.heap[i]? = w.heap[i]?

theorem Upd.refl (S : Nat → Prop) (w : World) : Upd S w w := ⟨rfl, rfl, rfl, Nat.le_refl _, fun _ _ _ => rfl⟩
theorem Upd.trans {S : Nat → Prop} {a b c : World} (h : Upd S a b) (k : Upd S b c) : Upd S a c :=
  ⟨k.os.trans h.os, k.tape.trans h.tape, k.output.trans h.output, Nat.le_trans h.size k.size, fun i hi hs => (k.block i (Nat.lt_of_lt_of_le hi h.size) hs).trans (h.block i hi hs)⟩
theorem Upd.mono {S S' : Nat → Prop} {a b : World} (h : Upd S a b) (hs : ∀ i, S i → S' i) : Upd S' a b :=
  ⟨h.os, h.tape, h.output, h.size, fun i hi hn => h.block i hi (fun k => hn (hs i k))⟩
/-- What is new for the older world may turn. -/
theorem Upd.new {S S' : Nat → Prop} {a b c : World} (h : Upd S a b) (k : Upd S' b c) (hs : ∀ i, i < a.heap.size → S' i → S i) : Upd S a c :=
  ⟨k.os.trans h.os, k.tape.trans h.tape, k.output.trans h.output, Nat.le_trans h.size k.size, fun i hi hn => (k.block i (Nat.lt_of_lt_of_le hi h.size) (fun q => hn (hs i hi q))).trans (h.block i hi hn)⟩
theorem Upd.drew {S : Nat → Prop} {a b : World} (h : Upd S a b) : Upd S a b.drew := ⟨h.os, h.tape, h.output, h.size, h.block⟩
theorem Upd.drewN {S : Nat → Prop} {a b : World} (h : Upd S a b) (n : Nat) : Upd S a (b.drewN n) := ⟨h.os, h.tape, h.output, h.size, h.block⟩
theorem Upd.alloc {S : Nat → Prop} {a b : World} (h : Upd S a b) (o : Obj) : Upd S a (b.alloc o) :=
  ⟨h.os, h.tape, h.output, Nat.le_trans h.size (by simp), fun i hi hn => (Below.heap_alloc b o i (Nat.lt_of_lt_of_le hi h.size)).trans (h.block i hi hn)⟩
theorem Upd.setCell {S : Nat → Prop} {a b : World} (h : Upd S a b) (p : Addr) (v : Value) (hp : p.block < a.heap.size → S p.block) : Upd S a (b.setCell p v) :=
  ⟨h.os, h.tape, h.output, by simpa using h.size, fun i hi hn => (Below.heap_setCell b p v i (fun e => hn (e ▸ hp (e ▸ hi)))).trans (h.block i hi hn)⟩
theorem Upd.of_below {S : Nat → Prop} {a b : World} (h : Below a.heap.size a b) : Upd S a b := ⟨h.os, h.tape, h.output, h.size, fun i hi _ => h.block i hi⟩
theorem Upd.below {a b : World} {S : Nat → Prop} {B : Nat} (h : Upd S a b) (hB : B ≤ a.heap.size) (hs : ∀ i, S i → B ≤ i) : Below B a b :=
  ⟨h.os, h.tape, h.output, h.size, fun i hi => h.block i (by omega) (fun k => by have := hs i k; omega)⟩
theorem Upd.heap {S : Nat → Prop} {a b : World} (h : Upd S a b) {i : Nat} {o : Obj} (ho : a.heap[i]? = some o) (hs : ¬ S i) : b.heap[i]? = some o := by
  rw [h.block i (lt_of_block ho) hs]; exact ho
theorem Upd.cell {S : Nat → Prop} {a b : World} (h : Upd S a b) {p : Addr} (hp : p.block < a.heap.size) (hs : ¬ S p.block) : b.cell? p = a.cell? p :=
  World.cell?_of_block (h.block _ hp hs)
theorem Upd.frozen {S : Nat → Prop} {a b : World} (h : Upd S a b) {p : Addr} (hp : p.block < a.heap.size) (hs : ¬ S p.block) : b.frozen? p = a.frozen? p :=
  World.frozen?_of_block (h.block _ hp hs)

def Just (f i : Nat) : Prop := i = f
theorem setCell_block {w : World} {g i : Nat} {cs : Array Value} {t : TypeId} {v : Value} (h : w.heap[g]? = some (.cells cs t)) : (w.setCell ⟨g, i, none⟩ v).heap[g]? = some (.cells (cs.setIfInBounds i v) t) := by
  simp [World.setCell, Array.getElem?_modify, h]
theorem blk_cell {w : World} {g i : Nat} {cs : Array Value} {t : TypeId} (h : w.heap[g]? = some (.cells cs t)) : w.cell? ⟨g, i, none⟩ = cs[i]? := by simp [World.cell?, h]
theorem blk_free {w : World} {g i : Nat} {cs : Array Value} {t : TypeId} (h : w.heap[g]? = some (.cells cs t)) : w.frozen? ⟨g, i, none⟩ = false := by simp [World.frozen?, h]
theorem add_at (b o j : Nat) : ((⟨b, o, none⟩ : Addr).add j) = ⟨b, o + j, none⟩ := by
  unfold Addr.add
  split
  · rename_i h0; subst h0; rfl
  · rfl
theorem below_then {B : Nat} {w w1 w2 : World} (h : Below B w w1) (k : Below w1.heap.size w1 w2) (hB : B ≤ w1.heap.size) : Below B w w2 := h.trans (k.mono hB)

/-! ### Numbers that are read -/
structure Rd (k : IntKind) (w : World) (A : Option Addr) (n c : Nat) (xs : List Int) : Prop where
  len : xs.length = n
  small : n ≤ 1000000
  cap : n ≤ c
  mx : c ≤ 9223372036854775807
  at_ : ∀ i x, xs[i]? = some x → ∃ b o, A = some ⟨b, o, none⟩ ∧ b < w.heap.size ∧ w.cell? ⟨b, o + i, none⟩ = some (.int k x)
theorem Rd.upd {k : IntKind} {w w' : World} {A : Option Addr} {n c : Nat} {xs : List Int} (h : Rd k w A n c xs) (u : Upd (fun _ => False) w w') : Rd k w' A n c xs :=
  ⟨h.len, h.small, h.cap, h.mx, fun i x hx => by
    obtain ⟨b, o, hA, hb, hc⟩ := h.at_ i x hx
    exact ⟨b, o, hA, Nat.lt_of_lt_of_le hb u.size, (u.cell (p := ⟨b, o + i, none⟩) hb (fun h => h)).trans hc⟩⟩
theorem Rd.below {k : IntKind} {w w' : World} {A : Option Addr} {n c : Nat} {xs : List Int} (h : Rd k w A n c xs) (u : Below w.heap.size w w') : Rd k w' A n c xs := h.upd (Upd.of_below u)
theorem Rd.nil {k : IntKind} {w : World} {c : Nat} (h : c ≤ 9223372036854775807) : Rd k w none 0 c [] := ⟨rfl, by omega, by omega, h, fun i x hx => by simp at hx⟩
theorem Rd.get {k : IntKind} {w : World} {A : Option Addr} {n c : Nat} {xs : List Int} (h : Rd k w A n c xs) {i : Nat} (hi : i < n) : ∃ b o, A = some ⟨b, o, none⟩ ∧ b < w.heap.size ∧ w.cell? ⟨b, o + i, none⟩ = some (.int k (xs.getD i 0)) :=
  h.at_ i _ (by rw [List.getD_eq_getElem?_getD, List.getElem?_eq_getElem (by rw [h.len]; exact hi)]; rfl)

def cellsOf_ (k : IntKind) (xs : List Int) : List Value := xs.map (Value.int k)
theorem cells_len (k : IntKind) (xs : List Int) : (cellsOf_ k xs).length = xs.length * 1 := by simp [cellsOf_]
theorem cells_one (k : IntKind) (xs : List Int) : ∀ u ∈ cellsOf_ k xs, u.oneCell' = true := by
  intro u hu
  obtain ⟨x, _, rfl⟩ := List.mem_map.1 hu
  rfl
theorem cells_append (k : IntKind) (xs ys : List Int) : cellsOf_ k (xs ++ ys) = cellsOf_ k xs ++ cellsOf_ k ys := by simp [cellsOf_]
/-- A row of bytes that the call has made; all that its block has are bytes. -/
structure Own (w : World) (base : Nat) (A : Option Addr) (n c : Nat) (xs : List Int) : Prop where
  row : w.ownsRow base 5 1 (.slice A n c) n (cellsOf_ .u8 xs)
  u8 : ∀ g, A = some ⟨g, 0, none⟩ → ∀ i v, w.cell? ⟨g, i, none⟩ = some v → ∃ y, v = .int .u8 y
theorem Own.len {w : World} {base : Nat} {A : Option Addr} {n c : Nat} {xs : List Int} (h : Own w base A n c xs) : xs.length = n := by
  have := h.row.1
  simpa [cellsOf_] using this
theorem Own.rd {w : World} {base : Nat} {A : Option Addr} {n c : Nat} {xs : List Int} (h : Own w base A n c xs) (hn : n ≤ 1000000) : Rd .u8 w A n c xs := by
  have hl := h.len
  rcases h.row.2 with ⟨hv, h0⟩ | ⟨g, cap, cur, hv, hb, hh, hc, hm, hs, hx⟩
  · injection hv with h1 h2 h3
    subst h1 h3
    have : xs = [] := List.eq_nil_of_length_eq_zero (by omega)
    subst this
    exact ⟨hl, hn, by omega, by omega, fun i x hx => by simp at hx⟩
  · injection hv with h1 h2 h3
    subst h1 h3
    refine ⟨hl, hn, hc, by unfold maxLen at hm; omega, fun i x hi => ⟨g, 0, rfl, lt_of_block hh, ?_⟩⟩
    have hil := (List.getElem?_eq_some_iff.1 hi).1
    have e1 := h.row.cellAt i (by omega)
    rw [Nat.zero_add, e1]
    simp [cellsOf_, hi]
/-- What leaves the row's block as it was keeps the row. -/
theorem Own.keep {w w' : World} {base : Nat} {A : Option Addr} {n c : Nat} {xs : List Int} (h : Own w base A n c xs) (hb : ∀ g, base ≤ g → g < w.heap.size → A = some ⟨g, 0, none⟩ → w'.heap[g]? = w.heap[g]?) : Own w' base A n c xs := by
  rcases h.row.2 with ⟨hv, h0⟩ | ⟨g, cap, cur, hv, hg, hh, rest⟩
  · injection hv with h1 h2 h3
    subst h1
    exact ⟨⟨h.row.1, .inl ⟨by rw [h2, h3], h0⟩⟩, fun g hg => by cases hg⟩
  · injection hv with h1 h2 h3
    have e := hb g hg (lt_of_block hh) h1
    refine ⟨⟨h.row.1, .inr ⟨g, cap, cur, by rw [h1, h3], hg, e.trans hh, rest⟩⟩, fun g' hg' i v hc => ?_⟩
    rw [h1] at hg'
    injection hg' with hg'
    injection hg' with hg' _ _
    subst hg'
    exact h.u8 g h1 i v ((World.cell?_of_block e).symm.trans hc)
theorem Own.below {w w' : World} {base : Nat} {A : Option Addr} {n c : Nat} {xs : List Int} (h : Own w base A n c xs) (u : Below w.heap.size w w') : Own w' base A n c xs :=
  h.keep fun g _ hg _ => u.block g hg
theorem Own.mono {w : World} {base base' : Nat} {A : Option Addr} {n c : Nat} {xs : List Int} (h : Own w base A n c xs) (hb : base' ≤ base) : Own w base' A n c xs := by
  refine ⟨⟨h.row.1, ?_⟩, h.u8⟩
  rcases h.row.2 with hn | ⟨g, cap, cur, hv, hg, rest⟩
  · exact .inl hn
  · exact .inr ⟨g, cap, cur, hv, Nat.le_trans hb hg, rest⟩
theorem own_nil (w : World) (base : Nat) : Own w base none 0 0 [] := ⟨⟨rfl, .inl ⟨rfl, rfl⟩⟩, fun g hg => by cases hg⟩
theorem own_slice {w : World} {base e size n : Nat} {v : Value} {xs : List Value} (h : w.ownsRow base e size v n xs) : ∃ A c, v = .slice A n c := by
  rcases h.2 with ⟨rfl, rfl⟩ | ⟨g, cap, cur, rfl, _⟩
  · exact ⟨none, 0, rfl⟩
  · exact ⟨_, _, rfl⟩
theorem info5 : (Try.prog.info? 5).map (fun i => (i.zero, i.size, i.bytes)) = some (some (.int .u8 0), 1, 1) := by kernel_rfl

theorem all_u8 (xs : List Int) : ∀ v ∈ cellsOf_ .u8 xs, ∃ y, v = Value.int .u8 y := fun v hv => by
  obtain ⟨y, _, rfl⟩ := List.mem_map.1 hv
  exact ⟨y, rfl⟩
theorem zero_u8 (m : Nat) : ∀ v ∈ (Builtin.zeroCells (Value.int .u8 0).cells m).toList, ∃ y, v = Value.int .u8 y := fun v hv => by
  simp [Builtin.zeroCells, Value.cells] at hv
  obtain ⟨i, _, rfl⟩ := hv
  exact ⟨0, by simp [Nat.mod_one]⟩
theorem u8_new {w : World} {cs : Array Value} (h : ∀ v ∈ cs.toList, ∃ y, v = Value.int .u8 y) : ∀ g, (some ⟨w.heap.size, 0, none⟩ : Option Addr) = some ⟨g, 0, none⟩ → ∀ i v, (w.alloc (.cells cs 5)).cell? ⟨g, i, none⟩ = some v → ∃ y, v = Value.int .u8 y := by
  intro g hg i v hv
  injection hg with hg
  injection hg with hg _ _
  subst hg
  rw [blk_cell (heap_alloc_new w _)] at hv
  exact h v (by rw [Array.mem_toList_iff]; exact Array.mem_of_getElem? hv)
theorem u8_row {w : World} {g : Nat} {cs : Array Value} (hb : w.heap[g]? = some (.cells cs 5)) (h : ∀ v ∈ cs.toList, ∃ y, v = Value.int .u8 y) : ∀ g', (some ⟨g, 0, none⟩ : Option Addr) = some ⟨g', 0, none⟩ → ∀ i v, w.cell? ⟨g', i, none⟩ = some v → ∃ y, v = Value.int .u8 y := by
  intro g' hg i v hv
  injection hg with hg
  injection hg with hg _ _
  subst hg
  rw [blk_cell hb] at hv
  exact h v (by rw [Array.mem_toList_iff]; exact Array.mem_of_getElem? hv)
theorem Own.all {w : World} {base g c n : Nat} {xs : List Int} (h : Own w base (some ⟨g, 0, none⟩) n c xs) {cur : Array Value} (hh : w.heap[g]? = some (.cells cur 5)) : ∀ v ∈ cur.toList, ∃ y, v = Value.int .u8 y := fun v hv => by
  obtain ⟨i, hi, rfl⟩ := List.getElem_of_mem hv
  exact h.u8 g rfl i _ (by rw [blk_cell hh, ← Array.getElem?_toList, List.getElem?_eq_getElem hi])

set_option maxRecDepth 100000 in
set_option maxHeartbeats 1000000 in
/-- append of bytes onto a row of the call's own. -/
theorem append_run {w : World} {base : Nat} {A : Option Addr} {n c : Nat} {xs : List Int} (h : Own w base A n c xs) (hb : base ≤ w.heap.size) {B : Option Addr} {m d : Nat} {ys : List Int} (hy : Rd .u8 w B m d ys) (hn : n ≤ 1000000) :
    ∃ A' c' w', (Builtin.append_ #[22, 22] 22 #[.slice A n c, .slice B m d]).run Try.prog w = .ok (.slice A' (n + m) c') w' ∧ Own w' base A' (n + m) c' (xs ++ ys) ∧ w.grownBy w' (Value.slice A n c).ownBlock := by
  obtain ⟨i0, hi0, hz0, hz1, hz2⟩ := info_parts info5
  have hm := hy.small
  rcases B with _ | a
  · have h0 : m = 0 := by
      rcases Nat.eq_zero_or_pos m with h0 | h0
      · exact h0
      · obtain ⟨b, o, hA, _⟩ := hy.get h0
        cases hA
    subst h0
    have hnil : ys = [] := List.eq_nil_of_length_eq_zero hy.len
    subst hnil
    refine ⟨A, c, w, ?_, by simpa using h, World.grownBy.refl w _⟩
    rcases h.row.2 with ⟨hv, h0⟩ | ⟨g, cap, cur, hv, _, _, hnc, _⟩
    · injection hv with h1 h2 h3
      subst h1 h2 h3
      simp [Builtin.append_, run_underlying Try.underlying22, sizeOf, typeInfo, hi0, Builtin.lenOf, Builtin.firstCells]
    · injection hv with h1 h2 h3
      subst h1 h3
      simp [Builtin.append_, run_underlying Try.underlying22, sizeOf, typeInfo, hi0, Builtin.lenOf, Builtin.firstCells, hnc, storeCells]
  · have hcells : ∀ j u, (cellsOf_ .u8 ys)[j]? = some u → w.cell? (a.add j) = some u := by
      intro j u hu
      simp only [cellsOf_, List.getElem?_map, Option.map_eq_some_iff] at hu
      obtain ⟨x, hx, rfl⟩ := hu
      obtain ⟨b, o, hA, _, hc⟩ := hy.at_ j x hx
      injection hA with hA
      subst hA
      rw [add_at]
      exact hc
    have hl : (cellsOf_ .u8 ys).length = m * i0.size := by rw [cells_len, hy.len, hz1]
    obtain ⟨v', w', hrun, hown, hgr, _⟩ := run_append_own_at (P := Try.prog) w base 22 22 5 i0 _ 1 1 Try.underlying22 hi0 hz0 hz1 hz2 rfl (by omega) (.slice A n c) n (cellsOf_ .u8 xs) h.row a m d (cellsOf_ .u8 ys) (by rw [cells_len, hy.len]) hcells (cells_one _ _) (by unfold maxLen; omega) (by omega) hb
    obtain ⟨A', c', rfl⟩ := own_slice hown
    refine ⟨A', c', w', hrun, ⟨by rw [cells_append]; exact hown, ?_⟩, hgr⟩
    rcases h.row.2 with ⟨hv, h0⟩ | ⟨g, cap, cur, hv, hbg, hg, hnc, hcm, hcs, htake⟩
    · injection hv with h1 h2 h3
      subst h1 h2 h3
      rcases Nat.eq_zero_or_pos m with h0 | h0
      · subst h0
        have e : (Builtin.append_ #[22, 22] 22 #[.slice none 0 0, .slice (some a) 0 d]).run Try.prog w = .ok (.slice none 0 0) w := by simp [Builtin.append_, run_underlying Try.underlying22, sizeOf, typeInfo, hi0, Builtin.lenOf, Builtin.firstCells, loadCells, loadCellsFrom]
        rw [hrun] at e
        injection e with e1 e2
        injection e1 with e1 _ _
        subst e1
        intro g hg
        cases hg
      · have hr := run_append_nil (P := Try.prog) w 22 22 5 i0 _ Try.underlying22 hi0 hz0 a m d _ hl hcells (by omega) (by omega) (by rw [hz2]; omega)
        rw [hrun] at hr
        injection hr with e1 e2
        injection e1 with e1 _ _
        subst e1 e2
        exact u8_new (w := w.drew) (fun v hv => by
          rcases (by simpa using hv : v ∈ cellsOf_ .u8 ys ∨ v ∈ Builtin.zeroCells (Value.int .u8 0).cells _) with hv | hv
          · exact all_u8 ys v hv
          · exact zero_u8 _ v (Array.mem_toList_iff.2 hv))
    · injection hv with h1 h2 h3
      subst h1 h3
      have hcur := h.all hg
      by_cases hroom : n + m ≤ c
      · have hr := run_append_room (P := Try.prog) w 22 22 5 i0 Try.underlying22 hi0 g n c cur hg a m d _ hl hcells (cells_one _ _) hroom (by rw [hl, hcs, hz1, ← Nat.add_mul]; exact Nat.mul_le_mul_right _ hroom)
        rw [hrun] at hr
        injection hr with e1 e2
        injection e1 with e1 _ _
        subst e1 e2
        refine u8_row (setRow_heap w g cur _ 5 _ hg) fun v hv => ?_
        rcases (by simpa using hv : v ∈ List.take (n * i0.size) cur.toList ∨ v ∈ cellsOf_ .u8 ys ∨ v ∈ List.drop _ cur.toList) with hv | hv | hv
        · exact hcur v (List.mem_of_mem_take hv)
        · exact all_u8 ys v hv
        · exact hcur v (List.mem_of_mem_drop hv)
      · have holds : ∀ j u, (cellsOf_ .u8 xs)[j]? = some u → w.cell? ((⟨g, 0, none⟩ : Addr).add j) = some u := h.row.cells (g := g) rfl
        have hr := run_append_grow (P := Try.prog) w 22 22 5 i0 _ Try.underlying22 hi0 hz0 ⟨g, 0, none⟩ n c _ (by rw [hz1]; exact h.row.1) holds a m d _ hl hcells (by omega) (by omega) (growslice_fits (by omega) (by rw [hz2]; omega))
        rw [hrun] at hr
        injection hr with e1 e2
        injection e1 with e1 _ _
        subst e1 e2
        refine u8_new (w := w.drew) (fun v hv => ?_)
        rcases (by simpa using hv : v ∈ cellsOf_ .u8 xs ∨ v ∈ cellsOf_ .u8 ys ∨ v ∈ Builtin.zeroCells (Value.int .u8 0).cells _) with hv | hv | hv
        · exact all_u8 xs v hv
        · exact all_u8 ys v hv
        · exact zero_u8 _ v (Array.mem_toList_iff.2 hv)

/-- An append whose run is known. -/
theorem wpList_append_run {P : Program} {w w' : World} {ops : Array Oper} {rest : List Oper} {o : Oper} {a : Act} {Q : Exit → Act → World → Prop} {v' : Value} (t : TypeId) (s x : Operand) (v src : Value) (hgd : o.guard = none)
    (ho : o.op = .call { callee := .builtin .append, args := #[s, x], argTypes := #[t, t] }) (hs : a.eval s = v) (hx : a.eval x = src) (hrun : (Builtin.append_ #[t, t] o.type #[v, src]).run P w = .ok v' w')
    (h : wpList P ops Q rest (a.put o.dst v') w') : wpList P ops Q (o :: rest) a w :=
  wpList_plain hgd fun K hK => by
    unfold Oper.wp execOp
    simp only [ho, resolve, invoke, builtin, Sem.run_bind, Sem.run_pure, Result.andThen_ok, List.map_toArray, List.map_cons, List.map_nil, hs, hx, hrun]
    exact hK _ _ h
end Go.Proofs.Ytedbmpfjikaljaa
