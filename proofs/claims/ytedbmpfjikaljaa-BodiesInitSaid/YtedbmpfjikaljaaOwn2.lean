/-
  Proved: what appends of pairs and of numbers of four bytes onto rows that a call has made come to. Conditions: rows are shorter than fifty thousand.
-/
import Derived.Test.YtedbmpfjikaljaaGetc
namespace Go.Proofs.Ytedbmpfjikaljaa
open Go.RowKit
set_option linter.unusedVariables false
set_option linter.unusedSimpArgs false
set_option linter.unusedSectionVars false
set_option maxRecDepth 100000

/-- An append of cells onto a row of the call's own: whatever the element's type. -/
theorem append_gen {w : World} {base : Nat} (t e : TypeId) (i : TypeInfo) (z : Value) (size bytes : Nat) (ht : Try.prog.underlying t = some (.slice e)) (hi : Try.prog.info? e = some i) (hz : i.zero = some z) (hsize : i.size = size) (hby : i.bytes = bytes) (hzs : z.cells.size = size) (hsz : 0 < size) (hb8 : bytes ≤ 64)
    {A : Option Addr} {n c : Nat} {xs : List Value} (h : w.ownsRow base e size (.slice A n c) n xs) (hb : base ≤ w.heap.size) {B : Option Addr} {m d : Nat} {ys : List Value} (hl : ys.length = m * size)
    (hat : ∀ j u, ys[j]? = some u → ∃ b o, B = some ⟨b, o, none⟩ ∧ w.cell? ⟨b, o + j, none⟩ = some u) (h1 : ∀ u ∈ ys, u.oneCell' = true) (hn : n ≤ 1000000) (hm : m ≤ 1000000) :
    ∃ A' c' w', (Builtin.append_ #[t, t] t #[.slice A n c, .slice B m d]).run Try.prog w = .ok (.slice A' (n + m) c') w' ∧ w'.ownsRow base e size (.slice A' (n + m) c') (n + m) (xs ++ ys) ∧ w.grownBy w' (Value.slice A n c).ownBlock := by
  rcases B with _ | a
  · have hys : ys = [] := by
      rcases ys with _ | ⟨y, ys⟩
      · rfl
      · obtain ⟨b, o, hB, _⟩ := hat 0 y rfl
        cases hB
    subst hys
    have h0 : m = 0 := by
      rcases Nat.eq_zero_or_pos m with h0 | h0
      · exact h0
      · have := Nat.mul_pos h0 hsz
        simp at hl
        omega
    subst h0
    refine ⟨A, c, w, ?_, by simpa using h, World.grownBy.refl w _⟩
    rcases h.2 with ⟨hv, h0⟩ | ⟨g, cap, cur, hv, _, _, hnc, _⟩
    · injection hv with h1 h2 h3
      subst h1 h2 h3
      simp [Builtin.append_, run_underlying ht, sizeOf, typeInfo, hi, Builtin.lenOf, Builtin.firstCells]
    · injection hv with h1 h2 h3
      subst h1 h3
      simp [Builtin.append_, run_underlying ht, sizeOf, typeInfo, hi, Builtin.lenOf, Builtin.firstCells, hnc, storeCells]
  · have hcells : ∀ j u, ys[j]? = some u → w.cell? (a.add j) = some u := by
      intro j u hu
      obtain ⟨b, o, hA, hc⟩ := hat j u hu
      injection hA with hA
      subst hA
      rw [add_at]
      exact hc
    have hbig : (n + m) * bytes ≤ 2000000 * 64 := Nat.mul_le_mul (by omega) hb8
    obtain ⟨v', w', hrun, hown, hgr, _⟩ := run_append_own_at (P := Try.prog) w base t t e i z size bytes ht hi hz hsize hby hzs hsz (.slice A n c) n xs h a m d ys hl hcells h1 (by unfold maxLen; omega) (by omega) hb
    obtain ⟨A', c', rfl⟩ := own_slice hown
    exact ⟨A', c', w', hrun, hown, hgr⟩

def cells2 (ps : List (Int × Int)) : List Value := ps.flatMap fun p => [.int .u16 p.1, .int .u16 p.2]
theorem cells2_len (ps : List (Int × Int)) : (cells2 ps).length = ps.length * 2 := by
  induction ps with
  | nil => rfl
  | cons p ps ih => simp [cells2] at ih ⊢; omega
theorem cells2_append (ps qs : List (Int × Int)) : cells2 (ps ++ qs) = cells2 ps ++ cells2 qs := by simp [cells2]
theorem cells2_one (ps : List (Int × Int)) : ∀ u ∈ cells2 ps, u.oneCell' = true := by
  intro u hu
  obtain ⟨p, _, hp⟩ := List.mem_flatMap.1 hu
  simp at hp
  rcases hp with rfl | rfl <;> rfl
theorem cells2_at : ∀ (ps : List (Int × Int)) (i : Nat) (p : Int × Int), ps[i]? = some p → (cells2 ps)[i * 2]? = some (.int .u16 p.1) ∧ (cells2 ps)[i * 2 + 1]? = some (.int .u16 p.2)
  | [], i, p, h => by simp at h
  | q :: ps, 0, p, h => by
    simp at h
    subst h
    simp [cells2]
  | q :: ps, i + 1, p, h => by
    have := cells2_at ps i p (by simpa using h)
    simp only [cells2, List.flatMap_cons] at this ⊢
    rw [show (i + 1) * 2 = i * 2 + 1 + 1 by omega]
    exact this
theorem cells2_get (ps : List (Int × Int)) (j : Nat) (u : Value) (h : (cells2 ps)[j]? = some u) : ∃ p, ps[j / 2]? = some p ∧ ((j % 2 = 0 ∧ u = .int .u16 p.1) ∨ (j % 2 = 1 ∧ u = .int .u16 p.2)) := by
  have hj : j / 2 < ps.length := by
    have := (List.getElem?_eq_some_iff.1 h).1
    rw [cells2_len] at this
    omega
  refine ⟨ps[j / 2], List.getElem?_eq_getElem hj, ?_⟩
  obtain ⟨h1, h2⟩ := cells2_at ps (j / 2) _ (List.getElem?_eq_getElem hj)
  rcases Nat.mod_two_eq_zero_or_one j with h0 | h0
  · rw [show j / 2 * 2 = j by omega, h] at h1
    exact .inl ⟨h0, by injection h1⟩
  · rw [show j / 2 * 2 + 1 = j by omega, h] at h2
    exact .inr ⟨h0, by injection h2⟩

/-- A row of pairs, and one of numbers of four bytes, that the call has made. -/
def OwnP (e : TypeId) (w : World) (base : Nat) (A : Option Addr) (n c : Nat) (ps : List (Int × Int)) : Prop := w.ownsRow base e 2 (.slice A n c) n (cells2 ps)
def OwnD (w : World) (base : Nat) (A : Option Addr) (n c : Nat) (xs : List Int) : Prop := w.ownsRow base 29 1 (.slice A n c) n (cellsOf_ .u32 xs)
theorem row_below {w w' : World} {base e size : Nat} {A : Option Addr} {n c : Nat} {xs : List Value} (h : w.ownsRow base e size (.slice A n c) n xs) (u : Below w.heap.size w w') : w'.ownsRow base e size (.slice A n c) n xs :=
  h.kept (row := none) ⟨u.os, u.tape, u.output, u.size, fun i hi _ => u.block i hi⟩ (by cases (Value.slice A n c).ownBlock <;> simp)
theorem row_mono {w : World} {base base' e size : Nat} {A : Option Addr} {n c : Nat} {xs : List Value} (h : w.ownsRow base e size (.slice A n c) n xs) (hb : base' ≤ base) : w.ownsRow base' e size (.slice A n c) n xs := by
  refine ⟨h.1, ?_⟩
  rcases h.2 with hn | ⟨g, cap, cur, hv, hg, rest⟩
  · exact .inl hn
  · exact .inr ⟨g, cap, cur, hv, Nat.le_trans hb hg, rest⟩
theorem row_base {w : World} {base e size : Nat} {A : Option Addr} {n c : Nat} {xs : List Value} (h : w.ownsRow base e size (.slice A n c) n xs) {g : Nat} (hg : (Value.slice A n c).ownBlock = some g) : base ≤ g := by
  rcases h.2 with ⟨hv, _⟩ | ⟨g', cap, cur, hv, hb, _⟩
  · rw [hv] at hg
    simp [Value.ownBlock] at hg
  · rw [hv] at hg
    simp [Value.ownBlock] at hg
    omega
/-- A change of blocks that lie below the row's base. -/
theorem row_upd {w w' : World} {S : Nat → Prop} {base e size : Nat} {A : Option Addr} {n c : Nat} {xs : List Value} (h : w.ownsRow base e size (.slice A n c) n xs) (u : Upd S w w') (hs : ∀ i, S i → i < base) : w'.ownsRow base e size (.slice A n c) n xs := by
  refine ⟨h.1, ?_⟩
  rcases h.2 with hn | ⟨g, cap, cur, hv, hg, hh, rest⟩
  · exact .inl hn
  · exact .inr ⟨g, cap, cur, hv, hg, u.heap hh (fun k => by have := hs g k; omega), rest⟩
theorem row_cap {w : World} {base e size : Nat} {A : Option Addr} {n c : Nat} {xs : List Value} (h : w.ownsRow base e size (.slice A n c) n xs) : n ≤ c ∧ c ≤ 9223372036854775807 := by
  rcases h.2 with ⟨hv, h0⟩ | ⟨g, cap, cur, hv, hb, hh, hc, hm, hs, hx⟩
  · injection hv with h1 h2 h3
    omega
  · injection hv with h1 h2 h3
    unfold maxLen at hm
    omega
theorem row_at_ {w : World} {base e size : Nat} {A : Option Addr} {n c : Nat} {xs : List Value} (h : w.ownsRow base e size (.slice A n c) n xs) {i : Nat} {u : Value} (hi : xs[i]? = some u) : ∃ g, A = some ⟨g, 0, none⟩ ∧ g < w.heap.size ∧ w.cell? ⟨g, i, none⟩ = some u := by
  have hil := (List.getElem?_eq_some_iff.1 hi).1
  rcases h.2 with ⟨hv, h0⟩ | ⟨g, cap, cur, hv, hb, hh, hc, hm, hs, hx⟩
  · rw [h.1] at hil
    injection hv with h1 h2 h3
    simp [h2] at hil
  · injection hv with h1 h2 h3
    subst h1
    refine ⟨g, rfl, lt_of_block hh, ?_⟩
    have hl := h.1
    rw [blk_cell hh, ← Array.getElem?_toList]
    rw [← hx, List.getElem?_take_of_lt (by omega)] at hi
    exact hi

theorem OwnP.len {e : TypeId} {w : World} {base : Nat} {A : Option Addr} {n c : Nat} {ps : List (Int × Int)} (h : OwnP e w base A n c ps) : ps.length = n := by
  have := h.1
  rw [cells2_len] at this
  omega
theorem OwnP.rd2 {e : TypeId} {w : World} {base : Nat} {A : Option Addr} {n c : Nat} {ps : List (Int × Int)} (h : OwnP e w base A n c ps) (hn : n ≤ 50000) (hb : ∀ p ∈ ps, (0 ≤ p.1 ∧ p.1 < 65536) ∧ (0 ≤ p.2 ∧ p.2 < 65536)) : Rd2 w A n c ps :=
  ⟨h.len, hn, (row_cap h).1, (row_cap h).2, fun i p hp => by
    obtain ⟨h1, h2⟩ := cells2_at ps i p hp
    obtain ⟨g, rfl, hg, hc⟩ := row_at_ h h1
    obtain ⟨g', hg', _, hd⟩ := row_at_ h h2
    injection hg' with hg'
    injection hg' with hg' _ _
    subst hg'
    exact ⟨g, 0, rfl, hg, by rw [Nat.zero_add]; exact hc, by rw [Nat.zero_add]; exact hd⟩, hb⟩
theorem OwnD.len {w : World} {base : Nat} {A : Option Addr} {n c : Nat} {xs : List Int} (h : OwnD w base A n c xs) : xs.length = n := by
  have := h.1
  simpa [cellsOf_] using this
theorem OwnD.rd {w : World} {base : Nat} {A : Option Addr} {n c : Nat} {xs : List Int} (h : OwnD w base A n c xs) (hn : n ≤ 1000000) : Rd .u32 w A n c xs :=
  ⟨h.len, hn, (row_cap h).1, (row_cap h).2, fun i x hx => by
    obtain ⟨g, rfl, hg, hc⟩ := row_at_ h (i := i) (u := .int .u32 x) (by simp [cellsOf_, hx])
    exact ⟨g, 0, rfl, hg, by rw [Nat.zero_add]; exact hc⟩⟩
theorem ownP_nil (e : TypeId) (w : World) (base : Nat) : OwnP e w base none 0 0 [] := ⟨rfl, .inl ⟨rfl, rfl⟩⟩
theorem ownD_nil (w : World) (base : Nat) : OwnD w base none 0 0 [] := ⟨rfl, .inl ⟨rfl, rfl⟩⟩

theorem info84 : (Try.prog.info? 84).map (fun i => (i.zero, i.size, i.bytes)) = some (some (.agg #[.int .u16 0, .int .u16 0]), 2, 4) := by kernel_rfl
theorem info88 : (Try.prog.info? 88).map (fun i => (i.zero, i.size, i.bytes)) = some (some (.agg #[.int .u16 0, .int .u16 0]), 2, 4) := by kernel_rfl
theorem info29 : (Try.prog.info? 29).map (fun i => (i.zero, i.size, i.bytes)) = some (some (.int .u32 0), 1, 4) := by kernel_rfl

theorem rd2_cells {w : World} {B : Option Addr} {m d : Nat} {qs : List (Int × Int)} (h : Rd2 w B m d qs) : ∀ j u, (cells2 qs)[j]? = some u → ∃ b o, B = some ⟨b, o, none⟩ ∧ w.cell? ⟨b, o + j, none⟩ = some u := by
  intro j u hu
  obtain ⟨p, hp, hd⟩ := cells2_get qs j u hu
  obtain ⟨b, o, rfl, _, h1, h2⟩ := h.at_ _ p hp
  refine ⟨b, o, rfl, ?_⟩
  rcases hd with ⟨hj, rfl⟩ | ⟨hj, rfl⟩
  · rw [show o + j = o + j / 2 * 2 by omega]
    exact h1
  · rw [show o + j = o + j / 2 * 2 + 1 by omega]
    exact h2
theorem append_gap {w : World} {base : Nat} {A : Option Addr} {n c : Nat} {ps : List (Int × Int)} (h : OwnP 84 w base A n c ps) (hb : base ≤ w.heap.size) {B : Option Addr} {m d : Nat} {qs : List (Int × Int)} (k : Rd2 w B m d qs) (hn : n ≤ 1000000) :
    ∃ A' c' w', (Builtin.append_ #[35, 35] 35 #[.slice A n c, .slice B m d]).run Try.prog w = .ok (.slice A' (n + m) c') w' ∧ OwnP 84 w' base A' (n + m) c' (ps ++ qs) ∧ w.grownBy w' (Value.slice A n c).ownBlock := by
  obtain ⟨i0, hi0, hz0, hz1, hz2⟩ := info_parts info84
  have := append_gen 35 84 i0 _ 2 4 Try.underlying35 hi0 hz0 hz1 hz2 rfl (by omega) (by omega) h hb (d := d) (by rw [cells2_len, k.len]) (rd2_cells k) (cells2_one qs) hn (by have := k.small; omega)
  unfold OwnP
  rw [cells2_append]
  exact this
theorem append_skip {w : World} {base : Nat} {A : Option Addr} {n c : Nat} {ps : List (Int × Int)} (h : OwnP 88 w base A n c ps) (hb : base ≤ w.heap.size) {B : Option Addr} {m d : Nat} {qs : List (Int × Int)} (k : Rd2 w B m d qs) (hn : n ≤ 1000000) :
    ∃ A' c' w', (Builtin.append_ #[39, 39] 39 #[.slice A n c, .slice B m d]).run Try.prog w = .ok (.slice A' (n + m) c') w' ∧ OwnP 88 w' base A' (n + m) c' (ps ++ qs) ∧ w.grownBy w' (Value.slice A n c).ownBlock := by
  obtain ⟨i0, hi0, hz0, hz1, hz2⟩ := info_parts info88
  have := append_gen 39 88 i0 _ 2 4 Try.underlying39 hi0 hz0 hz1 hz2 rfl (by omega) (by omega) h hb (d := d) (by rw [cells2_len, k.len]) (rd2_cells k) (cells2_one qs) hn (by have := k.small; omega)
  unfold OwnP
  rw [cells2_append]
  exact this
theorem append_dup {w : World} {base : Nat} {A : Option Addr} {n c : Nat} {xs : List Int} (h : OwnD w base A n c xs) (hb : base ≤ w.heap.size) {B : Option Addr} {m d : Nat} {ys : List Int} (k : Rd .u32 w B m d ys) (hn : n ≤ 1000000) :
    ∃ A' c' w', (Builtin.append_ #[36, 36] 36 #[.slice A n c, .slice B m d]).run Try.prog w = .ok (.slice A' (n + m) c') w' ∧ OwnD w' base A' (n + m) c' (xs ++ ys) ∧ w.grownBy w' (Value.slice A n c).ownBlock := by
  obtain ⟨i0, hi0, hz0, hz1, hz2⟩ := info_parts info29
  have := append_gen 36 29 i0 _ 1 4 Try.underlying36 hi0 hz0 hz1 hz2 rfl (by omega) (by omega) h hb (d := d) (ys := cellsOf_ .u32 ys) (by rw [cells_len, k.len]) (fun j u hu => by
    simp only [cellsOf_, List.getElem?_map, Option.map_eq_some_iff] at hu
    obtain ⟨x, hx, rfl⟩ := hu
    obtain ⟨b, o, hA, _, hc⟩ := k.at_ j x hx
    exact ⟨b, o, hA, hc⟩) (cells_one .u32 ys) hn (by have := k.small; omega)
  unfold OwnD
  rw [cells_append]
  exact this
theorem rd2_one {w : World} {g : Nat} {a b : Int} {t : TypeId} (h : w.heap[g]? = some (.cells #[.int .u16 a, .int .u16 b] t)) (ha : 0 ≤ a ∧ a < 65536) (hb : 0 ≤ b ∧ b < 65536) : Rd2 w (some ⟨g, 0, none⟩) 1 1 [(a, b)] :=
  ⟨rfl, by omega, by omega, by omega, fun i p hp => by
    have h0 : i = 0 := by have := (List.getElem?_eq_some_iff.1 hp).1; simp at this; omega
    subst h0
    simp at hp
    subst hp
    exact ⟨g, 0, rfl, lt_of_block h, by rw [blk_cell h]; rfl, by rw [blk_cell h]; rfl⟩, fun p hp => by
    simp at hp
    subst hp
    exact ⟨ha, hb⟩⟩
theorem rdd_one {w : World} {g : Nat} {a : Int} {t : TypeId} (h : w.heap[g]? = some (.cells #[.int .u32 a] t)) : Rd .u32 w (some ⟨g, 0, none⟩) 1 1 [a] := rd_blk [a] h (by simp)
end Go.Proofs.Ytedbmpfjikaljaa
