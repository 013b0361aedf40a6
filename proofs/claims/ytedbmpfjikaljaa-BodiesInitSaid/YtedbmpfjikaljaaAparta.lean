/-
  Proved: whether rows of bytes reach into one another, as a statement asks by turning each byte that a row has: rows in blocks of their own do not. Conditions: there are at most a hundred rows.
-/
import Derived.Test.YtedbmpfjikaljaaHold
import Derived.Laws.BytesArg
namespace Go.Proofs.Ytedbmpfjikaljaa
open Go.RowKit
set_option linter.unusedVariables false
set_option linter.unusedSimpArgs false
set_option linter.unusedSectionVars false
set_option maxRecDepth 100000

/-- A row with all the room that it has. -/
structure Full (w : World) (A : Option Addr) (n c : Nat) (ys : List Int) : Prop where
  cap : n ≤ c
  mx : c ≤ 9223372036854775807
  len : ys.length = c
  at_ : (A = none ∧ c = 0) ∨ ∃ g, A = some ⟨g, 0, none⟩ ∧ w.heap[g]? = some (.cells (rowOf_ ys) 5)
theorem row_of_u8 : ∀ (l : List Value), (∀ v ∈ l, ∃ y, v = Value.int .u8 y) → ∃ ys : List Int, l = cellsOf_ .u8 ys
  | [], _ => ⟨[], rfl⟩
  | v :: l, h => by
    obtain ⟨y, rfl⟩ := h v (by simp)
    obtain ⟨ys, hys⟩ := row_of_u8 l (fun u hu => h u (by simp [hu]))
    exact ⟨y :: ys, by rw [hys]; rfl⟩
theorem Own.full {w : World} {base : Nat} {A : Option Addr} {n c : Nat} {xs : List Int} (h : Own w base A n c xs) : ∃ ys, Full w A n c ys ∧ ∀ g, A = some ⟨g, 0, none⟩ → base ≤ g := by
  rcases h.row.2 with ⟨hv, h0⟩ | ⟨g, cap, cur, hv, hb, hh, hc, hm, hs, hx⟩
  · injection hv with h1 h2 h3
    subst h1 h3
    exact ⟨[], ⟨by omega, by omega, rfl, .inl ⟨rfl, rfl⟩⟩, fun g hg => by cases hg⟩
  · injection hv with h1 h2 h3
    subst h1 h3
    obtain ⟨ys, hys⟩ := row_of_u8 cur.toList (h.all hh)
    refine ⟨ys, ⟨hc, by unfold maxLen at hm; omega, ?_, .inr ⟨g, rfl, ?_⟩⟩, fun g' hg => by injection hg with hg; injection hg with hg _ _; omega⟩
    · have := congrArg List.length hys
      simp [cellsOf_] at this
      omega
    · rw [hh]
      congr 2
      apply Array.ext'
      rw [hys]
      rfl
theorem full_marked {w : World} {g : Nat} {xs : List Int} {n : Nat} (hb : w.heap[g]? = some (.cells (rowOf_ (marked xs)) 5)) (hl : xs.length = n) (hn : n ≤ 100000) : Full w (some ⟨g, 0, none⟩) n (n + 16) (marked xs) :=
  ⟨by omega, by omega, by unfold marked; simp [hl], .inr ⟨g, rfl, hb⟩⟩
theorem Full.keep {w w' : World} {A : Option Addr} {n c : Nat} {ys : List Int} (h : Full w A n c ys) (hb : ∀ g, A = some ⟨g, 0, none⟩ → g < w.heap.size → w'.heap[g]? = w.heap[g]?) : Full w' A n c ys := by
  refine ⟨h.cap, h.mx, h.len, ?_⟩
  rcases h.at_ with h0 | ⟨g, h1, h2⟩
  · exact .inl h0
  · exact .inr ⟨g, h1, (hb g h1 (lt_of_block h2)).trans h2⟩
theorem Full.below {w w' : World} {A : Option Addr} {n c : Nat} {ys : List Int} (h : Full w A n c ys) (b : Below w.heap.size w w') : Full w' A n c ys := h.keep fun g _ hg => b.block g hg
theorem Full.lt {w : World} {A : Option Addr} {n c : Nat} {ys : List Int} (h : Full w A n c ys) {g : Nat} (hg : A = some ⟨g, 0, none⟩) : g < w.heap.size := by
  rcases h.at_ with ⟨h0, _⟩ | ⟨g', h1, h2⟩
  · rw [h0] at hg
    cases hg
  · rw [h1] at hg
    injection hg with hg
    injection hg with hg _ _
    subst hg
    exact lt_of_block h2
/-- What a row reads as, as a text. -/
def textOf (n : Nat) (ys : List Int) : ByteArray := strOfNums (ys.take n)
theorem Full.text {w : World} {A : Option Addr} {n c : Nat} {ys : List Int} (h : Full w A n c ys) : (convert 22 9 (.slice A n c)).run Try.prog w = .ok (.string (textOf n ys)) w := by
  have hcap := h.cap
  have hlen := h.len
  rcases h.at_ with ⟨h0, h1⟩ | ⟨g, h1, h2⟩
  · subst h0 h1
    obtain rfl : ys = [] := List.eq_nil_of_length_eq_zero h.len
    rw [run_convert_bytes_nil (P := Try.prog) (w := w) 22 5 Try.underlying22 Try.underlying5 n 0 9 Try.underlying9]
    unfold textOf
    rw [List.take_nil]
    rfl
  · subst h1
    have := run_convert_bytes_arg (P := Try.prog) (w := w) 22 5 Try.underlying22 Try.underlying5 g 0 n c (ys.take n) (by rw [List.length_take]; omega) (fun i hi => by
      rw [Nat.zero_add, blk_cell h2, row_at, List.getD_eq_getElem?_getD, List.getElem?_take_of_lt hi, List.getElem?_eq_getElem (by omega)]
      rfl) 9 Try.underlying9
    exact this

theorem whole_ (w : World) {A : Option Addr} {n c : Nat} (hn : n ≤ c) (hc : c ≤ 9223372036854775807) :
    Calls Try.prog 59 #[.slice A n c] w fun e w' => e = .returned (.slice A c c) ∧ w = w' := by
  go_enter Try.func59, Try.ntmps59
  go_wp2_with fail
  go_ret
  exact ⟨rfl, rfl⟩
end Go.Proofs.Ytedbmpfjikaljaa
