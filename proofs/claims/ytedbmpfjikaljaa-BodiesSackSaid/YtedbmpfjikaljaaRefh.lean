/-
  Proved: whether gaps are apart, as the reference asks; and what a world in which a law is at work comes to behind an append. Conditions: rows are shorter than fifty thousand.
-/
import Derived.Test.YtedbmpfjikaljaaHold
namespace Go.Proofs.Ytedbmpfjikaljaa
open Go.RowKit
set_option linter.unusedVariables false
set_option linter.unusedSimpArgs false
set_option linter.unusedSectionVars false
set_option maxRecDepth 100000

theorem Hold.grown {w V V' : World} {K : List (Nat × Obj)} (h : Hold w K V) {row : Option Nat} (g : V.grownBy V' row) {base : Nat} (hr : ∀ b, row = some b → base ≤ b) (h2 : ∀ p ∈ K, p.1 < base) (h3 : w.heap.size ≤ base) : Hold w K V' :=
  ⟨fun p hp => (g.block _ (lt_of_block (h.keep p hp)) (fun e => by have := hr _ e.symm; have := h2 p hp; omega)).trans (h.keep p hp), below_grown h.low g (fun b hb => by have := hr b hb; omega) h.low.size⟩
theorem Hold.set2b {w V : World} {K : List (Nat × Obj)} {g : Nat} {a0 a1 : Value} {t : TypeId} (h : Hold w ((g, .cells #[a0, a1] t) :: K) V) (hg : w.heap.size ≤ g) (hK : ∀ p ∈ K, p.1 ≠ g) (v : Value) :
    Hold w ((g, .cells #[a0, v] t) :: K) (V.setCell ⟨g, 1, none⟩ v) := ⟨fun p hp => by
  rcases List.mem_cons.1 hp with rfl | hp
  · have := setCell_block (i := 1) (v := v) h.h0
    simpa using this
  · rw [Below.heap_setCell _ _ _ _ (hK p hp)]
    exact h.keep p (List.mem_cons_of_mem _ hp), h.low.setCell (p := ⟨g, 1, none⟩) hg v⟩

theorem numberI_ (w : World) {A : Option Addr} {n c : Nat} {xs : List Int} (h : Rd .u8 w A n c xs) (hy : Byt xs) (at_ : Nat) (h2 : at_ ≤ 200000) (s : Nat) (hs : isSized s = true) {ai si : Int} (ha : ai = (at_ : Int)) (hsi : si = (s : Int)) :
    Calls Try.prog 55 #[.slice A n c, .int .i64 ai, .int .i64 si] w fun e w' => e = .returned (.int .u64 (gt xs at_ s)) ∧ Below w.heap.size w w' := by
  subst ha hsi
  exact number_ w h hy at_ (by omega) s hs


theorem aptS_false (ps qs : List (Int × Int)) (h : (aptS ps).1 = false) : (aptS (ps ++ qs)).1 = false := by
  have go : ∀ (qs : List (Int × Int)) (s : Bool × Int), s.1 = false → (qs.foldl (fun s p => (s.1 && decide (s.2 + 2 ≤ p.1) && decide (p.1 ≤ p.2), p.2)) s).1 = false := by
    intro qs
    induction qs with
    | nil => intro s hs; exact hs
    | cons q qs ih => intro s hs; exact ih _ (by simp [hs])
  unfold aptS at h ⊢
  rw [List.foldl_append]
  exact go qs _ h
theorem aptS_end : ∀ {ps : List (Int × Int)}, (∀ p ∈ ps, (0 ≤ p.1 ∧ p.1 < 65536) ∧ (0 ≤ p.2 ∧ p.2 < 65536)) → 0 ≤ (aptS ps).2 ∧ (aptS ps).2 < 65536 := by
  intro ps hb
  rcases List.eq_nil_or_concat ps with rfl | ⟨l, p, rfl⟩
  · simp [aptS]
  · rw [List.concat_eq_append] at hb ⊢
    obtain ⟨a, b⟩ := p
    rw [aptS_snoc]
    exact (hb (a, b) (by simp)).2
theorem take_snoc {ps : List (Int × Int)} {i : Nat} {p : Int × Int} (h : ps[i]? = some p) : ps.take (i + 1) = ps.take i ++ [p] := by
  rw [List.take_add_one, h]
  rfl

set_option maxHeartbeats 2000000 in
theorem apart_ (w : World) {B : Option Addr} {n d : Nat} {ps : List (Int × Int)} (h : Rd2 w B n d ps) :
    Calls Try.prog 61 #[.slice B n d] w fun e w' => e = .returned (.bool (aptS ps).1) ∧ Below w.heap.size w w' := by
  have hn := h.small
  have hc := h.cap
  have hmx := h.mx
  have H := Aside.mk h
  clear h
  go_enter Try.func61, Try.ntmps61
  go_wp2_with fail
  go_loopg [3, 4] n (fun j s3 s4 wr => ∃ i ev, i + j = n ∧ s4 = .int .i64 (i : Nat) ∧ s3 = .int .i64 ev ∧ Aside (Below w.heap.size w wr) ∧ Aside (aptS (ps.take i) = (true, ev)) ∧ 0 ≤ ev ∧ ev < 65536)
  case atStart => exact ⟨0, 0, by omega, rfl, rfl, ⟨Below.refl _ _⟩, ⟨rfl⟩, by omega, by omega⟩
  case round =>
    obtain ⟨i, ev, hij, rfl, rfl, BL, T, hev0, hev1⟩ := hrel
    by_cases ci : i < n
    · obtain ⟨p, b1, o1, hp, rfl, hlt1, c0, c1, hp1, hp2⟩ := (H.out.below BL.out).get ci
      obtain ⟨a, b⟩ := p
      simp only at c0 c1 hp1 hp2
      have S : Aside (aptS (ps.take (i + 1)) = (decide (ev + 2 ≤ a) && decide (a ≤ b), b)) := ⟨by rw [take_snoc hp, aptS_snoc, T.out]; simp⟩
      have F : Aside ((decide (ev + 2 ≤ a) && decide (a ≤ b)) = false → (aptS ps).1 = false) := ⟨fun h => by
        have := aptS_false (ps.take (i + 1)) (ps.drop (i + 1)) (by rw [S.out]; exact h)
        rwa [List.take_append_drop] at this⟩
      clear hp T
      cases h1 : decide (a < ev + 2)
      · have g1 : decide (ev + 2 ≤ a) = true := decide_eq_true (by have := of_decide_eq_false h1; omega)
        cases h2 : decide (b < a)
        · have g2 : decide (a ≤ b) = true := decide_eq_true (by have := of_decide_eq_false h2; omega)
          rw [g1, g2] at S
          clear F g1 g2
          go_wp2_with fail
          go_quiet (fail)
          go_wp2_with fail
          go_roundg (n - (i + 1))
          case rel => exact ⟨i + 1, b, by omega, by go_num, rfl, ⟨below_drewN BL.out _⟩, S, by omega, by omega⟩
          case measure => omega
        · have g2 : decide (a ≤ b) = false := decide_eq_false (by have := of_decide_eq_true h2; omega)
          have R := Aside.mk (F.out (by rw [g1, g2]; rfl))
          clear F g1 g2 S
          go_wp2_with fail
          go_quiet (fail)
          go_wp2_with fail
          go_ret
          exact ⟨by rw [R.out]; rfl, by first | exact below_drewN BL.out _ | exact BL.out⟩
      · have g1 : decide (ev + 2 ≤ a) = false := decide_eq_false (by have := of_decide_eq_true h1; omega)
        have R := Aside.mk (F.out (by rw [g1]; rfl))
        clear F g1 S
        go_wp2_with fail
        go_quiet (fail)
        go_wp2_with fail
        go_ret
        exact ⟨by rw [R.out]; rfl, by first | exact below_drewN BL.out _ | exact BL.out⟩
    · obtain rfl : i = n := by omega
      have hd : decide (i < i) = false := decide_eq_false ci
      have hl := H.out.len
      have R : Aside ((aptS ps).1 = true) := ⟨by have := T.out; rw [List.take_of_length_le (by omega)] at this; rw [this]⟩
      clear T
      go_wp2_with fail
      go_ret
      exact ⟨by rw [R.out]; rfl, by first | exact below_drewN BL.out _ | exact BL.out⟩
end Go.Proofs.Ytedbmpfjikaljaa
