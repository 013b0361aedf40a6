/-
  Proved: how a slice of steps that came in reads in memory. No condition.
-/
import Derived.Test.YtgfpeppaimhgiaaRefb
import Derived.ProofKit
import Derived.Deep.Slices
import Derived.Deep.Fields
import Derived.ChangeSame
namespace Go.Proofs.Ytgfpeppaimhgiaa
open Go.RowKit Go.ChangeShapes Go.WideShapes Go.Deep
set_option linter.unusedVariables false
set_option linter.unusedSimpArgs false

theorem choose_list {α : Type} (P : Nat → α → Prop) : ∀ n : Nat, (∀ i, i < n → ∃ s, P i s) → ∃ S : List α, S.length = n ∧ ∀ i s, S[i]? = some s → P i s
  | 0, _ => ⟨[], rfl, fun i s h => by simp at h⟩
  | n + 1, h => by
    obtain ⟨S, h1, h2⟩ := choose_list P n fun i hi => h i (by omega)
    obtain ⟨s, hs⟩ := h n (by omega)
    refine ⟨S ++ [s], by simp [h1], fun i t ht => ?_⟩
    by_cases hi : i < n
    · rw [List.getElem?_append_left (by omega)] at ht
      exact h2 i t ht
    · rw [List.getElem?_append_right (by omega), h1] at ht
      have : i - n = 0 := by
        rcases Nat.eq_zero_or_pos (i - n) with h0 | h0
        · exact h0
        · rw [List.getElem?_eq_none (by simp; omega)] at ht
          cases ht
      have e : i = n := by omega
      subst e
      simp at ht
      subst ht
      exact hs

/-- A slice of steps: kind, key, time of each. -/
def IsSteps (w : World) (a : Option Addr) (len cap : Nat) (S : List (Int × Int × Int)) : Prop :=
  len ≤ maxLen ∧ S.length = len ∧ ∀ i s, S[i]? = some s → ∃ b o, a = some ⟨b, o, none⟩ ∧ b < w.heap.size ∧ w.cell? ⟨b, o + i * 3, none⟩ = some (.int .i64 s.1) ∧ w.cell? ⟨b, o + i * 3 + 1, none⟩ = some (.int .i64 s.2.1) ∧
    w.cell? ⟨b, o + i * 3 + 2, none⟩ = some (.int .i64 s.2.2) ∧ okI s.2.1
theorem IsSteps.at_ {w w' : World} {a : Option Addr} {len cap : Nat} {S : List (Int × Int × Int)} (h : IsSteps w a len cap S) (hb : Below w.heap.size w w') {i : Nat} {s : Int × Int × Int} (hs : S[i]? = some s) :
    ∃ b o, a = some ⟨b, o, none⟩ ∧ w'.cell? ⟨b, o + i * 3, none⟩ = some (.int .i64 s.1) ∧ w'.cell? ⟨b, o + i * 3 + 1, none⟩ = some (.int .i64 s.2.1) ∧ w'.cell? ⟨b, o + i * 3 + 2, none⟩ = some (.int .i64 s.2.2) ∧ okI s.2.1 := by
  obtain ⟨b, o, rfl, hl, h0, h1, h2, hk⟩ := h.2.2 i s hs
  exact ⟨b, o, rfl, (hb.cell (p := ⟨b, _, none⟩) hl).trans h0, (hb.cell (p := ⟨b, _, none⟩) hl).trans h1, (hb.cell (p := ⟨b, _, none⟩) hl).trans h2, hk⟩

section
variable {H : Type} {enc : TypeId × Value → H} {P : Program} {w : World} {base : Nat} {spare : Nat → Bool} {held : Bool}
theorem open_slice_fields {t e : TypeId} {fs : Array Field} {fuel : Nat} {cs : List Value} {x : DataW H × List MemPlace} (ht : P.underlying t = some (.slice e)) (he : P.underlying e = some (.struct fs))
    (hone : oneCellFields P fs = true) (hC : P.cellsOf e = fs.size) (h : DataW.trod enc P w base spare held fuel t cs = some x) :
    (cs = [.slice none 0 0] ∧ x = (.nil, [])) ∨
    ∃ (a : Addr) (len cap m : Nat) (D : Nat → DataW H) (Pl : Nat → List MemPlace), cs = [.slice (some a) len cap] ∧ base ≤ a.block ∧ len ≤ cap ∧ cap ≤ maxLen ∧ m = (if spare a.block then cap else len) ∧
      x = (.slice ((List.range len).map D) ((List.range (m - len)).map fun j => D (len + j)), MemPlace.row a (m * fs.size) ++ (List.range m).flatMap Pl) ∧
      ∀ i, i < m → ∃ (ys : List (DataW H × List MemPlace)) (n : Nat), D i = .agg (ys.map (·.1)) ∧ Pl i = ys.flatMap (·.2) ∧ ys.length = fs.size ∧
        ∀ (j : Nat) (f : Field), fs[j]? = some f → ∃ (v : Value) (y : DataW H × List MemPlace), w.cell? (a.add (i * fs.size + j)) = some v ∧ ys[j]? = some y ∧ DataW.trod enc P w base spare held n f.type [v] = some y := by
  rcases open_slice ht h with h0 | ⟨a, len, cap, m, n, D, Pl, hcs, hb, hl, hm, hmm, hx, hi⟩
  · exact .inl h0
  · refine .inr ⟨a, len, cap, m, D, Pl, hcs, hb, hl, hm, hmm, by rw [hC] at hx; exact hx, fun i him => ?_⟩
    obtain ⟨cs', hc, ht'⟩ := hi i him
    rw [hC] at hc
    obtain ⟨ys, n', hn', hy, hlen, hyl, hf⟩ := DataW.trod_struct he ht'
    obtain ⟨_, hcl, hat⟩ := World.cells?_some hc
    simp only [Prod.mk.injEq] at hy
    refine ⟨ys, n', hy.1, hy.2, hyl, fun j f hj => ?_⟩
    obtain ⟨ho, hk⟩ := hone_of hone j f hj
    have hjl : j < fs.size := (Array.getElem?_eq_some_iff.1 hj).1
    have hcell := hat j hjl
    have hv : cs'[j]? = some (cs'[j]'(by omega)) := List.getElem?_eq_getElem (by omega)
    have h1 := hf j f hj
    rw [ho, hk] at h1
    have hone' : (cs'.drop j).take 1 = [cs'[j]'(by omega)] := by
      rw [List.drop_eq_getElem_cons (by omega)]
      rfl
    rw [hone'] at h1
    have hys : ys[j]? = some (ys[j]'(by omega)) := List.getElem?_eq_getElem (by omega)
    refine ⟨_, _, ?_, hys, h1.trans hys⟩
    rw [← Go.Deep.add_add, hcell, hv]
end

theorem fields31 : ∃ f0 f1 f2, Try.prog.underlying 31 = some (.struct #[f0, f1, f2]) ∧ f0.type = 3 ∧ f1.type = 3 ∧ f2.type = 2 ∧ oneCellFields Try.prog #[f0, f1, f2] = true ∧ Try.prog.cellsOf 31 = 3 := by
  exact ⟨_, _, _, Try.underlying31, rfl, rfl, rfl, by kernel_rfl, by kernel_rfl⟩

theorem isSteps_of {H : Type} {enc : TypeId × Value → H} {w : World} {d : DataW H} {ps : List MemPlace} {a : Option Addr} {len cap : Nat} (h : DataW.Trod enc Try.prog w 0 (fun _ => true) true 22 (.slice a len cap) d ps) : ∃ S, IsSteps w a len cap S := by
  obtain ⟨fuel, hf⟩ := h
  obtain ⟨f0, f1, f2, hu, t0, t1, t2, hone, hC⟩ := fields31
  rcases open_slice_fields (fs := #[f0, f1, f2]) Try.underlying22 hu hone hC hf with ⟨hcs, _⟩ | ⟨x, l, c, m, D, Pl, hcs, _, hl, hm, hmm, _, hi⟩
  · simp [Value.cells] at hcs
    obtain ⟨rfl, rfl, rfl⟩ := hcs
    exact ⟨[], by omega, rfl, fun i s hs => by simp at hs⟩
  · simp [Value.cells] at hcs
    obtain ⟨rfl, rfl, rfl⟩ := hcs
    have hx : ∀ i, i < len → ∃ s : Int × Int × Int, ∃ b o, some x = some (⟨b, o, none⟩ : Addr) ∧ b < w.heap.size ∧ w.cell? ⟨b, o + i * 3, none⟩ = some (.int .i64 s.1) ∧ w.cell? ⟨b, o + i * 3 + 1, none⟩ = some (.int .i64 s.2.1) ∧
        w.cell? ⟨b, o + i * 3 + 2, none⟩ = some (.int .i64 s.2.2) ∧ okI s.2.1 := by
      intro i hil
      have him : i < m := by simp at hmm; omega
      obtain ⟨ys, n, _, _, _, hfs⟩ := hi i him
      obtain ⟨ys0, n0, _, _, _, hfs0⟩ := hi 0 (by simp at hmm; omega)
      obtain ⟨v00, y00, hc00, _, _⟩ := hfs0 0 f0 rfl
      obtain ⟨v0, y0, hc0, _, r0⟩ := hfs 0 f0 rfl
      obtain ⟨v1, y1, hc1, _, r1⟩ := hfs 1 f1 rfl
      obtain ⟨v2, y2, hc2, _, r2⟩ := hfs 2 f2 rfl
      rw [t0] at r0
      rw [t1] at r1
      rw [t2] at r2
      obtain ⟨a0, e0, _, wa0⟩ := DataW.trod_int Try.underlying3 r0
      obtain ⟨a1, e1, _, wa1⟩ := DataW.trod_int Try.underlying3 r1
      obtain ⟨a2, e2, _, wa2⟩ := DataW.trod_int Try.underlying2 r2
      simp at e0 e1 e2
      subst e0 e1 e2
      have hsp : x.spot = none := by
        have h0 : x.add (0 * 3 + 0) = x := rfl
        have h1 : w.cell? x = some v00 := hc00
        unfold World.cell? at h1
        split at h1
        · cases hs : x.spot with
          | none => rfl
          | some z => simp [hs] at h1
        · cases h1
      have hlt := World.block_lt_of_cell? _ _ hc0
      obtain ⟨xb, xo, xs⟩ := x
      simp only at hsp
      subst hsp
      have hadd : ∀ y, ((⟨xb, xo, none⟩ : Addr).add y) = ⟨xb, xo + y, none⟩ := by
        intro y
        unfold Addr.add
        split
        · rename_i h0; subst h0; rfl
        · rfl
      rw [hadd] at hc0 hc1 hc2 hlt
      refine ⟨(a0, a1, a2), xb, xo, rfl, hlt, ?_, ?_, ?_, wa1⟩
      · simpa using hc0
      · simpa [Nat.add_assoc] using hc1
      · simpa [Nat.add_assoc] using hc2
    obtain ⟨S, hS1, hS2⟩ := choose_list _ len hx
    exact ⟨S, by omega, hS1, hS2⟩
end Go.Proofs.Ytgfpeppaimhgiaa
