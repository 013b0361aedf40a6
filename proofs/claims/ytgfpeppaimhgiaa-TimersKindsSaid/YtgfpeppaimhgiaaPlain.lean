/-
  Proved: plain laws on lists of keys with their times: what keys that are set one behind the other come to, and what is left when some are taken away. No condition; no program in sight.
-/
import Derived.Test.YtgfpeppaimhgiaaWorks
namespace Go.Proofs.Ytgfpeppaimhgiaa
open Go.RowKit
set_option linter.unusedVariables false
set_option linter.unusedSectionVars false

theorem below_upd {w w1 w2 : World} {b m B : Nat} (h : Below B w w1) (hB : B ≤ w1.heap.size) (u : Upd (Two b m) w1 w2) (hb : B ≤ b) (hm : B ≤ m) : Below B w w2 :=
  h.trans (u.below hB (fun i hi => by rcases hi with rfl | rfl <;> assumption))

section
variable {κ : Type} [DecidableEq κ]
theorem rdrop_fresh {R : List (κ × Int)} {a : κ} (h : ∀ p ∈ R, p.1 ≠ a) : rdrop R a = R := List.filter_eq_self.2 fun p hp => decide_eq_true (h p hp)
theorem rset_fresh {R : List (κ × Int)} {a : κ} (h : ∀ p ∈ R, p.1 ≠ a) (t : Int) : rset R a t = R ++ [(a, t)] := by unfold rset; rw [rdrop_fresh h]
theorem rhas_iff {R : List (κ × Int)} {a : κ} : rhas R a = true ↔ ∃ p ∈ R, p.1 = a := by simp [rhas]
theorem mem_rdrop {R : List (κ × Int)} {a : κ} {p : κ × Int} : p ∈ rdrop R a ↔ p ∈ R ∧ p.1 ≠ a := by simp [rdrop]
theorem rdrop_not {R : List (κ × Int)} {a : κ} : rhas (rdrop R a) a = false := by simp [rhas, rdrop]
end

/-- The keys 0, 1, .. with their times. -/
def rng (zs : List Int) (n : Nat) : List (Int × Int) := (List.range n).map fun i : Nat => ((i : Int), zs.getD i 0)
theorem rng_zero (zs : List Int) : rng zs 0 = [] := rfl
theorem rng_succ (zs : List Int) (n : Nat) : rng zs (n + 1) = rng zs n ++ [((n : Int), zs.getD n 0)] := by simp [rng, List.range_succ]
theorem mem_rng {zs : List Int} {n : Nat} {p : Int × Int} : p ∈ rng zs n ↔ ∃ i, i < n ∧ p = ((i : Int), zs.getD i 0) := by
  simp only [rng, List.mem_map, List.mem_range]
  constructor
  · rintro ⟨i, h, rfl⟩; exact ⟨i, h, rfl⟩
  · rintro ⟨i, h, rfl⟩; exact ⟨i, h, rfl⟩
theorem rng_length (zs : List Int) (n : Nat) : (rng zs n).length = n := by simp [rng]
theorem rset_rng (zs : List Int) (n : Nat) : rset (rng zs n) (n : Int) (zs.getD n 0) = rng zs (n + 1) := by
  rw [rng_succ, rset_fresh]
  intro p hp
  obtain ⟨i, hi, rfl⟩ := mem_rng.1 hp
  simp
  omega

/-- Those of them from i on. -/
def rfrom (zs : List Int) (n i : Nat) : List (Int × Int) := (rng zs n).filter fun p => decide ((i : Int) ≤ p.1)
theorem rfrom_zero (zs : List Int) (n : Nat) : rfrom zs n 0 = rng zs n := List.filter_eq_self.2 fun p hp => by
  obtain ⟨i, hi, rfl⟩ := mem_rng.1 hp
  simp
theorem rfrom_end (zs : List Int) (n : Nat) : rfrom zs n n = [] := List.filter_eq_nil_iff.2 fun p hp => by
  obtain ⟨i, hi, rfl⟩ := mem_rng.1 hp
  simp
  omega
theorem rfrom_drop (zs : List Int) (n i : Nat) : rdrop (rfrom zs n i) (i : Int) = rfrom zs n (i + 1) := by
  unfold rdrop rfrom
  rw [List.filter_filter]
  refine List.filter_congr fun p hp => ?_
  rw [Bool.eq_iff_iff]
  simp
  omega
theorem rfrom_has (zs : List Int) (n i : Nat) (h : i < n) : rhas (rfrom zs n i) (i : Int) = true :=
  rhas_iff.2 ⟨((i : Int), zs.getD i 0), List.mem_filter.2 ⟨mem_rng.2 ⟨i, h, rfl⟩, by simp⟩, rfl⟩
theorem okI_nat (i : Nat) (h : i ≤ 1000) : okI (i : Int) := by
  have h1 : IntKind.i64.min = -9223372036854775808 := rfl
  have h2 : IntKind.i64.max = 9223372036854775807 := rfl
  simp [okI, Lit.wf, h1, h2]
  omega
end Go.Proofs.Ytgfpeppaimhgiaa
