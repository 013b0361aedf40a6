/-
  Proved: plain laws on the order in which the earliest of a list is taken again and again. No condition; no program in sight.
-/
import Derived.Test.YtgfpeppaimhgiaaPlainb
namespace Go.Proofs.Ytgfpeppaimhgiaa
set_option linter.unusedVariables false

/-- So many are left, and each of them comes behind the last one that was taken. -/
structure OrdR (zs : List Int) (n left : Nat) (last : Option Nat) (R : List (Int × Int)) : Prop where
  sub : R.Sublist (rng zs n)
  len : R.length = left
  above : ∀ q, last = some q → q < n ∧ ∀ p ∈ R, zs.getD q 0 < p.2 ∨ zs.getD q 0 = p.2 ∧ (q : Int) < p.1
theorem OrdR.start (zs : List Int) (n : Nat) : OrdR zs n n none (rng zs n) := ⟨List.Sublist.refl _, rng_length zs n, fun q h => by cases h⟩
theorem OrdR.step {zs : List Int} {n left : Nat} {last : Option Nat} {R : List (Int × Int)} (h : OrdR zs n (left + 1) last R) :
    ∃ q, q < n ∧ nxt R = some ((q : Int), zs.getD q 0) ∧ rhas R (q : Int) = true ∧ (∀ q0, last = some q0 → q0 < n ∧ (zs.getD q0 0 < zs.getD q 0 ∨ zs.getD q0 0 = zs.getD q 0 ∧ q0 < q)) ∧
      OrdR zs n left (some q) (rdrop R (q : Int)) := by
  have hne : R ≠ [] := by
    intro e
    have := h.len
    rw [e] at this
    simp at this
  obtain ⟨p, hp⟩ := nxt_some hne
  have hm := nxt_mem hp
  obtain ⟨q, hq, rfl⟩ := mem_rng.1 (h.sub.mem hm)
  have hnd : (R.map (·.1)).Nodup := (rng_nodup zs n).sublist (h.sub.map _)
  refine ⟨q, hq, hp, rhas_of_mem hm, fun q0 h0 => ?_, List.filter_sublist.trans h.sub, ?_, fun q1 h1 => ?_⟩
  · obtain ⟨h1, h2⟩ := h.above q0 h0
    refine ⟨h1, ?_⟩
    rcases h2 _ hm with h3 | ⟨h3, h4⟩
    · exact .inl h3
    · exact .inr ⟨h3, by simpa using h4⟩
  · have h1 := rdrop_length hnd hm
    have h2 := h.len
    rw [h2] at h1
    exact Nat.succ.inj h1
  · injection h1 with h1
    subst h1
    refine ⟨hq, fun p' hp' => ?_⟩
    obtain ⟨hp1, hp2⟩ := mem_rdrop.1 hp'
    have hmin := nxt_min hp p' hp1
    obtain ⟨A, B, hR, hA⟩ := nxt_first hp
    by_cases hlt : zs.getD q 0 < p'.2
    · exact .inl hlt
    · refine .inr ⟨by dsimp only at hmin; omega, ?_⟩
      have hs : R.Pairwise (fun a b => a.1 < b.1) := (rng_sorted zs n).sublist h.sub
      rw [hR] at hs hp1
      rcases List.mem_append.1 hp1 with ha | hb
      · exact absurd (hA p' ha) hlt
      · rcases List.mem_cons.1 hb with rfl | hb
        · exact absurd rfl hp2
        · exact (List.pairwise_cons.1 (List.pairwise_append.1 hs).2.1).1 p' hb
theorem OrdR.done {zs : List Int} {n : Nat} {last : Option Nat} {R : List (Int × Int)} (h : OrdR zs n 0 last R) : R = [] := List.eq_nil_of_length_eq_zero h.len

/-- Which keys have been seen: those that are gone. -/
def seenOf (n : Nat) (R : List (Int × Int)) : Array Value := ((List.range n).map fun i : Nat => Value.bool (!rhas R (i : Int))).toArray
theorem seenOf_at (n : Nat) (R : List (Int × Int)) (i : Nat) (h : i < n) : (seenOf n R)[i]? = some (.bool (!rhas R (i : Int))) := by
  simp [seenOf, h]
theorem seenOf_start (zs : List Int) (n : Nat) : seenOf n (rng zs n) = Array.replicate n (.bool false) := by
  apply Array.ext_getElem?
  intro i
  by_cases h : i < n
  · rw [seenOf_at _ _ _ h]
    have : rhas (rng zs n) (i : Int) = true := rhas_iff.2 ⟨_, mem_rng.2 ⟨i, h, rfl⟩, rfl⟩
    simp [this, h]
  · simp [seenOf, h]
theorem seenOf_set (n : Nat) (R : List (Int × Int)) (q : Nat) (h : q < n) : (seenOf n R).setIfInBounds q (.bool true) = seenOf n (rdrop R (q : Int)) := by
  apply Array.ext_getElem?
  intro i
  by_cases hi : i < n
  · rw [seenOf_at _ _ _ hi, Array.getElem?_setIfInBounds]
    by_cases e : q = i
    · subst e
      have : (seenOf n R).size = n := by simp [seenOf]
      simp [this, h, rdrop_not]
    · rw [if_neg e, seenOf_at _ _ _ hi]
      have : rhas (rdrop R (q : Int)) (i : Int) = rhas R (i : Int) := by
        rw [Bool.eq_iff_iff, rhas_iff, rhas_iff]
        constructor
        · rintro ⟨p, hp, he⟩
          exact ⟨p, (mem_rdrop.1 hp).1, he⟩
        · rintro ⟨p, hp, he⟩
          exact ⟨p, mem_rdrop.2 ⟨hp, fun hq => e (by rw [he] at hq; exact (Int.ofNat.inj hq).symm)⟩, he⟩
      rw [this]
  · simp [seenOf, hi]
end Go.Proofs.Ytgfpeppaimhgiaa
