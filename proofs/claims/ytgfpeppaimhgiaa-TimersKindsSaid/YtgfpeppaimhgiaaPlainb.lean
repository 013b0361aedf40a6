/-
  Proved: plain laws on what is due: what the earliest of a list is, and what is left when all that is due has been taken. No condition; no program in sight.
-/
import Derived.Test.YtgfpeppaimhgiaaPlain
namespace Go.Proofs.Ytgfpeppaimhgiaa
set_option linter.unusedVariables false
set_option linter.unusedSectionVars false
section
variable {κ : Type} [DecidableEq κ]
theorem foldl_min : ∀ (r : List (κ × Int)) (x : κ × Int), ∀ y ∈ x :: r, (r.foldl earlier x).2 ≤ y.2
  | [], x, y, hy => by simp at hy; subst hy; simp
  | z :: r, x, y, hy => by
    simp only [List.foldl_cons]
    have h1 := foldl_min r (earlier x z) (earlier x z) (by simp)
    have h2 : (earlier x z).2 ≤ x.2 ∧ (earlier x z).2 ≤ z.2 := by
      unfold earlier
      split <;> omega
    rcases List.mem_cons.1 hy with rfl | hy
    · omega
    · rcases List.mem_cons.1 hy with rfl | hy
      · omega
      · exact foldl_min r (earlier x z) y (by simp [hy])
theorem nxt_min {R : List (κ × Int)} {p : κ × Int} (h : nxt R = some p) : ∀ y ∈ R, p.2 ≤ y.2 := by
  cases R with
  | nil => simp [nxt] at h
  | cons x r =>
    simp only [nxt, Option.some.injEq] at h
    rw [← h]
    exact foldl_min r x
theorem nxt_none {R : List (κ × Int)} (h : nxt R = none) : R = [] := by
  cases R with
  | nil => rfl
  | cons x r => simp [nxt] at h
theorem nxt_some {R : List (κ × Int)} (h : R ≠ []) : ∃ p, nxt R = some p := by
  cases R with
  | nil => exact absurd rfl h
  | cons x r => exact ⟨_, rfl⟩

/-- Of one time the first one comes. -/
theorem nxt_first {R : List (κ × Int)} {p : κ × Int} (h : nxt R = some p) : ∃ A B, R = A ++ p :: B ∧ ∀ a ∈ A, p.2 < a.2 := by
  cases R with
  | nil => simp [nxt] at h
  | cons x r =>
    simp only [nxt, Option.some.injEq] at h
    revert x
    induction r with
    | nil => intro x h; exact ⟨[], [], by simp at h; simp [h], by simp⟩
    | cons z r ih =>
      intro x h
      simp only [List.foldl_cons] at h
      by_cases hz : z.2 < x.2
      · have he : earlier x z = z := if_pos hz
        rw [he] at h
        obtain ⟨A, B, h1, h2⟩ := ih z h
        have hm := foldl_min r z z (by simp)
        rw [h] at hm
        refine ⟨x :: A, B, by rw [List.cons_append, ← h1], fun a ha => ?_⟩
        rcases List.mem_cons.1 ha with rfl | ha
        · omega
        · exact h2 a ha
      · have he : earlier x z = x := if_neg hz
        rw [he] at h
        obtain ⟨A, B, h1, h2⟩ := ih x h
        cases A with
        | nil =>
          simp only [List.nil_append, List.cons.injEq] at h1
          obtain ⟨rfl, rfl⟩ := h1
          exact ⟨[], z :: r, rfl, by simp⟩
        | cons a A =>
          simp only [List.cons_append, List.cons.injEq] at h1
          obtain ⟨rfl, rfl⟩ := h1
          have := h2 x (by simp)
          refine ⟨x :: z :: A, B, rfl, fun a ha => ?_⟩
          rcases List.mem_cons.1 ha with rfl | ha
          · exact this
          · rcases List.mem_cons.1 ha with rfl | ha
            · omega
            · exact h2 a (by simp [ha])

/-- So many of them are due. -/
def dueN (R : List (κ × Int)) (now : Int) : Nat := (R.filter fun p => decide (p.2 ≤ now)).length
theorem due_pos {R : List (κ × Int)} {now : Int} (h : 0 < dueN R now) : ∃ p ∈ R, p.2 ≤ now ∧ due R now = some p.1 ∧ rpop R now = rdrop R p.1 := by
  unfold dueN at h
  obtain ⟨y, hy⟩ := List.exists_mem_of_length_pos h
  obtain ⟨hy1, hy2⟩ := List.mem_filter.1 hy
  obtain ⟨p, hp⟩ := nxt_some (List.ne_nil_of_mem hy1)
  have hm := nxt_min hp y hy1
  have hle : p.2 ≤ now := by simp at hy2; omega
  have hd : due R now = some p.1 := by simp [due, hp]; omega
  exact ⟨p, nxt_mem hp, hle, hd, by simp [rpop, hd]⟩
theorem due_zero {R : List (κ × Int)} {now : Int} (h : dueN R now = 0) : due R now = none ∧ rpop R now = R ∧ ∀ p ∈ R, now < p.2 := by
  have hall : ∀ p ∈ R, now < p.2 := by
    intro p hp
    have : R.filter (fun p => decide (p.2 ≤ now)) = [] := List.eq_nil_of_length_eq_zero h
    have := List.filter_eq_nil_iff.1 this p hp
    simp at this
    exact this
  have hd : due R now = none := by
    unfold due
    cases hn : nxt R with
    | none => rfl
    | some p =>
      have := hall p (nxt_mem hn)
      simp [this]
  exact ⟨hd, by simp [rpop, hd], hall⟩

theorem filter_ne_length : ∀ {R : List (κ × Int)} {p : κ × Int}, (R.map (·.1)).Nodup → p ∈ R → (R.filter fun q => decide (q.1 ≠ p.1)).length + 1 = R.length
  | [], p, _, h => by simp at h
  | x :: R, p, hn, h => by
    simp only [List.map_cons, List.nodup_cons, List.mem_map, not_exists, not_and] at hn
    rcases List.mem_cons.1 h with rfl | h
    · have hf : R.filter (fun q => decide (q.1 ≠ p.1)) = R := List.filter_eq_self.2 fun q hq => decide_eq_true (hn.1 q hq)
      rw [List.filter_cons_of_neg (by simp), hf, List.length_cons]
    · have hx : x.1 ≠ p.1 := fun e => hn.1 p h e.symm
      rw [List.filter_cons_of_pos (by exact decide_eq_true hx), List.length_cons, List.length_cons, filter_ne_length hn.2 h]

theorem dueN_drop {R : List (κ × Int)} {now : Int} {p : κ × Int} (hn : (R.map (·.1)).Nodup) (hp : p ∈ R) (hle : p.2 ≤ now) : dueN (rdrop R p.1) now + 1 = dueN R now := by
  unfold dueN rdrop
  have h := filter_ne_length (R := R.filter fun p => decide (p.2 ≤ now)) (p := p) (hn.sublist (List.filter_sublist.map _)) (List.mem_filter.2 ⟨hp, by simpa using hle⟩)
  rw [List.filter_filter] at h ⊢
  rw [← h]
  congr 2
  exact List.filter_congr fun q _ => Bool.and_comm _ _
theorem rdrop_length {R : List (κ × Int)} {p : κ × Int} (hn : (R.map (·.1)).Nodup) (hp : p ∈ R) : (rdrop R p.1).length + 1 = R.length := filter_ne_length hn hp
end

theorem rng_nodup (zs : List Int) (n : Nat) : ((rng zs n).map (·.1)).Nodup := by
  unfold rng
  rw [List.map_map]
  have : (List.range n).Pairwise (fun a b => ((fun i : Nat => (i : Int)) a) ≠ ((fun i : Nat => (i : Int)) b)) := by
    refine List.Pairwise.imp ?_ (List.nodup_range (n := n))
    intro a b h
    exact fun e => h (Int.ofNat.inj e)
  exact List.pairwise_map.2 this
theorem rng_sorted (zs : List Int) (n : Nat) : (rng zs n).Pairwise (fun a b => a.1 < b.1) := by
  unfold rng
  rw [List.pairwise_map]
  refine List.Pairwise.imp ?_ List.pairwise_lt_range
  intro a b h
  simpa using h
theorem dueN_succ (zs : List Int) (n : Nat) (now : Int) : dueN (rng zs (n + 1)) now = dueN (rng zs n) now + (if zs.getD n 0 ≤ now then 1 else 0) := by
  unfold dueN
  rw [rng_succ, List.filter_append, List.length_append]
  congr 1
  by_cases h : zs.getD n 0 ≤ now
  · rw [if_pos h, List.filter_cons_of_pos (by simpa using h)]; rfl
  · rw [if_neg h, List.filter_cons_of_neg (by simpa using h)]; rfl
theorem dueN_le {κ : Type} (R : List (κ × Int)) (now : Int) : dueN R now ≤ R.length := List.length_filter_le _ _

theorem nodup_le {α : Type} [DecidableEq α] : ∀ {l m : List α}, l.Nodup → (∀ x ∈ l, x ∈ m) → l.length ≤ m.length
  | [], m, _, _ => by simp
  | x :: l, m, hn, h => by
    obtain ⟨h1, h2⟩ := List.nodup_cons.1 hn
    have hx := h x (by simp)
    have := nodup_le (l := l) (m := m.erase x) h2 fun y hy => (List.mem_erase_of_ne (fun e => h1 (by rw [← e]; exact hy))).2 (h y (by simp [hy]))
    rw [List.length_erase_of_mem hx] at this
    have hp := List.length_pos_of_mem hx
    simp only [List.length_cons]
    omega
/-- All that is not due, and as many more as are still to be taken. -/
structure DueR (zs : List Int) (n : Nat) (now : Int) (left : Nat) (R : List (Int × Int)) : Prop where
  sub : R.Sublist (rng zs n)
  late : ∀ p ∈ rng zs n, now < p.2 → p ∈ R
  left : dueN R now = left
theorem DueR.start (zs : List Int) (n : Nat) (now : Int) : DueR zs n now (dueN (rng zs n) now) (rng zs n) := ⟨List.Sublist.refl _, fun p hp _ => hp, rfl⟩
theorem DueR.nodup {zs : List Int} {n : Nat} {now : Int} {left : Nat} {R : List (Int × Int)} (h : DueR zs n now left R) : (R.map (·.1)).Nodup := (rng_nodup zs n).sublist (h.sub.map _)
theorem DueR.step {zs : List Int} {n : Nat} {now : Int} {left : Nat} {R : List (Int × Int)} (h : DueR zs n now (left + 1) R) :
    ∃ i, i < n ∧ zs.getD i 0 ≤ now ∧ due R now = some (i : Int) ∧ DueR zs n now left (rpop R now) := by
  obtain ⟨p, hp, hle, hd, hr⟩ := due_pos (R := R) (now := now) (by rw [h.left]; omega)
  obtain ⟨i, hi, rfl⟩ := mem_rng.1 (h.sub.mem hp)
  refine ⟨i, hi, hle, hd, ?_⟩
  rw [hr]
  refine ⟨List.filter_sublist.trans h.sub, fun q hq hlt => mem_rdrop.2 ⟨h.late q hq hlt, fun e => ?_⟩, ?_⟩
  · obtain ⟨j, hj, rfl⟩ := mem_rng.1 hq
    have : j = i := Int.ofNat.inj e
    subst this
    simp only at hle hlt
    omega
  · have h1 := dueN_drop (now := now) h.nodup hp hle
    have h2 := h.left
    have h3 : dueN (rdrop R ((i : Int), zs.getD i 0).1) now + 1 = left + 1 := by rw [h1, h2]
    exact Nat.succ.inj h3
/-- Those of them from i on that are not due. -/
def lfrom (zs : List Int) (n i : Nat) (now : Int) : List (Int × Int) := ((rng zs n).filter fun p => decide (now < p.2)).filter fun p => decide ((i : Int) ≤ p.1)
theorem DueR.done {zs : List Int} {n : Nat} {now : Int} {R : List (Int × Int)} (h : DueR zs n now 0 R) : due R now = none ∧ rpop R now = R ∧ R = lfrom zs n 0 now ∧ R.length + dueN (rng zs n) now = n := by
  obtain ⟨h1, h2, h3⟩ := due_zero h.left
  have hR : R = (rng zs n).filter fun p => decide (now < p.2) := by
    have hf : R.filter (fun p => decide (now < p.2)) = R := List.filter_eq_self.2 fun p hp => by simpa using h3 p hp
    have hs : R.Sublist ((rng zs n).filter fun p => decide (now < p.2)) := by
      have := h.sub.filter (fun p => decide (now < p.2))
      rwa [hf] at this
    refine hs.eq_of_length_le ?_
    have hnd : ((rng zs n).filter fun p => decide (now < p.2)).Nodup := by
      have : (rng zs n).Nodup := (List.pairwise_map.1 (rng_nodup zs n)).imp fun h e => h (by rw [e])
      exact this.sublist List.filter_sublist
    refine nodup_le hnd fun p hp => ?_
    obtain ⟨hp1, hp2⟩ := List.mem_filter.1 hp
    exact h.late p hp1 (by simpa using hp2)
  refine ⟨h1, h2, ?_, ?_⟩
  · unfold lfrom
    rw [← hR]
    refine (List.filter_eq_self.2 fun p hp => ?_).symm
    obtain ⟨i, _, rfl⟩ := mem_rng.1 (h.sub.mem hp)
    simp
  · rw [hR]
    unfold dueN
    have : ∀ L : List (Int × Int), (L.filter fun p => decide (now < p.2)).length + (L.filter fun p => decide (p.2 ≤ now)).length = L.length := by
      intro L
      induction L with
      | nil => rfl
      | cons x L ih =>
        by_cases hx : now < x.2
        · rw [List.filter_cons_of_pos (by simpa using hx), List.filter_cons_of_neg (by simpa using hx), List.length_cons, List.length_cons]
          omega
        · rw [List.filter_cons_of_neg (by simpa using hx), List.filter_cons_of_pos (by simpa using hx), List.length_cons, List.length_cons]
          omega
    rw [this, rng_length]
theorem lfrom_drop (zs : List Int) (n i : Nat) (now : Int) : rdrop (lfrom zs n i now) (i : Int) = lfrom zs n (i + 1) now := by
  unfold rdrop lfrom
  rw [List.filter_filter]
  refine List.filter_congr fun p hp => ?_
  rw [Bool.eq_iff_iff]
  simp
  omega
theorem lfrom_end (zs : List Int) (n : Nat) (now : Int) : lfrom zs n n now = [] := List.filter_eq_nil_iff.2 fun p hp => by
  obtain ⟨i, hi, rfl⟩ := mem_rng.1 (List.mem_filter.1 hp).1
  simp
  omega
theorem lfrom_has (zs : List Int) (n i : Nat) (now : Int) (h : i < n) : rhas (lfrom zs n i now) (i : Int) = decide (now < zs.getD i 0) := by
  rw [Bool.eq_iff_iff, rhas_iff, decide_eq_true_iff]
  constructor
  · rintro ⟨p, hp, he⟩
    obtain ⟨hp1, hp2⟩ := List.mem_filter.1 (List.mem_filter.1 hp).1
    obtain ⟨j, hj, rfl⟩ := mem_rng.1 hp1
    have : j = i := Int.ofNat.inj he
    subst this
    simpa using hp2
  · intro hlt
    exact ⟨((i : Int), zs.getD i 0), List.mem_filter.2 ⟨List.mem_filter.2 ⟨mem_rng.2 ⟨i, h, rfl⟩, by simpa using hlt⟩, by simp⟩, rfl⟩
theorem okU_nat (i : Nat) (h : i ≤ 1000) : okU (i : Int) := by
  have h1 : IntKind.u16.min = 0 := rfl
  have h2 : IntKind.u16.max = 65535 := rfl
  simp [okU, Lit.wf, h1, h2]
  omega
end Go.Proofs.Ytgfpeppaimhgiaa
