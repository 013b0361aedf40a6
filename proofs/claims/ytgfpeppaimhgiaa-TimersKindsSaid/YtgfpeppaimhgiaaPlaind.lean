/-
  Proved: plain laws: what is said of a list of keys stays said when each key goes by another name. Condition: the names of different keys differ.
-/
import Derived.Test.YtgfpeppaimhgiaaPlainb
import Derived.Test.YtgfpeppaimhgiaaTabP
namespace Go.Proofs.Ytgfpeppaimhgiaa
open Go.RowKit
set_option linter.unusedVariables false
set_option linter.unusedSimpArgs false
set_option linter.unusedSectionVars false

def Small (a : Int) : Prop := a = 0 ∨ a = 1 ∨ a = 2 ∨ a = 3
def nm (a : Int) : ByteArray := if a = 0 then ⟨#[97]⟩ else if a = 1 then ⟨#[98]⟩ else if a = 2 then ⟨#[]⟩ else ⟨#[100]⟩
def pr (a : Int) : KP := if a = 0 then (0, 0) else if a = 1 then (0, 1) else if a = 2 then (1, 0) else (1, 1)
theorem nm_inj {a b : Int} (ha : Small a) (hb : Small b) (h : nm a = nm b) : a = b := by
  rcases ha with rfl | rfl | rfl | rfl <;> rcases hb with rfl | rfl | rfl | rfl <;> simp [nm] at h ⊢
theorem pr_inj {a b : Int} (ha : Small a) (hb : Small b) (h : pr a = pr b) : a = b := by
  rcases ha with rfl | rfl | rfl | rfl <;> rcases hb with rfl | rfl | rfl | rfl <;> simp [pr] at h ⊢
theorem pr_ok {a : Int} (ha : Small a) : okP (pr a) := by
  rcases ha with rfl | rfl | rfl | rfl <;> simp [pr, okP]
theorem nm_ok (a : Int) : okS (nm a) := by
  unfold okS nm maxLen
  split
  · decide
  · split
    · decide
    · split <;> decide

section
variable {κ : Type} [DecidableEq κ] {f : Int → κ}
def mapK (f : Int → κ) (R : List (Int × Int)) : List (κ × Int) := R.map fun p => (f p.1, p.2)
/-- The names of small keys differ. -/
def Apart_ (f : Int → κ) : Prop := ∀ a b, Small a → Small b → f a = f b → a = b
def Smalls (R : List (Int × Int)) : Prop := ∀ p ∈ R, Small p.1
theorem mapK_drop (hf : Apart_ f) {R : List (Int × Int)} (hR : Smalls R) {a : Int} (ha : Small a) : rdrop (mapK f R) (f a) = mapK f (rdrop R a) := by
  unfold rdrop mapK
  rw [List.filter_map]
  congr 1
  refine List.filter_congr fun p hp => ?_
  simp only [Function.comp]
  rw [Bool.eq_iff_iff, decide_eq_true_iff, decide_eq_true_iff]
  exact ⟨fun h e => h (by rw [e]), fun h e => h (hf _ _ (hR p hp) ha e)⟩
theorem mapK_set (hf : Apart_ f) {R : List (Int × Int)} (hR : Smalls R) {a : Int} (ha : Small a) (t : Int) : rset (mapK f R) (f a) t = mapK f (rset R a t) := by
  unfold rset
  rw [mapK_drop hf hR ha]
  simp [mapK]
theorem mapK_has (hf : Apart_ f) {R : List (Int × Int)} (hR : Smalls R) {a : Int} (ha : Small a) : rhas (mapK f R) (f a) = rhas R a := by
  rw [Bool.eq_iff_iff, rhas_iff, rhas_iff]
  constructor
  · rintro ⟨p, hp, he⟩
    obtain ⟨q, hq, rfl⟩ := List.mem_map.1 hp
    exact ⟨q, hq, hf _ _ (hR q hq) ha he⟩
  · rintro ⟨p, hp, he⟩
    exact ⟨(f p.1, p.2), List.mem_map.2 ⟨p, hp, rfl⟩, by rw [he]⟩
theorem mapK_foldl (f : Int → κ) : ∀ (R : List (Int × Int)) (x : Int × Int), (mapK f R).foldl earlier (f x.1, x.2) = (f (R.foldl earlier x).1, (R.foldl earlier x).2)
  | [], x => rfl
  | y :: R, x => by
    have : earlier (f x.1, x.2) (f y.1, y.2) = (f (earlier x y).1, (earlier x y).2) := by
      unfold earlier
      split <;> rfl
    simp only [mapK, List.map_cons, List.foldl_cons] at *
    rw [this]
    exact mapK_foldl f R (earlier x y)
theorem mapK_nxt (f : Int → κ) (R : List (Int × Int)) : nxt (mapK f R) = (nxt R).map fun p => (f p.1, p.2) := by
  cases R with
  | nil => rfl
  | cons x R => simp only [mapK, List.map_cons, nxt, Option.map_some]; exact congrArg some (mapK_foldl f R x)
theorem mapK_due (f : Int → κ) (R : List (Int × Int)) (now : Int) : due (mapK f R) now = (due R now).map f := by
  unfold due
  rw [mapK_nxt]
  cases nxt R with
  | none => rfl
  | some p => simp only [Option.map_some]; split <;> rfl
theorem mapK_length (f : Int → κ) (R : List (Int × Int)) : (mapK f R).length = R.length := by simp [mapK]
end
theorem due_mem {R : List (Int × Int)} {now a : Int} (h : due R now = some a) : ∃ t, (a, t) ∈ R := by
  unfold due at h
  cases hn : nxt R with
  | none => rw [hn] at h; cases h
  | some p =>
    rw [hn] at h
    simp only at h
    split at h
    · cases h
    · injection h with h
      subst h
      exact ⟨p.2, nxt_mem hn⟩
theorem mapK_pop {κ : Type} [DecidableEq κ] {f : Int → κ} (hf : Apart_ f) {R : List (Int × Int)} (hR : Smalls R) (now : Int) : rpop (mapK f R) now = mapK f (rpop R now) := by
  unfold rpop
  rw [mapK_due]
  cases hd : due R now with
  | none => rfl
  | some a =>
    obtain ⟨t, ht⟩ := due_mem hd
    exact mapK_drop hf hR (hR _ ht)
theorem smalls_drop {R : List (Int × Int)} (hR : Smalls R) (a : Int) : Smalls (rdrop R a) := fun p hp => hR p (mem_rdrop.1 hp).1
theorem smalls_set {R : List (Int × Int)} (hR : Smalls R) {a : Int} (ha : Small a) (t : Int) : Smalls (rset R a t) := by
  intro p hp
  rcases List.mem_append.1 hp with hp | hp
  · exact smalls_drop hR a p hp
  · simp at hp
    subst hp
    exact ha
theorem smalls_pop {R : List (Int × Int)} (hR : Smalls R) (now : Int) : Smalls (rpop R now) := by
  unfold rpop
  split
  · exact smalls_drop hR _
  · exact hR
theorem apart_nm : Apart_ nm := fun a b ha hb h => nm_inj ha hb h
theorem apart_pr : Apart_ pr := fun a b ha hb h => pr_inj ha hb h
theorem and3 (key : Int) : Small (bits .and .i64 key 3) := by
  have h : bits .and .i64 key 3 = (((BitVec.ofInt 64 key).toNat % 4 : Nat) : Int) := by
    show IntKind.i64.wrap ((BitVec.ofInt 64 key &&& BitVec.ofInt 64 3).toNat : Int) = _
    rw [BitVec.toNat_and]
    have : (BitVec.ofInt 64 3).toNat = 2 ^ 2 - 1 := rfl
    rw [this, Nat.and_two_pow_sub_one_eq_mod, IntKind.wrap_i64]
    omega
  rw [h]
  unfold Small
  omega
end Go.Proofs.Ytgfpeppaimhgiaa
