/-
  Proved: what the arguments of the statements read as: chunks, data, beginnings, acknowledgements, what will not come, and one of each. No condition.
-/
import Derived.Test.YtedbmpfjikaljaaAll
import Derived.ProofKit
import Derived.OpenShut
import Derived.ShutString
import Derived.ChangeOld
import Derived.Below
import Derived.Deep.Slices
import Derived.Deep.Fields
import Derived.ChangeSame
import Derived.ChangeSlices
import Derived.Lib.SmallJoins
namespace Go.Proofs.Ytedbmpfjikaljaa
open Go.RowKit Go.ChangeShapes Go.WideShapes Go.Deep Go.Joins
set_option linter.unusedVariables false
set_option linter.unusedSimpArgs false
set_option linter.unusedSectionVars false
set_option maxRecDepth 100000

section
variable {H : Type} {enc : TypeId × Value → H} {w : World} {fuel : Nat} {cs : List Value} {x : DataW H × List MemPlace}

theorem wf_u8 {n : Int} (h : (Lit.int .u8 n).wf = true) : 0 ≤ n ∧ n < 256 := by
  have h1 : IntKind.u8.min = 0 := by decide
  have h2 : IntKind.u8.max = 255 := by decide
  simp only [Lit.wf, h1, h2, Bool.and_eq_true, decide_eq_true_eq] at h
  omega
theorem wf_u16 {n : Int} (h : (Lit.int .u16 n).wf = true) : 0 ≤ n ∧ n < 65536 := by
  have h1 : IntKind.u16.min = 0 := by decide
  have h2 : IntKind.u16.max = 65535 := by decide
  simp only [Lit.wf, h1, h2, Bool.and_eq_true, decide_eq_true_eq] at h
  omega
theorem wf_u32 {n : Int} (h : (Lit.int .u32 n).wf = true) : 0 ≤ n ∧ n < 4294967296 := by
  have h1 : IntKind.u32.min = 0 := by decide
  have h2 : IntKind.u32.max = 4294967295 := by decide
  simp only [Lit.wf, h1, h2, Bool.and_eq_true, decide_eq_true_eq] at h
  omega
theorem wf_i64 {n : Int} (h : (Lit.int .i64 n).wf = true) : -9223372036854775808 ≤ n ∧ n < 9223372036854775808 := by
  have h1 : IntKind.i64.min = -9223372036854775808 := by decide
  have h2 : IntKind.i64.max = 9223372036854775807 := by decide
  simp only [Lit.wf, h1, h2, Bool.and_eq_true, decide_eq_true_eq] at h
  omega

theorem spot_none {x : Addr} {v : Value} (h1 : w.cell? x = some v) : x.spot = none := by
  unfold World.cell? at h1
  split at h1
  · cases hs : x.spot with
    | none => rfl
    | some z => simp [hs] at h1
  · cases h1

theorem open_row (k : IntKind) {t e : TypeId} (ht : Try.prog.underlying t = some (.slice e)) (he : Try.prog.underlying e = some (.int k)) (hc : Try.prog.cellsOf e = 1)
    (h : DataW.trod enc Try.prog w 0 (fun _ => true) true fuel t cs = some x) : ∃ A n c xs, cs = [.slice A n c] ∧ Rdx k w A n c xs ∧ ∀ z ∈ xs, (Lit.int k z).wf = true := by
  rcases open_ints ht he hc h with ⟨rfl, _⟩ | ⟨a, len, cap, zs, rfl, _, hl, hm, hzl, _, hcell, hwf⟩
  · exact ⟨none, 0, 0, [], rfl, ⟨Nat.le_refl _, by omega, fun _ => Rd.nil (by omega)⟩, fun z hz => by simp at hz⟩
  · simp only [if_true] at hzl
    unfold maxLen at hm
    refine ⟨some a, len, cap, zs.take len, rfl, ⟨hl, by omega, fun hn => ⟨by rw [List.length_take]; omega, hn, hl, by omega, fun i z hz => ?_⟩⟩, fun z hz => hwf z (List.mem_of_mem_take hz)⟩
    have hi : i < len := by
      have := (List.getElem?_eq_some_iff.1 hz).1
      rw [List.length_take] at this
      omega
    rw [List.getElem?_take_of_lt hi] at hz
    have h1 := hcell i (by omega)
    have h0 := hcell 0 (by omega)
    have hsp := spot_none (show w.cell? a = some _ from h0)
    obtain ⟨b, o, s⟩ := a
    simp only at hsp
    subst hsp
    rw [add_at] at h1
    refine ⟨b, o, rfl, World.block_lt_of_cell? _ _ h1, ?_⟩
    rw [h1, List.getD_eq_getElem?_getD, hz]
    rfl

theorem open_bytes_ (h : DataW.trod enc Try.prog w 0 (fun _ => true) true fuel 22 cs = some x) : ∃ A n c xs, cs = [.slice A n c] ∧ Rdx .u8 w A n c xs ∧ Byt xs := by
  obtain ⟨A, n, c, xs, h1, h2, h3⟩ := open_row .u8 Try.underlying22 Try.underlying5 (by kernel_rfl) h
  exact ⟨A, n, c, xs, h1, h2, fun z hz => wf_u8 (h3 z hz)⟩
theorem open_dups_ (h : DataW.trod enc Try.prog w 0 (fun _ => true) true fuel 36 cs = some x) : ∃ A n c xs, cs = [.slice A n c] ∧ Rdx .u32 w A n c xs ∧ ∀ i, 0 ≤ xs.getD i 0 ∧ xs.getD i 0 < 4294967296 := by
  obtain ⟨A, n, c, xs, h1, h2, h3⟩ := open_row .u32 Try.underlying36 Try.underlying29 (by kernel_rfl) h
  refine ⟨A, n, c, xs, h1, h2, fun i => ?_⟩
  rw [List.getD_eq_getElem?_getD]
  rcases Nat.lt_or_ge i xs.length with hi | hi
  · rw [List.getElem?_eq_getElem hi]
    exact wf_u32 (h3 _ (List.getElem_mem hi))
  · rw [List.getElem?_eq_none hi]
    exact ⟨by decide, by decide⟩

/-- A struct's fields, by their type, place and length. -/
theorem open_fields {T : TypeId} {tab : List (TypeId × Nat × Nat)} {L : Nat} (hL : Try.prog.cellsOf T = L) (htab : ∃ fs, Try.prog.underlying T = some (.struct fs) ∧ fs.toList.map (fun f => (f.type, f.offset, Try.prog.cellsOf f.type)) = tab)
    (h : DataW.trod enc Try.prog w 0 (fun _ => true) true fuel T cs = some x) :
    cs.length = L ∧ ∀ (i : Nat) ty off len, tab[i]? = some (ty, off, len) → ∃ n y, DataW.trod enc Try.prog w 0 (fun _ => true) true n ty ((cs.drop off).take len) = some y := by
  obtain ⟨fs, hu, rfl⟩ := htab
  obtain ⟨xs, n, _, _, hlen, hxl, hg⟩ := DataW.trod_struct hu h
  refine ⟨hlen.trans hL, fun i ty off len hi => ?_⟩
  rw [List.getElem?_map, Option.map_eq_some_iff] at hi
  obtain ⟨f, hf, hf2⟩ := hi
  injection hf2 with h1 h2
  injection h2 with h2 h3
  subst h1 h2 h3
  rw [Array.getElem?_toList] at hf
  have hil : i < xs.length := by
    rw [hxl]
    exact (Array.getElem?_eq_some_iff.1 hf).1
  exact ⟨n, _, (hg i f hf).trans (List.getElem?_eq_getElem hil)⟩

theorem tab84 : ∃ fs, Try.prog.underlying 84 = some (.struct fs) ∧ fs.toList.map (fun f => (f.type, f.offset, Try.prog.cellsOf f.type)) = [(30, 0, 1), (30, 1, 1)] := ⟨_, fields84, by kernel_rfl⟩
theorem tab88 : ∃ fs, Try.prog.underlying 88 = some (.struct fs) ∧ fs.toList.map (fun f => (f.type, f.offset, Try.prog.cellsOf f.type)) = [(30, 0, 1), (30, 1, 1)] := ⟨_, fields88, by kernel_rfl⟩

theorem list_of {α : Type} (P : Nat → α → Prop) : ∀ n : Nat, (∀ i, i < n → ∃ s, P i s) → ∃ S : List α, S.length = n ∧ ∀ i s, S[i]? = some s → P i s
  | 0, _ => ⟨[], rfl, fun i s h => by simp at h⟩
  | n + 1, h => by
    obtain ⟨S, h1, h2⟩ := list_of P n fun i hi => h i (by omega)
    obtain ⟨s, hs⟩ := h n (by omega)
    refine ⟨S ++ [s], by simp [h1], fun i t ht => ?_⟩
    rcases Nat.lt_or_ge i n with hi | hi
    · rw [List.getElem?_append_left (by omega)] at ht
      exact h2 i t ht
    · rw [List.getElem?_append_right (by omega), h1] at ht
      have h0 : i - n = 0 := by
        have := (List.getElem?_eq_some_iff.1 ht).1
        simp at this
        omega
      obtain rfl : i = n := by omega
      rw [h0] at ht
      simp at ht
      subst ht
      exact hs

theorem open_pairs {t e : TypeId} (ht : Try.prog.underlying t = some (.slice e)) (hL : Try.prog.cellsOf e = 2) (htab : ∃ fs, Try.prog.underlying e = some (.struct fs) ∧ fs.toList.map (fun f => (f.type, f.offset, Try.prog.cellsOf f.type)) = [(30, 0, 1), (30, 1, 1)])
    (h : DataW.trod enc Try.prog w 0 (fun _ => true) true fuel t cs = some x) : ∃ A n c ps, cs = [.slice A n c] ∧ Rdx2 w A n c ps := by
  rcases open_slice ht h with ⟨rfl, _⟩ | ⟨a, len, cap, m, n, D, Pl, rfl, _, hl, hm, hmm, _, hi⟩
  · exact ⟨none, 0, 0, [], rfl, ⟨Nat.le_refl _, by omega, fun _ => ⟨rfl, by omega, by omega, by omega, fun i p hp => by simp at hp, fun p hp => by simp at hp⟩⟩⟩
  · simp only [if_true] at hmm
    unfold maxLen at hm
    have each : ∀ i, i < len → ∃ p : Int × Int, (∃ b o, some a = some (⟨b, o, none⟩ : Addr) ∧ b < w.heap.size ∧ w.cell? ⟨b, o + i * 2, none⟩ = some (.int .u16 p.1) ∧ w.cell? ⟨b, o + i * 2 + 1, none⟩ = some (.int .u16 p.2)) ∧ (0 ≤ p.1 ∧ p.1 < 65536) ∧ (0 ≤ p.2 ∧ p.2 < 65536) := by
      intro i hil
      obtain ⟨cs0, hc0, _⟩ := hi 0 (by omega)
      obtain ⟨cs', hc, ht'⟩ := hi i (by omega)
      rw [hL] at hc hc0
      obtain ⟨_, hcl0, hat0⟩ := World.cells?_some hc0
      obtain ⟨_, hcl, hat⟩ := World.cells?_some hc
      obtain ⟨hlen, hf⟩ := open_fields hL htab ht'
      match cs', hlen, cs0, hcl0 with
      | [c0, c1], _, [d0, d1], _ =>
        obtain ⟨n0, y0, r0⟩ := hf 0 30 0 1 rfl
        obtain ⟨n1, y1, r1⟩ := hf 1 30 1 1 rfl
        obtain ⟨z0, e0, _, w0⟩ := DataW.trod_int Try.underlying30 r0
        obtain ⟨z1, e1, _, w1⟩ := DataW.trod_int Try.underlying30 r1
        simp at e0 e1
        subst e0 e1
        have h00 := hat0 0 (by omega)
        have h0 := hat 0 (by omega)
        have h1 := hat 1 (by omega)
        have hsp := spot_none (show w.cell? a = some d0 from h00)
        obtain ⟨b, o, s⟩ := a
        simp only at hsp
        subst hsp
        rw [add_at, add_at] at h0 h1
        exact ⟨(z0, z1), ⟨b, o, rfl, World.block_lt_of_cell? _ _ h0, h0, h1⟩, wf_u16 w0, wf_u16 w1⟩
    obtain ⟨S, hS, hP⟩ := list_of _ len each
    refine ⟨some a, len, cap, S, rfl, ⟨hl, by omega, fun hn => ⟨hS, hn, hl, by omega, fun i p hp => (hP i p hp).1, fun p hp => ?_⟩⟩⟩
    obtain ⟨i, hip⟩ := List.getElem?_of_mem hp
    exact (hP i p hip).2
theorem open_gaps_ (h : DataW.trod enc Try.prog w 0 (fun _ => true) true fuel 35 cs = some x) : ∃ A n c ps, cs = [.slice A n c] ∧ Rdx2 w A n c ps := open_pairs Try.underlying35 (by kernel_rfl) tab84 h
theorem open_skips_ (h : DataW.trod enc Try.prog w 0 (fun _ => true) true fuel 39 cs = some x) : ∃ A n c ps, cs = [.slice A n c] ∧ Rdx2 w A n c ps := open_pairs Try.underlying39 (by kernel_rfl) tab88 h
theorem tab24 : ∃ fs, Try.prog.underlying 24 = some (.struct fs) ∧ fs.toList.map (fun f => (f.type, f.offset, Try.prog.cellsOf f.type)) = [(5, 0, 1), (5, 1, 1), (22, 2, 1)] := ⟨_, Try.underlying24, by kernel_rfl⟩
theorem tab32 : ∃ fs, Try.prog.underlying 32 = some (.struct fs) ∧ fs.toList.map (fun f => (f.type, f.offset, Try.prog.cellsOf f.type)) = [(29, 0, 1), (30, 1, 1), (30, 2, 1), (4, 3, 1), (4, 4, 1), (4, 5, 1), (22, 6, 1)] := ⟨_, Try.underlying32, by kernel_rfl⟩
theorem tab34 : ∃ fs, Try.prog.underlying 34 = some (.struct fs) ∧ fs.toList.map (fun f => (f.type, f.offset, Try.prog.cellsOf f.type)) = [(29, 0, 1), (29, 1, 1), (30, 2, 1), (30, 3, 1), (29, 4, 1), (22, 5, 1)] := ⟨_, Try.underlying34, by kernel_rfl⟩
theorem tab38 : ∃ fs, Try.prog.underlying 38 = some (.struct fs) ∧ fs.toList.map (fun f => (f.type, f.offset, Try.prog.cellsOf f.type)) = [(29, 0, 1), (29, 1, 1), (35, 2, 1), (36, 3, 1)] := ⟨_, Try.underlying38, by kernel_rfl⟩
theorem tab41 : ∃ fs, Try.prog.underlying 41 = some (.struct fs) ∧ fs.toList.map (fun f => (f.type, f.offset, Try.prog.cellsOf f.type)) = [(29, 0, 1), (39, 1, 1)] := ⟨_, Try.underlying41, by kernel_rfl⟩
theorem tab43 : ∃ fs, Try.prog.underlying 43 = some (.struct fs) ∧ fs.toList.map (fun f => (f.type, f.offset, Try.prog.cellsOf f.type)) = [(4, 0, 1), (32, 1, 7), (34, 8, 6), (38, 14, 4), (41, 18, 2), (2, 20, 1), (29, 21, 1)] := ⟨_, Try.underlying43, by kernel_rfl⟩
theorem open_24_ (h : DataW.trod enc Try.prog w 0 (fun _ => true) true fuel 24 cs = some x) : ∃ (z0 : Int) (z1 : Int) (A2 : Option Addr) (m2 d2 : Nat) (xs2 : List Int), cs = [.int .u8 z0, .int .u8 z1, .slice A2 m2 d2] ∧ (0 ≤ z0 ∧ z0 < 256) ∧ (0 ≤ z1 ∧ z1 < 256) ∧ Rdx .u8 w A2 m2 d2 xs2 ∧ Byt xs2 := by
  obtain ⟨hlen, hf⟩ := open_fields (L := 3) (by kernel_rfl) tab24 h
  match cs, hlen with
  | [c0, c1, c2], _ =>
    obtain ⟨n0, y0, r0⟩ := hf 0 5 0 1 rfl
    obtain ⟨n1, y1, r1⟩ := hf 1 5 1 1 rfl
    obtain ⟨n2, y2, r2⟩ := hf 2 22 2 1 rfl
    obtain ⟨z0, e0, _, w0⟩ := DataW.trod_int Try.underlying5 r0
    obtain ⟨z1, e1, _, w1⟩ := DataW.trod_int Try.underlying5 r1
    obtain ⟨A2, m2, d2, xs2, e2, g2, b2⟩ := open_bytes_ r2
    simp at e0 e1 e2
    subst e0 e1 e2
    exact ⟨z0, z1, A2, m2, d2, xs2, rfl, wf_u8 w0, wf_u8 w1, g2, b2⟩
theorem open_32_ (h : DataW.trod enc Try.prog w 0 (fun _ => true) true fuel 32 cs = some x) : ∃ (z0 : Int) (z1 : Int) (z2 : Int) (z3 : Bool) (z4 : Bool) (z5 : Bool) (A6 : Option Addr) (m6 d6 : Nat) (xs6 : List Int), cs = [.int .u32 z0, .int .u16 z1, .int .u16 z2, .bool z3, .bool z4, .bool z5, .slice A6 m6 d6] ∧ (0 ≤ z0 ∧ z0 < 4294967296) ∧ (0 ≤ z1 ∧ z1 < 65536) ∧ (0 ≤ z2 ∧ z2 < 65536) ∧ Rdx .u8 w A6 m6 d6 xs6 ∧ Byt xs6 := by
  obtain ⟨hlen, hf⟩ := open_fields (L := 7) (by kernel_rfl) tab32 h
  match cs, hlen with
  | [c0, c1, c2, c3, c4, c5, c6], _ =>
    obtain ⟨n0, y0, r0⟩ := hf 0 29 0 1 rfl
    obtain ⟨n1, y1, r1⟩ := hf 1 30 1 1 rfl
    obtain ⟨n2, y2, r2⟩ := hf 2 30 2 1 rfl
    obtain ⟨n3, y3, r3⟩ := hf 3 4 3 1 rfl
    obtain ⟨n4, y4, r4⟩ := hf 4 4 4 1 rfl
    obtain ⟨n5, y5, r5⟩ := hf 5 4 5 1 rfl
    obtain ⟨n6, y6, r6⟩ := hf 6 22 6 1 rfl
    obtain ⟨z0, e0, _, w0⟩ := DataW.trod_int Try.underlying29 r0
    obtain ⟨z1, e1, _, w1⟩ := DataW.trod_int Try.underlying30 r1
    obtain ⟨z2, e2, _, w2⟩ := DataW.trod_int Try.underlying30 r2
    obtain ⟨z3, e3, _⟩ := DataW.trod_bool Try.underlying4 r3
    obtain ⟨z4, e4, _⟩ := DataW.trod_bool Try.underlying4 r4
    obtain ⟨z5, e5, _⟩ := DataW.trod_bool Try.underlying4 r5
    obtain ⟨A6, m6, d6, xs6, e6, g6, b6⟩ := open_bytes_ r6
    simp at e0 e1 e2 e3 e4 e5 e6
    subst e0 e1 e2 e3 e4 e5 e6
    exact ⟨z0, z1, z2, z3, z4, z5, A6, m6, d6, xs6, rfl, wf_u32 w0, wf_u16 w1, wf_u16 w2, g6, b6⟩
theorem open_34_ (h : DataW.trod enc Try.prog w 0 (fun _ => true) true fuel 34 cs = some x) : ∃ (z0 : Int) (z1 : Int) (z2 : Int) (z3 : Int) (z4 : Int) (A5 : Option Addr) (m5 d5 : Nat) (xs5 : List Int), cs = [.int .u32 z0, .int .u32 z1, .int .u16 z2, .int .u16 z3, .int .u32 z4, .slice A5 m5 d5] ∧ (0 ≤ z0 ∧ z0 < 4294967296) ∧ (0 ≤ z1 ∧ z1 < 4294967296) ∧ (0 ≤ z2 ∧ z2 < 65536) ∧ (0 ≤ z3 ∧ z3 < 65536) ∧ (0 ≤ z4 ∧ z4 < 4294967296) ∧ Rdx .u8 w A5 m5 d5 xs5 ∧ Byt xs5 := by
  obtain ⟨hlen, hf⟩ := open_fields (L := 6) (by kernel_rfl) tab34 h
  match cs, hlen with
  | [c0, c1, c2, c3, c4, c5], _ =>
    obtain ⟨n0, y0, r0⟩ := hf 0 29 0 1 rfl
    obtain ⟨n1, y1, r1⟩ := hf 1 29 1 1 rfl
    obtain ⟨n2, y2, r2⟩ := hf 2 30 2 1 rfl
    obtain ⟨n3, y3, r3⟩ := hf 3 30 3 1 rfl
    obtain ⟨n4, y4, r4⟩ := hf 4 29 4 1 rfl
    obtain ⟨n5, y5, r5⟩ := hf 5 22 5 1 rfl
    obtain ⟨z0, e0, _, w0⟩ := DataW.trod_int Try.underlying29 r0
    obtain ⟨z1, e1, _, w1⟩ := DataW.trod_int Try.underlying29 r1
    obtain ⟨z2, e2, _, w2⟩ := DataW.trod_int Try.underlying30 r2
    obtain ⟨z3, e3, _, w3⟩ := DataW.trod_int Try.underlying30 r3
    obtain ⟨z4, e4, _, w4⟩ := DataW.trod_int Try.underlying29 r4
    obtain ⟨A5, m5, d5, xs5, e5, g5, b5⟩ := open_bytes_ r5
    simp at e0 e1 e2 e3 e4 e5
    subst e0 e1 e2 e3 e4 e5
    exact ⟨z0, z1, z2, z3, z4, A5, m5, d5, xs5, rfl, wf_u32 w0, wf_u32 w1, wf_u16 w2, wf_u16 w3, wf_u32 w4, g5, b5⟩
theorem open_38_ (h : DataW.trod enc Try.prog w 0 (fun _ => true) true fuel 38 cs = some x) : ∃ (z0 : Int) (z1 : Int) (A2 : Option Addr) (m2 d2 : Nat) (ps2 : List (Int × Int)) (A3 : Option Addr) (m3 d3 : Nat) (xs3 : List Int), cs = [.int .u32 z0, .int .u32 z1, .slice A2 m2 d2, .slice A3 m3 d3] ∧ (0 ≤ z0 ∧ z0 < 4294967296) ∧ (0 ≤ z1 ∧ z1 < 4294967296) ∧ Rdx2 w A2 m2 d2 ps2 ∧ Rdx .u32 w A3 m3 d3 xs3 ∧ (∀ i, 0 ≤ xs3.getD i 0 ∧ xs3.getD i 0 < 4294967296) := by
  obtain ⟨hlen, hf⟩ := open_fields (L := 4) (by kernel_rfl) tab38 h
  match cs, hlen with
  | [c0, c1, c2, c3], _ =>
    obtain ⟨n0, y0, r0⟩ := hf 0 29 0 1 rfl
    obtain ⟨n1, y1, r1⟩ := hf 1 29 1 1 rfl
    obtain ⟨n2, y2, r2⟩ := hf 2 35 2 1 rfl
    obtain ⟨n3, y3, r3⟩ := hf 3 36 3 1 rfl
    obtain ⟨z0, e0, _, w0⟩ := DataW.trod_int Try.underlying29 r0
    obtain ⟨z1, e1, _, w1⟩ := DataW.trod_int Try.underlying29 r1
    obtain ⟨A2, m2, d2, ps2, e2, g2⟩ := open_gaps_ r2
    obtain ⟨A3, m3, d3, xs3, e3, g3, b3⟩ := open_dups_ r3
    simp at e0 e1 e2 e3
    subst e0 e1 e2 e3
    exact ⟨z0, z1, A2, m2, d2, ps2, A3, m3, d3, xs3, rfl, wf_u32 w0, wf_u32 w1, g2, g3, b3⟩
theorem open_41_ (h : DataW.trod enc Try.prog w 0 (fun _ => true) true fuel 41 cs = some x) : ∃ (z0 : Int) (A1 : Option Addr) (m1 d1 : Nat) (ps1 : List (Int × Int)), cs = [.int .u32 z0, .slice A1 m1 d1] ∧ (0 ≤ z0 ∧ z0 < 4294967296) ∧ Rdx2 w A1 m1 d1 ps1 := by
  obtain ⟨hlen, hf⟩ := open_fields (L := 2) (by kernel_rfl) tab41 h
  match cs, hlen with
  | [c0, c1], _ =>
    obtain ⟨n0, y0, r0⟩ := hf 0 29 0 1 rfl
    obtain ⟨n1, y1, r1⟩ := hf 1 39 1 1 rfl
    obtain ⟨z0, e0, _, w0⟩ := DataW.trod_int Try.underlying29 r0
    obtain ⟨A1, m1, d1, ps1, e1, g1⟩ := open_skips_ r1
    simp at e0 e1
    subst e0 e1
    exact ⟨z0, A1, m1, d1, ps1, rfl, wf_u32 w0, g1⟩
theorem open_43_ (h : DataW.trod enc Try.prog w 0 (fun _ => true) true fuel 43 cs = some x) : ∃ (a : AllA) (db ck : List Int) (gs : List (Int × Int)) (ds : List Int) (ss : List (Int × Int)), cs = a.cells.toList ∧ AllOk w a db ck gs ds ss := by
  obtain ⟨hlen, hf⟩ := open_fields (L := 22) (by kernel_rfl) tab43 h
  match cs, hlen with
  | [c0, c1, c2, c3, c4, c5, c6, c7, c8, c9, c10, c11, c12, c13, c14, c15, c16, c17, c18, c19, c20, c21], _ =>
    obtain ⟨n0, y0, r0⟩ := hf 0 4 0 1 rfl
    obtain ⟨n1, y1, r1⟩ := hf 1 32 1 7 rfl
    obtain ⟨n2, y2, r2⟩ := hf 2 34 8 6 rfl
    obtain ⟨n3, y3, r3⟩ := hf 3 38 14 4 rfl
    obtain ⟨n4, y4, r4⟩ := hf 4 41 18 2 rfl
    obtain ⟨n5, y5, r5⟩ := hf 5 2 20 1 rfl
    obtain ⟨n6, y6, r6⟩ := hf 6 29 21 1 rfl
    obtain ⟨ack, e0, _⟩ := DataW.trod_bool Try.underlying4 r0
    obtain ⟨t, s, q, u, f, l, dA, dn, dc, db, e1, h1, h2, h3, h4, h5⟩ := open_32_ r1
    obtain ⟨tag, rw_, ou, inn, tsn, cA, cn, cc, ck, e2, h6, h7, h8, h9, h10, h11, h12⟩ := open_34_ r2
    obtain ⟨cum, rwnd, gA, gn, gc, gs, pA, pn, pc, ds, e3, h13, h14, h15, h16, h17⟩ := open_38_ r3
    obtain ⟨fc, sA, sn, sc, ss, e4, h18, h19⟩ := open_41_ r4
    obtain ⟨at_, e5, _, h20⟩ := DataW.trod_int Try.underlying2 r5
    obtain ⟨cm, e6, _, h21⟩ := DataW.trod_int Try.underlying29 r6
    simp at e0 e1 e2 e3 e4 e5 e6
    obtain rfl := e0
    obtain ⟨rfl, rfl, rfl, rfl, rfl, rfl, rfl⟩ := e1
    obtain ⟨rfl, rfl, rfl, rfl, rfl, rfl⟩ := e2
    obtain ⟨rfl, rfl, rfl, rfl⟩ := e3
    obtain ⟨rfl, rfl⟩ := e4
    obtain rfl := e5
    obtain rfl := e6
    exact ⟨⟨ack, t, s, q, u, f, l, dA, dn, dc, tag, rw_, ou, inn, tsn, cA, cn, cc, cum, rwnd, gA, gn, gc, pA, pn, pc, fc, sA, sn, sc, at_, cm⟩, db, ck, gs, ds, ss, rfl,
      ⟨h1, h2, h3, h6, h7, h8, h9, h10, h13, h14, h18, wf_i64 h20, wf_u32 h21, h4, h5, h11, h12, h15, h16, h17, h19⟩⟩
end
end Go.Proofs.Ytedbmpfjikaljaa
