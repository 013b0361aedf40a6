/-
  Proved: what the program's functions on pieces of bytes do to memory and what they answer. Conditions: rows are shorter than a million and one.
-/
import Derived.Test.YtedbmpfjikaljaaOct
import Derived.Lib.AppendZerosOnto
import Derived.Laws.BitsAllLaws
namespace Go.Proofs.Ytedbmpfjikaljaa
open Go.RowKit
set_option linter.unusedVariables false
set_option linter.unusedSimpArgs false
set_option linter.unusedSectionVars false
set_option maxRecDepth 100000

theorem Rd.sub {k : IntKind} {w : World} {A : Option Addr} {n c : Nat} {xs : List Int} (h : Rd k w A n c xs) (j m : Nat) (hm : j + m ≤ n) : Rd k w (A.map (·.add j)) m (c - j) ((xs.drop j).take m) :=
  ⟨by rw [List.length_take, List.length_drop, h.len]; omega, by have := h.small; omega, by have := h.cap; omega, by have := h.mx; omega, fun i x hx => by
    have hi : i < m := by
      have := (List.getElem?_eq_some_iff.1 hx).1
      rw [List.length_take] at this
      omega
    rw [List.getElem?_take_of_lt hi, List.getElem?_drop] at hx
    obtain ⟨b, o, rfl, hb, hc⟩ := h.at_ _ _ hx
    refine ⟨b, o + j, by simp [add_at], hb, ?_⟩
    rw [Nat.add_assoc]
    exact hc⟩

set_option maxHeartbeats 1000000 in
theorem ocut_ (w : World) {A : Option Addr} {n c : Nat} {xs : List Int} (h : Rd .u8 w A n c xs) (at_ : Nat) (h2 : at_ ≤ 1000000) (k : Int) (h3 : -1000000 ≤ k) (h4 : k ≤ 1000000) :
    Calls Try.prog 74 #[.slice A n c, .int .i64 at_, .int .i64 k] w fun e w' => Below w.heap.size w w' ∧
      if isWithin n at_ k = true then ∃ A' c', e = .returned (.tuple #[.slice A' k.toNat c', .bool true]) ∧ Own w' w.heap.size A' k.toNat c' ((xs.drop at_).take k.toNat)
      else e = .returned (.tuple #[.slice none 0 0, .bool false]) := by
  have hn := h.small
  have hcap := h.cap
  have hmx := h.mx
  have W := Aside.mk (within_ · (A := A) (c := c) hn at_ k (by omega) (by omega) h3 h4)
  cases hw : isWithin n at_ k
  · rw [hw] at W
    clear h
    go_enter Try.func74, Try.ntmps74
    go_wp2_with fail
    refine (W.out _).mono ?_
    rintro e w2 ⟨rfl, rfl⟩
    go_wp2_with fail
    go_ret2
    exact ⟨Below.refl _ _, rfl⟩
  · rw [hw] at W
    unfold isWithin at hw
    simp only [Bool.and_eq_true, decide_eq_true_eq] at hw
    obtain ⟨m, rfl⟩ := Int.eq_ofNat_of_zero_le hw.1.1.2
    have hnm : at_ + m ≤ n := by omega
    have H := Aside.mk h
    clear h hw
    go_enter Try.func74, Try.ntmps74
    go_wp2_with fail
    refine (W.out _).mono ?_
    rintro e w2 ⟨rfl, rfl⟩
    have arm : ∀ (A2 : Option Addr) (c2 : Nat), Rd .u8 w A2 m c2 ((xs.drop at_).take m) → Calls Try.prog 71 #[.slice A2 m c2] w fun e w' => ∃ A' c', e = .returned (.slice A' m c') ∧ Own w' w.heap.size A' m c' ((xs.drop at_).take m) ∧ Below w.heap.size w w' := fun A2 c2 h => clone_ w h
    have H1 := H.out.sub at_ m hnm
    by_cases hca : c = at_
    · subst hca
      obtain rfl : m = 0 := by omega
      have C1 := Aside.mk (arm A 0 ⟨H1.len, by omega, by omega, by omega, fun i x hx => by simp at hx⟩)
      clear H1 arm
      go_wp2_with fail
      all_goals (
        refine C1.out.mono ?_
        rintro e w2 ⟨A', c', rfl, o', b'⟩
        have O' := Aside.mk o'
        have B' := Aside.mk b'
        clear o' b'
        go_wp2_with fail
        go_ret2
        refine ⟨B'.out, ?_⟩
        try rw [if_pos rfl]
        exact ⟨A', c', rfl, O'.out⟩)
    · have C1 := Aside.mk (arm _ _ H1)
      clear H1 arm
      go_wp2_with fail
      all_goals (
        refine C1.out.mono ?_
        rintro e w2 ⟨A', c', rfl, o', b'⟩
        have O' := Aside.mk o'
        have B' := Aside.mk b'
        clear o' b'
        go_wp2_with fail
        go_ret2
        refine ⟨B'.out, ?_⟩
        try rw [if_pos rfl]
        exact ⟨A', c', rfl, O'.out⟩)

theorem run_append_zeros {P : Program} (w : World) (base : Nat) (t ti ty e : TypeId) (i : TypeInfo) (z : Value) (size bytes : Nat) (ht : P.underlying t = some (.slice e)) {k : IntKind} (hti : P.underlying ti = some (.int k)) (hi : P.info? e = some i) (hz : i.zero = some z)
    (hsize : i.size = size) (hby : i.bytes = bytes) (hzs : z.cells.size = size) (hsz : 0 < size) (hb0 : 0 < bytes)
    (v : Value) (n : Nat) (xs : List Value) (hown : w.ownsRow base e size v n xs) (kx : IntKind) (m : Nat) (h1 : ∀ u ∈ (Builtin.zeroCells z.cells m).toList, u.oneCell' = true)
    (hbytes : (n + m) * bytes ≤ 140737488355328) (hbase : base ≤ w.heap.size) :
    ∃ v' w', (Builtin.append_ #[t, ti] ty #[v, .int kx m]).run P w = .ok v' w' ∧ w'.ownsRow base e size v' (n + m) (xs ++ (Builtin.zeroCells z.cells m).toList) ∧ w.grownBy w' v.ownBlock ∧
      (∀ p : Value → Prop, (∀ u ∈ xs, p u) → (∀ k, ∀ u ∈ (Builtin.zeroCells z.cells k).toList, p u) → (∀ g, v.ownBlock = some g → ∀ i u, w.cell? ⟨g, i, none⟩ = some u → p u) → ∀ g, v'.ownBlock = some g → ∀ i u, w'.cell? ⟨g, i, none⟩ = some u → p u) := by
  subst hsize
  subst hby
  have hle : n + m ≤ 140737488355328 := Nat.le_trans (Nat.le_mul_of_pos_right _ hb0) hbytes
  have h63 : n + m ≤ maxLen := by simp only [maxLen]; omega
  have hw : IntKind.i64.wrap (m : Int) = m := by rw [IntKind.wrap_i64]; omega
  have hw0 : IntKind.i64.wrap 0 = 0 := by rw [IntKind.wrap_i64]; rfl
  have hneg : ¬ ((m : Int) < 0) := by omega
  have hmb : m * i.bytes ≤ 140737488355328 := Nat.le_trans (Nat.mul_le_mul_right _ (Nat.le_add_left m n)) hbytes
  have hbig : ¬ (281474976710656 < (m : Int) * (i.bytes : Int)) := by
    rw [← Int.natCast_mul]
    omega
  have hsn : i.size ≠ 0 := by omega
  obtain ⟨news, hnews⟩ : ∃ news, news = (Builtin.zeroCells z.cells m).toList := ⟨_, rfl⟩
  rw [← hnews] at h1 ⊢
  have hl : news.length = m * i.size := by rw [hnews, Array.length_toList, size_zeroCells, hzs]
  have hna : Builtin.zeroCells z.cells m = news.toArray := by rw [hnews]
  have hlen : (xs ++ news).length = (n + m) * i.size := by rw [List.length_append, hown.1, hl, Nat.add_mul]
  have hnil : m = 0 → news = [] := fun h => List.eq_nil_of_length_eq_zero (by rw [hl, h, Nat.zero_mul])
  have grown : ∀ (old : Nat), old < n + m → ∀ (row : Option Nat),
      (w.drew.alloc (.cells (xs.toArray ++ news.toArray ++ Builtin.zeroCells z.cells (grownCap w (n + m) old e - (n + m))) e)).ownsRow base e i.size
        (.slice (some ⟨w.heap.size, 0, none⟩) (n + m) (grownCap w (n + m) old e)) (n + m) (xs ++ news) ∧
      w.grownBy (w.drew.alloc (.cells (xs.toArray ++ news.toArray ++ Builtin.zeroCells z.cells (grownCap w (n + m) old e - (n + m))) e)) row := by
    intro old ho row
    have hge := grownCap_ge w (n + m) old e
    have hcm : grownCap w (n + m) old e ≤ maxLen := grownCap_le_maxLen w (n + m) old e h63
    refine ⟨⟨hlen, .inr ⟨w.heap.size, _, _, rfl, hbase, heap_alloc_new w.drew _, hge, hcm, ?_, ?_⟩⟩, ⟨rfl, rfl, rfl, by simp, fun k hk _ => heap_alloc_old w.drew _ hk⟩⟩
    · simp only [Array.size_append, List.size_toArray, size_zeroCells, hzs, hown.1, hl, ← Nat.add_mul]
      congr 1
      omega
    · simp only [Array.toList_append, List.append_assoc]
      rw [← List.append_assoc, ← hlen]
      exact List.take_left
  have news' : ∀ (k : Nat) (p : Value → Prop), (∀ u ∈ xs, p u) → (∀ k, ∀ u ∈ (Builtin.zeroCells z.cells k).toList, p u) → ∀ g, some w.heap.size = some g → ∀ i u, (w.drew.alloc (.cells (xs.toArray ++ news.toArray ++ Builtin.zeroCells z.cells k) e)).cell? ⟨g, i, none⟩ = some u → p u := by
    intro k p hp hz g hg i u hu
    injection hg with hg
    subst hg
    rw [show w.heap.size = w.drew.heap.size from rfl, blk_cell (heap_alloc_new w.drew _)] at hu
    rcases (by simpa using Array.mem_of_getElem? hu : (u ∈ xs ∨ u ∈ news) ∨ u ∈ Builtin.zeroCells z.cells k) with (h | h) | h
    · exact hp u h
    · exact hz m u (hnews ▸ h)
    · exact hz k u (Array.mem_toList_iff.2 h)
  have runs : ∀ (A : Option Addr) (cap : Nat), cap < n + m → (Builtin.firstCells i.size n (.slice A n cap)).run P w.drew = .ok xs.toArray w.drew → (Builtin.append_ #[t, ti] ty #[.slice A n cap, .int kx m]).run P w =
      .ok (.slice (some ⟨w.heap.size, 0, none⟩) (n + m) (grownCap w (n + m) cap e)) (w.drew.alloc (.cells (xs.toArray ++ news.toArray ++ Builtin.zeroCells z.cells (grownCap w (n + m) cap e - (n + m))) e)) := by
    intro A cap hcap hfo
    have hn : ¬ (n + m ≤ cap) := by omega
    have h63' : ¬ (9223372036854775807 < ((n : Int) + (m : Int))) := by omega
    have hfit := growslice_fits hcap hbytes
    have h48' : ¬ (281474976710656 < Builtin.nextslicecap (n + m) cap * i.bytes) := by omega
    by_cases hm : m = 0
    · have hnl := hnil hm
      subst hm
      rw [hnl]
      simp only [Nat.add_zero] at hn h63' h48' ⊢
      have h63'' : ¬ (9223372036854775807 < (n : Int)) := by omega
      simp [Builtin.append_, run_underlying ht, run_underlying hti, sizeOf, typeInfo, zeroValue, hi, hz, asInt, asIntOf, hw0, hn, h63'', h48', Question.forced, hfo, newRow, grownCap]
    · have hmz : ¬ (m * i.size = 0) := Nat.mul_ne_zero hm hsn
      simp [Builtin.append_, run_underlying ht, run_underlying hti, sizeOf, typeInfo, zeroValue, hi, hz, asInt, asIntOf, hw, hneg, hbig, hn, h63', h48', Question.forced, hfo, newRow, grownCap, hmz, hna]
      congr 2
      apply Array.ext'
      simp [List.append_assoc]
  rcases hown.2 with ⟨rfl, rfl⟩ | ⟨g, cap, cur, rfl, hbg, hg, hnc, hcm, hcs, htake⟩
  · have hx : xs = [] := List.eq_nil_of_length_eq_zero (by simpa using hown.1)
    subst hx
    by_cases hm : m = 0
    · have hnl := hnil hm
      subst hm
      rw [hnl]
      refine ⟨.slice none 0 0, w, ?_, World.ownsRow_nil w base e i.size, ⟨rfl, rfl, rfl, Nat.le_refl _, fun _ _ _ => rfl⟩, fun p _ _ _ g hg => by simp [Value.ownBlock] at hg⟩
      simp [Builtin.append_, run_underlying ht, run_underlying hti, sizeOf, typeInfo, hi, asInt, asIntOf, hw0]
    · have hgr := grown 0 (by omega) (Value.ownBlock (.slice none 0 0))
      exact ⟨_, _, runs none 0 (by omega) (by simp [Builtin.firstCells]), hgr.1, hgr.2, fun p hp hz _ => news' _ p hp hz⟩
  · by_cases hroom : n + m ≤ cap
    · have hfit : n * i.size + news.length ≤ cur.size := by rw [hl, hcs, ← Nat.add_mul]; exact Nat.mul_le_mul_right _ hroom
      have hst := run_storeCells_at P g (n * i.size) e news 0 cur w hg (by simpa using hfit) h1
      simp only [Nat.add_zero] at hst
      refine ⟨.slice (some ⟨g, 0, none⟩) (n + m) cap, w.setRow g (cur.toList.take (n * i.size) ++ news ++ cur.toList.drop (n * i.size + news.length)).toArray, ?_, ⟨hlen, .inr ⟨g, cap, _, rfl, hbg, setRow_heap w g cur _ e _ hg, hroom, hcm, ?_, ?_⟩⟩, ⟨rfl, rfl, rfl, by simp, fun k _ hk => setRow_other w g k _ (fun e => hk (by simp [Value.ownBlock, e]))⟩, fun p hp hz hv g' hg' j u hu => ?_⟩
      · by_cases hm : m = 0
        · have hnl := hnil hm
          subst hm
          rw [hnl] at hst ⊢
          simp [Builtin.append_, run_underlying ht, run_underlying hti, sizeOf, typeInfo, hi, asInt, asIntOf, hw0, hnc, Addr.add_lit, hst]
        · have hmz : ¬ (m * i.size = 0) := Nat.mul_ne_zero hm hsn
          simp [Builtin.append_, run_underlying ht, run_underlying hti, sizeOf, typeInfo, zeroValue, hi, hz, asInt, asIntOf, hw, hneg, hbig, hroom, hmz, hna, Addr.add_lit, hst]
      · simp only [List.size_toArray, List.length_append, List.length_take, List.length_drop, Array.length_toList]
        omega
      · rw [htake, ← hlen]
        exact List.take_left
      · simp [Value.ownBlock] at hg'
        subst hg'
        rw [blk_cell (setRow_heap w g cur _ e _ hg)] at hu
        have hc : ∀ u ∈ cur.toList, p u := fun u hu => by
          obtain ⟨k, hk, rfl⟩ := List.getElem_of_mem hu
          exact hv g rfl k _ (by rw [blk_cell hg, ← Array.getElem?_toList, List.getElem?_eq_getElem hk])
        rcases (by simpa using Array.mem_of_getElem? hu : u ∈ List.take (n * i.size) cur.toList ∨ u ∈ news ∨ u ∈ List.drop (n * i.size + news.length) cur.toList) with h | h | h
        · exact hc u (List.mem_of_mem_take h)
        · exact hz m u (hnews ▸ h)
        · exact hc u (List.mem_of_mem_drop h)
    · have holds : ∀ j u, xs[j]? = some u → w.cell? ((⟨g, 0, none⟩ : Addr).add j) = some u := hown.cells (g := g) rfl
      have hgr := grown cap (by omega) (Value.ownBlock (.slice (some ⟨g, 0, none⟩) n cap))
      exact ⟨_, _, runs (some ⟨g, 0, none⟩) cap (by omega) (run_firstCells_some (P := P) w.drew i.size n _ n cap xs hown.1 (by simpa using holds)), hgr.1, hgr.2, fun p hp hz _ => news' _ p hp hz⟩

theorem wrap_small (n : Nat) (h : n < 9223372036854775808) : IntKind.i64.wrap (n : Int) = (n : Int) := by
  rw [IntKind.wrap_i64]
  omega
theorem andNot_three (i : Nat) (h : i < 9223372036854775807) : bits .andNot .i64 (i : Int) 3 = ((i / 4 * 4 : Nat) : Int) := by
  show IntKind.i64.wrap ((BitVec.ofInt 64 (i : Int) &&& ~~~BitVec.ofInt 64 ((3 : Nat) : Int)).toNat : Int) = _
  rw [BitVec.toNat_and, BitVec.toNat_not, ofInt_u64 i (by omega), ofInt_u64 3 (by omega)]
  have e : 2 ^ 64 - 1 - 3 = 18446744073709551612 := by decide
  rw [e, nat_hi64_2, Nat.mod_eq_of_lt (by omega)]
  exact wrap_small _ (by omega)
def rnd (n : Nat) : Nat := (n + 3) / 4 * 4
theorem round_ (w : World) (n : Nat) (h : n ≤ 1000000) : Calls Try.prog 72 #[.int .i64 n] w fun e w' => e = .returned (.int .i64 (rnd n : Nat)) ∧ w = w' := by
  have ha := andNot_three (n + 3) (by omega)
  rw [Int.natCast_add, show ((3 : Nat) : Int) = 3 from rfl] at ha
  go_enter Try.func72, Try.ntmps72
  go_wp2
  go_ret
  exact ⟨rfl, rfl⟩

theorem zeros_cells (m : Nat) : (Builtin.zeroCells (Value.int .u8 0).cells m).toList = cellsOf_ .u8 (List.replicate m 0) := by
  refine List.ext_getElem (by simp [Builtin.zeroCells, cellsOf_, Value.cells]) fun i h1 h2 => ?_
  simp [Builtin.zeroCells, cellsOf_, Value.cells, Nat.mod_one]
theorem append_zeros_run {w : World} {base : Nat} {A : Option Addr} {n c : Nat} {xs : List Int} (h : Own w base A n c xs) (hb : base ≤ w.heap.size) (m : Nat) (hn : n ≤ 1000000) (hm : m ≤ 1000000) :
    ∃ A' c' w', (Builtin.append_ #[22, 3] 22 #[.slice A n c, .int .i64 m]).run Try.prog w = .ok (.slice A' (n + m) c') w' ∧ Own w' base A' (n + m) c' (xs ++ List.replicate m 0) ∧ w.grownBy w' (Value.slice A n c).ownBlock := by
  obtain ⟨i0, hi0, hz0, hz1, hz2⟩ := info_parts info5
  obtain ⟨v', w', hrun, hown, hgr, hall⟩ := run_append_zeros (P := Try.prog) w base 22 3 22 5 i0 _ 1 1 Try.underlying22 Try.underlying3 hi0 hz0 hz1 hz2 rfl (by omega) (by omega) (.slice A n c) n (cellsOf_ .u8 xs) h.row .i64 m (by rw [zeros_cells]; exact cells_one _ _) (by omega) hb
  obtain ⟨A', c', rfl⟩ := own_slice hown
  rw [zeros_cells] at hown
  exact ⟨A', c', w', hrun, ⟨by rw [cells_append]; exact hown, fun g hg => hall _ (all_u8 xs) zero_u8 (fun g' hg' => by
    rcases A with _ | ⟨b, o, q⟩
    · simp [Value.ownBlock] at hg'
    · rcases h.row.2 with ⟨hv, h0⟩ | ⟨g2, cap, cur, hv, _⟩
      · cases hv
      · injection hv with h1 h2 h3
        injection h1 with h1
        rw [h1] at hg' h
        simp [Value.ownBlock] at hg'
        subst hg'
        exact h.u8 g2 rfl) g (by rw [hg]; rfl)⟩, hgr⟩

set_option maxHeartbeats 1000000 in
theorem pad_ (w : World) {A : Option Addr} {n c : Nat} {xs : List Int} (h : Rd .u8 w A n c xs) (hn : n ≤ 900000) :
    Calls Try.prog 49 #[.slice A n c] w fun e w' => ∃ A' c', e = .returned (.slice A' (rnd n) c') ∧ Own w' w.heap.size A' (rnd n) c' (xs ++ List.replicate (rnd n - n) 0) ∧ Below w.heap.size w w' := by
  have hr : n ≤ rnd n ∧ rnd n ≤ n + 3 := by unfold rnd; omega
  have C := Aside.mk (clone_ w h)
  have R := Aside.mk (round_ · n (by omega))
  clear h
  generalize hm : rnd n - n = m
  generalize rnd n = r at *
  obtain rfl : r = n + m := by omega
  have he : ((n + m : Nat) : Int) - (n : Int) = (m : Int) := by omega
  rw [Int.natCast_add] at he
  go_enter Try.func49, Try.ntmps49
  go_wp2_with fail
  refine C.out.mono ?_
  rintro e w1 ⟨A1, c1, rfl, o1, b1⟩
  obtain ⟨A2, c2, w2, hrun, hown, hg⟩ := append_zeros_run o1 b1.size m (by omega) (by omega)
  have b2 := below_grown b1 hg (fun g hg => o1.base_le hg) b1.size
  have AR := Aside.mk hrun
  have O := Aside.mk hown
  have B := Aside.mk b2
  clear C o1 b1 hrun hown hg b2
  go_wp2_with fail
  refine (R.out _).mono ?_
  rintro e w1 ⟨rfl, rfl⟩
  go_wp2_with (at_builtin; refine Lib.wpList_append_run _ rfl _ _ 22 3 rfl _ _ rfl rfl _ _ AR.out ?_)
  go_ret
  exact ⟨A2, c2, rfl, O.out, B.out⟩
end Go.Proofs.Ytedbmpfjikaljaa
