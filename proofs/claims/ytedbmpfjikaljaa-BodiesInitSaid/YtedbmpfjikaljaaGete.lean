/-
  Proved: what the program's function that reads a chunk of data does to memory and what it answers. Conditions: rows are shorter than a hundred thousand.
-/
import Derived.Test.YtedbmpfjikaljaaGetd
import Derived.Deep.DeepCutAuto
namespace Go.Proofs.Ytedbmpfjikaljaa
open Go.RowKit
set_option linter.unusedVariables false
set_option linter.unusedSimpArgs false
set_option linter.unusedSectionVars false
set_option maxRecDepth 100000

def fl (f x : Int) : Bool := bits .and .u8 f x != 0
def dataE (k f : Int) (xs : List Int) : Bool := decide (12 < xs.length) && ((0 : Int) == k) && (flagsV (fl f 4) (fl f 2) (fl f 1) == f) && decide (dataL (gt xs 0 4) (gt xs 4 2) (gt xs 6 2) (xs.drop 12) = xs)
theorem dataL_len (t s q : Int) (b : List Int) : (dataL t s q b).length = 12 + b.length := by simp [dataL, bes_len]; omega

theorem size_alloc_ (w : World) (o : Obj) : (w.alloc o).heap.size = w.heap.size + 1 := by simp
theorem free7 {w : World} {g : Nat} {cs : Array Value} {t : TypeId} (h : w.heap[g]? = some (.cells cs t)) : w.frozen? ⟨g, 0, none⟩ = false ∧ w.frozen? ⟨g, 1, none⟩ = false ∧ w.frozen? ⟨g, 2, none⟩ = false ∧ w.frozen? ⟨g, 3, none⟩ = false ∧ w.frozen? ⟨g, 4, none⟩ = false ∧ w.frozen? ⟨g, 5, none⟩ = false ∧ w.frozen? ⟨g, 6, none⟩ = false :=
  ⟨blk_free h, blk_free h, blk_free h, blk_free h, blk_free h, blk_free h, blk_free h⟩
theorem set7_keep {V : World} {h r : Nat} {o : Obj} (k : V.heap[h]? = some o) (hr : h ≠ r) (v0 v1 v2 v3 v4 v5 v6 : Value) : (((((((V.setCell ⟨r, 0, none⟩ v0).setCell ⟨r, 1, none⟩ v1).setCell ⟨r, 2, none⟩ v2).setCell ⟨r, 3, none⟩ v3).setCell ⟨r, 4, none⟩ v4).setCell ⟨r, 5, none⟩ v5).setCell ⟨r, 6, none⟩ v6).heap[h]? = some o := by
  rw [Below.heap_setCell _ _ _ _ hr, Below.heap_setCell _ _ _ _ hr, Below.heap_setCell _ _ _ _ hr, Below.heap_setCell _ _ _ _ hr, Below.heap_setCell _ _ _ _ hr, Below.heap_setCell _ _ _ _ hr, Below.heap_setCell _ _ _ _ hr]
  exact k
theorem Rg.set7 {w : World} {r : Nat} {K : List (Nat × Obj)} {A : Option Addr} {n c at_ : Nat} {V : World} {g : Nat} {a0 a1 a2 a3 a4 a5 a6 : Value} {t : TypeId} (h : Rg w r ((g, .cells #[a0, a1, a2, a3, a4, a5, a6] t) :: K) A n c at_ V) (hg : ∀ p ∈ K, p.1 ≠ g) (v0 v1 v2 v3 v4 v5 v6 : Value) :
    Rg w r ((g, .cells #[v0, v1, v2, v3, v4, v5, v6] t) :: K) A n c at_ (((((((V.setCell ⟨g, 0, none⟩ v0).setCell ⟨g, 1, none⟩ v1).setCell ⟨g, 2, none⟩ v2).setCell ⟨g, 3, none⟩ v3).setCell ⟨g, 4, none⟩ v4).setCell ⟨g, 5, none⟩ v5).setCell ⟨g, 6, none⟩ v6) := by
  have := ((((((h.set hg 0 v0).set hg 1 v1).set hg 2 v2).set hg 3 v3).set hg 4 v4).set hg 5 v5).set hg 6 v6
  simpa using this

theorem own_set7 {w2 : World} {base r : Nat} {A : Option Addr} {n c : Nat} {xs : List Int} (h : Own w2 base A n c xs) (hr : r < base) (v0 v1 v2 v3 v4 v5 v6 : Value) : Own (((((((w2.setCell ⟨r, 0, none⟩ v0).setCell ⟨r, 1, none⟩ v1).setCell ⟨r, 2, none⟩ v2).setCell ⟨r, 3, none⟩ v3).setCell ⟨r, 4, none⟩ v4).setCell ⟨r, 5, none⟩ v5).setCell ⟨r, 6, none⟩ v6) base A n c xs :=
  own_setCell (own_setCell (own_setCell (own_setCell (own_setCell (own_setCell (own_setCell h hr v0) hr v1) hr v2) hr v3) hr v4) hr v5) hr v6
theorem below_set7 {B : Nat} {w w2 : World} {r : Nat} (h : Below B w w2) (hr : B ≤ r) (v0 v1 v2 v3 v4 v5 v6 : Value) : Below B w (((((((w2.setCell ⟨r, 0, none⟩ v0).setCell ⟨r, 1, none⟩ v1).setCell ⟨r, 2, none⟩ v2).setCell ⟨r, 3, none⟩ v3).setCell ⟨r, 4, none⟩ v4).setCell ⟨r, 5, none⟩ v5).setCell ⟨r, 6, none⟩ v6) :=
  ((((((h.setCell (p := ⟨r, 0, none⟩) hr v0).setCell (p := ⟨r, 1, none⟩) hr v1).setCell (p := ⟨r, 2, none⟩) hr v2).setCell (p := ⟨r, 3, none⟩) hr v3).setCell (p := ⟨r, 4, none⟩) hr v4).setCell (p := ⟨r, 5, none⟩) hr v5).setCell (p := ⟨r, 6, none⟩) hr v6

theorem rest_list (xs : List Int) (n at_ : Nat) (hl : xs.length = n) : (if isWithin n (at_ : Int) ((n : Int) - (at_ : Int)) = true then (xs.drop at_).take ((n : Int) - (at_ : Int)).toNat else []) = xs.drop at_ := by
  unfold isWithin
  by_cases h : at_ ≤ n
  · rw [if_pos (by simp; omega), List.take_of_length_le (by rw [List.length_drop]; omega)]
  · rw [if_neg (by simp; omega), List.drop_eq_nil_of_le (by omega)]

set_option maxHeartbeats 4000000 in
theorem getData_ (w : World) {k f : Int} {A : Option Addr} {n c : Nat} {xs : List Int} (h : Rd .u8 w A n c xs) (hy : Byt xs) (hn : n ≤ 100000) :
    Calls Try.prog 22 #[chunkV k f A n c] w fun e w' => ∃ B m d, e = .returned (.tuple #[pickV (dataE k f xs) (dataV (gt xs 0 4) (gt xs 4 2) (gt xs 6 2) (fl f 4) (fl f 2) (fl f 1) B m d) dataZ, errV (dataE k f xs)]) ∧ Own w' w.heap.size B m d (xs.drop 12) ∧ Below w.heap.size w w' := by
  have H := Aside.mk h
  have Y := Aside.mk hy
  have hlen := Aside.mk h.len
  clear h hy
  have G := Aside.mk (rg_start2 w (.cells #[.int .u8 k, .int .u8 f, .slice A n c] 24) (.cells #[.int .u32 0, .int .u16 0, .int .u16 0, .bool false, .bool false, .bool false, .slice none 0 0] 32) A n c 0)
  have GA : Aside (Rg w (w.heap.size + 1 + 1) [(w.heap.size + 1 + 1 + 1, .cells #[.int .u32 0, .int .u16 0, .int .u16 0, .bool false, .bool false, .bool false, .slice none 0 0] 32), (w.heap.size + 1, .cells #[.int .u32 0, .int .u16 0, .int .u16 0, .bool false, .bool false, .bool false, .slice none 0 0] 32), (w.heap.size, .cells #[.int .u8 k, .int .u8 f, .slice A n c] 24)] A n c 0 _) := ⟨by
    have := G.out.alloc (.cells #[.int .u32 0, .int .u16 0, .int .u16 0, .bool false, .bool false, .bool false, .slice none 0 0] 32)
    simp only [size_alloc_] at this
    exact this⟩
  have T1 := Aside.mk (fun (V : World) (K : List (Nat × Obj)) (hV : Rg w (w.heap.size + 1 + 1) K A n c 0 V) => rg_take H.out Y.out hV (by omega) 4 4 rfl (si := 4) rfl rfl)
  have T2 := Aside.mk (fun (V : World) (K : List (Nat × Obj)) (hV : Rg w (w.heap.size + 1 + 1) K A n c 4 V) => rg_take H.out Y.out hV (by omega) 2 6 rfl (si := 2) rfl rfl)
  have T3 := Aside.mk (fun (V : World) (K : List (Nat × Obj)) (hV : Rg w (w.heap.size + 1 + 1) K A n c 6 V) => rg_take H.out Y.out hV (by omega) 2 8 rfl (si := 2) rfl rfl)
  have hb1 := gt_4 Y.out 0
  have hb2 := gt_2 Y.out 4
  have hb3 := gt_2 Y.out 6
  obtain ⟨E, hE⟩ : ∃ E, dataE k f xs = E := ⟨_, rfl⟩
  have EQ : Aside ((decide (12 < xs.length) && ((0 : Int) == k) && (flagsV (fl f 4) (fl f 2) (fl f 1) == f) && decide (dataL (gt xs 0 4) (gt xs 4 2) (gt xs 6 2) (xs.drop 12) = xs)) = E) := ⟨hE⟩
  rw [hE]
  clear hE
  generalize gt xs 0 4 = x1 at *
  generalize gt xs 4 2 = x2 at *
  generalize gt xs 6 2 = x3 at *
  have w1 : IntKind.u32.wrap x1 = x1 := by rw [IntKind.wrap_u32]; omega
  have w2 : IntKind.u16.wrap x2 = x2 := by rw [IntKind.wrap_u16]; omega
  have w3 : IntKind.u16.wrap x3 = x3 := by rw [IntKind.wrap_u16]; omega
  have u1 : (bits .and .u8 f 4 != 0) = fl f 4 := rfl
  have u2 : (bits .and .u8 f 2 != 0) = fl f 2 := rfl
  have u3 : (bits .and .u8 f 1 != 0) = fl f 1 := rfl
  generalize fl f 4 = b1 at *
  generalize fl f 2 = b2 at *
  generalize fl f 1 = b3 at *
  have KP : Aside (∀ (V : World), V.heap[w.heap.size]? = some (.cells #[.int .u8 k, .int .u8 f, .slice A n c] 24) → V.cell? ⟨w.heap.size, 1, none⟩ = some (.int .u8 f)) := ⟨fun V hV => (keep3 hV).2.1⟩
  have kh0 := G.out.drew.h1
  have kh1 := GA.out.drew.h2
  unfold chunkV
  go_enter Try.func22, Try.ntmps22
  go_upto_region 2 with (fail)
  go_cut [5] (fun s5 wx => ∃ g : Nat, s5 = .pointer (some ⟨g, 0, none⟩) ∧ w.heap.size + 1 + 1 < g ∧ Aside (Rg w (w.heap.size + 1 + 1) [(g, .cells #[.int .u32 x1, .int .u16 x2, .int .u16 x3, .bool b1, .bool b2, .bool b3, .slice none 0 0] 32), (w.heap.size + 1, .cells #[.int .u32 0, .int .u16 0, .int .u16 0, .bool false, .bool false, .bool false, .slice none 0 0] 32), (w.heap.size, .cells #[.int .u8 k, .int .u8 f, .slice A n c] 24)] A n c 8 wx))
  case first =>
    go_region_held3 (fun w' => w'.cell? ⟨w.heap.size, 1, none⟩ = some (.int .u8 f))
      (first | (with_reducible exact KP.out _ kh5) | (with_reducible exact KP.out _ kh4) | (with_reducible exact KP.out _ kh3) | (with_reducible exact KP.out _ (alloc_keep kh5)) | (with_reducible exact KP.out _ (alloc_keep kh4)) | (with_reducible exact KP.out _ (alloc_keep kh3)) | (with_reducible exact KP.out _ (set7_keep kh5 (by omega) _ _ _ _ _ _ _)) | exact KP.out _ kh0 | exact KP.out _ kh1 | go_keep)
      (first
        | (have _z := P2; clear _z; go_at_call 51; refine (T3.out _ _ (by first | exact P2.out | exact P2.out.alloc _)).mono ?_; rintro e w5 ⟨rfl, P3⟩; have kh5 : w5.heap[w.heap.size]? = some (.cells #[.int .u8 k, .int .u8 f, .slice A n c] 24) := (by first | exact P3.out.h1 | exact P3.out.h2); have kv := keep7 P3.out.h0; have kf := free7 P3.out.h0; have zg := lt_of_block P3.out.h0; have zr := G.out.size; have z1 := P1.out.size; have z2 := P2.out.size; have z3 := P3.out.size)
        | (have _z := P1; clear _z; go_at_call 51; refine (T2.out _ _ (by first | exact P1.out | exact P1.out.alloc _)).mono ?_; rintro e w4 ⟨rfl, P2⟩; have kh4 : w4.heap[w.heap.size]? = some (.cells #[.int .u8 k, .int .u8 f, .slice A n c] 24) := (by first | exact P2.out.h1 | exact P2.out.h2))
        | (go_at_call 51; refine (T1.out _ _ (by first | exact G.out.drew | exact GA.out.drew)).mono ?_; rintro e w3 ⟨rfl, P1⟩; have kh3 : w3.heap[w.heap.size]? = some (.cells #[.int .u8 k, .int .u8 f, .slice A n c] 24) := (by first | exact P1.out.h1 | exact P1.out.h2)))
    all_goals (
      go_wp2_with fail
      go_meet
      refine ⟨_, rfl, ?_, ?_⟩
      · omega
      · first | exact ⟨by with_reducible exact P3.out.alloc _⟩ | exact ⟨by with_reducible exact P3.out.set7 (by simp <;> omega) _ _ _ _ _ _ _⟩)
  case rest =>
    obtain ⟨g, rfl, hgr, P3⟩ := hcut
    have T4 := Aside.mk (rg_take H.out Y.out P3.out (by omega) 4 12 rfl (si := 4) rfl rfl)
    clear T1 T2 T3 kh0 kh1 GA G
    go_wp2_with fail
    refine T4.out.mono ?_
    rintro e w6 ⟨rfl, P6⟩
    have T5 := Aside.mk (rg_left P6.out (by omega) (by omega))
    clear T4 P3
    go_wp2_with fail
    refine T5.out.mono ?_
    rintro e w7 ⟨rfl, P7⟩
    clear T5 P6
    have T6 := Aside.mk (rg_rest H.out P7.out (by omega) ((n : Int) - ((12 : Nat) : Int)) (by omega) (by omega))
    go_wp2_with fail
    refine T6.out.mono ?_
    rintro e w8 ⟨B, m, d, rfl, P8⟩
    obtain ⟨at9, o8, P9⟩ := P8.out
    rw [rest_list xs n 12 hlen.out] at o8
    have hm : m = n - 12 := by have := o8.len; rw [List.length_drop, hlen.out] at this; omega
    have hmb : m ≤ 100000 := by omega
    have ks7 : g < w7.heap.size := lt_of_block P7.out.h0
    have O9 := Aside.mk (own_setCell (i := 6) o8 ks7 (.slice B m d))
    have P9 := Aside.mk P9
    have P10 := Aside.mk (P9.out.set (by simp <;> omega) 6 (.slice B m d))
    have kv := keep7 P9.out.h0
    have kf := (free7 P9.out.h0).2.2.2.2.2.2
    have ks : g < w8.heap.size := lt_of_block P9.out.h0
    have kb := keep3 P9.out.h2
    have hgb1 : w.heap.size + 1 < g := by omega
    have hgb : w.heap.size < g := by omega
    have Z10 := Aside.mk P10.out.h1
    have hz7 := P7.out.low.size
    have T7 : Aside (∀ may : Bool, decide (0 < m) = may → Calls Try.prog 54 #[chunkV k f A n c, dataV x1 x2 x3 b1 b2 b3 B m d, .bool may, .func (.func 21) #[] #[]] (w8.setCell ⟨g, 6, none⟩ (.slice B m d)) fun e w' => e = .returned (.tuple #[pickV E (dataV x1 x2 x3 b1 b2 b3 B m d) dataZ, errV E]) ∧ Below (w8.setCell ⟨g, 6, none⟩ (.slice B m d)).heap.size (w8.setCell ⟨g, 6, none⟩ (.slice B m d)) w') := ⟨fun may hmay => by
      refine getData0_ _ (H.out.below P10.out.low) x1 x2 x3 b1 b2 b3 B m d may 0 (flagsV b1 b2 b3) (dataL x1 x2 x3 (xs.drop 12)) (fun V b => (putData_ V x1 x2 x3 b1 b2 b3 hb1.1 hb1.2 hb2.1 hb2.2 hb3.1 hb3.2 ((O9.out.rd (by omega)).below b) (by omega)).mono fun e w' ⟨A, n', c, h1, h2, h3⟩ => ⟨A, n', c, h1, h2.rd (by have := h2.len; rw [dataL_len, List.length_drop, hlen.out] at this; omega), h3⟩) ?_
      rw [← EQ.out, ← hmay]
      congr 3
      rw [hlen.out]
      exact decide_eq_decide.2 (by omega)⟩
    have BL := Aside.mk P10.out.low
    have O10 := Aside.mk O9.out
    clear o8 T6 P8 hm EQ O9 P10
    have fin : Aside (∀ (may : Bool), decide (0 < m) = may → ∀ e w9, e = Ending.returned (.tuple #[pickV E (dataV x1 x2 x3 b1 b2 b3 B m d) dataZ, errV E]) ∧ Below (w8.setCell ⟨g, 6, none⟩ (.slice B m d)).heap.size (w8.setCell ⟨g, 6, none⟩ (.slice B m d)) w9 → True) := ⟨fun _ _ _ _ _ => trivial⟩
    clear fin
    cases hmay : decide (0 < m)
    all_goals (
      have T8 := Aside.mk (T7.out _ hmay)
      clear T7
      go_wp2_with fail
      refine T8.out.mono ?_
      rintro e w9 ⟨rfl, b9⟩
      clear T8
      have Z9 := (b9.block _ (lt_of_block Z10.out)).trans Z10.out
      have kz := keep7 Z9
      have kzf := free7 Z9
      have B9 := Aside.mk (BL.out.trans (b9.mono BL.out.size))
      have O11 := Aside.mk (O10.out.below b9)
      clear b9 Z9 Z10 BL O10
      cases E
      all_goals (
        unfold pickV errV dataZ dataV
        go_wp2_with fail
        first
          | (refine bodyPost_ret (v := .tuple #[dataZ, .int .i64 7]) (by simp [results, Try.results22, go_sem, dataZ, dataV, kz]) rfl ⟨B, m, d, rfl, (own_set7 (r := w.heap.size + 1) O11.out (by omega) _ _ _ _ _ _ _).mono (by omega), below_set7 (r := w.heap.size + 1) B9.out (by omega) _ _ _ _ _ _ _⟩; done)
          | exact bodyPost_ret (v := .tuple #[dataV x1 x2 x3 b1 b2 b3 B m d, .int .i64 0]) (by simp [results, Try.results22, go_sem, dataV, kz]) rfl ⟨B, m, d, rfl, (own_set7 (r := w.heap.size + 1) O11.out (by omega) _ _ _ _ _ _ _).mono (by omega), below_set7 (r := w.heap.size + 1) B9.out (by omega) _ _ _ _ _ _ _⟩))
end Go.Proofs.Ytedbmpfjikaljaa
