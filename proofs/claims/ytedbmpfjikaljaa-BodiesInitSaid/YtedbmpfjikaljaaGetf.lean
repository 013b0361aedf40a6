/-
  Proved: what the program's function that reads a chunk of a beginning does to memory and what it answers. Conditions: rows are shorter than a hundred thousand.
-/
import Derived.Test.YtedbmpfjikaljaaGete
namespace Go.Proofs.Ytedbmpfjikaljaa
open Go.RowKit
set_option linter.unusedVariables false
set_option linter.unusedSimpArgs false
set_option linter.unusedSectionVars false
set_option maxRecDepth 100000

/-- The function within: a chunk of a beginning, of the kind that the chunk has. -/
theorem initIn_ (V : World) {q : Nat} {k f : Int} {A : Option Addr} {n c : Nat} (hq : V.heap[q]? = some (.cells #[.int .u8 k, .int .u8 f, .slice A n c] 24)) (tag rwnd out inn tsn : Int) (h0 : 0 ≤ tag) (h1 : tag < 4294967296) (h2 : 0 ≤ rwnd) (h3 : rwnd < 4294967296) (h4 : 0 ≤ out) (h5 : out < 65536) (h6 : 0 ≤ inn) (h7 : inn < 65536) (h8 : 0 ≤ tsn) (h9 : tsn < 4294967296)
    {B : Option Addr} {m d : Nat} {bs : List Int} (h : Rd .u8 V B m d bs) (hn : m ≤ 500000) :
    Calls Try.prog 67 #[initV tag rwnd out inn tsn B m d, .pointer (some ⟨q, 0, none⟩)] V fun e w' => ∃ A n c, e = .returned (chunkV k 0 A n c) ∧ Own w' V.heap.size A n c (initL k tag rwnd out inn tsn bs) ∧ Below V.heap.size V w' := by
  have hql := lt_of_block hq
  have H := Aside.mk h
  clear h
  unfold initV
  go_enter Try.func67, Try.ntmps67
  go_upto_region 1 with (fail)
  generalize hW : (V.alloc (.cells #[.int .u32 tag, .int .u32 rwnd, .int .u16 out, .int .u16 inn, .int .u32 tsn, .slice B m d] 34)).alloc (.cells #[.int .u8 0, .int .u8 0, .slice none 0 0] 24) = W
  obtain ⟨hbox, hres, hbl, hsz⟩ := setup2 V _ hW
  clear hW
  have T := Aside.mk (putInit_ W k tag rwnd out inn tsn h0 h1 h2 h3 h4 h5 h6 h7 h8 h9 (H.out.below (hbl)) hn)
  obtain ⟨k0, k1, k2⟩ := keep3 ((hbl.block _ hql).trans hq)
  obtain ⟨b0, b1, b2, b3, b4, b5⟩ := keep6 hbox
  clear hq
  go_wp2_with fail
  refine T.out.mono ?_
  rintro e w2 ⟨A2, n2, c2, rfl, o, b⟩
  have r1 := hres.below b (by omega)
  obtain ⟨c0, c1, c2'⟩ := r1.cells
  obtain ⟨f0, f1, f2⟩ := r1.free
  have O := Aside.mk o
  have BB := Aside.mk (hbl.trans (b.mono (show V.heap.size ≤ W.heap.size by omega)))
  clear o b r1 T hbox hres hbl
  unfold chunkV
  go_wp2_with fail
  refine bodyPost_ret (v := chunkV k 0 A2 n2 c2) (by simp [results, Try.results67, go_sem, chunkV, c0, c1, c2']) rfl ⟨A2, n2, c2, rfl, ?_, ?_⟩
  · exact (fin_own O.out (by omega) _ _ _).mono (by omega)
  · exact fin_below BB.out (by omega) _ _ _

/-- The cookie that a chunk's body says. -/
def ckL (xs : List Int) : List Int := if isWithin xs.length ((20 : Nat) : Int) (gt xs 18 2 - 4) = true then (xs.drop 20).take (gt xs 18 2 - 4).toNat else []
def initCk (k : Int) (xs : List Int) : List Int := if k = 2 then ckL xs else []
def nz3 (x y z : Int) : Bool := x != 0 && y != 0 && z != 0
def initMay (k : Int) (xs : List Int) : Bool := nz3 (gt xs 0 4) (gt xs 8 2) (gt xs 10 2) && (k == 1 || k == 2 && decide (0 < (ckL xs).length))
def initE (k f : Int) (xs : List Int) : Bool := initMay k xs && (k == k) && ((0 : Int) == f) && decide (initL k (gt xs 0 4) (gt xs 4 4) (gt xs 8 2) (gt xs 10 2) (gt xs 12 4) (initCk k xs) = xs)
theorem headL_len (a b c d e : Int) : (headL a b c d e).length = 16 := by simp [headL, bes_len]
theorem initL_len (k a b c d e : Int) (bs : List Int) : (initL k a b c d e bs).length ≤ 40 + bs.length := by
  unfold initL ackL
  split
  · simp [headL_len, bes_len]
    unfold rnd
    omega
  · rw [headL_len]
    omega

theorem own_set6 {w2 : World} {base r : Nat} {A : Option Addr} {n c : Nat} {xs : List Int} (h : Own w2 base A n c xs) (hr : r < base) (v0 v1 v2 v3 v4 v5 : Value) : Own ((((((w2.setCell ⟨r, 0, none⟩ v0).setCell ⟨r, 1, none⟩ v1).setCell ⟨r, 2, none⟩ v2).setCell ⟨r, 3, none⟩ v3).setCell ⟨r, 4, none⟩ v4).setCell ⟨r, 5, none⟩ v5) base A n c xs :=
  own_setCell (own_setCell (own_setCell (own_setCell (own_setCell (own_setCell h hr v0) hr v1) hr v2) hr v3) hr v4) hr v5
theorem below_set6 {B : Nat} {w w2 : World} {r : Nat} (h : Below B w w2) (hr : B ≤ r) (v0 v1 v2 v3 v4 v5 : Value) : Below B w ((((((w2.setCell ⟨r, 0, none⟩ v0).setCell ⟨r, 1, none⟩ v1).setCell ⟨r, 2, none⟩ v2).setCell ⟨r, 3, none⟩ v3).setCell ⟨r, 4, none⟩ v4).setCell ⟨r, 5, none⟩ v5) :=
  (((((h.setCell (p := ⟨r, 0, none⟩) hr v0).setCell (p := ⟨r, 1, none⟩) hr v1).setCell (p := ⟨r, 2, none⟩) hr v2).setCell (p := ⟨r, 3, none⟩) hr v3).setCell (p := ⟨r, 4, none⟩) hr v4).setCell (p := ⟨r, 5, none⟩) hr v5

set_option maxHeartbeats 4000000 in
theorem getInit_ (w : World) {k f : Int} {A : Option Addr} {n c : Nat} {xs : List Int} (h : Rd .u8 w A n c xs) (hy : Byt xs) (hn : n ≤ 100000) :
    Calls Try.prog 44 #[chunkV k f A n c] w fun e w' => ∃ B m d, e = .returned (.tuple #[pickV (initE k f xs) (initV (gt xs 0 4) (gt xs 4 4) (gt xs 8 2) (gt xs 10 2) (gt xs 12 4) B m d) initZ, errV (initE k f xs)]) ∧ Own w' w.heap.size B m d (initCk k xs) ∧ Below w.heap.size w w' := by
  have H := Aside.mk h
  have Y := Aside.mk hy
  have hlen := Aside.mk h.len
  clear h hy
  have G := Aside.mk (rg_start2 w (.cells #[.int .u8 k, .int .u8 f, .slice A n c] 24) (.cells #[.int .u32 0, .int .u32 0, .int .u16 0, .int .u16 0, .int .u32 0, .slice none 0 0] 34) A n c 0)
  have T1 := Aside.mk (fun (V : World) (K : List (Nat × Obj)) (hV : Rg w (w.heap.size + 1 + 1) K A n c 0 V) => rg_take H.out Y.out hV (by omega) 4 4 rfl (si := 4) rfl rfl)
  have T2 := Aside.mk (fun (V : World) (K : List (Nat × Obj)) (hV : Rg w (w.heap.size + 1 + 1) K A n c 4 V) => rg_take H.out Y.out hV (by omega) 4 8 rfl (si := 4) rfl rfl)
  have T3 := Aside.mk (fun (V : World) (K : List (Nat × Obj)) (hV : Rg w (w.heap.size + 1 + 1) K A n c 8 V) => rg_take H.out Y.out hV (by omega) 2 10 rfl (si := 2) rfl rfl)
  have T4 := Aside.mk (fun (V : World) (K : List (Nat × Obj)) (hV : Rg w (w.heap.size + 1 + 1) K A n c 10 V) => rg_take H.out Y.out hV (by omega) 2 12 rfl (si := 2) rfl rfl)
  have T5 := Aside.mk (fun (V : World) (K : List (Nat × Obj)) (hV : Rg w (w.heap.size + 1 + 1) K A n c 12 V) => rg_take H.out Y.out hV (by omega) 4 16 rfl (si := 4) rfl rfl)
  have T6 := Aside.mk (fun (V : World) (K : List (Nat × Obj)) (hV : Rg w (w.heap.size + 1 + 1) K A n c 16 V) => rg_take H.out Y.out hV (by omega) 2 18 rfl (si := 2) rfl rfl)
  have T7 := Aside.mk (fun (V : World) (K : List (Nat × Obj)) (hV : Rg w (w.heap.size + 1 + 1) K A n c 18 V) => rg_take H.out Y.out hV (by omega) 2 20 rfl (si := 2) rfl rfl)
  have hb1 := gt_4 Y.out 0
  have hb2 := gt_4 Y.out 4
  have hb3 := gt_2 Y.out 8
  have hb4 := gt_2 Y.out 10
  have hb5 := gt_4 Y.out 12
  obtain ⟨E, hE⟩ : ∃ E, initE k f xs = E := ⟨_, rfl⟩
  have EQ : Aside ((initMay k xs && (k == k) && ((0 : Int) == f) && decide (initL k (gt xs 0 4) (gt xs 4 4) (gt xs 8 2) (gt xs 10 2) (gt xs 12 4) (initCk k xs) = xs)) = E) := ⟨hE⟩
  have EM : Aside (initMay k xs = (nz3 (gt xs 0 4) (gt xs 8 2) (gt xs 10 2) && (k == 1 || k == 2 && decide (0 < (ckL xs).length)))) := ⟨rfl⟩
  rw [hE]
  clear hE
  generalize gt xs 0 4 = x1 at *
  generalize gt xs 4 4 = x2 at *
  generalize gt xs 8 2 = x3 at *
  generalize gt xs 10 2 = x4 at *
  generalize gt xs 12 4 = x5 at *
  unfold chunkV
  go_enter Try.func44, Try.ntmps44
  go_wp2_with fail
  refine (T1.out _ _ G.out).mono ?_
  rintro e w1 ⟨rfl, P1⟩
  go_wp2_with fail
  refine (T2.out _ _ P1.out).mono ?_
  rintro e w2 ⟨rfl, P2⟩
  go_wp2_with fail
  refine (T3.out _ _ P2.out).mono ?_
  rintro e w3 ⟨rfl, P3⟩
  go_wp2_with fail
  refine (T4.out _ _ P3.out).mono ?_
  rintro e w4 ⟨rfl, P4⟩
  go_wp2_with fail
  refine (T5.out _ _ P4.out).mono ?_
  rintro e w5 ⟨rfl, P5⟩
  have hgr : w.heap.size + 1 + 1 < w5.heap.size := P5.out.size
  have P6 := Aside.mk (P5.out.alloc (.cells #[.int .u32 x1, .int .u32 x2, .int .u16 x3, .int .u16 x4, .int .u32 x5, .slice none 0 0] 34))
  clear T1 T2 T3 T4 T5 G P1 P2 P3 P4 P5
  generalize hg : w5.heap.size = g at *
  go_upto_region 3 with (fail)
  go_cut [6] (fun s6 wx => s6 = .bool (nz3 x1 x3 x4) ∧ Aside (Rg w (w.heap.size + 1 + 1) [(g, .cells #[.int .u32 x1, .int .u32 x2, .int .u16 x3, .int .u16 x4, .int .u32 x5, .slice none 0 0] 34), (w.heap.size + 1, .cells #[.int .u32 0, .int .u32 0, .int .u16 0, .int .u16 0, .int .u32 0, .slice none 0 0] 34), (w.heap.size, .cells #[.int .u8 k, .int .u8 f, .slice A n c] 24)] A n c 16 wx))
  case first =>
    have kx := keep6 P6.out.h0
    cases e1 : (x1 != 0)
    · have N : Aside (Value.bool false = Value.bool (nz3 x1 x3 x4)) := ⟨by unfold nz3; rw [e1]; rfl⟩
      go_wp2_with fail
      go_meet
      exact ⟨N.out, P6⟩
    · cases e2 : (x3 != 0)
      · have N : Aside (Value.bool false = Value.bool (nz3 x1 x3 x4)) := ⟨by unfold nz3; rw [e1, e2]; rfl⟩
        go_wp2_with fail
        go_meet
        exact ⟨N.out, P6⟩
      · cases e3 : (x4 != 0)
        · have N : Aside (Value.bool false = Value.bool (nz3 x1 x3 x4)) := ⟨by unfold nz3; rw [e1, e2, e3]; rfl⟩
          go_wp2_with fail
          go_meet
          exact ⟨N.out, P6⟩
        · have N : Aside (Value.bool true = Value.bool (nz3 x1 x3 x4)) := ⟨by unfold nz3; rw [e1, e2, e3]; rfl⟩
          go_wp2_with fail
          go_meet
          exact ⟨N.out, P6⟩
  case rest =>
    obtain ⟨rfl, P7⟩ := hcut
    clear hg P6
    generalize nz3 x1 x3 x4 = nz at *
    have T9 : Aside (∀ (V : World) (at_ : Nat) (B : Option Addr) (m d : Nat) (may : Bool), Rg w (w.heap.size + 1 + 1) [(g, .cells #[.int .u32 x1, .int .u32 x2, .int .u16 x3, .int .u16 x4, .int .u32 x5, .slice B m d] 34), (w.heap.size + 1, .cells #[.int .u32 0, .int .u32 0, .int .u16 0, .int .u16 0, .int .u32 0, .slice none 0 0] 34), (w.heap.size, .cells #[.int .u8 k, .int .u8 f, .slice A n c] 24)] A n c at_ V → Own V (g + 1) B m d (initCk k xs) → m ≤ 400000 → initMay k xs = may →
        Calls Try.prog 66 #[chunkV k f A n c, initV x1 x2 x3 x4 x5 B m d, .bool may, .func (.func 67) #[] #[.pointer (some ⟨w.heap.size, 0, none⟩)]] V fun e w' => e = .returned (.tuple #[pickV E (initV x1 x2 x3 x4 x5 B m d) initZ, errV E]) ∧ Aside (Own w' (g + 1) B m d (initCk k xs) ∧ Below w.heap.size w w' ∧ w'.heap[w.heap.size + 1]? = some (.cells #[.int .u32 0, .int .u32 0, .int .u16 0, .int .u16 0, .int .u32 0, .slice none 0 0] 34))) := ⟨fun V at_ B m d may hR hO hm hmay => by
      refine (getInit0_ V (H.out.below hR.low) x1 x2 x3 x4 x5 B m d may w.heap.size k 0 (initL k x1 x2 x3 x4 x5 (initCk k xs)) (fun V' b => (initIn_ V' ((b.block _ (lt_of_block hR.h2)).trans hR.h2) x1 x2 x3 x4 x5 hb1.1 hb1.2 hb2.1 hb2.2 hb3.1 hb3.2 hb4.1 hb4.2 hb5.1 hb5.2 ((hO.rd (by omega)).below b) (by omega)).mono fun e w' ⟨A, n', c, h1, h2, h3⟩ => ⟨A, n', c, h1, h2.rd (by have := h2.len; have := initL_len k x1 x2 x3 x4 x5 (initCk k xs); have := hO.len; omega), h3⟩) (E := E) (by rw [← EQ.out, ← hmay])).mono ?_
      rintro e w' ⟨rfl, b⟩
      exact ⟨rfl, ⟨hO.below b, hR.low.trans (b.mono hR.low.size), (b.block _ (lt_of_block hR.h1)).trans hR.h1⟩⟩⟩
    have hgb1 : w.heap.size + 1 < g := by omega
    have hgb : w.heap.size < g := by omega
    have kx := keep6 P7.out.h0
    have kb := keep3 P7.out.h2
    have kf := blk_free (i := 5) P7.out.h0
    by_cases k1 : k = 1
    · subst k1
      have hm : initMay 1 xs = nz := by rw [EM.out]; simp
      have hc : initCk 1 xs = [] := rfl
      have O := Aside.mk (show Own wc (g + 1) none 0 0 (initCk 1 xs) by rw [hc]; exact own_nil _ _)
      have HM := Aside.mk hm
      clear hm hc EM EQ T6 T7
      go_wp2_with fail
      refine (T9.out _ _ none 0 0 _ P7.out O.out (by omega) HM.out).mono ?_
      rintro e w9 ⟨rfl, P9⟩
      have kz := keep6 P9.out.2.2
      have kzf := free7 P9.out.2.2
      clear T9
      cases E
      all_goals (
        unfold pickV errV initZ initV
        go_wp2_with fail
        first
          | (refine bodyPost_ret (v := .tuple #[initZ, .int .i64 7]) (by simp [results, Try.results44, go_sem, initZ, initV, kz]) rfl ⟨none, 0, 0, rfl, (own_set6 (r := w.heap.size + 1) P9.out.1 (by omega) _ _ _ _ _ _).mono (by omega), below_set6 (r := w.heap.size + 1) P9.out.2.1 (by omega) _ _ _ _ _ _⟩; done)
          | exact bodyPost_ret (v := .tuple #[initV x1 x2 x3 x4 x5 none 0 0, .int .i64 0]) (by simp [results, Try.results44, go_sem, initV, kz]) rfl ⟨none, 0, 0, rfl, (own_set6 (r := w.heap.size + 1) P9.out.1 (by omega) _ _ _ _ _ _).mono (by omega), below_set6 (r := w.heap.size + 1) P9.out.2.1 (by omega) _ _ _ _ _ _⟩)
    · have k1' : (k == 1) = false := beq_eq_false_iff_ne.2 k1
      by_cases k2 : k = 2
      · subst k2
        have hc : initCk 2 xs = ckL xs := rfl
        have hm0 : initMay 2 xs = (nz && decide (0 < (ckL xs).length)) := by rw [EM.out]; simp
        have hcl : (ckL xs) = if isWithin n ((20 : Nat) : Int) (gt xs 18 2 - 4) = true then (xs.drop 20).take (gt xs 18 2 - 4).toNat else [] := by unfold ckL; rw [hlen.out]
        have hcn : (ckL xs).length ≤ n := by
          unfold ckL
          split
          · rw [List.length_take, List.length_drop, hlen.out]; omega
          · simp
        have hb6 := gt_2 Y.out 18
        have CL := Aside.mk hcl
        have HC := Aside.mk hc
        have HM0 := Aside.mk hm0
        clear hc hm0 hcl EM EQ
        generalize hy : gt xs 18 2 = y at *
        clear hy
        go_wp2_with fail
        refine (T6.out _ _ P7.out).mono ?_
        rintro e w6 ⟨rfl, P6⟩
        go_wp2_with fail
        refine (T7.out _ _ P6.out).mono ?_
        rintro e w7 ⟨rfl, P8⟩
        have T8 := Aside.mk (rg_rest H.out P8.out (by omega) (y - 4) (by omega) (by omega))
        clear T6 T7 P6 kx kb kf
        go_wp2_with fail
        refine T8.out.mono ?_
        rintro e w8 ⟨B, m, d, rfl, P10⟩
        obtain ⟨at9, o8, R8⟩ := P10.out
        rw [← CL.out] at o8
        have hml : (ckL xs).length = m := o8.len
        have hmn : m ≤ n := by omega
        have ks7 : g < w7.heap.size := lt_of_block P8.out.h0
        have O := Aside.mk ((own_setCell (i := 5) o8 ks7 (.slice B m d)).mono (show g + 1 ≤ w7.heap.size by omega))
        rw [← HC.out] at O
        have P11 := Aside.mk (R8.set (by simp <;> omega) 5 (.slice B m d))
        have kx := keep6 R8.h0
        have kf := blk_free (i := 5) R8.h0
        have kb := keep3 R8.h2
        rw [hml] at HM0
        clear o8 R8 P10 T8 P8 hml hcn CL
        cases nz
        all_goals (
          cases hmay : decide (0 < m)
          all_goals (
            rw [hmay] at HM0
            go_wp2_with fail
            refine (T9.out _ _ B m d _ P11.out O.out (by omega) HM0.out).mono ?_
            rintro e w9 ⟨rfl, P9⟩
            have kz := keep6 P9.out.2.2
            have kzf := free7 P9.out.2.2
            clear T9
            cases E
            all_goals (
              unfold pickV errV initZ initV
              go_wp2_with fail
              first
                | (refine bodyPost_ret (v := .tuple #[initZ, .int .i64 7]) (by simp [results, Try.results44, go_sem, initZ, initV, kz]) rfl ⟨B, m, d, rfl, (own_set6 (r := w.heap.size + 1) P9.out.1 (by omega) _ _ _ _ _ _).mono (by omega), below_set6 (r := w.heap.size + 1) P9.out.2.1 (by omega) _ _ _ _ _ _⟩; done)
                | exact bodyPost_ret (v := .tuple #[initV x1 x2 x3 x4 x5 B m d, .int .i64 0]) (by simp [results, Try.results44, go_sem, initV, kz]) rfl ⟨B, m, d, rfl, (own_set6 (r := w.heap.size + 1) P9.out.1 (by omega) _ _ _ _ _ _).mono (by omega), below_set6 (r := w.heap.size + 1) P9.out.2.1 (by omega) _ _ _ _ _ _⟩)))
      · have k2' : (k == 2) = false := beq_eq_false_iff_ne.2 k2
        have hm : initMay k xs = false := by rw [EM.out, k1', k2']; simp
        have hc : initCk k xs = [] := if_neg k2
        have O := Aside.mk (show Own wc (g + 1) none 0 0 (initCk k xs) by rw [hc]; exact own_nil _ _)
        have HM := Aside.mk hm
        clear hm hc EM EQ T6 T7
        go_wp2_with fail
        refine (T9.out _ _ none 0 0 _ P7.out O.out (by omega) HM.out).mono ?_
        rintro e w9 ⟨rfl, P9⟩
        have kz := keep6 P9.out.2.2
        have kzf := free7 P9.out.2.2
        clear T9
        cases E
        all_goals (
          unfold pickV errV initZ initV
          go_wp2_with fail
          first
            | (refine bodyPost_ret (v := .tuple #[initZ, .int .i64 7]) (by simp [results, Try.results44, go_sem, initZ, initV, kz]) rfl ⟨none, 0, 0, rfl, (own_set6 (r := w.heap.size + 1) P9.out.1 (by omega) _ _ _ _ _ _).mono (by omega), below_set6 (r := w.heap.size + 1) P9.out.2.1 (by omega) _ _ _ _ _ _⟩; done)
            | exact bodyPost_ret (v := .tuple #[initV x1 x2 x3 x4 x5 none 0 0, .int .i64 0]) (by simp [results, Try.results44, go_sem, initV, kz]) rfl ⟨none, 0, 0, rfl, (own_set6 (r := w.heap.size + 1) P9.out.1 (by omega) _ _ _ _ _ _).mono (by omega), below_set6 (r := w.heap.size + 1) P9.out.2.1 (by omega) _ _ _ _ _ _⟩)
end Go.Proofs.Ytedbmpfjikaljaa
