/-
  Proved: what the program's function that reads a chunk of what will not come does to memory and what it answers. Conditions: rows are shorter than a hundred thousand.
-/
import Derived.Test.YtedbmpfjikaljaaOwn2
import Derived.Deep.LoopGhost
import Derived.Deep.RegionLaw
namespace Go.Proofs.Ytedbmpfjikaljaa
open Go.RowKit
set_option linter.unusedVariables false
set_option linter.unusedSimpArgs false
set_option linter.unusedSectionVars false
set_option maxRecDepth 100000

/-- Pairs of numbers of two bytes, one behind the other, from a place on. -/
def prs (xs : List Int) (at_ k : Nat) : List (Int × Int) := (List.range k).map fun i => (gt xs (at_ + 4 * i) 2, gt xs (at_ + 4 * i + 2) 2)
theorem prs_succ (xs : List Int) (at_ k : Nat) : prs xs at_ (k + 1) = prs xs at_ k ++ [(gt xs (at_ + 4 * k) 2, gt xs (at_ + 4 * k + 2) 2)] := by simp [prs, List.range_succ]
theorem prs_len (xs : List Int) (at_ k : Nat) : (prs xs at_ k).length = k := by simp [prs]
theorem prs_bd {xs : List Int} (hy : Byt xs) (at_ k : Nat) : ∀ p ∈ prs xs at_ k, (0 ≤ p.1 ∧ p.1 < 65536) ∧ (0 ≤ p.2 ∧ p.2 < 65536) := by
  intro p hp
  obtain ⟨i, _, rfl⟩ := List.mem_map.1 hp
  exact ⟨gt_2 hy _, gt_2 hy _⟩
def fwdPs (xs : List Int) : List (Int × Int) := prs xs 4 ((xs.length - 1) / 4)
def fwdE (k f : Int) (xs : List Int) : Bool := true && ((192 : Int) == k) && ((0 : Int) == f) && decide (fwdL (gt xs 0 4) (fwdPs xs) = xs)
theorem pairsL_len (ps : List (Int × Int)) : (pairsL ps).length = ps.length * 4 := by
  induction ps with
  | nil => rfl
  | cons p ps ih => simp [pairsL, bes_len] at ih ⊢; omega
theorem fwdL_len (x : Int) (ps : List (Int × Int)) : (fwdL x ps).length = 4 + ps.length * 4 := by simp [fwdL, bes_len, pairsL_len]

theorem Rg.grown {w : World} {r : Nat} {K : List (Nat × Obj)} {A : Option Addr} {n c at_ : Nat} {V V' : World} (h : Rg w r K A n c at_ V) {row : Option Nat} (g : V.grownBy V' row) {base : Nat} (hr : ∀ b, row = some b → base ≤ b) (h1 : r < base) (h2 : ∀ p ∈ K, p.1 < base) : Rg w r K A n c at_ V' := by
  refine ⟨fun p hp => ?_, ?_, below_grown h.low g (fun b hb => by have := hr b hb; have := h.base; omega) h.low.size, h.base⟩
  · obtain ⟨k1, k2, k3⟩ := h.keep p hp
    exact ⟨(g.block _ (lt_of_block k1) (fun e => by have := hr _ e.symm; have := h2 p hp; omega)).trans k1, k2, k3⟩
  · exact (g.block _ h.size (fun e => by have := hr _ e.symm; omega)).trans h.rdr

theorem rgu_take {w : World} {r : Nat} {K : List (Nat × Obj)} {A : Option Addr} {n c at_ : Nat} {V : World} {xs : List Int} (h : Rd .u8 w A n c xs) (hy : Byt xs) (hg : Rg w r K A n c at_ V) (h2 : at_ ≤ 900000) (s to : Nat) (hto : at_ + s = to) {si : Int} (hsi : si = (s : Int)) (hs : isSized s = true) :
    Calls Try.prog 51 #[.pointer (some ⟨r, 0, none⟩), .int .i64 si] V fun e V' => e = .returned (.int .u64 (gt xs at_ s)) ∧ Aside (Rg w r K A n c to V' ∧ Upd (Just r) V V') := by
  subst hto hsi
  refine (take_ V hg.rdr (h.below hg.low) hy h2 s hs).mono ?_
  rintro e V' ⟨rfl, h1, h2⟩
  exact ⟨rfl, ⟨hg.upd h2 h1, h2⟩⟩
theorem rgu_left {w : World} {r : Nat} {K : List (Nat × Obj)} {A : Option Addr} {n c at_ : Nat} {V : World} (hg : Rg w r K A n c at_ V) (h1 : n ≤ 1000000) (h2 : at_ ≤ 1000000) :
    Calls Try.prog 53 #[.pointer (some ⟨r, 0, none⟩)] V fun e V' => e = .returned (.int .i64 ((n : Int) - at_)) ∧ Aside (Rg w r K A n c at_ V' ∧ Upd (Just r) V V') := by
  refine (left_ V hg.rdr h1 h2).mono ?_
  rintro e V' ⟨rfl, q, rfl⟩
  exact ⟨rfl, ⟨hg.drewN q, (Upd.refl _ _).drewN q⟩⟩
theorem OwnP.upd {e : TypeId} {w w' : World} {S : Nat → Prop} {base : Nat} {A : Option Addr} {n c : Nat} {ps : List (Int × Int)} (h : OwnP e w base A n c ps) (u : Upd S w w') (hs : ∀ i, S i → i < base) : OwnP e w' base A n c ps := row_upd h u hs
theorem OwnP.mono {e : TypeId} {w : World} {base base' : Nat} {A : Option Addr} {n c : Nat} {ps : List (Int × Int)} (h : OwnP e w base A n c ps) (hb : base' ≤ base) : OwnP e w base' A n c ps := row_mono h hb
theorem OwnP.below {e : TypeId} {w w' : World} {base : Nat} {A : Option Addr} {n c : Nat} {ps : List (Int × Int)} (h : OwnP e w base A n c ps) (u : Below w.heap.size w w') : OwnP e w' base A n c ps := row_below h u

set_option maxHeartbeats 4000000 in
theorem getFwd_ (w : World) {k f : Int} {A : Option Addr} {n c : Nat} {xs : List Int} (h : Rd .u8 w A n c xs) (hy : Byt xs) (hn : n ≤ 100000) :
    Calls Try.prog 34 #[chunkV k f A n c] w fun e w' => ∃ B m d, e = .returned (.tuple #[pickV (fwdE k f xs) (fwdV (gt xs 0 4) B m d) fwdZ, errV (fwdE k f xs)]) ∧ OwnP 88 w' w.heap.size B m d (fwdPs xs) ∧ Below w.heap.size w w' := by
  have H := Aside.mk h
  have Y := Aside.mk hy
  have hlen := Aside.mk h.len
  clear h hy
  have G := Aside.mk (rg_start2 w (.cells #[.int .u8 k, .int .u8 f, .slice A n c] 24) (.cells #[.int .u32 0, .slice none 0 0] 41) A n c 0)
  have T1 := Aside.mk (rg_take H.out Y.out G.out (by omega) 4 4 rfl (si := 4) rfl rfl)
  have hb := gt_4 Y.out 0
  generalize hx : gt xs 0 4 = x at *
  have XX := Aside.mk hx
  clear hx
  unfold chunkV
  go_enter Try.func34, Try.ntmps34
  go_wp2_with fail
  refine T1.out.mono ?_
  rintro e w2 ⟨rfl, P2⟩
  clear T1 G
  have hg1 : w.heap.size + 1 + 1 < w2.heap.size := P2.out.size
  have P3 := Aside.mk (P2.out.alloc (.cells #[.int .u32 x, .slice none 0 0] 41))
  clear P2
  go_wp2_with fail
  go_loopg [16] ((n - 1) / 4) (fun j _ wr => ∃ i B d, i + j = (n - 1) / 4 ∧ Aside (Rg w (w.heap.size + 1 + 1) [(w2.heap.size, .cells #[.int .u32 x, .slice B i d] 41), (w.heap.size + 1, .cells #[.int .u32 0, .slice none 0 0] 41), (w.heap.size, .cells #[.int .u8 k, .int .u8 f, .slice A n c] 24)] A n c (4 + 4 * i) wr ∧ OwnP 88 wr (w2.heap.size + 1) B i d (prs xs 4 i)))
  case atStart => exact ⟨0, none, 0, by omega, P3.out, ownP_nil _ _ _⟩
  case round =>
    obtain ⟨i, B, d, hij, ⟨hR, hO⟩⟩ := hrel
    have RR := Aside.mk hR
    have OO := Aside.mk hO
    have hgs : w2.heap.size < wr.heap.size := lt_of_block hR.h0
    clear hR hO
    have hi : i ≤ (n - 1) / 4 := by omega
    by_cases ci : i < (n - 1) / 4
    · have T1 := Aside.mk (rgu_left RR.out (by omega) (by omega))
      have hd : decide (0 < (n : Int) - ((4 + 4 * i : Nat) : Int)) = true := decide_eq_true (by omega)
      go_wp2_with fail
      refine T1.out.mono ?_
      rintro e w3 ⟨rfl, P4⟩
      have O4 := Aside.mk ((OO.out.upd P4.out.2 (fun j hj => by rw [show j = _ from hj]; omega)).below (below_drewN (Below.refl _ w3) 1))
      have k4 := keep2 P4.out.1.h0
      have ps := Aside.mk (prs_succ xs 4 i)
      have ha := gt_2 Y.out (4 + 4 * i)
      have hb' := gt_2 Y.out (4 + 4 * i + 2)
      have T2 := Aside.mk (rgu_take H.out Y.out P4.out.1.drew (by omega) 2 (4 + 4 * i + 2) rfl (si := 2) rfl rfl)
      have T3 := Aside.mk (fun (V : World) (K : List (Nat × Obj)) (hV : Rg w (w.heap.size + 1 + 1) K A n c (4 + 4 * i + 2) V) => rgu_take H.out Y.out hV (by omega) 2 (4 + 4 * (i + 1)) (by omega) (si := 2) rfl rfl)
      generalize gt xs (4 + 4 * i) 2 = a at *
      generalize gt xs (4 + 4 * i + 2) 2 = b at *
      have wa : IntKind.u16.wrap a = a := by rw [IntKind.wrap_u16]; omega
      have wb : IntKind.u16.wrap b = b := by rw [IntKind.wrap_u16]; omega
      clear T1 RR OO
      go_wp2_with fail
      go_region_law
        (first
          | (obtain ⟨B', d', w6, hrun, o6, g6⟩ := append_skip (O6.out.below (below_alloc w5 _)) (by simp; omega) (rd2_one (heap_alloc_new w5 (.cells #[.int .u16 a, .int .u16 b] 88)) ha hb') (by omega); refine step_append_run 39 _ _ _ _ rfl rfl rfl rfl hrun ?_; have P7 := Aside.mk (And.intro ((P6.out.1.alloc _).tail.grown g6 (fun g hg => row_base O6.out hg) (by omega) (by simp; omega)) o6); have h7 := keep2 P7.out.1.h0; have f7 := blk_free (i := 1) P7.out.1.h0; clear hrun o6 g6)
          | (go_simp; go_at_call 51; refine (T3.out _ _ P5.out.1).mono ?_; rintro e w5 ⟨rfl, P6⟩; have O6 := Aside.mk (O5.out.upd P6.out.2 (fun j hj => by rw [show j = _ from hj]; omega)); have k6 := keep2 P6.out.1.h0; have z5 := lt_of_block P6.out.1.h0)
          | (go_simp; go_at_call 51; refine T2.out.mono ?_; rintro e w4 ⟨rfl, P5⟩; have O5 := Aside.mk (O4.out.upd P5.out.2 (fun j hj => by rw [show j = _ from hj]; omega)); have k5 := keep2 P5.out.1.h0; have z4 := lt_of_block P5.out.1.h0))
      all_goals (
        have RR := Aside.mk ((P7.out.1.set (by simp; omega) 1 (.slice B' (i + 1) d')))
        have OO := Aside.mk (P7.out.2.upd ((Upd.refl (Just w2.heap.size) w6).setCell ⟨w2.heap.size, 1, none⟩ (.slice B' (i + 1) d') (fun _ => rfl)) (fun j hj => by rw [show j = _ from hj]; omega))
        rw [← ps.out] at OO
        clear P4 P5 P6 P7 T2 T3 O4 O5 O6
        go_wp2_with fail
        go_roundg ((n - 1) / 4 - (i + 1))
        case' rel => exact ⟨i + 1, B', d', by omega, ⟨RR.out, OO.out⟩⟩
        case' measure => omega)
    · obtain rfl : i = (n - 1) / 4 := by omega
      have T1 := Aside.mk (rgu_left RR.out (by omega) (by omega))
      have hd : decide (0 < (n : Int) - ((4 + 4 * ((n - 1) / 4) : Nat) : Int)) = false := decide_eq_false (by omega)
      go_wp2_with fail
      refine T1.out.mono ?_
      rintro e w3 ⟨rfl, P4⟩
      have O4 := Aside.mk (OO.out.upd P4.out.2 (fun j hj => by rw [show j = _ from hj]; omega))
      have kg := keep2 P4.out.1.h0
      have kz := keep2 P4.out.1.h1
      have kb := keep3 P4.out.1.h2
      have E1 : fwdPs xs = prs xs 4 ((n - 1) / 4) := by unfold fwdPs; rw [hlen.out]
      have T2 := Aside.mk (getFwd0_ w3 (k := k) (f := f) (H.out.below P4.out.1.low) x B ((n - 1) / 4) d true 192 0 (fwdL x (fwdPs xs)) (fun V b => (putForward_ V x hb.1 hb.2 (((O4.out.rd2 (by omega) (prs_bd Y.out _ _))).below b)).mono fun e w' ⟨A, n', c, h1, h2, h3⟩ => ⟨A, n', c, h1, by rw [E1]; exact h2.rd (by have := h2.len; rw [fwdL_len, prs_len] at this; omega), h3⟩) (E := fwdE k f xs) (by unfold fwdE; rw [XX.out]))
      have EE := Aside.mk E1
      have hgz : w.heap.size + 1 < w3.heap.size := lt_of_block P4.out.1.h1
      have hgw : w.heap.size < w3.heap.size := by omega
      have BL := Aside.mk P4.out.1.low
      have Z4 := Aside.mk P4.out.1.h1
      clear E1 T1 P3 P4 RR OO
      cases hE : fwdE k f xs
      all_goals (
        rw [hE] at T2
        have HE := Aside.mk hE
        clear hE
        go_wp2_with fail
        refine T2.out.mono ?_
        unfold pickV errV fwdZ fwdV
        rintro e w4 ⟨rfl, b4⟩
        have B4 := Aside.mk (BL.out.trans (b4.mono BL.out.size))
        have O5 := Aside.mk (O4.out.below b4)
        have Z5 := (b4.block _ hgz).trans Z4.out
        have kz5 := keep2 Z5
        have fz0 := blk_free (i := 0) Z5
        have fz1 := blk_free (i := 1) Z5
        clear b4 T2 Z5
        go_wp2_with fail
        have fin : ∀ (v0 v1 : Value), OwnP 88 ((w4.setCell ⟨w.heap.size + 1, 0, none⟩ v0).setCell ⟨w.heap.size + 1, 1, none⟩ v1) w.heap.size B ((n - 1) / 4) d (fwdPs xs) ∧ Below w.heap.size w ((w4.setCell ⟨w.heap.size + 1, 0, none⟩ v0).setCell ⟨w.heap.size + 1, 1, none⟩ v1) := fun v0 v1 => ⟨by
          rw [EE.out]
          exact (O5.out.upd (((Upd.refl (Just (w.heap.size + 1)) w4).setCell ⟨w.heap.size + 1, 0, none⟩ v0 (fun _ => rfl)).setCell ⟨w.heap.size + 1, 1, none⟩ v1 (fun _ => rfl)) (fun j hj => by rw [show j = _ from hj]; omega)).mono (by omega), (B4.out.setCell (p := ⟨w.heap.size + 1, 0, none⟩) (by simp) v0).setCell (p := ⟨w.heap.size + 1, 1, none⟩) (by simp) v1⟩
        first
          | (refine bodyPost_ret (v := .tuple #[fwdZ, .int .i64 7]) (by simp [results, Try.results34, go_sem, fwdZ, fwdV, kz5]) rfl ⟨B, (n - 1) / 4, d, ?_, (fin _ _).1, (fin _ _).2⟩
             rw [HE.out]
             rfl)
          | (refine bodyPost_ret (v := .tuple #[fwdV x B ((n - 1) / 4) d, .int .i64 0]) (by simp [results, Try.results34, go_sem, fwdV, kz5]) rfl ⟨B, (n - 1) / 4, d, ?_, (fin _ _).1, (fin _ _).2⟩
             rw [HE.out]
             rfl))
end Go.Proofs.Ytedbmpfjikaljaa
