/-
  Proved: what the program's function that reads a chunk of an acknowledgement does to memory and what it answers. Conditions: rows are shorter than a hundred thousand.
-/
import Derived.Test.YtedbmpfjikaljaaGetf
import Derived.Deep.CutBlock
namespace Go.Proofs.Ytedbmpfjikaljaa
open Go.RowKit
set_option linter.unusedVariables false
set_option linter.unusedSimpArgs false
set_option linter.unusedSectionVars false
set_option maxRecDepth 100000

/-- Numbers of four bytes, one behind the other, from a place on. -/
def dds (xs : List Int) (at_ k : Nat) : List Int := (List.range k).map fun i => gt xs (at_ + 4 * i) 4
theorem dds_succ (xs : List Int) (at_ k : Nat) : dds xs at_ (k + 1) = dds xs at_ k ++ [gt xs (at_ + 4 * k) 4] := by simp [dds, List.range_succ]
theorem dds_len (xs : List Int) (at_ k : Nat) : (dds xs at_ k).length = k := by simp [dds]
theorem dds_bd {xs : List Int} (hy : Byt xs) (at_ k : Nat) (i : Nat) : 0 ≤ (dds xs at_ k).getD i 0 ∧ (dds xs at_ k).getD i 0 < 4294967296 := by
  rw [List.getD_eq_getElem?_getD]
  rcases Nat.lt_or_ge i k with hi | hi
  · simp only [dds, List.getElem?_map, List.getElem?_range hi, Option.map_some, Option.getD_some]
    exact gt_4 hy _
  · rw [List.getElem?_eq_none (by rw [dds_len]; exact hi)]
    exact ⟨by decide, by decide⟩
/-- Are the gaps apart, so far, and where does the last one end? -/
def aptS (ps : List (Int × Int)) : Bool × Int := ps.foldl (fun s p => (s.1 && decide (s.2 + 2 ≤ p.1) && decide (p.1 ≤ p.2), p.2)) (true, 0)
theorem aptS_snoc (ps : List (Int × Int)) (a b : Int) : aptS (ps ++ [(a, b)]) = ((aptS ps).1 && decide ((aptS ps).2 + 2 ≤ a) && decide (a ≤ b), b) := by unfold aptS; rw [List.foldl_append]; rfl
theorem aptS_bd {xs : List Int} (hy : Byt xs) (at_ : Nat) : ∀ k, 0 ≤ (aptS (prs xs at_ k)).2 ∧ (aptS (prs xs at_ k)).2 < 65536
  | 0 => by simp [aptS, prs]
  | k + 1 => by rw [prs_succ, aptS_snoc]; exact gt_2 hy _
def sackG (xs : List Int) : Nat := min (gt xs 8 2).toNat ((xs.length - 9) / 4)
def sackD (xs : List Int) : Nat := min (gt xs 10 2).toNat ((xs.length - 9 - 4 * sackG xs) / 4)
def sackPs (xs : List Int) : List (Int × Int) := prs xs 12 (sackG xs)
def sackDs (xs : List Int) : List Int := dds xs (12 + 4 * sackG xs) (sackD xs)
def sackE (k f : Int) (xs : List Int) : Bool := (aptS (sackPs xs)).1 && ((3 : Int) == k) && ((0 : Int) == f) && decide (sackL (gt xs 0 4) (gt xs 4 4) (sackPs xs) (sackDs xs) = xs)

theorem sackL_len (a b : Int) (ps : List (Int × Int)) (ds : List Int) : (sackL a b ps ds).length = 12 + ps.length * 4 + ds.length * 4 := by simp [sackL, bes_len, pairsL_len]; omega
theorem OwnD.upd {w w' : World} {S : Nat → Prop} {base : Nat} {A : Option Addr} {n c : Nat} {xs : List Int} (h : OwnD w base A n c xs) (u : Upd S w w') (hs : ∀ i, S i → i < base) : OwnD w' base A n c xs := row_upd h u hs
theorem OwnD.mono {w : World} {base base' : Nat} {A : Option Addr} {n c : Nat} {xs : List Int} (h : OwnD w base A n c xs) (hb : base' ≤ base) : OwnD w base' A n c xs := row_mono h hb
theorem OwnD.below {w w' : World} {base : Nat} {A : Option Addr} {n c : Nat} {xs : List Int} (h : OwnD w base A n c xs) (u : Below w.heap.size w w') : OwnD w' base A n c xs := row_below h u
theorem Upd.grown {S : Nat → Prop} {a b c : World} (h : Upd S a b) {row : Option Nat} (g : b.grownBy c row) (hr : ∀ i, row = some i → a.heap.size ≤ i) : Upd S a c :=
  ⟨g.os.trans h.os, g.tape.trans h.tape, g.output.trans h.output, Nat.le_trans h.size g.size, fun i hi hs => (g.block i (Nat.lt_of_lt_of_le hi h.size) (fun e => by have := hr i e.symm; omega)).trans (h.block i hi hs)⟩

set_option maxHeartbeats 4000000 in
theorem getSack_ (w : World) {k f : Int} {A : Option Addr} {n c : Nat} {xs : List Int} (h : Rd .u8 w A n c xs) (hy : Byt xs) (hn : n ≤ 100000) :
    Calls Try.prog 30 #[chunkV k f A n c] w fun e w' => ∃ B m d B2 m2 d2, e = .returned (.tuple #[pickV (sackE k f xs) (sackV (gt xs 0 4) (gt xs 4 4) B m d B2 m2 d2) sackZ, errV (sackE k f xs)]) ∧ OwnP 84 w' w.heap.size B m d (sackPs xs) ∧ OwnD w' w.heap.size B2 m2 d2 (sackDs xs) ∧ Below w.heap.size w w' := by
  have H := Aside.mk h
  have Y := Aside.mk hy
  have hlen := Aside.mk h.len
  clear h hy
  have G := Aside.mk (rg_start2 w (.cells #[.int .u8 k, .int .u8 f, .slice A n c] 24) (.cells #[.int .u32 0, .int .u32 0, .slice none 0 0, .slice none 0 0] 38) A n c 0)
  have T1 := Aside.mk (fun (V : World) (K : List (Nat × Obj)) (hV : Rg w (w.heap.size + 1 + 1) K A n c 0 V) => rg_take H.out Y.out hV (by omega) 4 4 rfl (si := 4) rfl rfl)
  have T2 := Aside.mk (fun (V : World) (K : List (Nat × Obj)) (hV : Rg w (w.heap.size + 1 + 1) K A n c 4 V) => rg_take H.out Y.out hV (by omega) 4 8 rfl (si := 4) rfl rfl)
  have T3 := Aside.mk (fun (V : World) (K : List (Nat × Obj)) (hV : Rg w (w.heap.size + 1 + 1) K A n c 8 V) => rg_take H.out Y.out hV (by omega) 2 10 rfl (si := 2) rfl rfl)
  have T4 := Aside.mk (fun (V : World) (K : List (Nat × Obj)) (hV : Rg w (w.heap.size + 1 + 1) K A n c 10 V) => rg_take H.out Y.out hV (by omega) 2 12 rfl (si := 2) rfl rfl)
  have hb1 := gt_4 Y.out 0
  have hb2 := gt_4 Y.out 4
  have hb3 := gt_2 Y.out 8
  have hb4 := gt_2 Y.out 10
  obtain ⟨E, hE⟩ : ∃ E, sackE k f xs = E := ⟨_, rfl⟩
  have EQ : Aside (((aptS (sackPs xs)).1 && ((3 : Int) == k) && ((0 : Int) == f) && decide (sackL (gt xs 0 4) (gt xs 4 4) (sackPs xs) (sackDs xs) = xs)) = E) := ⟨hE⟩
  rw [hE]
  clear hE
  obtain ⟨gn, hgn⟩ := Int.eq_ofNat_of_zero_le hb3.1
  obtain ⟨dn, hdn⟩ := Int.eq_ofNat_of_zero_le hb4.1
  have hG : sackG xs = min gn ((n - 9) / 4) := by unfold sackG; rw [hgn, hlen.out]; rfl
  have hD : sackD xs = min dn ((n - 9 - 4 * sackG xs) / 4) := by unfold sackD; rw [hdn, hlen.out]; rfl
  rw [hgn] at T3 hb3
  rw [hdn] at T4 hb4
  obtain ⟨c1, hc1⟩ : ∃ c1, sackG xs = c1 := ⟨_, rfl⟩
  obtain ⟨c2, hc2⟩ : ∃ c2, sackD xs = c2 := ⟨_, rfl⟩
  rw [hc1] at hG hD
  rw [hc2] at hD
  have EP : Aside (sackPs xs = prs xs 12 c1) := ⟨by unfold sackPs; rw [hc1]⟩
  have ED : Aside (sackDs xs = dds xs (12 + 4 * c1) c2) := ⟨by unfold sackDs; rw [hc1, hc2]⟩
  clear hgn hdn hc1 hc2
  have HG := Aside.mk hG
  have HD := Aside.mk hD
  clear hG hD
  generalize gt xs 0 4 = x1 at *
  generalize gt xs 4 4 = x2 at *
  unfold chunkV
  go_enter Try.func30, Try.ntmps30
  go_wp2_with fail
  refine (T1.out _ _ G.out).mono ?_
  rintro e w1 ⟨rfl, P1⟩
  go_wp2_with fail
  refine (T2.out _ _ P1.out).mono ?_
  rintro e w2 ⟨rfl, P2⟩
  have hgr : w.heap.size + 1 + 1 < w2.heap.size := P2.out.size
  have P3 := Aside.mk (P2.out.alloc (.cells #[.int .u32 x1, .int .u32 x2, .slice none 0 0, .slice none 0 0] 38))
  generalize hg : w2.heap.size = g at *
  go_wp2_with fail
  refine (T3.out _ _ P3.out).mono ?_
  rintro e w3 ⟨rfl, P4⟩
  go_wp2_with fail
  refine (T4.out _ _ P4.out).mono ?_
  rintro e w4 ⟨rfl, P5⟩
  clear T1 T2 T3 T4 G P1 P2 P3 P4 hg
  go_upto_block 0 with (fail)
  go_cut [8] (fun s8 wx => s8 = .bool (aptS (prs xs 12 c1)).1 ∧ ∃ B d, Aside (Rg w (w.heap.size + 1 + 1) [(g, .cells #[.int .u32 x1, .int .u32 x2, .slice B c1 d, .slice none 0 0] 38), (w.heap.size + 1, .cells #[.int .u32 0, .int .u32 0, .slice none 0 0, .slice none 0 0] 38), (w.heap.size, .cells #[.int .u8 k, .int .u8 f, .slice A n c] 24)] A n c (12 + 4 * c1) wx ∧ OwnP 84 wx (g + 1) B c1 d (prs xs 12 c1)))
  case first =>
    go_wp2_with fail
    go_loopg [8, 9, 27] c1 (fun j s8 s9 s27 wr => ∃ i B d, i + j = c1 ∧ s27 = .int .u64 (i : Nat) ∧ s8 = .bool (aptS (prs xs 12 i)).1 ∧ s9 = .int .i64 (aptS (prs xs 12 i)).2 ∧ Aside (Rg w (w.heap.size + 1 + 1) [(g, .cells #[.int .u32 x1, .int .u32 x2, .slice B i d, .slice none 0 0] 38), (w.heap.size + 1, .cells #[.int .u32 0, .int .u32 0, .slice none 0 0, .slice none 0 0] 38), (w.heap.size, .cells #[.int .u8 k, .int .u8 f, .slice A n c] 24)] A n c (12 + 4 * i) wr ∧ OwnP 84 wr (g + 1) B i d (prs xs 12 i)))
    case atStart => exact ⟨0, none, 0, by omega, rfl, rfl, rfl, P5.out, ownP_nil _ _ _⟩
    case round =>
      obtain ⟨i, B, d, hij, rfl, rfl, rfl, ⟨hR, hO⟩⟩ := hrel
      have RR := Aside.mk hR
      have OO := Aside.mk hO
      clear hR hO
      have hc1 := HG.out
      have hi1 : i ≤ gn := by omega
      by_cases ci : i < c1
      · have hi2 : i < gn := by omega
        have T1 := Aside.mk (rgu_left RR.out (by omega) (by omega))
        have hd : decide ((n : Int) - ((12 + 4 * i : Nat) : Int) ≤ 0) = false := decide_eq_false (by omega)
        go_wp2_with fail
        refine T1.out.mono ?_
        rintro e w5 ⟨rfl, P6⟩
        have O6 := Aside.mk (OO.out.upd P6.out.2 (fun j hj => by rw [show j = _ from hj]; omega))
        have ps := Aside.mk (prs_succ xs 12 i)
        have apS := Aside.mk (aptS_snoc (prs xs 12 i) (gt xs (12 + 4 * i) 2) (gt xs (12 + 4 * i + 2) 2))
        have ha := gt_2 Y.out (12 + 4 * i)
        have hb := gt_2 Y.out (12 + 4 * i + 2)
        have hev := aptS_bd Y.out 12 i
        have T2 := Aside.mk (rgu_take H.out Y.out P6.out.1 (by omega) 2 (12 + 4 * i + 2) rfl (si := 2) rfl rfl)
        have T3 := Aside.mk (fun (V : World) (K : List (Nat × Obj)) (hV : Rg w (w.heap.size + 1 + 1) K A n c (12 + 4 * i + 2) V) => rgu_take H.out Y.out hV (by omega) 2 (12 + 4 * (i + 1)) (by omega) (si := 2) rfl rfl)
        generalize gt xs (12 + 4 * i) 2 = a at *
        generalize gt xs (12 + 4 * i + 2) 2 = b at *
        have wa : IntKind.u16.wrap a = a := by rw [IntKind.wrap_u16]; omega
        have wb : IntKind.u16.wrap b = b := by rw [IntKind.wrap_u16]; omega
        generalize (aptS (prs xs 12 i)).1 = mb at *
        generalize (aptS (prs xs 12 i)).2 = ev at *
        clear T1 RR OO
        go_wp2_with fail
        refine T2.out.mono ?_
        rintro e w6 ⟨rfl, P7⟩
        have O7 := Aside.mk (O6.out.upd P7.out.2 (fun j hj => by rw [show j = _ from hj]; omega))
        go_wp2_with fail
        refine (T3.out _ _ P7.out.1).mono ?_
        rintro e w7 ⟨rfl, P8⟩
        have O8 := Aside.mk ((O7.out.upd P8.out.2 (fun j hj => by rw [show j = _ from hj]; omega)).below (below_alloc w7 (.cells #[.int .u16 a, .int .u16 b] 84)))
        have P9 := Aside.mk (P8.out.1.alloc (.cells #[.int .u16 a, .int .u16 b] 84))
        have hg7 : g < w7.heap.size := lt_of_block P8.out.1.h0
        clear T2 T3 P6 P7 P8 O6 O7
        go_upto_region 9 with (fail)
        generalize hq : w7.heap.size = q at *
        go_cut [8, 27] (fun s8 s27 wx => s8 = .bool (mb && decide (ev + 2 ≤ a) && decide (a ≤ b)) ∧ s27 = .int .u64 (i : Nat) ∧ Aside (Rg w (w.heap.size + 1 + 1) [(q, .cells #[.int .u16 a, .int .u16 b] 84), (g, .cells #[.int .u32 x1, .int .u32 x2, .slice B i d, .slice none 0 0] 38), (w.heap.size + 1, .cells #[.int .u32 0, .int .u32 0, .slice none 0 0, .slice none 0 0] 38), (w.heap.size, .cells #[.int .u8 k, .int .u8 f, .slice A n c] 24)] A n c (12 + 4 * (i + 1)) wx ∧ OwnP 84 wx (g + 1) B i d (prs xs 12 i)))
        case first =>
          have kq := keep2 P9.out.h0
          have N : Aside (∀ m' : Bool, (mb && decide (ev + 2 ≤ a) && decide (a ≤ b)) = m' → Value.bool m' = .bool (mb && decide (ev + 2 ≤ a) && decide (a ≤ b))) := ⟨fun m' h => by rw [h]⟩
          cases mb
          · go_wp2_with fail
            go_meet
            exact ⟨N.out _ rfl, rfl, ⟨P9.out, O8.out⟩⟩
          · cases h1 : decide (ev + 2 ≤ a)
            · have M := Aside.mk (N.out false (by rw [h1]; rfl))
              clear N
              go_wp2_with fail
              go_meet
              exact ⟨M.out, rfl, ⟨P9.out, O8.out⟩⟩
            · cases h2 : decide (a ≤ b)
              · have M := Aside.mk (N.out false (by rw [h1, h2]; rfl))
                clear N
                go_wp2_with fail
                go_meet
                exact ⟨M.out, rfl, ⟨P9.out, O8.out⟩⟩
              · have M := Aside.mk (N.out true (by rw [h1, h2]; rfl))
                clear N
                go_wp2_with fail
                go_meet
                exact ⟨M.out, rfl, ⟨P9.out, O8.out⟩⟩
        case rest =>
          obtain ⟨rfl, rfl, ⟨hR, hO⟩⟩ := hcut
          have hq := apS.out
          rw [← ps.out] at hq
          generalize (mb && decide (ev + 2 ≤ a) && decide (a ≤ b)) = m' at *
          have AQ := Aside.mk hq
          have kq := keep2 hR.h0
          have kg := keep4 hR.h1
          have fg := blk_free (i := 2) hR.h1
          have hqs : q < wc.heap.size := lt_of_block hR.h0
          have hgs : g < wc.heap.size := lt_of_block hR.h1
          obtain ⟨B', d', w8, hrun, o8, g8⟩ := append_gap (OwnP.below hO (below_alloc wc (.cells #[.int .u16 a, .int .u16 b] 84))) (by simp; omega) (rd2_one (heap_alloc_new wc (.cells #[.int .u16 a, .int .u16 b] 84)) ha hb) (by omega)
          have R8 := (hR.tail.alloc (.cells #[.int .u16 a, .int .u16 b] 84)).tail.grown g8 (fun g hg => row_base hO hg) (by omega) (by simp; omega)
          have R := Aside.mk hrun
          have kg8 := keep4 R8.h0
          have fg8 := blk_free (i := 2) R8.h0
          have P10 := Aside.mk (R8.set (by simp; omega) 2 (.slice B' (i + 1) d'))
          have O10 := Aside.mk (OwnP.upd o8 ((Upd.refl (Just g) w8).setCell ⟨g, 2, none⟩ (.slice B' (i + 1) d') (fun _ => rfl)) (fun j hj => by rw [show j = _ from hj]; omega))
          rw [← ps.out] at O10
          clear hR hO hq hrun o8 g8 R8 P9 O8 apS ps
          go_wp2_with (at_builtin; refine wpList_append_run 35 _ _ _ _ rfl rfl rfl rfl R.out ?_)
          go_roundg (c1 - (i + 1))
          case' rel => exact ⟨i + 1, B', d', by omega, by go_num, by rw [AQ.out], by rw [AQ.out], ⟨P10.out, O10.out⟩⟩
          case' measure => omega
      · obtain rfl : i = c1 := by omega
        by_cases cg : i = gn
        · have hd : decide (i < gn) = false := decide_eq_false (by omega)
          have M := Aside.mk (And.intro RR.out OO.out)
          go_wp2_with fail
          go_meet
          exact ⟨rfl, B, d, M⟩
        · have hi2 : i < gn := by omega
          have T1 := Aside.mk (rgu_left RR.out (by omega) (by omega))
          have hd : decide ((n : Int) - ((12 + 4 * i : Nat) : Int) ≤ 0) = true := decide_eq_true (by omega)
          have hle : n ≤ 12 + 4 * i := by omega
          clear hc1
          go_wp2_with fail
          refine T1.out.mono ?_
          rintro e w5 ⟨rfl, P6⟩
          have M := Aside.mk (And.intro P6.out.1 (OO.out.upd P6.out.2 (fun j hj => by rw [show j = _ from hj]; omega)))
          go_wp2_with fail
          go_meet
          exact ⟨rfl, B, d, M⟩
  case rest =>
    obtain ⟨rfl, B, d, M⟩ := hcut
    obtain ⟨wo, rfl⟩ : ∃ wo : World, wo = wc := ⟨_, rfl⟩
    have hG := HG.out
    have hD := HD.out
    have hc1n : c1 ≤ 25000 := by omega
    have hc2n : c2 ≤ 25000 := by omega
    clear hG
    generalize hmay : (aptS (prs xs 12 c1)).1 = may at *
    have MY := Aside.mk hmay
    clear hmay
    go_upto_block 2 with (fail)
    go_cut [] (fun wx => ∃ B2 d2, Aside (Rg w (w.heap.size + 1 + 1) [(g, .cells #[.int .u32 x1, .int .u32 x2, .slice B c1 d, .slice B2 c2 d2] 38), (w.heap.size + 1, .cells #[.int .u32 0, .int .u32 0, .slice none 0 0, .slice none 0 0] 38), (w.heap.size, .cells #[.int .u8 k, .int .u8 f, .slice A n c] 24)] A n c (12 + 4 * c1 + 4 * c2) wx ∧ OwnD wx (wo.heap.size) B2 c2 d2 (dds xs (12 + 4 * c1) c2) ∧ Upd (fun i => i = w.heap.size + 1 + 1 ∨ i = g) wo wx))
    case first =>
      go_wp2_with fail
      have hdn : c2 ≤ dn := by omega
      have hgw : g < wo.heap.size := lt_of_block M.out.1.h0
      have hrw : w.heap.size + 1 + 1 < wo.heap.size := M.out.1.size
      have HDD := Aside.mk hD
      clear hD
      go_loopg [66] c2 (fun j s66 wr => ∃ i B2 d2, i + j = c2 ∧ s66 = .int .u64 (i : Nat) ∧ Aside (Rg w (w.heap.size + 1 + 1) [(g, .cells #[.int .u32 x1, .int .u32 x2, .slice B c1 d, .slice B2 i d2] 38), (w.heap.size + 1, .cells #[.int .u32 0, .int .u32 0, .slice none 0 0, .slice none 0 0] 38), (w.heap.size, .cells #[.int .u8 k, .int .u8 f, .slice A n c] 24)] A n c (12 + 4 * c1 + 4 * i) wr ∧ OwnD wr wo.heap.size B2 i d2 (dds xs (12 + 4 * c1) i) ∧ Upd (fun i => i = w.heap.size + 1 + 1 ∨ i = g) wo wr))
      case atStart => exact ⟨0, none, 0, by omega, rfl, M.out.1, ownD_nil _ _, Upd.refl _ _⟩
      case round =>
        obtain ⟨i, B2, d2, hij, rfl, ⟨hR, hO, hU⟩⟩ := hrel
        have RR := Aside.mk hR
        have OO := Aside.mk hO
        have UU := Aside.mk hU
        have hus := hU.size
        clear hR hO hU
        have hD := HDD.out
        by_cases ci : i < c2
        · have hi2 : i < dn := by omega
          have T1 := Aside.mk (rgu_left RR.out (by omega) (by omega))
          have hd : decide ((n : Int) - ((12 + 4 * c1 + 4 * i : Nat) : Int) ≤ 0) = false := decide_eq_false (by omega)
          have hle : 12 + 4 * c1 + 4 * i < n := by omega
          clear hD
          go_wp2_with fail
          refine T1.out.mono ?_
          rintro e w5 ⟨rfl, P6⟩
          have O6 := Aside.mk ((OO.out.upd P6.out.2 (fun j hj => by rw [show j = _ from hj]; omega)).below (below_drewN (Below.refl _ w5) 1))
          have U6 := Aside.mk ((UU.out.trans (P6.out.2.mono (fun i hi => .inl hi))).drew)
          have ds := Aside.mk (dds_succ xs (12 + 4 * c1) i)
          have ha := gt_4 Y.out (12 + 4 * c1 + 4 * i)
          have k5 := keep4 P6.out.1.h0
          have T2 := Aside.mk (rgu_take H.out Y.out P6.out.1.drew (by omega) 4 (12 + 4 * c1 + 4 * (i + 1)) (by omega) (si := 4) rfl rfl)
          generalize gt xs (12 + 4 * c1 + 4 * i) 4 = a at *
          have wa : IntKind.u32.wrap a = a := by rw [IntKind.wrap_u32]; omega
          clear T1 RR OO
          go_wp2_with fail
          go_region_law
            (first
              | (have _z := P7; clear _z; obtain ⟨B', d', w8, hrun, o8, g8⟩ := append_dup (O7.out.below (below_alloc w7 _)) (by have := U7.out.size; simp; omega) (rdd_one (heap_alloc_new w7 (.cells #[.int .u32 a] 29))) (by omega); refine step_append_run 36 _ _ _ _ rfl rfl rfl rfl hrun ?_; have P8 := Aside.mk (And.intro ((P7.out.1.alloc _).tail.grown g8 (fun g hg => row_base O7.out hg) (by omega) (by simp; omega)) o8); have U8 := Aside.mk ((U7.out.alloc (.cells #[.int .u32 a] 29)).grown g8 (fun g hg => row_base O7.out hg)); have h8 := keep4 P8.out.1.h0; have f8 := blk_free (i := 3) P8.out.1.h0; clear hrun o8 g8)
              | (go_simp; go_at_call 51; refine T2.out.mono ?_; rintro e w7 ⟨rfl, P7⟩; have O7 := Aside.mk (O6.out.upd P7.out.2 (fun j hj => by rw [show j = _ from hj]; omega)); have U7 := Aside.mk (U6.out.trans (P7.out.2.mono (fun i hi => Or.inl hi))); have k7 := keep4 P7.out.1.h0; have z7 := lt_of_block P7.out.1.h0))
          all_goals (
            have RR := Aside.mk (P8.out.1.set (by simp; omega) 3 (.slice B' (i + 1) d'))
            have OO := Aside.mk (P8.out.2.upd ((Upd.refl (Just g) w8).setCell ⟨g, 3, none⟩ (.slice B' (i + 1) d') (fun _ => rfl)) (fun j hj => by rw [show j = _ from hj]; omega))
            have U9 := Aside.mk (U8.out.setCell ⟨g, 3, none⟩ (.slice B' (i + 1) d') (fun _ => .inr rfl))
            rw [← ds.out] at OO
            clear P6 P7 P8 T2 O6 O7 U6 U7 U8
            go_wp2_with fail
            go_roundg (c2 - (i + 1))
            case' rel => exact ⟨i + 1, B', d', by omega, by go_num, ⟨RR.out, OO.out, U9.out⟩⟩
            case' measure => omega)
        · obtain rfl : i = c2 := by omega
          by_cases cg : i = dn
          · have hd : decide (i < dn) = false := decide_eq_false (by omega)
            clear hD
            have MM := Aside.mk (And.intro RR.out (And.intro OO.out UU.out))
            go_wp2_with fail
            go_meet
            exact ⟨B2, d2, MM⟩
          · have hi2 : i < dn := by omega
            have T1 := Aside.mk (rgu_left RR.out (by omega) (by omega))
            have hd : decide ((n : Int) - ((12 + 4 * c1 + 4 * i : Nat) : Int) ≤ 0) = true := decide_eq_true (by omega)
            have hle : n ≤ 12 + 4 * c1 + 4 * i := by omega
            clear hD
            go_wp2_with fail
            refine T1.out.mono ?_
            rintro e w5 ⟨rfl, P6⟩
            have MM := Aside.mk (And.intro P6.out.1 (And.intro (OO.out.upd P6.out.2 (fun j hj => by rw [show j = _ from hj]; omega)) (UU.out.trans (P6.out.2.mono (fun i hi => Or.inl hi)))))
            go_wp2_with fail
            go_meet
            exact ⟨B2, d2, MM⟩
    case rest =>
      obtain ⟨B2, d2, M2⟩ := hcut
      have kb := keep3 M2.out.1.h2
      have kg := keep4 M2.out.1.h0
      have O1 := Aside.mk (OwnP.upd M.out.2 M2.out.2.2 (fun j hj => by rcases hj with rfl | rfl <;> omega))
      have hgo : g < wo.heap.size := lt_of_block M.out.1.h0
      have O2 := Aside.mk (M2.out.2.1.mono (show g + 1 ≤ wo.heap.size by omega))
      have T9 := Aside.mk (getSack0_ wc (k := k) (f := f) (H.out.below M2.out.1.low) x1 x2 B c1 d B2 c2 d2 may 3 0 (sackL x1 x2 (prs xs 12 c1) (dds xs (12 + 4 * c1) c2)) (fun V b => (putSack_ V x1 x2 hb1.1 hb1.2 hb2.1 hb2.2 ((O1.out.rd2 (by omega) (prs_bd Y.out _ _)).below b) ((O2.out.rd (by omega)).below b) (by omega) (dds_bd Y.out _ _)).mono fun e w' ⟨A, n', c, h1, h2, h3⟩ => ⟨A, n', c, h1, h2.rd (by have := h2.len; rw [sackL_len, prs_len, dds_len] at this; omega), h3⟩) (E := E) (by rw [← EQ.out, EP.out, ED.out, MY.out]))
      have BL := Aside.mk M2.out.1.low
      have Z := Aside.mk M2.out.1.h1
      rw [← EP.out] at O1
      rw [← ED.out] at O2
      clear M M2 P5 hD
      go_wp2_with fail
      refine T9.out.mono ?_
      rintro e w9 ⟨rfl, b9⟩
      have Z9 := (b9.block _ (lt_of_block Z.out)).trans Z.out
      have kz := keep4 Z9
      have kzf := free7 Z9
      have B9 := Aside.mk (BL.out.trans (b9.mono BL.out.size))
      have O3 := Aside.mk (O1.out.below b9)
      have O4 := Aside.mk (O2.out.below b9)
      clear b9 Z9 Z BL O1 O2 T9
      have fin : Aside (∀ v0 v1 v2 v3 : Value, OwnP 84 ((((w9.setCell ⟨w.heap.size + 1, 0, none⟩ v0).setCell ⟨w.heap.size + 1, 1, none⟩ v1).setCell ⟨w.heap.size + 1, 2, none⟩ v2).setCell ⟨w.heap.size + 1, 3, none⟩ v3) w.heap.size B c1 d (sackPs xs) ∧ OwnD ((((w9.setCell ⟨w.heap.size + 1, 0, none⟩ v0).setCell ⟨w.heap.size + 1, 1, none⟩ v1).setCell ⟨w.heap.size + 1, 2, none⟩ v2).setCell ⟨w.heap.size + 1, 3, none⟩ v3) w.heap.size B2 c2 d2 (sackDs xs) ∧ Below w.heap.size w ((((w9.setCell ⟨w.heap.size + 1, 0, none⟩ v0).setCell ⟨w.heap.size + 1, 1, none⟩ v1).setCell ⟨w.heap.size + 1, 2, none⟩ v2).setCell ⟨w.heap.size + 1, 3, none⟩ v3)) := ⟨fun v0 v1 v2 v3 => by
        have u := ((((Upd.refl (Just (w.heap.size + 1)) w9).setCell ⟨w.heap.size + 1, 0, none⟩ v0 (fun _ => rfl)).setCell ⟨w.heap.size + 1, 1, none⟩ v1 (fun _ => rfl)).setCell ⟨w.heap.size + 1, 2, none⟩ v2 (fun _ => rfl)).setCell ⟨w.heap.size + 1, 3, none⟩ v3 (fun _ => rfl)
        exact ⟨(O3.out.upd u (fun j hj => by rw [show j = _ from hj]; omega)).mono (by omega), (O4.out.upd u (fun j hj => by rw [show j = _ from hj]; omega)).mono (by omega), B9.out.trans (u.below (by have := B9.out.size; omega) (fun j hj => by rw [show j = _ from hj]; omega))⟩⟩
      cases E
      all_goals (
        unfold pickV errV sackZ sackV
        go_wp2_with fail
        first
          | (refine bodyPost_ret (v := .tuple #[sackZ, .int .i64 7]) (by simp [results, Try.results30, go_sem, sackZ, sackV, kz]) rfl ⟨B, c1, d, B2, c2, d2, rfl, (fin.out _ _ _ _).1, (fin.out _ _ _ _).2.1, (fin.out _ _ _ _).2.2⟩; done)
          | exact bodyPost_ret (v := .tuple #[sackV x1 x2 B c1 d B2 c2 d2, .int .i64 0]) (by simp [results, Try.results30, go_sem, sackV, kz]) rfl ⟨B, c1, d, B2, c2, d2, rfl, (fin.out _ _ _ _).1, (fin.out _ _ _ _).2.1, (fin.out _ _ _ _).2.2⟩)
end Go.Proofs.Ytedbmpfjikaljaa
