/-
  Proved: the anchor answers true, and the functions that say whether a chunk is large and whether entries are many answer so. No condition.
-/
import Derived.Test.YtedbmpfjikaljaaSameb
namespace Go.Proofs.Ytedbmpfjikaljaa
open Go.RowKit
set_option linter.unusedVariables false
set_option linter.unusedSimpArgs false
set_option linter.unusedSectionVars false
set_option maxRecDepth 100000

theorem large_ (w : World) (k f : Int) (A : Option Addr) (n c : Nat) {E : Bool} (hE : decide (8192 < n) = E) :
    Calls Try.prog 12 #[chunkV k f A n c] w fun e w' => e = .returned (.bool E) ∧ Below w.heap.size w w' := by
  have BL := Aside.mk (below_alloc w (.cells #[.int .u8 k, .int .u8 f, .slice A n c] 24))
  have hE' : decide ((8192 : Int) < (n : Int)) = E := by rw [← hE]; exact decide_eq_decide.2 (by omega)
  unfold chunkV
  go_enter Try.func12, Try.ntmps12
  go_wp2_with fail
  go_ret
  exact ⟨rfl, BL.out⟩

def isMany (a b c : Nat) : Bool := decide (2048 < a) || decide (2048 < b) || decide (2048 < c)
theorem many_ (w : World) (x1 y1 x2 : Int) (A D F : Option Addr) (n c m d k e : Nat) {E : Bool} (hE : isMany n m k = E) :
    Calls Try.prog 15 #[sackV x1 y1 A n c D m d, fwdV x2 F k e] w fun e w' => e = .returned (.bool E) ∧ Below w.heap.size w w' := by
  have BL := Aside.mk (((Below.refl w.heap.size w).alloc (Nat.le_refl _) (.cells #[.int .u32 x1, .int .u32 y1, .slice A n c, .slice D m d] 38)).alloc (by simp) (.cells #[.int .u32 x2, .slice F k e] 41))
  unfold isMany at hE
  unfold sackV fwdV
  cases h1 : decide (2048 < n)
  · cases h2 : decide (2048 < m)
    · cases h3 : decide (2048 < k)
      all_goals (
        obtain rfl := hE.symm.trans (by rw [h1, h2, h3])
        have h1' : decide ((2048 : Int) < (n : Int)) = false := by rw [← h1]; exact decide_eq_decide.2 (by omega)
        have h2' : decide ((2048 : Int) < (m : Int)) = false := by rw [← h2]; exact decide_eq_decide.2 (by omega)
        have h3' := (show decide ((2048 : Int) < (k : Int)) = decide (2048 < k) from decide_eq_decide.2 (by omega)).trans h3
        clear hE
        go_enter Try.func15, Try.ntmps15
        go_wp2_with fail
        go_ret
        exact ⟨rfl, BL.out⟩)
    · obtain rfl : E = true := by rw [← hE, h1, h2]; rfl
      have h1' : decide ((2048 : Int) < (n : Int)) = false := by rw [← h1]; exact decide_eq_decide.2 (by omega)
      have h2' : decide ((2048 : Int) < (m : Int)) = true := by rw [← h2]; exact decide_eq_decide.2 (by omega)
      clear hE
      go_enter Try.func15, Try.ntmps15
      go_wp2_with fail
      go_ret
      exact ⟨rfl, BL.out⟩
  · obtain rfl : E = true := by rw [← hE, h1]; rfl
    have h1' : decide ((2048 : Int) < (n : Int)) = true := by rw [← h1]; exact decide_eq_decide.2 (by omega)
    clear hE
    go_enter Try.func15, Try.ntmps15
    go_wp2_with fail
    go_ret
    exact ⟨rfl, BL.out⟩

theorem w_sack : sackE 3 0 (sackL 5 6 [(2, 3)] [7]) = true := by decide
theorem w_data : dataE 3 0 (sackL 5 6 [(2, 3)] [7]) = false := by decide
theorem w_ps : sackPs (sackL 5 6 [(2, 3)] [7]) = [(2, 3)] := by decide
theorem w_ds : sackDs (sackL 5 6 [(2, 3)] [7]) = [7] := by decide
theorem w_cum : gt (sackL 5 6 [(2, 3)] [7]) 0 4 = 5 := by decide
theorem w_rw : gt (sackL 5 6 [(2, 3)] [7]) 4 4 = 6 := by decide
theorem w_byt : Byt (sackL 5 6 [(2, 3)] [7]) := by unfold Byt; decide

set_option maxHeartbeats 4000000 in
theorem works_ (w : World) : Calls Try.prog 13 #[] w fun e w' => e = .returned (.bool true) ∧ Below w.heap.size w w' := by
  go_enter Try.func13, Try.ntmps13
  go_upto_region 2 with (fail)
  generalize hW : ((w.alloc (.cells #[.int .u16 2, .int .u16 3] 84)).alloc (.cells #[.int .u32 7] 29)).alloc (.cells #[.int .u32 5, .int .u32 6, .slice (some ⟨w.heap.size, 0, none⟩) 1 1, .slice (some ⟨w.heap.size + 1, 0, none⟩) 1 1] 38) = W
  obtain ⟨h1, h2, h3, hbl, hsz⟩ := setup3b w _ _ _ hW
  clear hW
  have k1 := keep4 h3
  have hl3 := lt_of_block h3
  have H3 := Aside.mk h3
  have R1 := Aside.mk (rd2_one h1 (by decide) (by decide))
  have R2 := Aside.mk (rd_blk (k := .u32) [7] h2 (by decide))
  have BL := Aside.mk hbl
  have T1 := Aside.mk (putSack_ W 5 6 (by decide) (by decide) (by decide) (by decide) R1.out R2.out (by decide) (fun i => by
    rcases i with _ | i
    · exact ⟨by decide, by decide⟩
    · simp))
  clear h1 h2 h3 hbl
  go_wp2_with fail
  refine T1.out.mono ?_
  rintro e w2 ⟨A, n, c, rfl, o, b⟩
  have hn : n = 20 := by rw [← o.len]; rfl
  subst hn
  have b2 := b.trans ((below_alloc w2 (.cells #[.int .u8 3, .int .u8 0, .slice A 20 c] 24)).mono b.size)
  have P := Aside.mk (((o.rd (by omega)).below (below_alloc w2 (.cells #[.int .u8 3, .int .u8 0, .slice A 20 c] 24))))
  have T2 := Aside.mk (getSack_ _ P.out (k := 3) (f := 0) w_byt (by omega))
  rw [w_sack, w_ps, w_ds, w_cum, w_rw] at T2
  have C := heap_alloc_new w2 (.cells #[.int .u8 3, .int .u8 0, .slice A 20 c] 24)
  have B2 := Aside.mk b2
  have CC := Aside.mk C
  unfold chunkV
  clear b b2 o T1 C
  go_wp2_with fail
  refine T2.out.mono ?_
  rintro e w3 ⟨B, m, d, D, m2, d2, rfl, oP, oD, b3⟩
  have hm : m = 1 := by rw [← oP.len]; rfl
  have hm2 : m2 = 1 := by rw [← oD.len]; rfl
  subst hm hm2
  have hz2 := b3.size
  have C3 := (b3.block _ (lt_of_block CC.out)).trans CC.out
  have H33 := (b3.block _ (lt_of_block ((B2.out.block _ hl3).trans H3.out))).trans ((B2.out.block _ hl3).trans H3.out)
  have B3 := Aside.mk (B2.out.trans (b3.mono B2.out.size))
  have P3 := Aside.mk ((P.out.below b3).below (below_alloc w3 (.cells #[.int .u32 5, .int .u32 6, .slice B 1 d, .slice D 1 d2] 38)))
  have T3 := Aside.mk (getData_ _ P3.out (k := 3) (f := 0) w_byt (by omega))
  rw [w_data] at T3
  have kc := keep3 C3
  have zc : w2.heap.size < w3.heap.size := lt_of_block C3
  have OP := Aside.mk oP
  have OD := Aside.mk oD
  have C3A := Aside.mk C3
  have H33A := Aside.mk H33
  clear b3 oP oD T2 C3 H33 k1
  unfold pickV errV sackZ sackV
  go_wp2_with fail
  refine T3.out.mono ?_
  rintro e w4 ⟨B4, m4, d4, rfl, o4, b4⟩
  have C4 := (b4.block _ (lt_of_block (alloc_keep C3A.out))).trans (alloc_keep C3A.out)
  have H44 := (b4.block _ (lt_of_block (alloc_keep H33A.out))).trans (alloc_keep H33A.out)
  have S4 := (b4.block _ (lt_of_block (heap_alloc_new w3 (.cells #[.int .u32 5, .int .u32 6, .slice B 1 d, .slice D 1 d2] 38)))).trans (heap_alloc_new w3 _)
  have kc4 := keep3 C4
  have kh4 := keep4 H44
  have ks4 := keep4 S4
  have zc4 : w2.heap.size < w4.heap.size := lt_of_block C4
  have zh4 : w.heap.size + 1 + 1 < w4.heap.size := lt_of_block H44
  have zs4 : w3.heap.size < w4.heap.size := lt_of_block S4
  have b5 := (below_alloc w3 (.cells #[.int .u32 5, .int .u32 6, .slice B 1 d, .slice D 1 d2] 38)).trans (b4.mono (by simp))
  have b6 := b5.trans ((below_alloc w4 (.cells #[.int .u32 0, .int .u16 0, .int .u16 0, .bool false, .bool false, .bool false, .slice none 0 0] 32)).mono b5.size)
  have B6 := Aside.mk (BL.out.trans ((B3.out.trans (b6.mono B3.out.size)).mono BL.out.size))
  have q1 := (R1.out.below B3.out).below b6
  have q2 := (R2.out.below B3.out).below b6
  have T4 := Aside.mk (sameSack_ _ 5 6 5 6 q1 ((OP.out.rd2 (by decide) (by decide)).below b6) q2 ((OD.out.rd (by decide)).below b6) (E := true) (by decide))
  clear b4 o4 b5 b6 C4 H44 S4 T3 q1 q2
  unfold pickV errV dataZ dataV
  go_wp2_with fail
  refine T4.out.mono ?_
  rintro e w5 ⟨rfl, b7⟩
  have B7 := Aside.mk (B6.out.trans (b7.mono B6.out.size))
  clear b7
  go_wp2_with fail
  go_ret
  exact ⟨rfl, B7.out⟩
end Go.Proofs.Ytedbmpfjikaljaa
