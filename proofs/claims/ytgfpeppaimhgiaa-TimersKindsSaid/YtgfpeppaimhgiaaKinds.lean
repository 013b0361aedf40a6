/-
  Proved: 'TimersKinds' returns true and writes nothing that was there: the walk. No condition.
-/
import Derived.Test.YtgfpeppaimhgiaaPlaind
import Derived.Test.YtgfpeppaimhgiaaSteps
import Derived.Test.YtgfpeppaimhgiaaApart
import Derived.Deep.RegionHeld3
namespace Go.Proofs.Ytgfpeppaimhgiaa
open Go.RowKit
set_option linter.unusedVariables false
set_option linter.unusedSimpArgs false

def namesRow : Array Value := #[.string ⟨#[97]⟩, .string ⟨#[98]⟩, .string ⟨#[]⟩, .string ⟨#[100]⟩]
structure KR (w : World) (q1 q2 q3 : Nat) (R1 R2 R3 : List (Int × Int)) (wr : World) : Prop where
  names : wr.heap[w.heap.size]? = some (.cells namesRow 9)
  t1 : TI wr (w.heap.size + 2) (w.heap.size + 1) q1 R1
  t2 : TS wr (w.heap.size + 4) (w.heap.size + 3) q2 (mapK nm R2)
  t3 : TP wr (w.heap.size + 6) (w.heap.size + 5) q3 (mapK pr R3)
  low : Below w.heap.size w wr
section
variable {w wr w2 : World} {q1 q2 q3 q' : Nat} {R1 R2 R3 R' : List (Int × Int)}
theorem KR.one (h : KR w q1 q2 q3 R1 R2 R3 wr) (u : Upd (Two (w.heap.size + 2) (w.heap.size + 1)) wr w2) (t : TI w2 (w.heap.size + 2) (w.heap.size + 1) q' R') : KR w q' q2 q3 R' R2 R3 w2 :=
  ⟨u.heap h.names (by unfold Two; omega), t, h.t2.upd u (by unfold Two; omega) (by unfold Two; omega), h.t3.upd u (by unfold Two; omega) (by unfold Two; omega), below_upd h.low h.low.size u (by omega) (by omega)⟩
theorem KR.two (h : KR w q1 q2 q3 R1 R2 R3 wr) (u : Upd (Two (w.heap.size + 4) (w.heap.size + 3)) wr w2) (t : TS w2 (w.heap.size + 4) (w.heap.size + 3) q' (mapK nm R')) : KR w q1 q' q3 R1 R' R3 w2 :=
  ⟨u.heap h.names (by unfold Two; omega), h.t1.upd u (by unfold Two; omega) (by unfold Two; omega), t, h.t3.upd u (by unfold Two; omega) (by unfold Two; omega), below_upd h.low h.low.size u (by omega) (by omega)⟩
theorem KR.three (h : KR w q1 q2 q3 R1 R2 R3 wr) (u : Upd (Two (w.heap.size + 6) (w.heap.size + 5)) wr w2) (t : TP w2 (w.heap.size + 6) (w.heap.size + 5) q' (mapK pr R')) : KR w q1 q2 q' R1 R2 R' w2 :=
  ⟨u.heap h.names (by unfold Two; omega), h.t1.upd u (by unfold Two; omega) (by unfold Two; omega), h.t2.upd u (by unfold Two; omega) (by unfold Two; omega), t, below_upd h.low h.low.size u (by omega) (by omega)⟩
theorem KR.same (h : KR w q1 q2 q3 R1 R2 R3 wr) (u : Upd (fun _ => False) wr w2) : KR w q1 q2 q3 R1 R2 R3 w2 :=
  ⟨u.heap h.names (fun h => h), h.t1.upd u (fun h => h) (fun h => h), h.t2.upd u (fun h => h) (fun h => h), h.t3.upd u (fun h => h) (fun h => h), h.low.trans (u.below h.low.size (fun i h => h.elim))⟩
end

/-- A small key, and what the other tables call it. -/
theorem small_facts (k : Int) (h : Small k) : ∃ (c : Nat) (s : ByteArray) (x y : Int), k = (c : Int) ∧ c < 4 ∧ nm k = s ∧ pr k = (x, y) ∧ IntKind.u16.wrap (k / 2) = x ∧ IntKind.u16.wrap (k % 2) = y ∧ namesRow[c]? = some (.string s) ∧ bits .and .i64 k 3 = k := by
  rcases h with rfl | rfl | rfl | rfl
  · exact ⟨0, _, 0, 0, rfl, by omega, rfl, rfl, rfl, rfl, rfl, rfl⟩
  · exact ⟨1, _, 0, 1, rfl, by omega, rfl, rfl, rfl, rfl, rfl, rfl⟩
  · exact ⟨2, _, 1, 0, rfl, by omega, rfl, rfl, rfl, rfl, rfl, rfl⟩
  · exact ⟨3, _, 1, 1, rfl, by omega, rfl, rfl, rfl, rfl, rfl, rfl⟩

set_option maxHeartbeats 2000000 in
set_option maxRecDepth 100000 in
theorem kinds_walk (a0 : Option Addr) (len0 cap0 : Nat) (S : List (Int × Int × Int)) (w : World) (w0 : IsSteps w a0 len0 cap0 S) :
    Calls Try.prog 7 #[.slice a0 len0 cap0] w fun e w' => e = .returned (.bool true) ∧ Below w.heap.size w w' := by
  have l0 := w0.1
  unfold maxLen at l0
  have W0 := Aside.mk w0
  clear w0
  by_cases h0 : 200 < len0
  · have d0 : decide ((200 : Int) < (len0 : Int)) = true := decide_eq_true (by omega)
    go_enter Try.func7, Try.ntmps7
    go_wp2_with fail
    refine (works_any _).mono ?_
    rintro e v1 ⟨rfl, hb⟩
    go_wp2_with fail
    go_ret
    exact ⟨rfl, hb⟩
  · have d0 : decide ((200 : Int) < (len0 : Int)) = false := decide_eq_false (by omega)
    go_enter Try.func7, Try.ntmps7
    go_wp2_with fail
    refine (new_I _).mono ?_
    rintro e v1 ⟨rfl, t1, b1, s1⟩
    simp only [World.size_alloc] at t1 b1 s1 ⊢
    have hn1 : v1.heap[w.heap.size]? = some (.cells namesRow 9) := (b1.block _ (by simp)).trans (heap_alloc_new w _)
    have bl1 : Below w.heap.size w v1 := ((Below.refl _ w).alloc (Nat.le_refl _) _).trans (b1.mono (by simp))
    have T1 := Aside.mk t1
    have B1 := Aside.mk bl1
    have N1 := Aside.mk hn1
    have S1 := Aside.mk s1
    clear t1 b1 s1 hn1 bl1
    go_wp2_with fail
    refine (new_S _).mono ?_
    rintro e v2 ⟨rfl, t2, b2, s2⟩
    rw [S1.out] at t2 b2 s2 ⊢
    have S2 := Aside.mk s2
    have U2 := Aside.mk (Upd.of_below (S := fun _ => False) (a := v1) (b := v2) (by rw [S1.out]; exact b2))
    have T2 := Aside.mk t2
    clear t2 b2 s2
    go_wp2_with fail
    refine (new_P _).mono ?_
    rintro e v3 ⟨rfl, t3, b3, s3⟩
    rw [S2.out] at t3 b3 ⊢
    have U3 := Aside.mk (Upd.of_below (S := fun _ => False) (a := v2) (b := v3) (by rw [S2.out]; exact b3))
    have hK : KR w 0 0 0 [] [] [] v3 :=
      ⟨(U2.out.trans U3.out).heap N1.out (fun h => h), T1.out.upd (U2.out.trans U3.out) (fun h => h) (fun h => h), T2.out.upd U3.out (fun h => h) (fun h => h), t3, B1.out.trans ((U2.out.trans U3.out).below B1.out.size (fun i h => h.elim))⟩
    have HK := Aside.mk hK
    clear t3 b3 s3 hK T1 T2 B1 N1 S1 S2 U2 U3
    go_wp2_with fail
    go_loopw [7] (fun i wr => ∃ k : Nat, k ≤ len0 ∧ i = .int .i64 k ∧ ∃ q R, q ≤ k ∧ Smalls R ∧ KR w q q q R R R wr) (fun i _ => len0 - (intOf i).toNat)
    case atStart => exact ⟨0, by omega, rfl, 0, [], by omega, (fun p hp => by simp at hp), HK.out⟩
    case round =>
      clear HK
      obtain ⟨k, hk, rfl, q, R, hq, hRs, hR⟩ := hrel
      have HR := Aside.mk hR
      have HRS := Aside.mk hRs
      clear hR hRs
      by_cases c0 : k < len0
      · have hkS : k < S.length := by rw [W0.out.2.1]; exact c0
        obtain ⟨sb, so, rfl, k0, k1, k2, hok⟩ := W0.out.at_ HR.out.low (List.getElem?_eq_getElem hkS)
        clear hok
        have HKEEP : Aside (∀ w2, Below w.heap.size w w2 → w2.cell? ⟨sb, so + k * 3, none⟩ = some (.int .i64 S[k].1) ∧ w2.cell? ⟨sb, so + k * 3 + 1, none⟩ = some (.int .i64 S[k].2.1) ∧ w2.cell? ⟨sb, so + k * 3 + 2, none⟩ = some (.int .i64 S[k].2.2)) := ⟨fun w2 hb2 => by
          obtain ⟨b', o', he, h0, h1, h2, _⟩ := W0.out.at_ hb2 (List.getElem?_eq_getElem hkS)
          injection he with he
          injection he with he1 he2
          subst he1 he2
          exact ⟨h0, h1, h2⟩⟩
        generalize S[k] = s at k0 k1 k2 HKEEP
        clear hkS
        obtain ⟨kind, key, time⟩ := s
        simp only at k0 k1 k2
        have hsb : sb < wr.heap.size := World.block_lt_of_cell? _ _ k0
        have hk0 : (0 : Int) ≤ (k : Int) := by omega
        have hk1 : (k : Int) < (len0 : Int) := by omega
        have hsm := and3 key
        have HSM := Aside.mk hsm
        obtain ⟨c, nmc, x, y, hc, hc4, hnm, hpr, hx, hy, hrow, _⟩ := small_facts _ hsm
        rw [hc] at hnm hpr hx hy HSM
        have HC := Aside.mk hnm
        have HP := Aside.mk hpr
        have HROW := Aside.mk hrow
        have hbig : w.heap.size + 6 < wr.heap.size := HR.out.t3.lt
        have HN : Aside (∀ w2 : World, w2.heap[w.heap.size]? = some (.cells namesRow 9) → w2.cell? ⟨w.heap.size, c, none⟩ = some (.string nmc)) := ⟨fun w2 h => by simp [World.cell?, h, hrow]⟩
        clear hnm hpr hrow hsm
        by_cases hk_0 : kind = 0
        · subst hk_0
          have hkc : okI (c : Int) := okI_nat c (by omega)
          have HOKS : Aside (okS nmc) := ⟨by rw [← HC.out]; exact nm_ok _⟩
          have HOKP : Aside (okP (x, y)) := ⟨by rw [← HP.out]; exact pr_ok HSM.out⟩
          have HRA : Aside (KR w q q q R R R (wr.alloc (.cells #[.int .u16 x, .int .u16 y] 58))) := ⟨HR.out.same ((Upd.refl _ _).alloc _)⟩
          have hpc := heap_alloc_new wr (.cells #[.int .u16 x, .int .u16 y] 58)
          have HPC := Aside.mk hpc
          have HKC := Aside.mk hkc
          clear hpc hkc
          go_wp2_with fail
          refine (set_I _ HRA.out.t1 _ _ HKC.out (by omega)).mono ?_
          rintro e w2 ⟨rfl, t2, u2⟩
          have HR2 := Aside.mk (HRA.out.one u2 t2)
          have HPC2 := Aside.mk (u2.heap HPC.out (by unfold Two; omega))
          clear t2 u2
          obtain ⟨m0, m1, m2⟩ := HKEEP.out _ HR2.out.low
          have mn := HN.out _ HR2.out.names
          have hc0' : (0 : Int) ≤ (c : Int) := by omega
          have hc1' : (c : Int) < 4 := by omega
          go_wp2_with fail
          go_region_held3 (fun w' => w'.cell? ⟨sb, so + k * 3 + 2, none⟩ = some (.int .i64 time) ∧ w'.cell? ⟨w.heap.size, c, none⟩ = some (.string nmc))
            (first | go_keep | exact ⟨(HKEEP.out _ HR3.out.low).2.2, HN.out _ HR3.out.names⟩)
            ((go_at_call 28; refine (set_S _ (HR2.out.same ((Upd.refl _ _).drew)).t2 nmc _ HOKS.out (by omega)).mono ?_; rintro e w3 ⟨rfl, t3, u3⟩; rw [← HC.out, mapK_set apart_nm HRS.out HSM.out] at t3; have HR3 := Aside.mk ((HR2.out.same ((Upd.refl _ _).drew)).two u3 t3); have HPC3 := Aside.mk (u3.heap (((Upd.refl (fun _ => False) _).drew).heap HPC2.out (fun h => h)) (by unfold Two; omega)); clear t3 u3))
          have HR3d := Aside.mk (HR3.out.same ((Upd.refl (fun _ => False) _).drew))
          obtain ⟨n0, n1, n2⟩ := HKEEP.out _ HR3.out.low
          have px : w3.cell? ⟨wr.heap.size, 0, none⟩ = some (.int .u16 x) := by simp [World.cell?, HPC3.out]
          have py : w3.cell? ⟨wr.heap.size, 1, none⟩ = some (.int .u16 y) := by simp [World.cell?, HPC3.out]
          go_wp2_with fail
          go_region_held3 (fun w' => w'.cell? ⟨sb, so + k * 3 + 2, none⟩ = some (.int .i64 time) ∧ w'.cell? ⟨wr.heap.size, 0, none⟩ = some (.int .u16 x) ∧ w'.cell? ⟨wr.heap.size, 1, none⟩ = some (.int .u16 y))
            (first | go_keep | exact ⟨(HKEEP.out _ HR4.out.low).2.2, by simp [World.cell?, HPC4.out], by simp [World.cell?, HPC4.out]⟩)
            ((go_at_call 29; refine (set_P _ HR3d.out.t3 (x, y) _ HOKP.out (by omega)).mono ?_; rintro e w4 ⟨rfl, t4, u4⟩; rw [← HP.out, mapK_set apart_pr HRS.out HSM.out] at t4; have HR4 := Aside.mk (HR3d.out.three u4 t4); have HPC4 := Aside.mk (u4.heap (((Upd.refl (fun _ => False) _).drew).heap HPC3.out (fun h => h)) (by unfold Two; omega)); clear t4 u4))
          go_wp2_with fail
          go_roundw
          case rel => exact ⟨k + 1, by omega, by go_num, _, _, by omega, smalls_set HRS.out HSM.out time, HR4.out⟩
          case measure => simp [intOf]; omega
        · by_cases hk_1 : kind = 1
          · subst hk_1
            clear hk_0
            have hkc : okI (c : Int) := okI_nat c (by omega)
            have HOKS : Aside (okS nmc) := ⟨by rw [← HC.out]; exact nm_ok _⟩
            have HOKP : Aside (okP (x, y)) := ⟨by rw [← HP.out]; exact pr_ok HSM.out⟩
            have HRA : Aside (KR w q q q R R R (wr.alloc (.cells #[.int .u16 x, .int .u16 y] 58))) := ⟨HR.out.same ((Upd.refl _ _).alloc _)⟩
            have hpc := heap_alloc_new wr (.cells #[.int .u16 x, .int .u16 y] 58)
            have HPC := Aside.mk hpc
            have HKC := Aside.mk hkc
            obtain ⟨hb, hhb⟩ : ∃ hb, rhas R (c : Int) = hb := ⟨_, rfl⟩
            have h1 := stop_I _ HRA.out.t1 _ HKC.out
            rw [hhb] at h1
            have H1 := Aside.mk h1
            have HHB := Aside.mk hhb
            clear hpc hkc h1 hhb
            go_wp2_with fail
            refine H1.out.mono ?_
            rintro e w2 ⟨rfl, t2, u2⟩
            have HR2 := Aside.mk (HRA.out.one u2 t2)
            have HPC2 := Aside.mk (u2.heap HPC.out (by unfold Two; omega))
            clear t2 u2 H1
            have mn := HN.out _ HR2.out.names
            have hc0' : (0 : Int) ≤ (c : Int) := by omega
            have hc1' : (c : Int) < 4 := by omega
            have h2 := stop_S w2 HR2.out.t2 nmc HOKS.out
            rw [← HC.out, mapK_has apart_nm HRS.out HSM.out, HHB.out, mapK_drop apart_nm HRS.out HSM.out, HC.out] at h2
            have H2 := Aside.mk h2
            clear h2
            go_wp2_with fail
            refine H2.out.mono ?_
            rintro e w3 ⟨rfl, t3, u3⟩
            have HR3 := Aside.mk (HR2.out.two u3 t3)
            have HPC3 := Aside.mk (u3.heap HPC2.out (by unfold Two; omega))
            clear t3 u3 H2 mn
            have px : w3.cell? ⟨wr.heap.size, 0, none⟩ = some (.int .u16 x) := by simp [World.cell?, HPC3.out]
            have py : w3.cell? ⟨wr.heap.size, 1, none⟩ = some (.int .u16 y) := by simp [World.cell?, HPC3.out]
            have h3 := stop_P w3 HR3.out.t3 (x, y) HOKP.out
            rw [← HP.out, mapK_has apart_pr HRS.out HSM.out, HHB.out, mapK_drop apart_pr HRS.out HSM.out, HP.out] at h3
            have H3 := Aside.mk h3
            clear h3
            go_wp2_with fail
            refine H3.out.mono ?_
            rintro e w4 ⟨rfl, t4, u4⟩
            have HR4 := Aside.mk (HR3.out.three u4 t4)
            clear t4 u4 H3 px py
            go_wp2_with fail
            go_roundw
            case rel => exact ⟨k + 1, by omega, by go_num, _, _, by omega, smalls_drop HRS.out _, HR4.out⟩
            case measure => simp [intOf]; omega
          · by_cases hk_3 : kind = 3
            · subst hk_3
              clear hk_0 hk_1
              have HRA : Aside (KR w q q q R R R (wr.alloc (.cells #[.int .u16 x, .int .u16 y] 58))) := ⟨HR.out.same ((Upd.refl _ _).alloc _)⟩
              cases hd : due R time with
              | none =>
                have h1 := pop_I _ HRA.out.t1 time
                rw [show popAnsI R time = .tuple #[.int .i64 0, .bool false] by simp [popAnsI, hd]] at h1
                have H1 := Aside.mk h1
                have HD := Aside.mk hd
                clear h1 hd
                go_wp2_with fail
                refine H1.out.mono ?_
                rintro e w2 ⟨rfl, t2, u2⟩
                have HR2 := Aside.mk (HRA.out.one u2 t2)
                clear t2 u2 H1
                obtain ⟨m0, m1, m2⟩ := HKEEP.out _ HR2.out.low
                have h2 := pop_S w2 HR2.out.t2 time
                rw [show popAnsS (mapK nm R) time = .tuple #[.string ⟨#[]⟩, .bool false] by simp [popAnsS, mapK_due, HD.out], mapK_pop apart_nm HRS.out] at h2
                have H2 := Aside.mk h2
                clear h2
                go_wp2_with fail
                refine H2.out.mono ?_
                rintro e w3 ⟨rfl, t3, u3⟩
                have HR3 := Aside.mk (HR2.out.two u3 t3)
                clear t3 u3 H2 m0 m1 m2
                obtain ⟨m0, m1, m2⟩ := HKEEP.out _ HR3.out.low
                have h3 := pop_P w3 HR3.out.t3 time
                rw [show popAnsP (mapK pr R) time = .tuple #[.agg #[.int .u16 0, .int .u16 0], .bool false] by simp [popAnsP, mapK_due, HD.out], mapK_pop apart_pr HRS.out] at h3
                have H3 := Aside.mk h3
                clear h3
                go_wp2_with fail
                refine H3.out.mono ?_
                rintro e w4 ⟨rfl, t4, u4⟩
                have HR4 := Aside.mk (HR3.out.three u4 t4)
                clear t4 u4 H3 m0 m1 m2
                go_wp2_with fail
                go_roundw
                case rel => exact ⟨k + 1, by omega, by go_num, _, _, by omega, smalls_pop HRS.out _, HR4.out.same ((Upd.refl _ _).alloc _)⟩
                case measure => simp [intOf]; omega
              | some g =>
                obtain ⟨tg, hg⟩ := due_mem hd
                obtain ⟨d, nmd, xd, yd, hdc, hd4, hnmd, hprd, hxd, hyd, hrowd, hbd⟩ := small_facts _ (HRS.out _ hg)
                simp only at hdc
                subst hdc
                have h1 := pop_I _ HRA.out.t1 time
                rw [show popAnsI R time = .tuple #[.int .i64 (d : Int), .bool true] by simp [popAnsI, hd, encI]] at h1
                have HS2 : Aside (popAnsS (mapK nm R) time = .tuple #[.string nmd, .bool true]) := ⟨by
                  have : nm (d : Int) = nmd := hnmd
                  simp [popAnsS, mapK_due, hd, encS, this]⟩
                have HS3 : Aside (popAnsP (mapK pr R) time = .tuple #[.agg #[.int .u16 xd, .int .u16 yd], .bool true]) := ⟨by
                  have : pr (d : Int) = (xd, yd) := hprd
                  simp [popAnsP, mapK_due, hd, encP, this]⟩
                have H1 := Aside.mk h1
                have HND : Aside (∀ w2 : World, w2.heap[w.heap.size]? = some (.cells namesRow 9) → w2.cell? ⟨w.heap.size, d, none⟩ = some (.string nmd)) := ⟨fun w2 h => by simp [World.cell?, h, hrowd]⟩
                simp only at hxd hyd hbd
                clear h1 hd hg hnmd hprd hrowd
                go_wp2_with fail
                refine H1.out.mono ?_
                rintro e w2 ⟨rfl, t2, u2⟩
                have HR2 := Aside.mk (HRA.out.one u2 t2)
                clear t2 u2 H1
                obtain ⟨m0, m1, m2⟩ := HKEEP.out _ HR2.out.low
                have h2 := pop_S w2 HR2.out.t2 time
                rw [HS2.out, mapK_pop apart_nm HRS.out] at h2
                have H2 := Aside.mk h2
                clear h2
                go_wp2_with fail
                refine H2.out.mono ?_
                rintro e w3 ⟨rfl, t3, u3⟩
                have HR3 := Aside.mk (HR2.out.two u3 t3)
                clear t3 u3 H2 m0 m1 m2
                obtain ⟨m0, m1, m2⟩ := HKEEP.out _ HR3.out.low
                have h3 := pop_P w3 HR3.out.t3 time
                rw [HS3.out, mapK_pop apart_pr HRS.out] at h3
                have H3 := Aside.mk h3
                clear h3
                go_wp2_with fail
                refine H3.out.mono ?_
                rintro e w4 ⟨rfl, t4, u4⟩
                have HR4 := Aside.mk (HR3.out.three u4 t4)
                clear t4 u4 H3 m0 m1 m2
                have mn := HND.out _ HR4.out.names
                have hd0' : (0 : Int) ≤ (d : Int) := by omega
                have hd1' : (d : Int) < 4 := by omega
                have hwl4 : w.heap.size < w4.heap.size := by have := HR4.out.t3.lt; omega
                go_wp2_with fail
                go_roundw
                case rel => exact ⟨k + 1, by omega, by go_num, _, _, by omega, smalls_pop HRS.out _, HR4.out.same ((Upd.refl _ _).alloc _)⟩
                case measure => simp [intOf]; omega
            · have b0 : (kind == 0) = false := beq_eq_false_iff_ne.2 hk_0
              have b1 : (kind == 1) = false := beq_eq_false_iff_ne.2 hk_1
              have b3 : (kind == 3) = false := beq_eq_false_iff_ne.2 hk_3
              clear hk_0 hk_1 hk_3
              go_wp2_with fail
              go_roundw
              case rel => exact ⟨k + 1, by omega, by go_num, _, _, by omega, HRS.out, HR.out.same ((Upd.refl _ _).alloc _)⟩
              case measure => simp [intOf]; omega
      · have hkd : decide (k < len0) = false := decide_eq_false (by omega)
        have L1 := Aside.mk (len_I _ HR.out.t1)
        have l2 := len_S _ HR.out.t2
        rw [mapK_length] at l2
        have L2 := Aside.mk l2
        have l3 := len_P _ HR.out.t3
        rw [mapK_length] at l3
        have L3 := Aside.mk l3
        clear l2 l3
        go_wp2_with fail
        refine L1.out.mono ?_
        rintro e v1 ⟨rfl, rfl⟩
        go_wp2_with fail
        refine L2.out.mono ?_
        rintro e v1 ⟨rfl, rfl⟩
        go_wp2_with fail
        refine L1.out.mono ?_
        rintro e v1 ⟨rfl, rfl⟩
        go_wp2_with fail
        refine L3.out.mono ?_
        rintro e v1 ⟨rfl, rfl⟩
        go_wp2_with fail
        refine (works_any _).mono ?_
        rintro e v9 ⟨rfl, hb⟩
        have HB := Aside.mk (HR.out.low.trans (hb.mono HR.out.low.size))
        clear hb
        go_wp2_with fail
        go_ret
        exact ⟨rfl, HB.out⟩
end Go.Proofs.Ytgfpeppaimhgiaa
