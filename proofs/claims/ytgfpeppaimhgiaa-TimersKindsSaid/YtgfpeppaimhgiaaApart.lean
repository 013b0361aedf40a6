/-
  Proved: 'TimersApart' returns true and writes nothing that was there: the walk. No condition.
-/
import Derived.Test.YtgfpeppaimhgiaaPlain
namespace Go.Proofs.Ytgfpeppaimhgiaa
open Go.RowKit
set_option linter.unusedVariables false
set_option linter.unusedSimpArgs false

/-- A slice of integers that came in: nil, or a row of 'cap' cells. -/
def IsRow (k : IntKind) (w : World) (a : Option Addr) (len cap : Nat) (zs : List Int) : Prop :=
  (a = none ∧ len = 0 ∧ cap = 0 ∧ zs = []) ∨
  ∃ x, a = some x ∧ len ≤ cap ∧ cap ≤ maxLen ∧ zs.length = cap ∧ (∀ i, i < zs.length → w.cell? (x.add i) = some (.int k (zs.getD i 0))) ∧ ∀ n ∈ zs, (Lit.int k n).wf = true

theorem block_add (a : Addr) (n : Nat) : (a.add n).block = a.block := by unfold Addr.add; split <;> rfl
theorem IsRow.at_ {k : IntKind} {w w' : World} {a : Option Addr} {len cap : Nat} {zs : List Int} (h : IsRow k w a len cap zs) (hb : Below w.heap.size w w') (i : Nat) (hi : i < len) :
    ∃ x, a = some x ∧ w'.cell? (x.add i) = some (.int k (zs.getD i 0)) := by
  rcases h with ⟨_, rfl, _, _⟩ | ⟨x, rfl, h1, h2, h3, h4, h5⟩
  · omega
  · refine ⟨x, rfl, ?_⟩
    have hc := h4 i (by omega)
    have hl := World.block_lt_of_cell? _ _ hc
    rw [hb.cell hl]
    exact hc
theorem IsRow.le {k : IntKind} {w : World} {a : Option Addr} {len cap : Nat} {zs : List Int} (h : IsRow k w a len cap zs) : len ≤ maxLen := by
  rcases h with ⟨_, rfl, _, _⟩ | ⟨x, rfl, h1, h2, h3, h4, h5⟩ <;> omega

theorem run_max_nat {P : Program} (ats : Array TypeId) (ty : TypeId) (a b M : Nat) (h : M = max a b) (W : World) : (Builtin.max_ ats ty #[.int .i64 (a : Int), .int .i64 (b : Int)]).run P W = .ok (.int .i64 (M : Int)) W := by
  have : (if (b : Int) > a then (b : Int) else a) = M := by subst h; split <;> omega
  simp [Builtin.max_, Builtin.max2]
  simpa using this

structure Ap (w : World) (b1 m1 b2 m2 k0 k1 : Nat) (R1 R2 : List (Int × Int)) (wr : World) : Prop where
  t : TI wr b1 m1 k0 R1
  u : TI wr b2 m2 k1 R2
  low : Below w.heap.size w wr
  p1 : w.heap.size ≤ b1
  q1 : w.heap.size ≤ m1
  p2 : w.heap.size ≤ b2
  q2 : w.heap.size ≤ m2
  n1 : ¬ Two b1 m1 b2
  n2 : ¬ Two b1 m1 m2
  n3 : ¬ Two b2 m2 b1
  n4 : ¬ Two b2 m2 m1
theorem Ap.one {w : World} {b1 m1 b2 m2 k0 k1 k0' : Nat} {R1 R2 R1' : List (Int × Int)} {wr w2 : World} (h : Ap w b1 m1 b2 m2 k0 k1 R1 R2 wr) (u : Upd (Two b1 m1) wr w2) (t : TI w2 b1 m1 k0' R1') : Ap w b1 m1 b2 m2 k0' k1 R1' R2 w2 :=
  ⟨t, h.u.upd u h.n1 h.n2, below_upd h.low h.low.size u h.p1 h.q1, h.p1, h.q1, h.p2, h.q2, h.n1, h.n2, h.n3, h.n4⟩
theorem Ap.two {w : World} {b1 m1 b2 m2 k0 k1 k1' : Nat} {R1 R2 R2' : List (Int × Int)} {wr w2 : World} (h : Ap w b1 m1 b2 m2 k0 k1 R1 R2 wr) (u : Upd (Two b2 m2) wr w2) (t : TI w2 b2 m2 k1' R2') : Ap w b1 m1 b2 m2 k0 k1' R1 R2' w2 :=
  ⟨h.t.upd u h.n3 h.n4, t, below_upd h.low h.low.size u h.p2 h.q2, h.p1, h.q1, h.p2, h.q2, h.n1, h.n2, h.n3, h.n4⟩

set_option maxHeartbeats 1000000 in
set_option maxRecDepth 100000 in
theorem apart_walk (a0 : Option Addr) (len0 cap0 : Nat) (z0 : List Int) (a1 : Option Addr) (len1 cap1 : Nat) (z1 : List Int) (w : World) (w0 : IsRow .i64 w a0 len0 cap0 z0) (w1 : IsRow .i64 w a1 len1 cap1 z1) :
    Calls Try.prog 8 #[.slice a0 len0 cap0, .slice a1 len1 cap1] w fun e w' => e = .returned (.bool true) ∧ Below w.heap.size w w' := by
  have l0 := w0.le
  have l1 := w1.le
  unfold maxLen at l0 l1
  have W0 := Aside.mk w0
  have W1 := Aside.mk w1
  clear w0 w1
  by_cases h0 : 200 < len0
  · have d0 : decide ((200 : Int) < (len0 : Int)) = true := decide_eq_true (by omega)
    go_enter Try.func8, Try.ntmps8
    go_wp2_with fail
    refine (works_any _).mono ?_
    rintro e v1 ⟨rfl, hb⟩
    go_wp2_with fail
    go_ret
    exact ⟨rfl, hb⟩
  · have d0 : decide ((200 : Int) < (len0 : Int)) = false := decide_eq_false (by omega)
    by_cases h1 : 200 < len1
    · have d1 : decide ((200 : Int) < (len1 : Int)) = true := decide_eq_true (by omega)
      go_enter Try.func8, Try.ntmps8
      go_wp2_with fail
      refine (works_any _).mono ?_
      rintro e v1 ⟨rfl, hb⟩
      go_wp2_with fail
      go_ret
      exact ⟨rfl, hb⟩
    · have d1 : decide ((200 : Int) < (len1 : Int)) = false := decide_eq_false (by omega)
      go_enter Try.func8, Try.ntmps8
      go_wp2_with fail
      refine (new_I _).mono ?_
      rintro e v1 ⟨rfl, t1, b1, s1⟩
      have hs1 : w.heap.size + 2 ≤ v1.heap.size := by omega
      have T1 := Aside.mk t1
      have B1 := Aside.mk b1
      clear t1 b1 s1
      go_wp2_with fail
      refine (new_I _).mono ?_
      rintro e v2 ⟨rfl, t2, b2, s2⟩
      have T2 := Aside.mk t2
      have B2 := Aside.mk b2
      clear t2 b2 s2
      go_wp2_with fail
      have hA : Ap w (w.heap.size + 1) w.heap.size (v1.heap.size + 1) v1.heap.size 0 0 [] [] v2 :=
        ⟨T1.out.upd (S := fun _ => False) (Upd.of_below B2.out) (fun h => h) (fun h => h), T2.out, B1.out.trans (B2.out.mono B1.out.size), by omega, by omega, by omega, by omega, by unfold Two; omega, by unfold Two; omega, by unfold Two; omega, by unfold Two; omega⟩
      have HA := Aside.mk hA
      clear hA
      obtain ⟨x1, hx1⟩ : ∃ x, x = v1.heap.size := ⟨_, rfl⟩
      rw [← hx1] at HA ⊢
      have HX := Aside.mk hx1
      clear hx1
      obtain ⟨M, hM⟩ : ∃ M, M = max len0 len1 := ⟨_, rfl⟩
      have hmax := fun W => run_max_nat (P := Try.prog) #[3, 3] 3 len0 len1 M hM W
      have HM := Aside.mk hM
      have hM0 : len0 ≤ M := by omega
      have hM1 : len1 ≤ M := by omega
      have hM2 : M ≤ 200 := by omega
      clear hM
      go_loopw [7] (fun i wr => ∃ k : Nat, k ≤ M ∧ i = .int .i64 k ∧ Ap w (w.heap.size + 1) w.heap.size (x1 + 1) x1 (min k len0) (min k len1) (rng z0 (min k len0)) (rng z1 (min k len1)) wr) (fun i _ => M - (intOf i).toNat)
      case atStart => exact ⟨0, by omega, rfl, by simpa [rng_zero] using HA.out⟩
      case round =>
        obtain ⟨k, hk, rfl, hR⟩ := hrel
        have HR := Aside.mk hR
        clear hR
        by_cases c0 : k < len0
        · obtain ⟨x, rfl, hc0⟩ := W0.out.at_ HR.out.low k c0
          have hc : k < M := by omega
          by_cases c1 : k < len1
          · obtain ⟨y, rfl, hc1⟩ := W1.out.at_ HR.out.low k c1
            have H1 := Aside.mk hc1
            clear hc1
            go_wp2_with fail
            refine (set_I _ HR.out.t _ _ (okI_nat k (by omega)) (by omega)).mono ?_
            rintro e w2 ⟨rfl, t2, u2⟩
            have HR2 := Aside.mk (HR.out.one u2 t2)
            clear t2 u2
            obtain ⟨y', hy', hc2⟩ := W1.out.at_ HR2.out.low k c1
            injection hy' with hy'
            subst hy'
            go_wp2_with fail
            refine (set_I _ HR2.out.u _ _ (okI_nat k (by omega)) (by omega)).mono ?_
            rintro e w3 ⟨rfl, t3, u3⟩
            have HR3 := Aside.mk (HR2.out.two u3 t3)
            clear t3 u3 hc2 hc0
            go_wp2_with fail
            go_roundw
            case rel => 
              refine ⟨k + 1, by omega, by go_num, ?_⟩
              have h := HR3.out
              have e0 : min k len0 = k := by omega
              have e1 : min k len1 = k := by omega
              have e2 : min (k + 1) len0 = k + 1 := by omega
              have e3 : min (k + 1) len1 = k + 1 := by omega
              simp only [e0, e1] at h
              rw [e2, e3, ← rset_rng z0, ← rset_rng z1]
              exact h
            case measure => simp [intOf]; omega
          · go_wp2_with fail
            refine (set_I _ HR.out.t _ _ (okI_nat k (by omega)) (by omega)).mono ?_
            rintro e w2 ⟨rfl, t2, u2⟩
            have HR2 := Aside.mk (HR.out.one u2 t2)
            clear t2 u2 hc0
            go_wp2_with fail
            go_roundw
            case rel =>
              refine ⟨k + 1, by omega, by go_num, ?_⟩
              have h := HR2.out
              have e0 : min k len0 = k := by omega
              have e1 : min k len1 = len1 := by omega
              have e2 : min (k + 1) len0 = k + 1 := by omega
              have e3 : min (k + 1) len1 = len1 := by omega
              simp only [e0, e1] at h
              rw [e2, e3, ← rset_rng z0]
              exact h
            case measure => simp [intOf]; omega
        · by_cases c1 : k < len1
          · obtain ⟨y, rfl, hc1⟩ := W1.out.at_ HR.out.low k c1
            have hc : k < M := by omega
            go_wp2_with fail
            refine (set_I _ HR.out.u _ _ (okI_nat k (by omega)) (by omega)).mono ?_
            rintro e w2 ⟨rfl, t2, u2⟩
            have HR2 := Aside.mk (HR.out.two u2 t2)
            clear t2 u2 hc1
            go_wp2_with fail
            go_roundw
            case rel =>
              refine ⟨k + 1, by omega, by go_num, ?_⟩
              have h := HR2.out
              have e0 : min k len0 = len0 := by omega
              have e1 : min k len1 = k := by omega
              have e2 : min (k + 1) len0 = len0 := by omega
              have e3 : min (k + 1) len1 = k + 1 := by omega
              simp only [e0, e1] at h
              rw [e2, e3, ← rset_rng z1]
              exact h
            case measure => simp [intOf]; omega
          · have hkM : M ≤ k := by
              have := HM.out
              omega
            have hkd : decide (k < M) = false := decide_eq_false (by omega)
            have HR0 : Aside (Ap w (w.heap.size + 1) w.heap.size (x1 + 1) x1 len0 len1 (rng z0 len0) (rfrom z1 len1 0) wr) := by
              have h := HR.out
              have e0 : min k len0 = len0 := by omega
              have e1 : min k len1 = len1 := by omega
              simp only [e0, e1] at h
              rw [rfrom_zero]
              exact ⟨h⟩
            clear HR
            go_wp2_with fail
            go_loopw [8] (fun i wr => ∃ j : Nat, j ≤ len1 ∧ i = .int .i64 j ∧ Ap w (w.heap.size + 1) w.heap.size (x1 + 1) x1 len0 len1 (rng z0 len0) (rfrom z1 len1 j) wr) (fun i _ => len1 - (intOf i).toNat)
            case atStart => exact ⟨0, by omega, rfl, HR0.out⟩
            case round =>
              obtain ⟨j, hj, rfl, hR⟩ := hrel
              have HR := Aside.mk hR
              clear hR
              by_cases cj : j < len1
              · have hs := stop_I _ HR.out.u _ (okI_nat j (by omega))
                rw [rfrom_has _ _ _ cj] at hs
                have HS := Aside.mk hs
                clear hs
                go_wp2_with fail
                refine HS.out.mono ?_
                rintro e w2 ⟨rfl, t2, u2⟩
                have HR2 := Aside.mk (HR.out.two u2 t2)
                clear t2 u2
                go_wp2_with fail
                go_roundw
                case rel =>
                  refine ⟨j + 1, by omega, by go_num, ?_⟩
                  rw [← rfrom_drop]
                  exact HR2.out
                case measure => simp [intOf]; omega
              · have HR1 : Aside (Ap w (w.heap.size + 1) w.heap.size (x1 + 1) x1 len0 len1 (rfrom z0 len0 0) [] wr) := by
                  have h := HR.out
                  have e0 : j = len1 := by omega
                  subst e0
                  rw [rfrom_end] at h
                  rw [rfrom_zero]
                  exact ⟨h⟩
                clear HR HR0
                have hjd : decide (j < len1) = false := decide_eq_false (by omega)
                go_wp2_with fail
                go_loopw [9] (fun i wr => ∃ j : Nat, j ≤ len0 ∧ i = .int .i64 j ∧ Ap w (w.heap.size + 1) w.heap.size (x1 + 1) x1 len0 len1 (rfrom z0 len0 j) [] wr) (fun i _ => len0 - (intOf i).toNat)
                case atStart => exact ⟨0, by omega, rfl, HR1.out⟩
                case round =>
                  obtain ⟨q, hq, rfl, hR⟩ := hrel
                  have HR := Aside.mk hR
                  clear hR
                  by_cases cq : q < len0
                  · have hs := stop_I _ HR.out.t _ (okI_nat q (by omega))
                    rw [rfrom_has _ _ _ cq] at hs
                    have HS := Aside.mk hs
                    clear hs
                    go_wp2_with fail
                    refine HS.out.mono ?_
                    rintro e w2 ⟨rfl, t2, u2⟩
                    have HR2 := Aside.mk (HR.out.one u2 t2)
                    clear t2 u2
                    go_wp2_with fail
                    go_roundw
                    case rel =>
                      refine ⟨q + 1, by omega, by go_num, ?_⟩
                      rw [← rfrom_drop]
                      exact HR2.out
                    case measure => simp [intOf]; omega
                  · have HR2 : Aside (Ap w (w.heap.size + 1) w.heap.size (x1 + 1) x1 len0 len1 [] [] wr) := by
                      have h := HR.out
                      have e0 : q = len0 := by omega
                      subst e0
                      rw [rfrom_end] at h
                      exact ⟨h⟩
                    clear HR HR1
                    have hqd : decide (q < len0) = false := decide_eq_false (by omega)
                    have HL1 := Aside.mk (len_I _ HR2.out.u)
                    have HL2 := Aside.mk (len_I _ HR2.out.t)
                    go_wp2_with fail
                    refine HL1.out.mono ?_
                    rintro e w2 ⟨rfl, rfl⟩
                    go_wp2_with fail
                    refine HL2.out.mono ?_
                    rintro e w2 ⟨rfl, rfl⟩
                    go_wp2_with fail
                    refine (works_any _).mono ?_
                    rintro e v9 ⟨rfl, hb⟩
                    have HB := Aside.mk (HR2.out.low.trans (hb.mono HR2.out.low.size))
                    clear hb
                    go_wp2_with fail
                    go_ret
                    exact ⟨rfl, HB.out⟩
end Go.Proofs.Ytgfpeppaimhgiaa
