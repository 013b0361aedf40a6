/-
  Proved: 'TimersAgain' returns true and writes nothing that was there: the walk. No condition.
-/
import Derived.Test.YtgfpeppaimhgiaaOrder
namespace Go.Proofs.Ytgfpeppaimhgiaa
open Go.RowKit
set_option linter.unusedVariables false
set_option linter.unusedSimpArgs false

/-- What is left of the keys 0, 1, .., of which the key K has another time. -/
structure AgR (zs : List Int) (n K : Nat) (again : Int) (left : Nat) (R : List (Int × Int)) : Prop where
  sub : ∀ p ∈ R, ∃ i : Nat, i < n ∧ p.1 = (i : Int) ∧ p.2 = if i = K then again else zs.getD i 0
  nodup : (R.map (·.1)).Nodup
  len : R.length = left
theorem AgR.start (zs : List Int) (n K : Nat) (again : Int) (hK : K < n) : AgR zs n K again n (rset (rng zs n) (K : Int) again) := by
  have hm : ((K : Int), zs.getD K 0) ∈ rng zs n := mem_rng.2 ⟨K, hK, rfl⟩
  refine ⟨fun p hp => ?_, ?_, ?_⟩
  · rcases List.mem_append.1 hp with hp | hp
    · obtain ⟨hp1, hp2⟩ := mem_rdrop.1 hp
      obtain ⟨i, hi, rfl⟩ := mem_rng.1 hp1
      refine ⟨i, hi, rfl, ?_⟩
      rw [if_neg (fun e => hp2 (by rw [e]))]
    · simp at hp
      subst hp
      exact ⟨K, hK, rfl, by simp⟩
  · unfold rset
    rw [List.map_append, List.nodup_append]
    refine ⟨(rng_nodup zs n).sublist (List.filter_sublist.map _), by simp, fun x hx y hy => ?_⟩
    obtain ⟨p, hp, rfl⟩ := List.mem_map.1 hx
    simp at hy
    subst hy
    exact (mem_rdrop.1 hp).2
  · unfold rset
    rw [List.length_append]
    have := rdrop_length (rng_nodup zs n) hm
    rw [rng_length] at this
    exact this
theorem AgR.step {zs : List Int} {n K left : Nat} {again : Int} {R : List (Int × Int)} (h : AgR zs n K again (left + 1) R) :
    ∃ i : Nat, i < n ∧ nxt R = some ((i : Int), if i = K then again else zs.getD i 0) ∧ rhas R (i : Int) = true ∧ AgR zs n K again left (rdrop R (i : Int)) := by
  have hne : R ≠ [] := by
    intro e
    have := h.len
    rw [e] at this
    simp at this
  obtain ⟨p, hp⟩ := nxt_some hne
  have hm := nxt_mem hp
  obtain ⟨i, hi, h1, h2⟩ := h.sub p hm
  obtain ⟨p1, p2⟩ := p
  simp only at h1 h2
  subst h1
  subst h2
  refine ⟨i, hi, hp, rhas_of_mem hm, fun q hq => h.sub q (mem_rdrop.1 hq).1, h.nodup.sublist (List.filter_sublist.map _), ?_⟩
  have h3 := rdrop_length h.nodup hm
  rw [h.len] at h3
  exact Nat.succ.inj h3
theorem rdrop_twice {κ : Type} [DecidableEq κ] (R : List (κ × Int)) (a : κ) : rdrop (rdrop R a) a = rdrop R a := by
  unfold rdrop
  rw [List.filter_filter]
  exact List.filter_congr fun p _ => Bool.and_self _

set_option maxHeartbeats 1000000 in
set_option maxRecDepth 100000 in
theorem again_walk (a0 : Option Addr) (len0 cap0 : Nat) (z0 : List Int) (a1 : Int) (a2 : Int) (w : World) (w0 : IsRow .i64 w a0 len0 cap0 z0) (w1 : (Lit.int .i64 a1).wf = true) (w2 : (Lit.int .u16 a2).wf = true) :
    Calls Try.prog 6 #[.slice a0 len0 cap0, .int .i64 a1, .int .u16 a2] w fun e w' => e = .returned (.bool true) ∧ Below w.heap.size w w' := by
  have l0 := w0.le
  unfold maxLen at l0
  have W0 := Aside.mk w0
  have hu : ∃ u : Nat, a2 = (u : Int) ∧ u ≤ 65535 := by
    have h1 : IntKind.u16.min = 0 := rfl
    have h2 : IntKind.u16.max = 65535 := rfl
    simp only [Lit.wf, h1, h2, Bool.and_eq_true, decide_eq_true_eq] at w2
    exact ⟨a2.toNat, by omega, by omega⟩
  obtain ⟨u, rfl, hu⟩ := hu
  clear w0 w1 w2
  by_cases h0 : 200 < len0
  · have d0 : decide ((200 : Int) < (len0 : Int)) = true := decide_eq_true (by omega)
    go_enter Try.func6, Try.ntmps6
    go_wp2_with fail
    refine (works_any _).mono ?_
    rintro e v1 ⟨rfl, hb⟩
    go_wp2_with fail
    go_ret
    exact ⟨rfl, hb⟩
  by_cases h1 : len0 = 0
  · subst h1
    go_enter Try.func6, Try.ntmps6
    go_wp2_with fail
    refine (works_any _).mono ?_
    rintro e v1 ⟨rfl, hb⟩
    go_wp2_with fail
    go_ret
    exact ⟨rfl, hb⟩
  · have d0 : decide ((200 : Int) < (len0 : Int)) = false := decide_eq_false (by omega)
    have d1 : ((len0 : Int) == 0) = false := beq_eq_false_iff_ne.2 (by omega)
    have hpos : 0 < len0 := by omega
    clear h1
    go_enter Try.func6, Try.ntmps6
    go_wp2_with fail
    refine (new_I _).mono ?_
    rintro e v1 ⟨rfl, t1, b1, s1⟩
    have T1 : Aside (OnI w (w.heap.size + 1) w.heap.size 0 [] v1) := ⟨⟨t1, b1, by omega, by omega⟩⟩
    clear t1 b1 s1
    go_wp2_with fail
    go_loopw [8] (fun i wr => ∃ k : Nat, k ≤ len0 ∧ i = .int .i64 k ∧ OnI w (w.heap.size + 1) w.heap.size k (rng z0 k) wr) (fun i _ => len0 - (intOf i).toNat)
    case atStart => exact ⟨0, by omega, rfl, by simpa [rng_zero] using T1.out⟩
    case round =>
      obtain ⟨k, hk, rfl, hR⟩ := hrel
      have HR := Aside.mk hR
      clear hR
      by_cases c0 : k < len0
      · obtain ⟨x, rfl, hc0⟩ := W0.out.at_ HR.out.low k c0
        go_wp2_with fail
        refine (set_I _ HR.out.t _ _ (okI_nat k (by omega)) (by omega)).mono ?_
        rintro e w2 ⟨rfl, t2, u2⟩
        have HR2 := Aside.mk (HR.out.step u2 t2)
        clear t2 u2 hc0
        go_wp2_with fail
        go_roundw
        case rel =>
          refine ⟨k + 1, by omega, by go_num, ?_⟩
          rw [← rset_rng z0]; exact HR2.out
        case measure => simp [intOf]; omega
      · have hkd : decide (k < len0) = false := decide_eq_false (by omega)
        have HR0 : Aside (OnI w (w.heap.size + 1) w.heap.size len0 (rng z0 len0) wr) := by
          obtain rfl : k = len0 := by omega
          exact ⟨HR.out⟩
        clear HR T1
        have hKi : (u : Int) % (len0 : Int) = ((u % len0 : Nat) : Int) := (Int.natCast_emod u len0).symm
        have HKi := Aside.mk hKi
        have hKlt : u % len0 < len0 := Nat.mod_lt _ hpos
        have HKlt := Aside.mk hKlt
        clear hKi hKlt
        go_wp2_with fail
        rw [HKi.out]
        have hKlt := HKlt.out
        clear HKi HKlt
        generalize u % len0 = K at hKlt ⊢
        refine (set_I _ HR0.out.t _ _ (okI_nat K (by omega)) (by omega)).mono ?_
        rintro e w2 ⟨rfl, t2, u2⟩
        have HR1 := Aside.mk (HR0.out.step u2 t2)
        have HA1 := Aside.mk (AgR.start z0 len0 K a1 hKlt)
        clear t2 u2 HR0
        go_wp2_with fail
        have hl := len_I _ HR1.out.t
        rw [HA1.out.len] at hl
        have HL := Aside.mk hl
        clear hl
        refine HL.out.mono ?_
        rintro e w3 ⟨rfl, rfl⟩
        go_wp2_with fail
        go_loopw [10] (fun i wr => ∃ j : Nat, j ≤ len0 ∧ i = .int .i64 j ∧ ∃ R, AgR z0 len0 K a1 (len0 - j) R ∧ OnI w (w.heap.size + 1) w.heap.size (len0 + 1) R wr) (fun i _ => len0 - (intOf i).toNat)
        case atStart => exact ⟨0, by omega, rfl, _, HA1.out, HR1.out⟩
        case round =>
          clear HL HA1 HR1
          obtain ⟨j, hj, rfl, R, hA, hR⟩ := hrel
          have HR := Aside.mk hR
          have HA := Aside.mk hA
          clear hR hA
          by_cases cj : j < len0
          · obtain ⟨q, hq, hn, hh, hnew⟩ := AgR.step (left := len0 - (j + 1)) (by have := HA.out; rwa [show len0 - j = len0 - (j + 1) + 1 by omega] at this)
            have hnx := next_I _ HR.out.t
            have HH := Aside.mk hh
            have HNEW := Aside.mk hnew
            have HPS : Aside (∀ W, OnI w (w.heap.size + 1) w.heap.size (len0 + 1) R W → Calls Try.prog 14 #[.pointer (some ⟨w.heap.size + 1, 0, none⟩), .int .i64 (q : Int)] W fun e w' =>
                e = .returned (.bool true) ∧ OnI w (w.heap.size + 1) w.heap.size (len0 + 1) (rdrop R (q : Int)) w') := ⟨fun W hW => by
              have h := stop_I _ hW.t (q : Int) (okI_nat q (by omega))
              rw [hh] at h
              exact h.mono fun e w' ⟨he, ht, hu⟩ => ⟨he, hW.step hu ht⟩⟩
            have HPT : Aside (∀ W, OnI w (w.heap.size + 1) w.heap.size (len0 + 1) (rdrop R (q : Int)) W → Calls Try.prog 14 #[.pointer (some ⟨w.heap.size + 1, 0, none⟩), .int .i64 (q : Int)] W fun e w' =>
                e = .returned (.bool false) ∧ OnI w (w.heap.size + 1) w.heap.size (len0 + 1) (rdrop R (q : Int)) w') := ⟨fun W hW => by
              have h := stop_I _ hW.t (q : Int) (okI_nat q (by omega))
              rw [rdrop_not, rdrop_twice] at h
              exact h.mono fun e w' ⟨he, ht, hu⟩ => ⟨he, hW.step hu ht⟩⟩
            clear hh hnew
            by_cases hqK : q = K
            · subst hqK
              have hans : ansI R = .tuple #[.int .i64 (q : Int), .int .i64 a1, .bool true] := by simp [ansI, hn, encI]
              rw [hans] at hnx
              have HNX := Aside.mk hnx
              clear hnx hans hn
              go_wp2_with fail
              refine HNX.out.mono ?_
              rintro e w2 ⟨rfl, u2⟩
              have HR2 := Aside.mk (HR.out.same u2)
              clear u2 HR HNX
              go_wp2_with fail
              refine (HPS.out _ HR2.out).mono ?_
              rintro e w3 ⟨rfl, r3⟩
              have HR3 := Aside.mk r3
              clear r3
              go_wp2_with fail
              refine (HPT.out _ HR3.out).mono ?_
              rintro e w4 ⟨rfl, r4⟩
              have HR4 := Aside.mk r4
              clear r4
              go_wp2_with fail
              go_roundw
              case rel => exact ⟨j + 1, by omega, by go_num, _, HNEW.out, HR4.out⟩
              case measure => simp [intOf]; omega
            · have hans : ansI R = .tuple #[.int .i64 (q : Int), .int .i64 (z0.getD q 0), .bool true] := by simp [ansI, hn, encI, hqK]
              rw [hans] at hnx
              have HNX := Aside.mk hnx
              have hqb : ((q : Int) != (K : Int)) = true := by rw [bne_iff_ne]; omega
              clear hnx hans hn
              go_wp2_with fail
              refine HNX.out.mono ?_
              rintro e w2 ⟨rfl, u2⟩
              have HR2 := Aside.mk (HR.out.same u2)
              clear u2 HR HNX
              obtain ⟨x, rfl, hc0⟩ := W0.out.at_ HR2.out.low q hq
              simp only [List.getD_eq_getElem?_getD] at hc0 ⊢
              have hq0 : (0 : Int) ≤ (q : Int) := by omega
              have hq1 : (q : Int) < (len0 : Int) := by omega
              go_wp2_with fail
              refine (HPS.out _ HR2.out).mono ?_
              rintro e w3 ⟨rfl, r3⟩
              have HR3 := Aside.mk r3
              clear r3
              go_wp2_with fail
              refine (HPT.out _ HR3.out).mono ?_
              rintro e w4 ⟨rfl, r4⟩
              have HR4 := Aside.mk r4
              clear r4
              go_wp2_with fail
              go_roundw
              case rel => exact ⟨j + 1, by omega, by go_num, _, HNEW.out, HR4.out⟩
              case measure => simp [intOf]; omega
          · have hjd : decide (j < len0) = false := decide_eq_false (by omega)
            have hRl : R.length = 0 := by have := HA.out.len; omega
            have hRn : R = [] := List.eq_nil_of_length_eq_zero hRl
            subst hRn
            clear hRl
            have HL1 := Aside.mk (len_I _ HR.out.t)
            go_wp2_with fail
            refine HL1.out.mono ?_
            rintro e w2 ⟨rfl, rfl⟩
            go_wp2_with fail
            refine (works_any _).mono ?_
            rintro e v9 ⟨rfl, hb⟩
            have HB := Aside.mk (HR.out.low.trans (hb.mono HR.out.low.size))
            clear hb
            go_wp2_with fail
            go_ret
            exact ⟨rfl, HB.out⟩
end Go.Proofs.Ytgfpeppaimhgiaa
