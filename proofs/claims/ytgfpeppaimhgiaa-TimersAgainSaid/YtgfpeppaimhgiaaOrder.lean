/-
  Proved: 'TimersOrder' returns true and writes nothing that was there: the walk. No condition.
-/
import Derived.Test.YtgfpeppaimhgiaaApart
import Derived.Test.YtgfpeppaimhgiaaPlainc
import Derived.Deep.QuietTactic
import Derived.BigQuiet
namespace Go.Proofs.Ytgfpeppaimhgiaa
open Go.RowKit
set_option linter.unusedVariables false
set_option linter.unusedSimpArgs false

structure OnI (w : World) (b m k : Nat) (R : List (Int × Int)) (wr : World) : Prop where
  t : TI wr b m k R
  low : Below w.heap.size w wr
  p : w.heap.size ≤ b
  q : w.heap.size ≤ m
theorem OnI.step {w : World} {b m k k' : Nat} {R R' : List (Int × Int)} {wr w2 : World} (h : OnI w b m k R wr) (u : Upd (Two b m) wr w2) (t : TI w2 b m k' R') : OnI w b m k' R' w2 :=
  ⟨t, below_upd h.low h.low.size u h.p h.q, h.p, h.q⟩
theorem OnI.same {w : World} {b m k : Nat} {R : List (Int × Int)} {wr w2 : World} (h : OnI w b m k R wr) (u : Upd (fun _ => False) wr w2) : OnI w b m k R w2 :=
  h.step (u.mono (fun _ h => h.elim)) (h.t.upd u (fun h => h) (fun h => h))
theorem OnI.mark {w : World} {b m k s : Nat} {R : List (Int × Int)} {wr : World} (h : OnI w b m k R wr) (hs : ¬ Two b m s) (hw : w.heap.size ≤ s) (q : Nat) (v : Value) : OnI w b m k R (wr.setCell ⟨s, q, none⟩ v) :=
  ⟨h.t.upd ((Upd.refl (Just s) wr).setCell ⟨s, q, none⟩ v (fun _ => rfl)) (fun e => hs (.inl (show b = s from e).symm)) (fun e => hs (.inr (show m = s from e).symm)), h.low.setCell (p := ⟨s, q, none⟩) hw v, h.p, h.q⟩
theorem info4 : (Try.prog.info? 4).map (fun i => (i.zero, i.size, i.bytes)) = some (some (.bool false), 1, 1) := by kernel_rfl
theorem made_bools (n : Nat) : madeCells (Value.bool false).cells (n * 1) = Array.replicate n (.bool false) := by
  apply Array.ext_getElem?
  intro i
  simp [madeCells, Value.cells, Array.getElem?_replicate]
  by_cases h : i < n
  · simp [h, Nat.mod_one]
  · simp [h]
theorem run_make_bools (n : Nat) (h : n ≤ 1000) (w : World) :
    (Instr.makeSlice 41 (.int .i64 (n : Int)) (.int .i64 (n : Int))).run Try.prog w = .ok (.slice (some ⟨w.heap.size, 0, none⟩) n n) (w.alloc (.cells (Array.replicate n (.bool false)) 4)) := by
  obtain ⟨i0, hi, hz0, hz1, hz2⟩ := info_parts info4
  have := run_make (P := Try.prog) w 41 4 i0 _ Try.underlying41 hi hz0 .i64 .i64 (n : Int) (n : Int) (by omega) (by omega) (by rw [hz2]; omega) (by omega)
  rw [this, hz1]
  simp only [Int.toNat_natCast, made_bools]

theorem IsRow.bd {w : World} {a : Option Addr} {len cap : Nat} {zs : List Int} (h : IsRow .i64 w a len cap zs) (i : Nat) (hi : i < len) : -9223372036854775808 ≤ zs.getD i 0 ∧ zs.getD i 0 ≤ 9223372036854775807 := by
  rcases h with ⟨_, rfl, _, _⟩ | ⟨x, rfl, h1, h2, h3, h4, h5⟩
  · omega
  · have hm : zs.getD i 0 ∈ zs := by
      rw [List.getD_eq_getElem?_getD, List.getElem?_eq_getElem (by omega)]
      simp
    have := h5 _ hm
    have e1 : IntKind.i64.min = -9223372036854775808 := rfl
    have e2 : IntKind.i64.max = 9223372036854775807 := rfl
    simp only [Lit.wf, e1, e2, Bool.and_eq_true, decide_eq_true_eq] at this
    exact this
def lastOf : Option Nat → Value
  | none => .int .i64 (-1)
  | some q => .int .i64 (q : Int)

set_option maxHeartbeats 1000000 in
set_option maxRecDepth 100000 in
theorem order_walk (a0 : Option Addr) (len0 cap0 : Nat) (z0 : List Int) (w : World) (w0 : IsRow .i64 w a0 len0 cap0 z0) :
    Calls Try.prog 4 #[.slice a0 len0 cap0] w fun e w' => e = .returned (.bool true) ∧ Below w.heap.size w w' := by
  have l0 := w0.le
  unfold maxLen at l0
  have W0 := Aside.mk w0
  clear w0
  by_cases h0 : 200 < len0
  · have d0 : decide ((200 : Int) < (len0 : Int)) = true := decide_eq_true (by omega)
    go_enter Try.func4, Try.ntmps4
    go_wp2_with fail
    refine (works_any _).mono ?_
    rintro e v1 ⟨rfl, hb⟩
    go_wp2_with fail
    go_ret
    exact ⟨rfl, hb⟩
  · have d0 : decide ((200 : Int) < (len0 : Int)) = false := decide_eq_false (by omega)
    go_enter Try.func4, Try.ntmps4
    go_wp2_with fail
    refine (new_I _).mono ?_
    rintro e v1 ⟨rfl, t1, b1, s1⟩
    have T1 : Aside (OnI w (w.heap.size + 1) w.heap.size 0 [] v1) := ⟨⟨t1, b1, by omega, by omega⟩⟩
    clear t1 b1 s1
    go_wp2_with fail
    go_loopw [4] (fun i wr => ∃ k : Nat, k ≤ len0 ∧ i = .int .i64 k ∧ OnI w (w.heap.size + 1) w.heap.size k (rng z0 k) wr) (fun i _ => len0 - (intOf i).toNat)
    case atStart => exact ⟨0, by omega, rfl, by simpa [rng_zero] using T1.out⟩
    case round =>
      obtain ⟨k, hk, rfl, hR⟩ := hrel
      have HR := Aside.mk hR
      clear hR
      by_cases c0 : k < len0
      · obtain ⟨x, rfl, hc0⟩ := W0.out.at_ HR.out.low k c0
        go_wp2_with fail
        refine (set_I _ HR.out.t _ _ (okI_nat k (by omega)) (by omega)).mono ?_
        rintro e w2 ⟨rfl, t2, u2⟩
        have HR2 := Aside.mk (HR.out.step u2 t2)
        clear t2 u2 hc0
        go_wp2_with fail
        go_roundw
        case rel =>
          refine ⟨k + 1, by omega, by go_num, ?_⟩
          rw [← rset_rng z0]; exact HR2.out
        case measure => simp [intOf]; omega
      · have hkd : decide (k < len0) = false := decide_eq_false (by omega)
        have HR0 : Aside (OnI w (w.heap.size + 1) w.heap.size len0 (rng z0 len0) wr) := by
          obtain rfl : k = len0 := by omega
          exact ⟨HR.out⟩
        clear HR T1
        have hmk := run_make_bools len0 (by omega) wr
        have hs : (wr.alloc (.cells (Array.replicate len0 (.bool false)) 4)).heap[wr.heap.size]? = some (.cells (seenOf len0 (rng z0 len0)) 4) := by
          rw [seenOf_start]; exact heap_alloc_new _ _
        have HS := Aside.mk hs
        have HR1 := Aside.mk (HR0.out.same ((Upd.refl _ _).alloc (.cells (Array.replicate len0 (.bool false)) 4)))
        have hwlt := HR0.out.low.size
        have htb := HR0.out.t.lt
        clear hs HR0
        go_wp2_with fail
        have hsb : ¬ Two (w.heap.size + 1) w.heap.size wr.heap.size := by unfold Two; omega
        have hsw : w.heap.size ≤ wr.heap.size := by omega
        clear htb hwlt hmk
        obtain ⟨s, hse⟩ : ∃ s, s = wr.heap.size := ⟨_, rfl⟩
        rw [← hse] at HS hsb hsw ⊢
        clear hse
        go_loopw [6, 7] (fun lv i wr => ∃ j : Nat, j ≤ len0 ∧ i = .int .i64 j ∧ ∃ last R, lv = lastOf last ∧ OrdR z0 len0 (len0 - j) last R ∧ OnI w (w.heap.size + 1) w.heap.size len0 R wr ∧ wr.heap[s]? = some (.cells (seenOf len0 R) 4)) (fun lv i _ => len0 - (intOf i).toNat)
        case atStart => exact ⟨0, by omega, rfl, none, _, rfl, OrdR.start z0 len0, HR1.out, HS.out⟩
        case round =>
          clear HR1 HS
          obtain ⟨j, hj, rfl, last, R, rfl, hO, hR, hS⟩ := hrel
          have HR := Aside.mk hR
          have HO := Aside.mk hO
          have HS := Aside.mk hS
          clear hR hO hS
          by_cases cj : j < len0
          · obtain ⟨q, hq, hn, hh, hl, hnew⟩ := OrdR.step (left := len0 - (j + 1)) (by have := HO.out; rwa [show len0 - j = len0 - (j + 1) + 1 by omega] at this)
            have hnx := next_I _ HR.out.t
            have hans : ansI R = .tuple #[.int .i64 (q : Int), .int .i64 (z0.getD q 0), .bool true] := by simp [ansI, hn, encI]
            rw [hans] at hnx
            have HNX := Aside.mk hnx
            have HN := Aside.mk hn
            have HH := Aside.mk hh
            have HL := Aside.mk hl
            have HNEW := Aside.mk hnew
            clear hnx hans hn hh hl hnew
            go_wp2_with fail
            refine HNX.out.mono ?_
            rintro e w2 ⟨rfl, u2⟩
            have HR2 := Aside.mk (HR.out.same u2)
            have HS2 := Aside.mk (u2.heap HS.out (fun h => h))
            clear u2 HR HS HNX
            obtain ⟨x, rfl, hc0⟩ := W0.out.at_ HR2.out.low q hq
            simp only [List.getD_eq_getElem?_getD] at hc0
            have hcs : w2.cell? ⟨s, q, none⟩ = some (.bool false) := by
              have := seenOf_at len0 R q hq
              rw [HH.out] at this
              simp [World.cell?, HS2.out, this]
            have hq0 : (0 : Int) ≤ (q : Int) := by omega
            have hq1 : (q : Int) < (len0 : Int) := by omega
            simp only [List.getD_eq_getElem?_getD]
            have HPX : Aside (∀ W, OnI w (w.heap.size + 1) w.heap.size len0 R W → Calls Try.prog 18 #[.pointer (some ⟨w.heap.size + 1, 0, none⟩), .int .i64 (z0[q]?.getD 0)] W fun e w' =>
                e = .returned (.tuple #[.int .i64 (q : Int), .bool true]) ∧ OnI w (w.heap.size + 1) w.heap.size len0 (rdrop R (q : Int)) w' ∧ Upd (Two (w.heap.size + 1) w.heap.size) W w') := ⟨fun W hW => by
              have h := pop_I _ hW.t (z0[q]?.getD 0)
              have hd : due R (z0[q]?.getD 0) = some (q : Int) := by simp [due, HN.out]
              have h1 : popAnsI R (z0[q]?.getD 0) = .tuple #[.int .i64 (q : Int), .bool true] := by simp [popAnsI, hd, encI]
              have h2 : rpop R (z0[q]?.getD 0) = rdrop R (q : Int) := by simp [rpop, hd]
              rw [h1, h2] at h
              exact h.mono fun e w' ⟨he, ht, hu⟩ => ⟨he, hW.step hu ht, hu⟩⟩
            have HPE : Aside (∀ W now, OnI w (w.heap.size + 1) w.heap.size len0 R W → now < z0[q]?.getD 0 → Calls Try.prog 18 #[.pointer (some ⟨w.heap.size + 1, 0, none⟩), .int .i64 now] W fun e w' =>
                e = .returned (.tuple #[.int .i64 0, .bool false]) ∧ OnI w (w.heap.size + 1) w.heap.size len0 R w' ∧ Upd (Two (w.heap.size + 1) w.heap.size) W w') := ⟨fun W now hW hlt => by
              have h := pop_I _ hW.t now
              have hd : due R now = none := by simp [due, HN.out]; exact hlt
              have h1 : popAnsI R now = .tuple #[.int .i64 0, .bool false] := by simp [popAnsI, hd]
              have h2 : rpop R now = R := by simp [rpop, hd]
              rw [h1, h2] at h
              exact h.mono fun e w' ⟨he, ht, hu⟩ => ⟨he, hW.step hu ht, hu⟩⟩
            obtain ⟨zlo, zhi⟩ := W0.out.bd q hq
            simp only [List.getD_eq_getElem?_getD] at zlo zhi
            rcases last with _ | q0
            all_goals (simp only [lastOf])
            case' none =>
              go_wp2_with fail
              go_quiet (fail)
            case' some =>
              obtain ⟨hq0n, hlt⟩ := HL.out q0 rfl
              obtain ⟨x', hx', hc1⟩ := W0.out.at_ HR2.out.low q0 hq0n
              injection hx' with hx'
              subst hx'
              simp only [List.getD_eq_getElem?_getD] at hc1 hlt
              have hr0 : (0 : Int) ≤ (q0 : Int) := by omega
              have hr1 : (q0 : Int) < (len0 : Int) := by omega
              have hd1 : decide (z0[q]?.getD 0 < z0[q0]?.getD 0) = false := decide_eq_false (by omega)
              rcases hlt with hlt | ⟨heq, hlt⟩
              case' inl =>
                have hb1 : (z0[q0]?.getD 0 == z0[q]?.getD 0) = false := beq_eq_false_iff_ne.2 (by omega)
                clear hlt
                go_wp2_with fail
                go_quiet (fail)
              case' inr =>
                have hb1 : (z0[q0]?.getD 0 == z0[q]?.getD 0) = true := beq_iff_eq.2 heq
                have hb2 : decide (q < q0) = false := decide_eq_false (by omega)
                clear heq hlt
                go_wp2_with fail
                go_quiet (fail)
            all_goals
              generalize hw3 : w2.drewN _ = w3
              have HR3 : Aside (OnI w (w.heap.size + 1) w.heap.size len0 R w3) := ⟨by rw [← hw3]; exact HR2.out.same ((Upd.refl _ _).drewN _)⟩
              have HS3 : Aside (w3.heap[s]? = some (.cells (seenOf len0 R) 4)) := ⟨by rw [← hw3]; exact ((Upd.refl (fun _ => False) w2).drewN _).heap HS2.out (fun h => h)⟩
              clear hw3
              by_cases hx : -9223372036854775808 < z0[q]?.getD 0
            all_goals
              first
              | (have hx1 : -9223372036854775808 < z0[q]?.getD 0 := hx
                 go_wp2_with fail
                 refine (HPE.out _ _ HR3.out (by omega)).mono ?_
                 rintro e w4 ⟨rfl, r4, u4⟩
                 have HR4 := Aside.mk r4
                 have HS4 := Aside.mk (u4.heap HS3.out hsb)
                 clear r4 u4)
              | (have hx1 : ¬ -9223372036854775808 < z0[q]?.getD 0 := hx
                 have HR4 := HR3
                 have HS4 := HS3
                 clear hx1)
            all_goals
              go_wp2_with fail
              refine (HPX.out _ HR4.out).mono ?_
              rintro e w5 ⟨rfl, r5, u5⟩
              have HR5 := Aside.mk r5
              have HS5 := Aside.mk (u5.heap HS4.out hsb)
              clear r5 u5
              have hql : ((rdrop R (q : Int)).length : Int) = (len0 : Int) - 1 - (j : Int) := by
                have := HNEW.out.len
                omega
              have HLEN := len_I _ HR5.out.t
              rw [hql] at HLEN
              have HLEN' := Aside.mk HLEN
              clear HLEN hql
              go_wp2_with fail
              refine HLEN'.out.mono ?_
              rintro e w6 ⟨rfl, rfl⟩
              have hcs5 : w5.cell? ⟨s, q, none⟩ = some (.bool false) := by
                have := seenOf_at len0 R q hq
                rw [HH.out] at this
                simp [World.cell?, HS5.out, this]
              have hfs5 : w5.frozen? ⟨s, q, none⟩ = false := by simp [World.frozen?, HS5.out]
              go_wp2_with fail
            all_goals
              refine ⟨⟨j + 1, by omega, by go_num, some q, _, rfl, ?_, HR5.out.mark hsb hsw q _, ?_⟩, by simp [intOf]; omega⟩
              · exact HNEW.out
              · rw [setCell_block HS5.out, seenOf_set _ _ _ hq]
          · have hjd : decide (j < len0) = false := decide_eq_false (by omega)
            have hRn : R = [] := OrdR.done (by have := HO.out; rwa [show len0 - j = 0 by omega] at this)
            subst hRn
            have hnx := next_I _ HR.out.t
            have HNX : Aside (Calls Try.prog 16 #[.pointer (some ⟨w.heap.size + 1, 0, none⟩)] wr fun e w' => e = .returned (.tuple #[.int .i64 0, .int .i64 0, .bool false]) ∧ Upd (fun _ => False) wr w') := ⟨hnx⟩
            clear hnx
            go_wp2_with fail
            refine HNX.out.mono ?_
            rintro e w2 ⟨rfl, u2⟩
            have HR2 := Aside.mk (HR.out.same u2)
            clear u2
            go_wp2_with fail
            have hp := pop_I _ HR2.out.t 9223372036854775807
            have HP : Aside (Calls Try.prog 18 #[.pointer (some ⟨w.heap.size + 1, 0, none⟩), .int .i64 9223372036854775807] w2 fun e w' => e = .returned (.tuple #[.int .i64 0, .bool false]) ∧ OnI w (w.heap.size + 1) w.heap.size len0 [] w') :=
              ⟨hp.mono fun e w' ⟨he, ht, hu⟩ => ⟨he, HR2.out.step hu ht⟩⟩
            clear hp
            refine HP.out.mono ?_
            rintro e w3 ⟨rfl, r3⟩
            have HR3 := Aside.mk r3
            clear r3
            go_wp2_with fail
            refine (works_any _).mono ?_
            rintro e v9 ⟨rfl, hb⟩
            have HB := Aside.mk (HR3.out.low.trans (hb.mono HR3.out.low.size))
            clear hb
            go_wp2_with fail
            go_ret
            exact ⟨rfl, HB.out⟩
end Go.Proofs.Ytgfpeppaimhgiaa
