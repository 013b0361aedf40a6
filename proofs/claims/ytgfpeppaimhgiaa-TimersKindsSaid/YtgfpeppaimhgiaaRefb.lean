/-
  Proved: what the reference's methods Stop, Set, Next and Pop do to memory and what they answer, in the words of the plain list of keys with their times. Conditions: the keys of the list are apart; it is shorter than a thousand.
-/
import Derived.Test.YtgfpeppaimhgiaaRef
import Derived.Deep.QuietTactic
import Derived.BigQuiet
namespace Go.Proofs.Ytgfpeppaimhgiaa
open Go.RowKit
set_option linter.unusedVariables false
set_option linter.unusedSimpArgs false

theorem rhas_split {R : List (Int × Int)} (hn : (R.map (·.1)).Nodup) {k : Int} (h : rhas R k = true) : ∃ A t B, R = A ++ (k, t) :: B ∧ (∀ q ∈ A, q.1 ≠ k) ∧ rdrop R k = A ++ B := by
  obtain ⟨p, hp, hk⟩ := rhas_iff.1 h
  obtain ⟨A, B, rfl⟩ := List.append_of_mem hp
  obtain ⟨p1, t⟩ := p
  simp only at hk
  subst hk
  rw [List.map_append, List.map_cons, List.nodup_append] at hn
  have hA : ∀ q ∈ A, q.1 ≠ p1 := fun q hq => hn.2.2 q.1 (List.mem_map_of_mem hq) p1 (by simp)
  have hB : ∀ q ∈ B, q.1 ≠ p1 := fun q hq e => (List.nodup_cons.1 hn.2.1).1 (List.mem_map.2 ⟨q, hq, e⟩)
  refine ⟨A, t, B, rfl, hA, ?_⟩
  unfold rdrop
  rw [List.filter_append, List.filter_cons_of_neg (by simp), List.filter_eq_self.2 (fun q hq => decide_eq_true (hA q hq)), List.filter_eq_self.2 (fun q hq => decide_eq_true (hB q hq))]

theorem rstop_any (w : World) {p base : Nat} {v : Value} {R : List (Int × Int)} (h : RefT w p base v R) (hb : base ≤ w.heap.size) (hl : R.length ≤ 1000) (hn : (R.map (·.1)).Nodup) (k : Int) :
    Calls Try.prog 15 #[.pointer (some ⟨p, 0, none⟩), .int .i64 k] w fun e w' => e = .returned (.bool (rhas R k)) ∧ (∃ v', RefT w' p base v' (rdrop R k)) ∧ Upd (RefS w base p) w w' := by
  cases hh : rhas R k with
  | true =>
    obtain ⟨A, t, B, hR, hA, hd⟩ := rhas_split hn hh
    rw [hd]
    exact rstop_some w h hb hl k t hR hA
  | false =>
    have hne : ∀ q ∈ R, q.1 ≠ k := fun q hq e => by
      have : rhas R k = true := rhas_iff.2 ⟨q, hq, e⟩
      rw [hh] at this
      cases this
    rw [rdrop_fresh hne]
    exact (rstop_none w h hl k hne).mono fun e w' ⟨he, hw⟩ => ⟨he, ⟨v, hw ▸ h⟩, hw ▸ Upd.refl _ _⟩

theorem refS_upd {w w2 : World} {base p i : Nat} (u : Upd (RefS w base p) w w2) (hi : i < w.heap.size) (h : ¬ RefS w base p i) : ¬ RefS w2 base p i := by
  rintro (e | ⟨hb, cs, fr, h2⟩)
  · exact h (.inl e)
  · rw [u.block i hi h] at h2
    exact h (.inr ⟨hb, cs, fr, h2⟩)
theorem refS_trans {w w2 w3 : World} {base p : Nat} (u : Upd (RefS w base p) w w2) (u2 : Upd (RefS w2 base p) w2 w3) : Upd (RefS w base p) w w3 :=
  ⟨u2.os.trans u.os, u2.tape.trans u.tape, u2.output.trans u.output, Nat.le_trans u.size u2.size, fun i hi h => (u2.block i (Nat.lt_of_lt_of_le hi u.size) (refS_upd u hi h)).trans (u.block i hi h)⟩
theorem refS_below {w w2 : World} {base p : Nat} (u : Upd (RefS w base p) w w2) (hp : base ≤ p) (hb : base ≤ w.heap.size) : Below base w w2 :=
  u.below hb (fun i hi => by rcases hi with rfl | ⟨h, _⟩ <;> omega)

set_option maxHeartbeats 2000000 in
theorem rset_any (w : World) {p base : Nat} {v : Value} {R : List (Int × Int)} (h : RefT w p base v R) (hb : base ≤ w.heap.size) (hl : R.length ≤ 900) (hn : (R.map (·.1)).Nodup) (k t : Int) :
    Calls Try.prog 13 #[.pointer (some ⟨p, 0, none⟩), .int .i64 k, .int .i64 t] w fun e w' => e = .returned (.tuple #[]) ∧ (∃ v', RefT w' p base v' (rset R k t)) ∧ Upd (RefS w base p) w w' := by
  have HS := Aside.mk (rstop_any w h hb (by omega) hn k)
  obtain ⟨i0, hi0, hz0, hz1, hz2⟩ := info_parts info78
  have hdl : (rdrop R k).length ≤ 900 := Nat.le_trans (List.length_filter_le _ _) hl
  clear h
  go_enter Try.func13, Try.ntmps13
  go_wp2_with fail
  refine HS.out.mono ?_
  rintro e w2 ⟨rfl, ⟨v2, h2⟩, u2⟩
  have hb2 : base ≤ w2.heap.size := Nat.le_trans hb u2.size
  have hpl := lt_of_block h2.blk
  have h3 : RefT (w2.alloc (.cells #[.int .i64 k, .int .i64 t] 78)) p base v2 (rdrop R k) := ⟨(Below.heap_alloc w2 _ p hpl).trans h2.blk, h2.own.alloc _, h2.hp⟩
  obtain ⟨v4, w4, hrun4, hown4, hgr4, _, hob4⟩ := run_append_own_at (P := Try.prog) (w2.alloc (.cells #[.int .i64 k, .int .i64 t] 78)) base 27 27 78 i0 _ 2 16 Try.underlying27 hi0 hz0 hz1 hz2 rfl (by omega) v2 _ _ h3.own
    ⟨w2.heap.size, 0, none⟩ 1 1 (flat [(k, t)]) rfl (World.news_of_block (cs := #[.int .i64 k, .int .i64 t]) (t := 78) (fr := (0, 0)) (heap_alloc_new w2 _)) (flat_one _) (by unfold maxLen; omega) (by omega) (by simp; omega)
  have hp4 : w4.heap[p]? = some (.cells #[v2] 29) := by rw [hgr4.block p (lt_of_block h3.blk) (fun e => h3.ne e.symm)]; exact h3.blk
  have hu4 : Upd (RefS w2 base p) w2 w4 := ⟨hgr4.os, hgr4.tape, hgr4.output, Nat.le_trans (by simp) hgr4.size, fun i hi hni =>
    (hgr4.block i (by simp; omega) (fun e => hni (.inr (own_block h2.own e.symm)))).trans (Below.heap_alloc w2 _ i hi)⟩
  obtain ⟨A4, c4, rfl⟩ := own_slice hown4
  obtain ⟨A2, c2, rfl⟩ := own_slice h2.own
  have hc2 := h2.cell
  have hc4 : w4.cell? ⟨p, 0, none⟩ = some (.slice A2 (rdrop R k).length c2) := by simp [World.cell?, hp4]
  have hf4 : w4.frozen? ⟨p, 0, none⟩ = false := by simp [World.frozen?, hp4]
  have HRUN := Aside.mk hrun4
  have HO := Aside.mk hown4
  have HP := Aside.mk hp4
  have HU := Aside.mk (refS_trans u2 hu4)
  have HHp := Aside.mk h2.hp
  clear hrun4 hown4 hp4 u2 hu4 h2 h3 hgr4 hob4 HS hpl
  go_wp2_with (at_builtin; refine wpList_append_run 27 _ _ _ _ rfl rfl rfl rfl HRUN.out ?_)
  go_end0
  refine ⟨rfl, ⟨_, RefT.put HP.out ?_ HHp.out⟩, HU.out.setCell _ _ (fun _ => .inl rfl)⟩
  unfold rset
  rw [flat_append, List.length_append]
  exact HO.out

theorem nxt_snoc {L : List (Int × Int)} {q y : Int × Int} (h : nxt L = some q) : nxt (L ++ [y]) = some (earlier q y) := by
  cases L with
  | nil => simp [nxt] at h
  | cons x r =>
    simp only [nxt, Option.some.injEq] at h
    simp [nxt, h]
theorem take_snoc_ {R : List (Int × Int)} {j : Nat} (h : j < R.length) : R.take (j + 1) = R.take j ++ [R[j]] := by
  rw [List.take_succ_eq_append_getElem h]

set_option maxHeartbeats 2000000 in
theorem rnext_any (w : World) {p base : Nat} {v : Value} {R : List (Int × Int)} (h : RefT w p base v R) (hl : R.length ≤ 1000) :
    Calls Try.prog 17 #[.pointer (some ⟨p, 0, none⟩)] w fun e w' => e = .returned (ansI R) ∧ Upd (fun _ => False) w w' := by
  have hc := h.cell
  have hpl := lt_of_block h.blk
  obtain ⟨A, cap, rfl, hcap, hcm, hcell⟩ := h.form
  have HC := Aside.mk hcell
  clear h hcell
  by_cases hR : R = []
  · subst hR
    have ha : ansI [] = .tuple #[.int .i64 0, .int .i64 0, .bool false] := rfl
    rw [ha]
    have h0 : ((([] : List (Int × Int)).length : Int) == 0) = true := rfl
    go_enter Try.func17, Try.ntmps17
    go_wp2
    go_ret3
    exact ⟨rfl, Upd.refl _ _⟩
  · have hpos : 0 < R.length := by
      rcases R with _ | ⟨x, R⟩
      · exact absurd rfl hR
      · simp
    have h0 : ((R.length : Int) == 0) = false := beq_eq_false_iff_ne.2 (by omega)
    obtain ⟨g, rfl, c0, c1⟩ := HC.out 0 R[0] (List.getElem?_eq_getElem hpos)
    have hgl : g < w.heap.size := World.block_lt_of_cell? _ _ c0
    have h1 : nxt (R.take 1) = some R[0] := by
      rw [take_snoc_ hpos]
      rfl
    have H1 := Aside.mk h1
    clear h1 hR
    generalize R[0] = x0 at c0 c1 H1
    have hst : Upd (fun _ => False) w (w.alloc (.cells #[.int .i64 x0.1, .int .i64 x0.2] 78)) ∧ (w.alloc (.cells #[.int .i64 x0.1, .int .i64 x0.2] 78)).heap[w.heap.size]? = some (.cells #[.int .i64 x0.1, .int .i64 x0.2] 78) :=
      ⟨(Upd.refl _ w).alloc _, heap_alloc_new w _⟩
    have HST := Aside.mk hst
    simp only [Nat.zero_mul, Nat.zero_add] at c0 c1
    clear hst
    go_enter Try.func17, Try.ntmps17
    go_wp2
    go_loopw [6] (fun i wr => ∃ j : Nat, 1 ≤ j ∧ j ≤ R.length ∧ i = .int .i64 j ∧ ∃ q, nxt (R.take j) = some q ∧ Upd (fun _ => False) w wr ∧ wr.heap[w.heap.size]? = some (.cells #[.int .i64 q.1, .int .i64 q.2] 78)) (fun i _ => R.length - (intOf i).toNat)
    case atStart => exact ⟨1, by omega, by omega, rfl, _, H1.out, HST.out.1, HST.out.2⟩
    case round =>
      obtain ⟨j, hj1, hj, rfl, q, hq, hu, hx⟩ := hrel
      have HQ := Aside.mk hq
      have HU := Aside.mk hu
      have HX := Aside.mk hx
      have hc' : wr.cell? ⟨p, 0, none⟩ = some (.slice (some ⟨g, 0, none⟩) R.length cap) := (hu.cell (p := ⟨p, 0, none⟩) hpl (fun h => h)).trans hc
      have x0' : wr.cell? ⟨w.heap.size, 0, none⟩ = some (.int .i64 q.1) := by simp [World.cell?, hx]
      have x1' : wr.cell? ⟨w.heap.size, 1, none⟩ = some (.int .i64 q.2) := by simp [World.cell?, hx]
      have f0 : wr.frozen? ⟨w.heap.size, 0, none⟩ = false := by simp [World.frozen?, hx]
      have f1 : wr.frozen? ⟨w.heap.size, 1, none⟩ = false := by simp [World.frozen?, hx]
      clear hq hx
      by_cases cj : j < R.length
      · obtain ⟨g', hg', d0, d1⟩ := HC.out j R[j] (List.getElem?_eq_getElem cj)
        injection hg' with hg'
        injection hg' with hg'
        subst hg'
        have hsn := nxt_snoc (y := R[j]) HQ.out
        rw [← take_snoc_ cj] at hsn
        generalize R[j] = y at d0 d1 hsn
        have HSN := Aside.mk hsn
        have e0 : wr.cell? ⟨g, j * 2, none⟩ = some (.int .i64 y.1) := (hu.cell (p := ⟨g, j * 2, none⟩) hgl (fun h => h)).trans d0
        have e1 : wr.cell? ⟨g, j * 2 + 1, none⟩ = some (.int .i64 y.2) := (hu.cell (p := ⟨g, j * 2 + 1, none⟩) hgl (fun h => h)).trans d1
        have hj0 : (0 : Int) ≤ (j : Int) := by omega
        have hjl : (j : Int) < (R.length : Int) := by omega
        clear hu hsn d0 d1
        by_cases hlt : y.2 < q.2
        · have hd : decide (y.2 < q.2) = true := decide_eq_true hlt
          have HE : Aside (earlier q y = y) := ⟨if_pos hlt⟩
          clear hlt
          go_wp2_with fail
          go_quiet (fail)
          go_wp2_with fail
          go_roundw
          case rel =>
            refine ⟨j + 1, by omega, by omega, by go_num, y, by rw [HSN.out, HE.out], ?_, ?_⟩
            · exact ((HU.out.drewN _).setCell ⟨w.heap.size, 0, none⟩ _ (fun h => absurd h (Nat.lt_irrefl _))).setCell ⟨w.heap.size, 1, none⟩ _ (fun h => absurd h (Nat.lt_irrefl _))
            · exact first_set (W1 := wr.drewN _) HX.out
          case measure => simp [intOf]; omega
        · have hd : decide (y.2 < q.2) = false := decide_eq_false hlt
          have HE : Aside (earlier q y = q) := ⟨if_neg hlt⟩
          clear hlt
          go_wp2_with fail
          go_quiet (fail)
          go_wp2_with fail
          go_roundw
          case rel => exact ⟨j + 1, by omega, by omega, by go_num, q, by rw [HSN.out, HE.out], HU.out.drewN _, HX.out⟩
          case measure => simp [intOf]; omega
      · have hd : decide (j < R.length) = false := decide_eq_false cj
        have ha : ansI R = .tuple #[.int .i64 q.1, .int .i64 q.2, .bool true] := by
          have := HQ.out
          rw [List.take_of_length_le (by omega)] at this
          simp [ansI, this, encI]
        have HA := Aside.mk ha
        clear hu ha
        go_wp2_with fail
        go_quiet (fail)
        go_wp2_with fail
        go_ret3
        exact ⟨by rw [HA.out]; rfl, HU.out.drewN _⟩

set_option maxHeartbeats 2000000 in
theorem rpop_any (w : World) {p base : Nat} {v : Value} {R : List (Int × Int)} (h : RefT w p base v R) (hb : base ≤ w.heap.size) (hl : R.length ≤ 1000) (hn : (R.map (·.1)).Nodup) (now : Int) :
    Calls Try.prog 19 #[.pointer (some ⟨p, 0, none⟩), .int .i64 now] w fun e w' => e = .returned (popAnsI R now) ∧ (∃ v', RefT w' p base v' (rpop R now)) ∧ Upd (RefS w base p) w w' := by
  have HN := rnext_any w h hl
  have hstay : ∀ w2, Upd (fun _ => False) w w2 → RefT w2 p base v R := fun w2 u => ⟨u.heap h.blk (fun h => h), h.own.kept (row := none) ⟨u.os, u.tape, u.output, u.size, fun i hi _ => u.block i hi (fun h => h)⟩ (by cases v.ownBlock <;> simp), h.hp⟩
  have HSt := Aside.mk hstay
  cases hx : nxt R with
  | none =>
    have ha : ansI R = .tuple #[.int .i64 0, .int .i64 0, .bool false] := by simp [ansI, hx]
    have hp : popAnsI R now = .tuple #[.int .i64 0, .bool false] := by simp [popAnsI, due, hx]
    have hr : rpop R now = R := by simp [rpop, due, hx]
    rw [ha] at HN
    rw [hp, hr]
    have HN' := Aside.mk HN
    clear HN h ha hp hr hx hstay hn
    go_enter Try.func19, Try.ntmps19
    go_wp2_with fail
    refine HN'.out.mono ?_
    rintro e w2 ⟨rfl, hu⟩
    have HU := Aside.mk hu
    clear hu
    go_wp2_with fail
    go_ret2
    exact ⟨rfl, ⟨v, HSt.out _ HU.out⟩, HU.out.mono (fun _ h => h.elim)⟩
  | some q =>
    have ha : ansI R = .tuple #[.int .i64 q.1, .int .i64 q.2, .bool true] := by simp [ansI, hx, encI]
    have hhas := rhas_of_mem (nxt_mem hx)
    rw [ha] at HN
    obtain ⟨k, t⟩ := q
    simp only at HN hhas
    by_cases hlt : now < t
    · have hp : popAnsI R now = .tuple #[.int .i64 0, .bool false] := by simp [popAnsI, due, hx, hlt]
      have hr : rpop R now = R := by simp [rpop, due, hx, hlt]
      rw [hp, hr]
      have HN' := Aside.mk HN
      clear HN h ha hp hr hx hstay hn hhas
      go_enter Try.func19, Try.ntmps19
      go_wp2_with fail
      refine HN'.out.mono ?_
      rintro e w2 ⟨rfl, hu⟩
      have HU := Aside.mk hu
      clear hu
      go_wp2_with fail
      go_ret2
      exact ⟨rfl, ⟨v, HSt.out _ HU.out⟩, HU.out.mono (fun _ h => h.elim)⟩
    · have hp : popAnsI R now = .tuple #[.int .i64 k, .bool true] := by simp [popAnsI, due, hx, hlt, encI]
      have hr : rpop R now = rdrop R k := by simp [rpop, due, hx, hlt]
      rw [hp, hr]
      have HN' := Aside.mk HN
      have HS : Aside (∀ w2, Upd (fun _ => False) w w2 → Calls Try.prog 15 #[.pointer (some ⟨p, 0, none⟩), .int .i64 k] w2 fun e w' => e = .returned (.bool true) ∧ (∃ v', RefT w' p base v' (rdrop R k)) ∧ Upd (RefS w base p) w w') := ⟨fun w2 u => by
        have h1 := rstop_any w2 (hstay w2 u) (Nat.le_trans hb u.size) hl hn k
        rw [hhas] at h1
        exact h1.mono fun e w' ⟨he, hv, hu⟩ => ⟨he, hv, refS_trans (u.mono (fun _ h => h.elim)) hu⟩⟩
      clear HN h ha hp hr hx hstay hn hhas
      go_enter Try.func19, Try.ntmps19
      go_wp2_with fail
      refine HN'.out.mono ?_
      rintro e w2 ⟨rfl, hu⟩
      have HU := Aside.mk hu
      clear hu
      go_wp2_with fail
      refine (HS.out _ HU.out).mono ?_
      rintro e w3 ⟨rfl, hv, hu3⟩
      have HV := Aside.mk hv
      have HU3 := Aside.mk hu3
      clear hv hu3
      go_wp2_with fail
      go_ret2
      exact ⟨rfl, HV.out, HU3.out⟩
end Go.Proofs.Ytgfpeppaimhgiaa
