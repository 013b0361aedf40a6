/-
  Proved: what each method of the reference's table of timers does to memory and what it answers: the same as the plain list of keys with their times says. Conditions: the keys of the list are apart; it is shorter than a thousand.
-/
import Derived.Test.YtgfpeppaimhgiaaPlainb
import Derived.Maps.AppendAt
import Derived.Deep.AppendLies
namespace Go.Proofs.Ytgfpeppaimhgiaa
open Go.RowKit
set_option linter.unusedVariables false
set_option linter.unusedSimpArgs false

/-- An append whose run is known. -/
theorem wpList_append_run {P : Program} {w w' : World} {ops : Array Oper} {rest : List Oper} {o : Oper} {a : Act} {Q : Exit → Act → World → Prop} {v' : Value} (t : TypeId) (s x : Operand) (v src : Value) (hgd : o.guard = none)
    (ho : o.op = .call { callee := .builtin .append, args := #[s, x], argTypes := #[t, t] }) (hs : a.eval s = v) (hx : a.eval x = src) (hrun : (Builtin.append_ #[t, t] o.type #[v, src]).run P w = .ok v' w')
    (h : wpList P ops Q rest (a.put o.dst v') w') : wpList P ops Q (o :: rest) a w :=
  wpList_plain hgd fun K hK => by
    unfold Oper.wp execOp
    simp only [ho, resolve, invoke, builtin, Sem.run_bind, Sem.run_pure, Result.andThen_ok, List.map_toArray, List.map_cons, List.map_nil, hs, hx, hrun]
    exact hK _ _ h

def flat (R : List (Int × Int)) : List Value := R.flatMap fun p => [.int .i64 p.1, .int .i64 p.2]
theorem flat_append (A B : List (Int × Int)) : flat (A ++ B) = flat A ++ flat B := by simp [flat]
theorem flat_length (R : List (Int × Int)) : (flat R).length = R.length * 2 := by
  induction R with
  | nil => rfl
  | cons x R ih => simp [flat] at ih ⊢; omega
theorem flat_at : ∀ (R : List (Int × Int)) (i : Nat) (p : Int × Int), R[i]? = some p → (flat R)[i * 2]? = some (.int .i64 p.1) ∧ (flat R)[i * 2 + 1]? = some (.int .i64 p.2)
  | [], i, p, h => by simp at h
  | x :: R, 0, p, h => by simp at h; subst h; exact ⟨rfl, rfl⟩
  | x :: R, i + 1, p, h => by
    have := flat_at R i p (by simpa using h)
    have e : flat (x :: R) = .int .i64 x.1 :: .int .i64 x.2 :: flat R := rfl
    rw [e, show (i + 1) * 2 = (i * 2 + 1) + 1 by omega]
    simpa using this
theorem flat_one (R : List (Int × Int)) : ∀ u ∈ flat R, u.oneCell' = true := by
  intro u hu
  obtain ⟨p, _, hp⟩ := List.mem_flatMap.1 hu
  simp at hp
  rcases hp with rfl | rfl <;> rfl

structure RefT (w : World) (p base : Nat) (v : Value) (R : List (Int × Int)) : Prop where
  blk : w.heap[p]? = some (.cells #[v] 29)
  own : w.ownsRow base 78 2 v R.length (flat R)
  hp : base ≤ p
/-- What the reference's methods may turn: the table's own cell, and rows of timers. -/
def RefS (w : World) (base p i : Nat) : Prop := i = p ∨ (base ≤ i ∧ ∃ cs fr, w.heap[i]? = some (.cells cs 78 fr))

theorem own_block {w : World} {base n : Nat} {v : Value} {xs : List Value} (h : w.ownsRow base 78 2 v n xs) {k : Nat} (hk : v.ownBlock = some k) : base ≤ k ∧ ∃ cs fr, w.heap[k]? = some (.cells cs 78 fr) := by
  rcases h.2 with ⟨rfl, _⟩ | ⟨g, cap, cur, rfl, hb, hh, _⟩
  · simp [Value.ownBlock] at hk
  · have : g = k := by simpa [Value.ownBlock] using hk
    subst this
    exact ⟨hb, cur, _, hh⟩
theorem upd_grown {w w' : World} {base p n : Nat} {v : Value} {xs : List Value} (h : w.ownsRow base 78 2 v n xs) (g : w.grownBy w' v.ownBlock) : Upd (RefS w base p) w w' :=
  ⟨g.os, g.tape, g.output, g.size, fun i hi hn => g.block i hi fun e => hn (.inr (own_block h e.symm))⟩
theorem RefT.ne {w : World} {p base : Nat} {v : Value} {R : List (Int × Int)} (h : RefT w p base v R) : v.ownBlock ≠ some p := by
  intro e
  obtain ⟨_, cs, fr, h2⟩ := own_block h.own e
  rw [h.blk] at h2
  simp at h2
theorem RefT.cell {w : World} {p base : Nat} {v : Value} {R : List (Int × Int)} (h : RefT w p base v R) : w.cell? ⟨p, 0, none⟩ = some v := by simp [World.cell?, h.blk]
theorem RefT.free {w : World} {p base : Nat} {v : Value} {R : List (Int × Int)} (h : RefT w p base v R) : w.frozen? ⟨p, 0, none⟩ = false := by simp [World.frozen?, h.blk]
/-- A row that is read: its slice. -/
theorem RefT.form {w : World} {p base : Nat} {v : Value} {R : List (Int × Int)} (h : RefT w p base v R) :
    ∃ A cap, v = .slice A R.length cap ∧ R.length ≤ cap ∧ cap ≤ 9223372036854775807 ∧
      ∀ i q, R[i]? = some q → ∃ g, A = some ⟨g, 0, none⟩ ∧ w.cell? ⟨g, i * 2, none⟩ = some (.int .i64 q.1) ∧ w.cell? ⟨g, i * 2 + 1, none⟩ = some (.int .i64 q.2) := by
  rcases h.own.2 with ⟨rfl, h0⟩ | ⟨g, cap, cur, rfl, hb, hh, hc, hm, hs, hx⟩
  · refine ⟨none, 0, by rw [h0], by omega, by omega, fun i q hq => ?_⟩
    have hi := (List.getElem?_eq_some_iff.1 hq).1
    omega
  · refine ⟨some ⟨g, 0, none⟩, cap, rfl, hc, by unfold maxLen at hm; omega, fun i q hq => ⟨g, rfl, ?_⟩⟩
    have hi := (List.getElem?_eq_some_iff.1 hq).1
    obtain ⟨h1, h2⟩ := flat_at R i q hq
    have e1 := h.own.cellAt (i * 2) (by omega)
    have e2 := h.own.cellAt (i * 2 + 1) (by omega)
    exact ⟨e1.trans h1, e2.trans h2⟩

set_option maxHeartbeats 1000000 in
theorem at_none (w : World) {p base : Nat} {v : Value} {R : List (Int × Int)} (h : RefT w p base v R) (hl : R.length ≤ 1000) (k : Int) (hk : ∀ q ∈ R, q.1 ≠ k) :
    Calls Try.prog 37 #[.pointer (some ⟨p, 0, none⟩), .int .i64 k] w fun e w' => e = .returned (.int .i64 (-1)) ∧ w = w' := by
  have hc := h.cell
  obtain ⟨A, cap, rfl, hcap, hcm, hcell⟩ := h.form
  have HC := Aside.mk hcell
  have HK := Aside.mk hk
  clear h hk hcell
  go_enter Try.func37, Try.ntmps37
  go_wp2
  go_loop [5] (fun i => ∃ j : Nat, j ≤ R.length ∧ i = .int .i64 j) (fun i => R.length - (intOf i).toNat)
  case atStart => exact ⟨0, by omega, rfl⟩
  case round =>
    obtain ⟨j, hj, rfl⟩ := hrel
    by_cases cj : j < R.length
    · obtain ⟨g, rfl, c0, c1⟩ := HC.out j R[j] (List.getElem?_eq_getElem cj)
      have hne := HK.out R[j] (List.getElem_mem cj)
      generalize R[j] = q at c0 c1 hne
      have hnb : (q.1 == k) = false := beq_eq_false_iff_ne.2 hne
      clear hne
      go_wp2
      go_round
      case rel => exact ⟨j + 1, by omega, by go_num⟩
      case measure => simp [intOf]; omega
    · have hd : decide (j < R.length) = false := decide_eq_false cj
      go_wp2
      go_ret
      exact ⟨rfl, rfl⟩

set_option maxHeartbeats 1000000 in
theorem at_some (w : World) {p base : Nat} {v : Value} {R : List (Int × Int)} (h : RefT w p base v R) (hl : R.length ≤ 1000) (k t : Int) {A B : List (Int × Int)} (hR : R = A ++ (k, t) :: B) (hk : ∀ q ∈ A, q.1 ≠ k) :
    Calls Try.prog 37 #[.pointer (some ⟨p, 0, none⟩), .int .i64 k] w fun e w' => e = .returned (.int .i64 (A.length : Int)) ∧ w = w' := by
  have hc := h.cell
  obtain ⟨A0, cap, rfl, hcap, hcm, hcell⟩ := h.form
  have hAl : A.length < R.length := by rw [hR]; simp
  have HC := Aside.mk hcell
  have HK := Aside.mk hk
  have HR := Aside.mk hR
  clear h hk hcell hR
  go_enter Try.func37, Try.ntmps37
  go_wp2
  go_loop [5] (fun i => ∃ j : Nat, j ≤ A.length ∧ i = .int .i64 j) (fun i => A.length - (intOf i).toNat)
  case atStart => exact ⟨0, by omega, rfl⟩
  case round =>
    obtain ⟨j, hj, rfl⟩ := hrel
    have cj : j < R.length := by omega
    by_cases cA : j < A.length
    · have hq : R[j]? = some A[j] := by rw [HR.out, List.getElem?_append_left cA, List.getElem?_eq_getElem cA]
      obtain ⟨g, rfl, c0, c1⟩ := HC.out j A[j] hq
      have hne := HK.out A[j] (List.getElem_mem cA)
      clear hq
      generalize A[j] = q at c0 c1 hne
      have hnb : (q.1 == k) = false := beq_eq_false_iff_ne.2 hne
      clear hne
      go_wp2
      go_round
      case rel => exact ⟨j + 1, by omega, by go_num⟩
      case measure => simp [intOf]; omega
    · obtain rfl : j = A.length := by omega
      have hq : R[A.length]? = some (k, t) := by rw [HR.out]; simp
      obtain ⟨g, rfl, c0, c1⟩ := HC.out _ _ hq
      clear hq
      go_wp2
      go_ret
      exact ⟨rfl, rfl⟩

theorem own_slice {w : World} {base e size n : Nat} {v : Value} {xs : List Value} (h : w.ownsRow base e size v n xs) : ∃ A c, v = .slice A n c := by
  rcases h.2 with ⟨rfl, rfl⟩ | ⟨g, cap, cur, rfl, _⟩
  · exact ⟨none, 0, rfl⟩
  · exact ⟨_, _, rfl⟩
theorem RefT.put {w : World} {p base : Nat} {v0 v : Value} {R : List (Int × Int)} (hp : w.heap[p]? = some (.cells #[v0] 29)) (ho : w.ownsRow base 78 2 v R.length (flat R)) (hb : base ≤ p) : RefT (w.setCell ⟨p, 0, none⟩ v) p base v R :=
  ⟨by have := setCell_block (i := 0) (v := v) hp; simpa using this, ownsRow_setCell_other ho (fun e => by
    obtain ⟨_, cs, fr, h2⟩ := own_block ho e
    rw [hp] at h2
    simp at h2) v, hb⟩
theorem info78 : (Try.prog.info? 78).map (fun i => (i.zero, i.size, i.bytes)) = some (some (.agg #[.int .i64 0, .int .i64 0]), 2, 16) := by kernel_rfl

set_option maxHeartbeats 1000000 in
theorem rstop_none (w : World) {p base : Nat} {v : Value} {R : List (Int × Int)} (h : RefT w p base v R) (hl : R.length ≤ 1000) (k : Int) (hk : ∀ q ∈ R, q.1 ≠ k) :
    Calls Try.prog 15 #[.pointer (some ⟨p, 0, none⟩), .int .i64 k] w fun e w' => e = .returned (.bool false) ∧ w = w' := by
  have HA := Aside.mk (at_none w h hl k hk)
  clear h hk
  go_enter Try.func15, Try.ntmps15
  go_wp2_with fail
  refine HA.out.mono ?_
  rintro e w2 ⟨rfl, rfl⟩
  go_wp2_with fail
  go_ret
  exact ⟨rfl, rfl⟩

theorem own_sub {w : World} {p base : Nat} {g cap : Nat} {R : List (Int × Int)} (h : RefT w p base (.slice (some ⟨g, 0, none⟩) R.length cap) R) {A : List (Int × Int)} (x : Nat) (hx : ∀ i, i < A.length → R[x + i]? = A[i]?) :
    ∀ j u, (flat A)[j]? = some u → w.cell? ((⟨g, x * 2, none⟩ : Addr).add j) = some u := by
  intro j u hu
  have hj := (List.getElem?_eq_some_iff.1 hu).1
  rw [flat_length] at hj
  have hi : j / 2 < A.length := by omega
  have hq : R[x + j / 2]? = some A[j / 2] := by rw [hx _ hi, List.getElem?_eq_getElem hi]
  obtain ⟨A0, cap', hv, _, _, hc⟩ := h.form
  injection hv with hv1 hv2 hv3
  obtain ⟨g', hg, c0, c1⟩ := hc _ _ hq
  rw [hg] at hv1
  injection hv1 with hv1
  injection hv1 with hv1
  subst hv1
  obtain ⟨f0, f1⟩ := flat_at A (j / 2) A[j / 2] (List.getElem?_eq_getElem hi)
  have e : ∀ y, ((⟨g, x * 2, none⟩ : Addr).add y) = ⟨g, x * 2 + y, none⟩ := by
    intro y
    unfold Addr.add
    split
    · rename_i h0; subst h0; rfl
    · rfl
  rw [e]
  rcases Nat.mod_two_eq_zero_or_one j with hm | hm
  · have e1 : j = j / 2 * 2 := by omega
    rw [e1, f0] at hu
    have e2 : x * 2 + j = (x + j / 2) * 2 := by omega
    rw [e2, c0]
    exact hu
  · have e1 : j = j / 2 * 2 + 1 := by omega
    rw [e1, f1] at hu
    have e2 : x * 2 + j = (x + j / 2) * 2 + 1 := by omega
    rw [e2, c1]
    exact hu

set_option maxHeartbeats 2000000 in
theorem rstop_some (w : World) {p base : Nat} {v : Value} {R : List (Int × Int)} (h : RefT w p base v R) (hb : base ≤ w.heap.size) (hl : R.length ≤ 1000) (k t : Int) {A B : List (Int × Int)} (hR : R = A ++ (k, t) :: B) (hk : ∀ q ∈ A, q.1 ≠ k) :
    Calls Try.prog 15 #[.pointer (some ⟨p, 0, none⟩), .int .i64 k] w fun e w' => e = .returned (.bool true) ∧ (∃ v', RefT w' p base v' (A ++ B)) ∧ Upd (RefS w base p) w w' := by
  have HA := Aside.mk (at_some w h hl k t hR hk)
  obtain ⟨i0, hi0, hz0, hz1, hz2⟩ := info_parts info78
  have hRl : R.length = A.length + 1 + B.length := by rw [hR]; simp; omega
  obtain ⟨A0, cap, rfl, hcap, hcm, hcell⟩ := h.form
  have hq : R[A.length]? = some (k, t) := by rw [hR]; simp
  obtain ⟨g, rfl, c0, c1⟩ := hcell _ _ hq
  -- the first append: what stands ahead
  obtain ⟨v1, w1, hrun1, hown1, hgr1, _, hob1⟩ := run_append_own_at (P := Try.prog) w base 27 27 78 i0 _ 2 16 Try.underlying27 hi0 hz0 hz1 hz2 rfl (by omega) (.slice none 0 0) 0 [] (World.ownsRow_nil w base 78 2)
    ⟨g, 0, none⟩ A.length cap (flat A) (flat_length A) (by
      have := own_sub h (A := A) 0 (fun i hi => by rw [hR, Nat.zero_add, List.getElem?_append_left hi])
      simpa using this) (flat_one A) (by unfold maxLen; omega) (by omega) hb
  simp only [Nat.zero_add, List.nil_append] at hown1
  have hpl := lt_of_block h.blk
  have hgl : g < w.heap.size := World.block_lt_of_cell? _ _ c0
  have hp1 : w1.heap[p]? = some (.cells #[.slice (some ⟨g, 0, none⟩) R.length cap] 29) := by rw [hgr1.block p hpl (by simp [Value.ownBlock])]; exact h.blk
  have h1 : RefT w1 p base (.slice (some ⟨g, 0, none⟩) R.length cap) R := ⟨hp1, h.own.kept hgr1 (by simp [Value.ownBlock]), h.hp⟩
  have hv1p : v1.ownBlock ≠ some p := fun e => by
    obtain ⟨_, cs, fr, h2⟩ := own_block hown1 e
    rw [hp1] at h2
    simp at h2
  have hv1n : ∀ i, i < w.heap.size → v1.ownBlock ≠ some i := fun i hi e => by
    rcases hob1 with hob | hob
    · rw [hob] at e
      simp [Value.ownBlock] at e
    · rw [hob] at e
      injection e with e
      omega
  have hb1 : base ≤ w1.heap.size := Nat.le_trans hb hgr1.size
  have hsub : ∀ j u, (flat B)[j]? = some u → w1.cell? ((⟨g, (A.length + 1) * 2, none⟩ : Addr).add j) = some u :=
    own_sub h1 (A := B) (A.length + 1) (fun i hi => by rw [hR, List.getElem?_append_right (by omega)]; rw [show A.length + 1 + i - A.length = i + 1 by omega]; simp)
  have hc := h.cell
  have hc1 := h1.cell
  have hf1 := h1.free
  have hBl : R.length - (A.length + 1) = B.length := by omega
  by_cases hcap0 : cap = A.length + 1
  · have hB : B = [] := List.eq_nil_of_length_eq_zero (by omega)
    subst hB
    obtain ⟨v2, w2, hrun2, hown2, hgr2, _, hob2⟩ := run_append_own_at (P := Try.prog) w1 base 27 27 78 i0 _ 2 16 Try.underlying27 hi0 hz0 hz1 hz2 rfl (by omega) v1 A.length (flat A) hown1
      ⟨g, 0, none⟩ 0 0 [] rfl (by simp) (by simp) (by unfold maxLen; omega) (by omega) hb1
    have hp2 : w2.heap[p]? = some (.cells #[.slice (some ⟨g, 0, none⟩) R.length cap] 29) := by rw [hgr2.block p (lt_of_block hp1) (fun e => hv1p e.symm)]; exact hp1
    have hc2 : w2.cell? ⟨p, 0, none⟩ = some (.slice (some ⟨g, 0, none⟩) R.length cap) := by simp [World.cell?, hp2]
    have hf2 : w2.frozen? ⟨p, 0, none⟩ = false := by simp [World.frozen?, hp2]
    have hu : Upd (RefS w base p) w w2 := ⟨hgr2.os.trans hgr1.os, hgr2.tape.trans hgr1.tape, hgr2.output.trans hgr1.output, Nat.le_trans hgr1.size hgr2.size, fun i hi _ =>
      (hgr2.block i (Nat.lt_of_lt_of_le hi hgr1.size) (fun e => hv1n i hi e.symm)).trans (hgr1.block i hi (by simp [Value.ownBlock]))⟩
    have hlt1 : A.length ≤ cap := by omega
    obtain ⟨A2, c2, rfl⟩ := own_slice hown2
    have HO := Aside.mk hown2
    have HP := Aside.mk hp2
    have HU := Aside.mk hu
    have HAl := Aside.mk hBl
    have HHp := Aside.mk h.hp
    subst hcap0
    have hl1 : A.length + 1 ≤ R.length := by omega
    have hA0 : decide ((A.length : Int) < 0) = false := decide_eq_false (by omega)
    have HRUN1 := Aside.mk hrun1
    have HRUN2 := Aside.mk hrun2
    clear hrun1 hrun2
    clear hown1 hgr1 hob1 hgr2 hob2 hv1p hv1n hsub h h1 hk hR hcell hown2 hp2 hp1 hu hRl hq c0 c1 hBl
    go_enter Try.func15, Try.ntmps15
    go_wp2_with fail
    refine HA.out.mono ?_
    rintro e w9 ⟨rfl, rfl⟩
    go_wp2_with (at_builtin; first | refine wpList_append_run 27 _ _ _ _ rfl rfl rfl rfl HRUN1.out ?_ | (rw [HAl.out]; refine wpList_append_run 27 _ _ _ _ rfl rfl rfl rfl HRUN2.out ?_) | refine wpList_append_run 27 _ _ _ _ rfl rfl rfl rfl HRUN2.out ?_)
    go_ret
    refine ⟨rfl, ⟨_, RefT.put HP.out ?_ HHp.out⟩, HU.out.setCell _ _ (fun _ => .inl rfl)⟩
    simpa using HO.out
  · obtain ⟨v2, w2, hrun2, hown2, hgr2, _, hob2⟩ := run_append_own_at (P := Try.prog) w1 base 27 27 78 i0 _ 2 16 Try.underlying27 hi0 hz0 hz1 hz2 rfl (by omega) v1 A.length (flat A) hown1
      ⟨g, (A.length + 1) * 2, none⟩ B.length (cap - (A.length + 1)) (flat B) (flat_length B) hsub (flat_one B) (by unfold maxLen; omega) (by omega) hb1
    have hp2 : w2.heap[p]? = some (.cells #[.slice (some ⟨g, 0, none⟩) R.length cap] 29) := by rw [hgr2.block p (lt_of_block hp1) (fun e => hv1p e.symm)]; exact hp1
    have hc2 : w2.cell? ⟨p, 0, none⟩ = some (.slice (some ⟨g, 0, none⟩) R.length cap) := by simp [World.cell?, hp2]
    have hf2 : w2.frozen? ⟨p, 0, none⟩ = false := by simp [World.frozen?, hp2]
    have hu : Upd (RefS w base p) w w2 := ⟨hgr2.os.trans hgr1.os, hgr2.tape.trans hgr1.tape, hgr2.output.trans hgr1.output, Nat.le_trans hgr1.size hgr2.size, fun i hi _ =>
      (hgr2.block i (Nat.lt_of_lt_of_le hi hgr1.size) (fun e => hv1n i hi e.symm)).trans (hgr1.block i hi (by simp [Value.ownBlock]))⟩
    have hlt1 : A.length ≤ cap := by omega
    obtain ⟨A2, c2, rfl⟩ := own_slice hown2
    have HO := Aside.mk hown2
    have HP := Aside.mk hp2
    have HU := Aside.mk hu
    have HAl := Aside.mk hBl
    have HHp := Aside.mk h.hp
    have hcapi : ((cap : Int) = (A.length : Int) + 1) = False := by simp; omega
    have hl1 : A.length + 1 ≤ R.length := by omega
    have hA0 : decide ((A.length : Int) < 0) = false := decide_eq_false (by omega)
    have HRUN1 := Aside.mk hrun1
    have HRUN2 := Aside.mk hrun2
    clear hrun1 hrun2
    clear hown1 hgr1 hob1 hgr2 hob2 hv1p hv1n hsub h h1 hk hR hcell hown2 hp2 hp1 hu hRl hq c0 c1 hBl
    go_enter Try.func15, Try.ntmps15
    go_wp2_with fail
    refine HA.out.mono ?_
    rintro e w9 ⟨rfl, rfl⟩
    go_wp2_with (at_builtin; first | refine wpList_append_run 27 _ _ _ _ rfl rfl rfl rfl HRUN1.out ?_ | (rw [HAl.out]; refine wpList_append_run 27 _ _ _ _ rfl rfl rfl rfl HRUN2.out ?_) | refine wpList_append_run 27 _ _ _ _ rfl rfl rfl rfl HRUN2.out ?_)
    go_ret
    refine ⟨rfl, ⟨_, RefT.put HP.out ?_ HHp.out⟩, HU.out.setCell _ _ (fun _ => .inl rfl)⟩
    rw [flat_append, List.length_append]
    exact HO.out
end Go.Proofs.Ytgfpeppaimhgiaa
