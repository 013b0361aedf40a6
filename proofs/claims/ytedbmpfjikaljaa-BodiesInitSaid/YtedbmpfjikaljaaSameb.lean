/-
  Proved: the reference's functions that compare two acknowledgements and two rows of what will not come answer whether they are alike. Conditions: rows are shorter than fifty thousand and one.
-/
import Derived.Test.YtedbmpfjikaljaaSame
import Derived.Laws.StructEq
namespace Go.Proofs.Ytedbmpfjikaljaa
open Go.RowKit
set_option linter.unusedVariables false
set_option linter.unusedSimpArgs false
set_option linter.unusedSectionVars false
set_option maxRecDepth 100000

theorem held88 : Try.prog.stoodInHeld 88 = false := by kernel_rfl
theorem held84 : Try.prog.stoodInHeld 84 = false := by kernel_rfl
theorem guard88 : Try.prog.eqGuardType Try.prog.depth 88 = false := by kernel_rfl
theorem guard84 : Try.prog.eqGuardType Try.prog.depth 84 = false := by kernel_rfl
theorem fields88 : Try.prog.underlying 88 = some (.struct (Try.prog.fieldsOf 88)) := by kernel_rfl
theorem fields84 : Try.prog.underlying 84 = some (.struct (Try.prog.fieldsOf 84)) := by kernel_rfl
theorem fs88 : (Try.prog.fieldsOf 88).toList.map (fun f => (f.name, f.type, f.offset)) = [("Stream", 30, 0), ("Ssn", 30, 1)] := by kernel_rfl
theorem fs84 : (Try.prog.fieldsOf 84).toList.map (fun f => (f.name, f.type, f.offset)) = [("From", 30, 0), ("To", 30, 1)] := by kernel_rfl

theorem neq_pair (t : TypeId) (ht : Try.prog.underlying t = some (.struct (Try.prog.fieldsOf t))) (hh : Try.prog.stoodInHeld t = false) {n1 n2 : String} (hn1 : n1 ≠ "_") (hn2 : n2 ≠ "_") (hf : (Try.prog.fieldsOf t).toList.map (fun f => (f.name, f.type, f.offset)) = [(n1, 30, 0), (n2, 30, 1)]) (W : World) (a b c d : Int) :
    (binOp .neq t (.agg #[.int .u16 a, .int .u16 b]) (.agg #[.int .u16 c, .int .u16 d])).run Try.prog W = .ok (.bool (!((a == c) && (b == d)))) W := by
  rw [run_neq_struct, run_equalIn_agg _ _ _ _ _ ht hh]
  rcases hF : (Try.prog.fieldsOf t).toList with _ | ⟨f1, _ | ⟨f2, _ | ⟨f3, fs⟩⟩⟩
  · rw [hF] at hf; simp at hf
  · rw [hF] at hf; simp at hf
  · rw [hF] at hf
    simp at hf
    obtain ⟨⟨h1, h2, h3⟩, h4, h5, h6⟩ := hf
    have p1 : ∀ (x y : Int), (part 30 #[.int .u16 x, .int .u16 y] 0).run Try.prog W = .ok (.int .u16 x) W := fun x y => by kernel_rfl
    have p2 : ∀ (x y : Int), (part 30 #[.int .u16 x, .int .u16 y] 1).run Try.prog W = .ok (.int .u16 y) W := fun x y => by kernel_rfl
    simp only [Op.eqFields, h1, h2, h3, h4, h5, h6, hn1, hn2, ne_eq, not_false_eq_true, if_true, Sem.run_bind, p1, p2, Result.andThen_ok]
    rw [run_equalIn_int (P := Try.prog) W 9998 30 .u16 .u16 a c Try.underlying30]
    simp only [Result.andThen_ok, Sem.run_ite, Sem.run_pure, Sem.run_bind, p1, p2]
    cases a == c
    · rfl
    · rw [run_equalIn_int (P := Try.prog) W 9998 30 .u16 .u16 b d Try.underlying30]
      simp only [Result.andThen_ok]
      cases b == d <;> rfl
  · rw [hF] at hf; simp at hf
theorem neq_skip (W : World) (a b c d : Int) : (binOp .neq 88 (.agg #[.int .u16 a, .int .u16 b]) (.agg #[.int .u16 c, .int .u16 d])).run Try.prog W = .ok (.bool (!((a == c) && (b == d)))) W := neq_pair 88 fields88 held88 (by decide) (by decide) fs88 W a b c d
theorem neq_gap (W : World) (a b c d : Int) : (binOp .neq 84 (.agg #[.int .u16 a, .int .u16 b]) (.agg #[.int .u16 c, .int .u16 d])).run Try.prog W = .ok (.bool (!((a == c) && (b == d)))) W := neq_pair 84 fields84 held84 (by decide) (by decide) fs84 W a b c d

theorem take2_eq_step {ps qs : List (Int × Int)} {j : Nat} {p q : Int × Int} (hp : ps[j]? = some p) (hq : qs[j]? = some q) : ps.take (j + 1) = qs.take (j + 1) ↔ ps.take j = qs.take j ∧ p = q := by
  rw [List.take_add_one, List.take_add_one, hp, hq]
  simp only [Option.toList_some]
  constructor
  · intro h
    have h1 := List.append_inj_left' h rfl
    have h2 := List.append_inj_right' h rfl
    simp at h2
    exact ⟨h1, h2⟩
  · rintro ⟨h1, h2⟩
    rw [h1, h2]

set_option maxHeartbeats 2000000 in
theorem sameFwd_ (w : World) (x1 x2 : Int) {A B : Option Addr} {n c m d : Nat} {ps qs : List (Int × Int)} (h : Rd2 w A n c ps) (k : Rd2 w B m d qs) {E : Bool} (hE : ((x1 == x2) && decide (ps = qs)) = E) :
    Calls Try.prog 37 #[fwdV x1 A n c, fwdV x2 B m d] w fun e w' => e = .returned (.bool E) ∧ Below w.heap.size w w' := by
  have hcap1 := h.cap
  have hcap2 := k.cap
  have hmx1 := h.mx
  have hmx2 := k.mx
  have hs1 := h.small
  have hs2 := k.small
  have H := Aside.mk h
  have K := Aside.mk k
  have EE := Aside.mk hE
  clear h k hE
  have BL := Aside.mk (((Below.refl w.heap.size w).alloc (Nat.le_refl _) (.cells #[.int .u32 x1, .slice A n c] 41)).alloc (by simp) (.cells #[.int .u32 x2, .slice B m d] 41))
  unfold fwdV
  go_enter Try.func37, Try.ntmps37
  cases t1 : (x1 == x2)
  · have t1' : (x1 != x2) = true := by rw [bne, t1]; rfl
    obtain rfl : E = false := by rw [← EE.out, t1]; simp
    clear EE
    go_wp2_with fail
    go_ret
    exact ⟨rfl, BL.out⟩
  · have t1' : (x1 != x2) = false := by rw [bne, t1]; rfl
    by_cases hnm : n = m
    · subst hnm
      have hE2 : Aside (decide (ps = qs) = E) := ⟨by rw [← EE.out, t1]; simp⟩
      have hb : ((n : Int) == (n : Int)) = true := beq_self_eq_true _
      have hb' : ((n : Int) != (n : Int)) = false := bne_self_eq_false _
      clear EE
      go_wp2_with fail
      generalize hW : ((w.alloc (.cells #[.int .u32 x1, .slice A n c] 41)).alloc (.cells #[.int .u32 x2, .slice B n d] 41)) = W at *
      have k1 := keep2 (show W.heap[w.heap.size]? = some (.cells #[.int .u32 x1, .slice A n c] 41) by rw [← hW]; exact alloc_keep (heap_alloc_new w _))
      have k2 := keep2 (show W.heap[w.heap.size + 1]? = some (.cells #[.int .u32 x2, .slice B n d] 41) by rw [← hW]; exact blk_new2 w _ _)
      clear hW
      have HW := Aside.mk (H.out.below BL.out)
      have KW := Aside.mk (K.out.below BL.out)
      go_loopg [5] n (fun j s5 wr => ∃ i q, i + j = n ∧ s5 = .int .i64 (i : Nat) ∧ wr = W.drewN q ∧ Aside (ps.take i = qs.take i))
      case atStart => exact ⟨0, 0, by omega, rfl, rfl, ⟨rfl⟩⟩
      case round =>
        obtain ⟨i, q, hij, rfl, rfl, T⟩ := hrel
        by_cases ci : i < n
        · obtain ⟨p, b1, o1, hp, rfl, hlt1, c0, c1, hp1, hp2⟩ := HW.out.get ci
          obtain ⟨p', b2, o2, hp', rfl, hlt2, e0, e1, hp1', hp2'⟩ := KW.out.get ci
          have S := Aside.mk (take2_eq_step hp hp')
          obtain ⟨a, b⟩ := p
          obtain ⟨a', b'⟩ := p'
          simp only at c0 c1 e0 e1 S
          clear hp hp' hp1 hp2 hp1' hp2'
          have NS := neq_skip
          cases hq : ((a == a') && (b == b'))
          · have NE : Aside (¬ (ps = qs)) := ⟨fun e => by
              have := (S.out.1 (by rw [e])).2
              injection this with h1 h2
              rw [h1, h2] at hq
              simp at hq⟩
            go_wp2_with fail
            go_quiet (fail)
            go_wp2_with fail
            go_ret
            exact ⟨by rw [← hE2.out, decide_eq_false NE.out]; rfl, by first | exact below_drewN (below_drewN BL.out _) _ | exact below_drewN BL.out _⟩
          · have EQ : Aside (ps.take (i + 1) = qs.take (i + 1)) := ⟨S.out.2 ⟨T.out, by simp at hq; rw [hq.1, hq.2]⟩⟩
            go_wp2_with fail
            go_quiet (fail)
            go_wp2_with fail
            go_roundg (n - (i + 1))
            case rel => exact ⟨i + 1, _, by omega, by go_num, rfl, EQ⟩
            case measure => omega
        · obtain rfl : i = n := by omega
          have hd : decide (i < i) = false := decide_eq_false ci
          have t := T.out
          rw [List.take_of_length_le (by rw [H.out.len]; omega), List.take_of_length_le (by rw [K.out.len]; omega)] at t
          have hE3 := hE2.out
          rw [decide_eq_true t] at hE3
          subst hE3
          clear t
          go_wp2_with fail
          go_ret
          exact ⟨rfl, below_drewN BL.out _⟩
    · have hb : ((n : Int) != (m : Int)) = true := bne_iff_ne.2 (by omega)
      have hE2 : ¬ (ps = qs) := fun e => hnm (by rw [← H.out.len, ← K.out.len, e])
      obtain rfl : E = false := by rw [← EE.out, decide_eq_false hE2]; simp
      clear EE hE2
      go_wp2_with fail
      go_ret
      exact ⟨rfl, BL.out⟩

set_option maxHeartbeats 4000000 in
theorem sameSack_ (w : World) (x1 y1 x2 y2 : Int) {A B D F : Option Addr} {n c m d m1 e1 m2 e2 : Nat} {ps qs : List (Int × Int)} {xs ys : List Int} (h : Rd2 w A n c ps) (k : Rd2 w B m d qs) (h' : Rd .u32 w D m1 e1 xs) (k' : Rd .u32 w F m2 e2 ys) {E : Bool} (hE : ((x1 == x2) && (y1 == y2) && decide (ps = qs) && decide (xs = ys)) = E) :
    Calls Try.prog 33 #[sackV x1 y1 A n c D m1 e1, sackV x2 y2 B m d F m2 e2] w fun e w' => e = .returned (.bool E) ∧ Below w.heap.size w w' := by
  have hcap1 := h.cap
  have hcap2 := k.cap
  have hmx1 := h.mx
  have hmx2 := k.mx
  have hs1 := h.small
  have hs2 := k.small
  have hcap3 := h'.cap
  have hcap4 := k'.cap
  have hmx3 := h'.mx
  have hmx4 := k'.mx
  have hs3 := h'.small
  have hs4 := k'.small
  have H := Aside.mk h
  have K := Aside.mk k
  have H' := Aside.mk h'
  have K' := Aside.mk k'
  have EE := Aside.mk hE
  clear h k h' k' hE
  have BL := Aside.mk (((Below.refl w.heap.size w).alloc (Nat.le_refl _) (.cells #[.int .u32 x1, .int .u32 y1, .slice A n c, .slice D m1 e1] 38)).alloc (by simp) (.cells #[.int .u32 x2, .int .u32 y2, .slice B m d, .slice F m2 e2] 38))
  unfold sackV
  go_enter Try.func33, Try.ntmps33
  cases t1 : (x1 == x2)
  · have t1' : (x1 != x2) = true := by rw [bne, t1]; rfl
    obtain rfl : E = false := by rw [← EE.out, t1]; simp
    clear EE
    go_wp2_with fail
    go_ret
    exact ⟨rfl, BL.out⟩
  · have t1' : (x1 != x2) = false := by rw [bne, t1]; rfl
    cases t2 : (y1 == y2)
    · have t2' : (y1 != y2) = true := by rw [bne, t2]; rfl
      obtain rfl : E = false := by rw [← EE.out, t2]; simp
      clear EE
      go_wp2_with fail
      go_ret
      exact ⟨rfl, BL.out⟩
    · have t2' : (y1 != y2) = false := by rw [bne, t2]; rfl
      by_cases hnm : n = m
      · subst hnm
        have hb : ((n : Int) == (n : Int)) = true := beq_self_eq_true _
        have hb' : ((n : Int) != (n : Int)) = false := bne_self_eq_false _
        by_cases hnm2 : m1 = m2
        · subst hnm2
          have hc : ((m1 : Int) == (m1 : Int)) = true := beq_self_eq_true _
          have hc' : ((m1 : Int) != (m1 : Int)) = false := bne_self_eq_false _
          have hE2 : Aside ((decide (ps = qs) && decide (xs = ys)) = E) := ⟨by rw [← EE.out, t1, t2]; simp⟩
          clear EE
          go_wp2_with fail
          generalize hW : ((w.alloc (.cells #[.int .u32 x1, .int .u32 y1, .slice A n c, .slice D m1 e1] 38)).alloc (.cells #[.int .u32 x2, .int .u32 y2, .slice B n d, .slice F m1 e2] 38)) = W at *
          have k1 := keep4 (show W.heap[w.heap.size]? = some (.cells #[.int .u32 x1, .int .u32 y1, .slice A n c, .slice D m1 e1] 38) by rw [← hW]; exact alloc_keep (heap_alloc_new w _))
          have k2 := keep4 (show W.heap[w.heap.size + 1]? = some (.cells #[.int .u32 x2, .int .u32 y2, .slice B n d, .slice F m1 e2] 38) by rw [← hW]; exact blk_new2 w _ _)
          clear hW
          have HW := Aside.mk (H.out.below BL.out)
          have KW := Aside.mk (K.out.below BL.out)
          have HW' := Aside.mk (H'.out.below BL.out)
          have KW' := Aside.mk (K'.out.below BL.out)
          go_loopg [5] n (fun j s5 wr => ∃ i q, i + j = n ∧ s5 = .int .i64 (i : Nat) ∧ wr = W.drewN q ∧ Aside (ps.take i = qs.take i))
          case atStart => exact ⟨0, 0, by omega, rfl, rfl, ⟨rfl⟩⟩
          case round =>
            obtain ⟨i, q, hij, rfl, rfl, T⟩ := hrel
            by_cases ci : i < n
            · obtain ⟨p, b1, o1, hp, rfl, hlt1, c0, c1, hp1, hp2⟩ := HW.out.get ci
              obtain ⟨p', b2, o2, hp', rfl, hlt2, e0, e1', hp1', hp2'⟩ := KW.out.get ci
              have S := Aside.mk (take2_eq_step hp hp')
              obtain ⟨a, b⟩ := p
              obtain ⟨a', b'⟩ := p'
              simp only at c0 c1 e0 e1' S
              clear hp hp' hp1 hp2 hp1' hp2'
              have NS := neq_gap
              cases hq : ((a == a') && (b == b'))
              · have NE : Aside (¬ (ps = qs)) := ⟨fun e => by
                  have := (S.out.1 (by rw [e])).2
                  injection this with h1 h2
                  rw [h1, h2] at hq
                  simp at hq⟩
                go_wp2_with fail
                go_quiet (fail)
                go_wp2_with fail
                go_ret
                exact ⟨by rw [← hE2.out, decide_eq_false NE.out]; rfl, by first | exact below_drewN (below_drewN BL.out _) _ | exact below_drewN BL.out _⟩
              · have EQ : Aside (ps.take (i + 1) = qs.take (i + 1)) := ⟨S.out.2 ⟨T.out, by simp at hq; rw [hq.1, hq.2]⟩⟩
                go_wp2_with fail
                go_quiet (fail)
                go_wp2_with fail
                go_roundg (n - (i + 1))
                case rel => exact ⟨i + 1, _, by omega, by go_num, rfl, EQ⟩
                case measure => omega
            · obtain rfl : i = n := by omega
              have hd : decide (i < i) = false := decide_eq_false ci
              have t := T.out
              rw [List.take_of_length_le (by rw [H.out.len]; omega), List.take_of_length_le (by rw [K.out.len]; omega)] at t
              have hE3 : Aside (decide (xs = ys) = E) := ⟨by have := hE2.out; rw [decide_eq_true t] at this; simpa using this⟩
              clear t
              go_wp2_with fail
              go_loopg [6] m1 (fun j s6 wr => ∃ i q, i + j = m1 ∧ s6 = .int .i64 (i : Nat) ∧ wr = W.drewN q ∧ Aside (xs.take i = ys.take i))
              case atStart => exact ⟨0, _, by omega, rfl, rfl, ⟨rfl⟩⟩
              case round =>
                obtain ⟨i', q', hij', rfl, rfl, T'⟩ := hrel
                by_cases ci' : i' < m1
                · obtain ⟨b1, o1, rfl, hlt1, c0⟩ := HW'.out.get ci'
                  obtain ⟨b2, o2, rfl, hlt2, e0⟩ := KW'.out.get ci'
                  have S := Aside.mk (take_eq_step (xs := xs) (ys := ys) (j := i') (by rw [H'.out.len]; exact ci') (by rw [K'.out.len]; exact ci'))
                  generalize xs.getD i' 0 = a at *
                  generalize ys.getD i' 0 = a' at *
                  cases hq : (a == a')
                  · have hq' : (a != a') = true := by rw [bne, hq]; rfl
                    have NE : Aside (¬ (xs = ys)) := ⟨fun e => by
                      have := (S.out.1 (by rw [e])).2
                      rw [this] at hq
                      simp at hq⟩
                    go_wp2_with fail
                    go_quiet (fail)
                    go_wp2_with fail
                    go_ret
                    exact ⟨by rw [← hE3.out, decide_eq_false NE.out]; rfl, by first | exact below_drewN (below_drewN BL.out _) _ | exact below_drewN BL.out _⟩
                  · have hq' : (a != a') = false := by rw [bne, hq]; rfl
                    have EQ : Aside (xs.take (i' + 1) = ys.take (i' + 1)) := ⟨S.out.2 ⟨T'.out, by simpa using hq⟩⟩
                    go_wp2_with fail
                    go_quiet (fail)
                    go_wp2_with fail
                    go_roundg (m1 - (i' + 1))
                    case rel => exact ⟨i' + 1, _, by omega, by go_num, rfl, EQ⟩
                    case measure => omega
                · obtain rfl : i' = m1 := by omega
                  have hd' : decide (i' < i') = false := decide_eq_false ci'
                  have t := T'.out
                  rw [List.take_of_length_le (by rw [H'.out.len]; omega), List.take_of_length_le (by rw [K'.out.len]; omega)] at t
                  have hE4 := hE3.out
                  rw [decide_eq_true t] at hE4
                  subst hE4
                  clear t
                  go_wp2_with fail
                  go_ret
                  exact ⟨rfl, below_drewN BL.out _⟩
        · have hb2 : ((m1 : Int) != (m2 : Int)) = true := bne_iff_ne.2 (by omega)
          have hE2 : ¬ (xs = ys) := fun e => hnm2 (by rw [← H'.out.len, ← K'.out.len, e])
          obtain rfl : E = false := by rw [← EE.out, decide_eq_false hE2]; simp
          clear EE hE2
          go_wp2_with fail
          go_ret
          exact ⟨rfl, BL.out⟩
      · have hb : ((n : Int) != (m : Int)) = true := bne_iff_ne.2 (by omega)
        have hE2 : ¬ (ps = qs) := fun e => hnm (by rw [← H.out.len, ← K.out.len, e])
        obtain rfl : E = false := by rw [← EE.out, decide_eq_false hE2]; simp
        clear EE hE2
        go_wp2_with fail
        go_ret
        exact ⟨rfl, BL.out⟩
end Go.Proofs.Ytedbmpfjikaljaa
