/-
  Proved: 'TimersPlays' returns true and writes nothing that was there: the walk. No condition.
-/
import Derived.Test.YtgfpeppaimhgiaaSteps
import Derived.Test.YtgfpeppaimhgiaaApart
import Derived.Deep.RegionHeld3
namespace Go.Proofs.Ytgfpeppaimhgiaa
open Go.RowKit
set_option linter.unusedVariables false
set_option linter.unusedSimpArgs false

theorem tbl_nodup {tT b m n : Nat} {w : World} {R : List (Int × Int)} {enc : Int → Value} {ok : Int → Prop} (h : Tbl enc ok tT w b m n R) : (R.map (·.1)).Nodup := by
  obtain ⟨_, L, ck, _, hi⟩ := h
  obtain ⟨T, _, _, hp, rfl⟩ := hi.said
  have h1 := hi.fine.nodup
  have h2 : (L.map tri).map (·.1) = L.map (·.key) := by rw [List.map_map]; rfl
  rw [← h2] at h1
  have h3 := (hp.map (·.1)).nodup_iff.1 h1
  rw [List.map_map]
  exact h3

structure PR (w : World) (b m p q : Nat) (R1 R2 : List (Int × Int)) (wr : World) : Prop where
  t : TI wr b m q R1
  r : ∃ v, RefT wr p w.heap.size v R2
  low : Below w.heap.size w wr
  hb : w.heap.size ≤ b
  hm : w.heap.size ≤ m

theorem refT_keep {w w2 : World} {S : Nat → Prop} {p base : Nat} {v : Value} {R : List (Int × Int)} (h : RefT w p base v R) (u : Upd S w w2) (hp : ¬ S p) (hrow : ∀ i cs fr, w.heap[i]? = some (.cells cs 78 fr) → ¬ S i) : RefT w2 p base v R where
  blk := u.heap h.blk hp
  own := by
    refine ⟨h.own.1, ?_⟩
    rcases h.own.2 with hn | ⟨g, cap, cur, hv, hb, hh, hc, hm, hs, hx⟩
    · exact .inl hn
    · exact .inr ⟨g, cap, cur, hv, hb, u.heap hh (hrow _ _ _ hh), hc, hm, hs, hx⟩
  hp := h.hp

theorem PR.one {w : World} {b m p q q' : Nat} {R1 R2 R1' : List (Int × Int)} {wr w2 : World} (h : PR w b m p q R1 R2 wr) (u : Upd (Two b m) wr w2) (t : TI w2 b m q' R1') : PR w b m p q' R1' R2 w2 := by
  obtain ⟨v, hv⟩ := h.r
  have hbk := h.t.1
  obtain ⟨_, L, ck, hmk, _⟩ := h.t
  refine ⟨t, ⟨v, refT_keep hv u ?_ ?_⟩, below_upd h.low h.low.size u h.hb h.hm, h.hb, h.hm⟩
  · rintro (e | e)
    · have := hv.blk
      rw [e, hbk] at this
      simp at this
    · have := hv.blk
      unfold MapIs at hmk
      rw [e, hmk] at this
      cases this
  · rintro i cs fr hi (e | e)
    · rw [e, hbk] at hi
      simp at hi
    · unfold MapIs at hmk
      rw [e, hmk] at hi
      cases hi
theorem PR.two {w : World} {b m p q : Nat} {R1 R2 R2' : List (Int × Int)} {wr w2 : World} (h : PR w b m p q R1 R2 wr) (u : Upd (RefS wr w.heap.size p) wr w2) (r : ∃ v, RefT w2 p w.heap.size v R2') : PR w b m p q R1 R2' w2 := by
  obtain ⟨v, hv⟩ := h.r
  have hbk := h.t.1
  have hmk : ∃ es ck, wr.heap[m]? = some (.map es ck) := by
    obtain ⟨_, L, ck, hmk, _⟩ := h.t
    exact ⟨_, _, hmk⟩
  obtain ⟨es, ck, hmk⟩ := hmk
  refine ⟨h.t.upd u ?_ ?_, r, h.low.trans (refS_below u hv.hp h.low.size), h.hb, h.hm⟩
  · rintro (e | ⟨_, cs, fr, e⟩)
    · have := hv.blk
      rw [← e, hbk] at this
      simp at this
    · rw [hbk] at e
      simp at e
  · rintro (e | ⟨_, cs, fr, e⟩)
    · have := hv.blk
      rw [← e, hmk] at this
      cases this
    · rw [hmk] at e
      cases e
theorem PR.same {w : World} {b m p q : Nat} {R1 R2 : List (Int × Int)} {wr w2 : World} (h : PR w b m p q R1 R2 wr) (u : Upd (fun _ => False) wr w2) : PR w b m p q R1 R2 w2 :=
  h.one (u.mono (fun _ h => h.elim)) (h.t.upd u (fun h => h) (fun h => h))
theorem quiet_left {P : Program} {f : FuncId} {args : Array Value} {w : World} {n : Nat} {v : Value}
    (h : Calls P f args (w.drewN n) fun e w' => e = .returned v ∧ w.drewN n = w') : Calls P f args (w.drewN n) fun e w'' => e = .returned v ∧ ∃ m, w'' = w.drewN m :=
  h.mono fun _ _ ⟨he, hm⟩ => ⟨he, n, hm.symm⟩
theorem ansI_form (R : List (Int × Int)) : ∃ a b c, ansI R = .tuple #[.int .i64 a, .int .i64 b, .bool c] := by
  unfold ansI encI
  split <;> exact ⟨_, _, _, rfl⟩
theorem popAnsI_form (R : List (Int × Int)) (now : Int) : ∃ a c, popAnsI R now = .tuple #[.int .i64 a, .bool c] := by
  unfold popAnsI encI
  split <;> exact ⟨_, _, rfl⟩
theorem rset_length (R : List (Int × Int)) (a t : Int) : (rset R a t).length ≤ R.length + 1 := by
  unfold rset
  rw [List.length_append]
  have : (rdrop R a).length ≤ R.length := List.length_filter_le _ _
  simp
  omega
theorem rdrop_length_le (R : List (Int × Int)) (a : Int) : (rdrop R a).length ≤ R.length := List.length_filter_le _ _
theorem rpop_length_le (R : List (Int × Int)) (now : Int) : (rpop R now).length ≤ R.length := by
  unfold rpop
  split
  · exact rdrop_length_le _ _
  · exact Nat.le_refl _

set_option maxHeartbeats 1000000 in
set_option maxRecDepth 100000 in
theorem plays_walk (a0 : Option Addr) (len0 cap0 : Nat) (S : List (Int × Int × Int)) (w : World) (w0 : IsSteps w a0 len0 cap0 S) :
    Calls Try.prog 3 #[.slice a0 len0 cap0] w fun e w' => e = .returned (.bool true) ∧ Below w.heap.size w w' := by
  have l0 := w0.1
  unfold maxLen at l0
  have W0 := Aside.mk w0
  clear w0
  by_cases h0 : 200 < len0
  · have d0 : decide ((200 : Int) < (len0 : Int)) = true := decide_eq_true (by omega)
    go_enter Try.func3, Try.ntmps3
    go_wp2_with fail
    refine (works_any _).mono ?_
    rintro e v1 ⟨rfl, hb⟩
    go_wp2_with fail
    go_ret
    exact ⟨rfl, hb⟩
  · have d0 : decide ((200 : Int) < (len0 : Int)) = false := decide_eq_false (by omega)
    go_enter Try.func3, Try.ntmps3
    go_wp2_with fail
    refine (new_I _).mono ?_
    rintro e v1 ⟨rfl, t1, b1, s1⟩
    have hP : PR w (w.heap.size + 1) w.heap.size v1.heap.size 0 [] [] (v1.alloc (.cells #[.slice none 0 0] 29)) := by
      have u : Upd (fun _ => False) v1 (v1.alloc (.cells #[.slice none 0 0] 29)) := (Upd.refl _ _).alloc _
      exact ⟨t1.upd u (fun h => h) (fun h => h), ⟨_, heap_alloc_new v1 _, World.ownsRow_nil _ _ _ _, by omega⟩, b1.trans ((Upd.refl (fun _ => False) v1).alloc _ |>.below b1.size (fun i h => h.elim)), by omega, by omega⟩
    have HP := Aside.mk hP
    clear hP t1 b1 s1
    go_wp2_with fail
    obtain ⟨p, hp⟩ : ∃ p, p = v1.heap.size := ⟨_, rfl⟩
    rw [← hp] at HP ⊢
    clear hp
    go_loopw [5] (fun i wr => ∃ k : Nat, k ≤ len0 ∧ i = .int .i64 k ∧ ∃ q R, q ≤ k ∧ R.length ≤ k ∧ PR w (w.heap.size + 1) w.heap.size p q R R wr) (fun i _ => len0 - (intOf i).toNat)
    case atStart => exact ⟨0, by omega, rfl, 0, [], by omega, by simp, HP.out⟩
    case round =>
      clear HP
      obtain ⟨k, hk, rfl, q, R, hq, hRl, hR⟩ := hrel
      have HR := Aside.mk hR
      have HND := Aside.mk (tbl_nodup hR.t)
      clear hR
      by_cases c0 : k < len0
      · have hkS : k < S.length := by rw [W0.out.2.1]; exact c0
        obtain ⟨sb, so, rfl, k0, k1, k2, hok⟩ := W0.out.at_ HR.out.low (List.getElem?_eq_getElem hkS)
        have HKEEP : Aside (∀ w2, Below w.heap.size w w2 → w2.cell? ⟨sb, so + k * 3, none⟩ = some (.int .i64 S[k].1) ∧ w2.cell? ⟨sb, so + k * 3 + 1, none⟩ = some (.int .i64 S[k].2.1) ∧ w2.cell? ⟨sb, so + k * 3 + 2, none⟩ = some (.int .i64 S[k].2.2)) := ⟨fun w2 hb2 => by
          obtain ⟨b', o', he, h0, h1, h2, _⟩ := W0.out.at_ hb2 (List.getElem?_eq_getElem hkS)
          injection he with he
          injection he with he1 he2
          subst he1 he2
          exact ⟨h0, h1, h2⟩⟩
        have HOK := Aside.mk hok
        clear hok
        generalize S[k] = s at k0 k1 k2 HKEEP HOK
        clear hkS
        obtain ⟨kind, key, time⟩ := s
        simp only at k0 k1 k2
        have hk0 : (0 : Int) ≤ (k : Int) := by omega
        have hk1 : (k : Int) < (len0 : Int) := by omega
        by_cases hk_0 : kind = 0
        · subst hk_0
          go_wp2_with fail
          go_region_held3 (fun w' => w'.cell? ⟨sb, so + k * 3 + 1, none⟩ = some (.int .i64 key) ∧ w'.cell? ⟨sb, so + k * 3 + 2, none⟩ = some (.int .i64 time))
            (first | go_keep | exact ⟨(HKEEP.out _ HR2.out.low).2.1, (HKEEP.out _ HR2.out.low).2.2⟩)
            ((go_at_call 12; refine (set_I _ (HR.out.same ((Upd.refl _ _).drew)).t _ _ HOK.out (by omega)).mono ?_; rintro e w2 ⟨rfl, t2, u2⟩; have HR2 := Aside.mk ((HR.out.same ((Upd.refl _ _).drew)).one u2 t2); clear t2 u2))
          obtain ⟨m0, m1, m2⟩ := HKEEP.out _ HR2.out.low
          obtain ⟨v2, hv2⟩ := HR2.out.r
          have HS3 := Aside.mk (rset_any w2.drew (base := w.heap.size) (p := p) (v := v2) (R := R) ⟨hv2.blk, hv2.own, hv2.hp⟩ HR2.out.low.size (by omega) HND.out key time)
          have HR2d := Aside.mk (HR2.out.same ((Upd.refl (fun _ => False) w2).drew))
          clear hv2
          go_wp2_with fail
          go_region_held3 (fun w' => w'.cell? ⟨sb, so + k * 3 + 1, none⟩ = some (.int .i64 key) ∧ w'.cell? ⟨sb, so + k * 3 + 2, none⟩ = some (.int .i64 time))
            (first | go_keep | exact ⟨(HKEEP.out _ HR3.out.low).2.1, (HKEEP.out _ HR3.out.low).2.2⟩)
            ((go_at_call 13; refine HS3.out.mono ?_; rintro e w3 ⟨rfl, t3, u3⟩; have HR3 := Aside.mk (HR2d.out.two u3 t3); clear t3 u3))
          clear m0 m1 m2 HS3 HR2 HR2d k0 k1 k2
          clear HR HND HKEEP
          obtain ⟨v3, hv3⟩ := HR3.out.r
          obtain ⟨A3, c3, rfl⟩ := own_slice hv3.own
          have hcp := hv3.cell
          clear hv3
          go_wp2_with fail
          go_quiet ((go_at_call 20; exact quiet_left (len_I _ (HR3.out.same ((Upd.refl _ _).drewN _)).t)))
          go_wp2_with fail
          go_roundw
          case rel => exact ⟨k + 1, by omega, by go_num, _, _, by omega, (by have := rset_length R key time; omega), HR3.out.same ((Upd.refl _ _).drewN _)⟩
          case measure => simp [intOf]; omega
        · by_cases hk_1 : kind = 1
          · subst hk_1
            clear hk_0
            have HRd := Aside.mk (HR.out.same ((Upd.refl (fun _ => False) wr).drew))
            clear k0 k1 k2
            obtain ⟨k0, k1, k2⟩ := HKEEP.out _ HR.out.low
            go_wp2_with fail
            go_region_held3 (fun w' => w'.cell? ⟨sb, so + k * 3 + 1, none⟩ = some (.int .i64 key))
              (first | go_keep | exact (HKEEP.out _ HR3.out.low).2.1 | exact (HKEEP.out _ HR2.out.low).2.1)
              ((first
                | (go_at_call 14; refine (stop_I _ HRd.out.t _ HOK.out).mono ?_; rintro e w2 ⟨rfl, t2, u2⟩; have HR2 := Aside.mk (HRd.out.one u2 t2); clear t2 u2)
                | (go_at_call 15; obtain ⟨v2, hv2⟩ := HR2.out.r; refine (rstop_any _ hv2 HR2.out.low.size (by omega) HND.out key).mono ?_; rintro e w3 ⟨rfl, t3, u3⟩; have HR3 := Aside.mk (HR2.out.two u3 t3); clear t3 u3 hv2)))
            clear HR2 HRd k0 k1 k2
            clear HR HND HKEEP
            obtain ⟨v3, hv3⟩ := HR3.out.r
            obtain ⟨A3, c3, rfl⟩ := own_slice hv3.own
            have hcp := hv3.cell
            clear hv3
            go_wp2_with fail
            go_quiet ((go_at_call 20; exact quiet_left (len_I _ (HR3.out.same ((Upd.refl _ _).drewN _)).t)))
            go_wp2_with fail
            go_roundw
            case rel => exact ⟨k + 1, by omega, by go_num, _, _, by omega, (by have := rdrop_length_le R key; omega), HR3.out.same ((Upd.refl _ _).drewN _)⟩
            case measure => simp [intOf]; omega
          · by_cases hk_2 : kind = 2
            · subst hk_2
              clear hk_0 hk_1
              obtain ⟨a, b, c, ha⟩ := ansI_form R
              have hn1 := next_I _ HR.out.t
              rw [ha] at hn1
              have HN1 := Aside.mk hn1
              have HAF := Aside.mk ha
              clear hn1 ha
              go_wp2_with fail
              refine HN1.out.mono ?_
              rintro e w2 ⟨rfl, u2⟩
              have HR2 := Aside.mk (HR.out.same u2)
              clear u2
              go_wp2_with fail
              obtain ⟨v2, hv2⟩ := HR2.out.r
              have hn2 := rnext_any w2 hv2 (by omega)
              rw [HAF.out] at hn2
              refine hn2.mono ?_
              rintro e w3 ⟨rfl, u3⟩
              have HR3 := Aside.mk (HR2.out.same u3)
              clear u3 hn2 hv2 HR2 HN1 HAF k0 k1 k2
              clear HR HND HKEEP
              obtain ⟨v3, hv3⟩ := HR3.out.r
              obtain ⟨A3, c3, rfl⟩ := own_slice hv3.own
              have hcp := hv3.cell
              clear hv3
              go_wp2_with fail
              go_quiet ((go_at_call 20; exact quiet_left (len_I _ (HR3.out.same ((Upd.refl _ _).drewN _)).t)))
              go_wp2_with fail
              go_roundw
              case rel => exact ⟨k + 1, by omega, by go_num, _, _, by omega, by omega, HR3.out.same ((Upd.refl _ _).drewN _)⟩
              case measure => simp [intOf]; omega
            · by_cases hk_3 : kind = 3
              · subst hk_3
                clear hk_0 hk_1 hk_2
                obtain ⟨a, c, ha⟩ := popAnsI_form R time
                have hn1 := pop_I _ HR.out.t time
                rw [ha] at hn1
                have HN1 := Aside.mk hn1
                have HAF := Aside.mk ha
                clear hn1 ha
                go_wp2_with fail
                refine HN1.out.mono ?_
                rintro e w2 ⟨rfl, t2, u2⟩
                have HR2 := Aside.mk (HR.out.one u2 t2)
                clear u2 t2 k0 k1 k2
                obtain ⟨k0, k1, k2⟩ := HKEEP.out _ HR2.out.low
                go_wp2_with fail
                obtain ⟨v2, hv2⟩ := HR2.out.r
                have hn2 := rpop_any w2 hv2 HR2.out.low.size (by omega) HND.out time
                rw [HAF.out] at hn2
                refine hn2.mono ?_
                rintro e w3 ⟨rfl, t3, u3⟩
                have HR3 := Aside.mk (HR2.out.two u3 t3)
                clear u3 t3 hn2 hv2 HR2 HN1 HAF k0 k1 k2
                clear HR HND HKEEP
                obtain ⟨v3, hv3⟩ := HR3.out.r
                obtain ⟨A3, c3, rfl⟩ := own_slice hv3.own
                have hcp := hv3.cell
                clear hv3
                go_wp2_with fail
                go_quiet ((go_at_call 20; exact quiet_left (len_I _ (HR3.out.same ((Upd.refl _ _).drewN _)).t)))
                go_wp2_with fail
                go_roundw
                case rel => exact ⟨k + 1, by omega, by go_num, _, _, by omega, (by have := rpop_length_le R time; omega), HR3.out.same ((Upd.refl _ _).drewN _)⟩
                case measure => simp [intOf]; omega
              · have b0 : (kind == 0) = false := beq_eq_false_iff_ne.2 hk_0
                have b1 : (kind == 1) = false := beq_eq_false_iff_ne.2 hk_1
                have b2 : (kind == 2) = false := beq_eq_false_iff_ne.2 hk_2
                have b3 : (kind == 3) = false := beq_eq_false_iff_ne.2 hk_3
                clear hk_0 hk_1 hk_2 hk_3
                have HR3 := HR
                clear HR HND HKEEP
                obtain ⟨v3, hv3⟩ := HR3.out.r
                obtain ⟨A3, c3, rfl⟩ := own_slice hv3.own
                have hcp := hv3.cell
                clear hv3
                go_wp2_with fail
                go_quiet ((go_at_call 20; exact quiet_left (len_I _ (HR3.out.same ((Upd.refl _ _).drewN _)).t)))
                go_wp2_with fail
                go_roundw
                case rel => exact ⟨k + 1, by omega, by go_num, _, _, by omega, by omega, HR3.out.same ((Upd.refl _ _).drewN _)⟩
                case measure => simp [intOf]; omega
      · have hkd : decide (k < len0) = false := decide_eq_false (by omega)
        go_wp2_with fail
        refine (works_any _).mono ?_
        rintro e v9 ⟨rfl, hb⟩
        have HB := Aside.mk (HR.out.low.trans (hb.mono HR.out.low.size))
        clear hb
        go_wp2_with fail
        go_ret
        exact ⟨rfl, HB.out⟩
end Go.Proofs.Ytgfpeppaimhgiaa
