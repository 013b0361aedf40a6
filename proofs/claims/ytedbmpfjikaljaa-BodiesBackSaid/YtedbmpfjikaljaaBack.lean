/-
  Proved: 'BodiesBack' as a walk: whatever the argument reads as, the function answers true. No condition.
-/
import Derived.Test.YtedbmpfjikaljaaCuts
namespace Go.Proofs.Ytedbmpfjikaljaa
open Go.RowKit
set_option linter.unusedVariables false
set_option linter.unusedSimpArgs false
set_option linter.unusedSectionVars false
set_option maxRecDepth 100000

theorem backData_ (V : World) (t s q : Int) (u f l : Bool) (ht : 0 ≤ t ∧ t < 4294967296) (hs : 0 ≤ s ∧ s < 65536) (hq : 0 ≤ q ∧ q < 65536) {A : Option Addr} {dn c : Nat} {db : List Int} (h : Rd .u8 V A (12 + dn) c (dataL t s q db)) (hy : Byt db) (hl : db.length = dn) (hn : dn ≤ 8192) {E : Bool} (hE : decide (0 < dn) = E) :
    Calls Try.prog 22 #[chunkV 0 (flagsV u f l) A (12 + dn) c] V fun e V' => ∃ B d, e = .returned (.tuple #[pickV E (dataV t s q u f l B dn d) dataZ, errV E]) ∧ Aside (Own V' V.heap.size B dn d db ∧ Below V.heap.size V V') := by
  obtain ⟨f1, f2, f3, f4, f5⟩ := fl_flags u f l
  have e := data_E t s q (flagsV u f l) db ht hs hq ⟨f4, by omega⟩
  rw [decide_eq_true f5, Bool.and_true, hl, hE] at e
  refine (getData_ V h (byt_data _ _ _ hy) (by omega)).mono ?_
  rintro e' V' ⟨B, m, d, rfl, o, b⟩
  rw [data_t t s q db ht, data_s t s q db hs, data_q t s q db hq, f1, f2, f3, e]
  rw [data_drop] at o
  obtain rfl : m = dn := by rw [← o.len, hl]
  exact ⟨B, d, rfl, ⟨o, b⟩⟩
theorem backInit_ (V : World) (k a b c d e : Int) (hk : k = 1 ∨ k = 2) (h1 : 0 ≤ a ∧ a < 4294967296) (h2 : 0 ≤ b ∧ b < 4294967296) (h3 : 0 ≤ c ∧ c < 65536) (h4 : 0 ≤ d ∧ d < 65536) (h5 : 0 ≤ e ∧ e < 4294967296) {A : Option Addr} {N cp : Nat} {bs : List Int} (h : Rd .u8 V A N cp (initL k a b c d e bs)) (hy : Byt bs) (hn : bs.length ≤ 8192) (h0 : k = 1 → bs = [])
    {cb : Bool} (hcb : (k = 1 ∧ cb = true) ∨ (k = 2 ∧ cb = decide (0 < bs.length))) {E : Bool} (hE : (nz3 a c d && cb) = E) :
    Calls Try.prog 44 #[chunkV k 0 A N cp] V fun e' V' => ∃ B m dd, e' = .returned (.tuple #[pickV E (initV a b c d e B m dd) initZ, errV E]) ∧ Aside (Own V' V.heap.size B m dd bs ∧ Below V.heap.size V V') := by
  have hN : N ≤ 100000 := by
    have := initL_len k a b c d e bs
    have := h.len
    omega
  have key : initE k 0 (initL k a b c d e bs) = E ∧ initCk k (initL k a b c d e bs) = bs := by
    rcases hcb with ⟨rfl, rfl⟩ | ⟨rfl, rfl⟩
    · rw [h0 rfl]
      refine ⟨?_, rfl⟩
      rw [init_E1 a b c d e [] h1 h2 h3 h4 h5, ← hE, Bool.and_true]
    · obtain ⟨e1, e2⟩ := init_E2 a b c d e bs h1 h2 h3 h4 h5 (by omega)
      exact ⟨e1.trans hE, e2⟩
  obtain ⟨g1, g2, g3, g4, g5⟩ := init_f k a b c d e bs h1 h2 h3 h4 h5
  refine (getInit_ V h (byt_init _ _ _ _ _ _ hy) hN).mono ?_
  rintro e' V' ⟨B, m, dd, rfl, o, b'⟩
  rw [g1, g2, g3, g4, g5, key.1]
  rw [key.2] at o
  exact ⟨B, m, dd, rfl, ⟨o, b'⟩⟩
theorem backSack_ (V : World) (a b : Int) (h1 : 0 ≤ a ∧ a < 4294967296) (h2 : 0 ≤ b ∧ b < 4294967296) {A : Option Addr} {N cp : Nat} {ps : List (Int × Int)} {ds : List Int} (h : Rd .u8 V A N cp (sackL a b ps ds)) (hp : ps.length ≤ 2048) (hd : ds.length ≤ 2048) (hpb : ∀ q ∈ ps, (0 ≤ q.1 ∧ q.1 < 65536) ∧ (0 ≤ q.2 ∧ q.2 < 65536)) (hdb : ∀ q ∈ ds, 0 ≤ q ∧ q < 4294967296) {E : Bool} (hE : (aptS ps).1 = E) :
    Calls Try.prog 30 #[chunkV 3 0 A N cp] V fun e' V' => ∃ B d B2 d2, e' = .returned (.tuple #[pickV E (sackV a b B ps.length d B2 ds.length d2) sackZ, errV E]) ∧ Aside (OwnP 84 V' V.heap.size B ps.length d ps ∧ OwnD V' V.heap.size B2 ds.length d2 ds ∧ Below V.heap.size V V') := by
  have hN : N ≤ 100000 := by
    have := sackL_len a b ps ds
    have := h.len
    omega
  refine (getSack_ V h (byt_sack _ _ _ _) hN).mono ?_
  rintro e' V' ⟨B, m, d, B2, m2, d2, rfl, o1, o2, b'⟩
  rw [sack_E a b ps ds h1 h2 (by omega) (by omega) hpb hdb, sack_a a b ps ds h1, sack_b a b ps ds h2, hE]
  rw [sack_ps a b ps ds (by omega) hpb] at o1
  rw [sack_ds a b ps ds (by omega) (by omega) hdb] at o2
  obtain rfl : m = ps.length := o1.len.symm
  obtain rfl : m2 = ds.length := o2.len.symm
  exact ⟨B, d, B2, d2, rfl, ⟨o1, o2, b'⟩⟩
theorem backFwd_ (V : World) (a : Int) (h1 : 0 ≤ a ∧ a < 4294967296) {A : Option Addr} {N cp : Nat} {ps : List (Int × Int)} (h : Rd .u8 V A N cp (fwdL a ps)) (hp : ps.length ≤ 2048) (hpb : ∀ q ∈ ps, (0 ≤ q.1 ∧ q.1 < 65536) ∧ (0 ≤ q.2 ∧ q.2 < 65536)) :
    Calls Try.prog 34 #[chunkV 192 0 A N cp] V fun e' V' => ∃ B d, e' = .returned (.tuple #[fwdV a B ps.length d, .int .i64 0]) ∧ Aside (OwnP 88 V' V.heap.size B ps.length d ps ∧ Below V.heap.size V V') := by
  have hN : N ≤ 100000 := by
    have := fwdL_len a ps
    have := h.len
    omega
  refine (getFwd_ V h (byt_fwd _ _) hN).mono ?_
  rintro e' V' ⟨B, m, d, rfl, o1, b'⟩
  rw [fwd_E a ps h1 hpb, fwd_x a ps h1]
  rw [fwd_ps a ps hpb] at o1
  obtain rfl : m = ps.length := o1.len.symm
  exact ⟨B, d, rfl, ⟨o1, b'⟩⟩
theorem backTime_ (V : World) (k x : Int) (hk : k = 4 ∨ k = 5) (hx : -9223372036854775808 ≤ x ∧ x < 9223372036854775808) {A : Option Addr} {c : Nat} (h : Rd .u8 V A 12 c (timeL x)) :
    Calls Try.prog 38 #[chunkV k 0 A 12 c] V fun e' V' => e' = .returned (.tuple #[.int .i64 x, .int .i64 0]) ∧ Aside (Below V.heap.size V V') := by
  refine (getTime_ V h (byt_time _) (by omega)).mono ?_
  rintro e' V' ⟨rfl, b'⟩
  rw [time_E k x hk hx, tim_time x hx]
  exact ⟨rfl, ⟨b'⟩⟩
theorem backCum_ (V : World) (x : Int) (hx : 0 ≤ x ∧ x < 4294967296) {A : Option Addr} {c : Nat} (h : Rd .u8 V A 4 c (cumL x)) :
    Calls Try.prog 40 #[chunkV 7 0 A 4 c] V fun e' V' => e' = .returned (.tuple #[.int .u32 x, .int .i64 0]) ∧ Aside (Below V.heap.size V V') := by
  refine (getCum_ V h (byt_cum _) (by omega)).mono ?_
  rintro e' V' ⟨rfl, b'⟩
  rw [cum_E x hx, cum_x x hx]
  exact ⟨rfl, ⟨b'⟩⟩
theorem mem_of_getD {ds : List Int} (h : ∀ i, 0 ≤ ds.getD i 0 ∧ ds.getD i 0 < 4294967296) : ∀ q ∈ ds, 0 ≤ q ∧ q < 4294967296 := by
  intro q hq
  obtain ⟨i, hi⟩ := List.getElem?_of_mem hq
  have := h i
  rw [List.getD_eq_getElem?_getD, hi] at this
  exact this
theorem rd_nil0 (V : World) : Rd .u8 V none 0 0 [] := Rd.nil (by omega)
theorem nz3_of (a b c : Int) : nz3 a b c = (a != 0 && b != 0 && c != 0) := rfl
theorem Boxed.set {w V : World} {cs : Array Value} {t : TypeId} (h : Boxed w (.cells cs t) V) (i : Nat) (v : Value) : Boxed w (.cells (cs.setIfInBounds i v) t) (V.setCell ⟨w.heap.size, i, none⟩ v) := ⟨setCell_block h.box, h.low.setCell (p := ⟨w.heap.size, i, none⟩) (Nat.le_refl _) v⟩
theorem aptS_ev {ps : List (Int × Int)} {i : Nat} {p : Int × Int} (hp : ps[i]? = some p) : (aptS (ps.take (i + 1))).2 = p.2 := by
  rw [List.take_add_one, hp]
  exact congrArg Prod.snd (aptS_snoc _ p.1 p.2)
theorem aptS_next {ps : List (Int × Int)} {i : Nat} {p : Int × Int} (hp : ps[i]? = some p) : (aptS (ps.take (i + 1))).1 = ((aptS (ps.take i)).1 && decide ((aptS (ps.take i)).2 + 2 ≤ p.1) && decide (p.1 ≤ p.2)) := by
  rw [List.take_add_one, hp]
  exact congrArg Prod.fst (aptS_snoc _ p.1 p.2)

set_option maxHeartbeats 8000000 in
theorem back_ (w : World) (a : AllA) {db ck : List Int} {gs : List (Int × Int)} {ds : List Int} {ss : List (Int × Int)} (h : AllOk w a db ck gs ds ss) :
    Calls Try.prog 11 #[.agg a.cells] w fun e w' => e = .returned (.bool true) ∧ Below w.heap.size w w' := by
  obtain ⟨ack, t, s, q, u, f, l, dA, dn, dc, tag, rw_, ou, inn, tsn, cA, cn, cc, cum, rwnd, gA, gn, gc, pA, pn, pc, fc, sA, sn, sc, at_, cm⟩ := a
  obtain ⟨b1, b2, b3, b4, b5, b6, b7, b8, b9, b10, b11, b12, b13, rd, rdb, rc, rck, rg, rp, rds, rf⟩ := h
  simp only at b1 b2 b3 b4 b5 b6 b7 b8 b9 b10 b11 b12 b13 rd rc rg rp rf
  unfold AllA.cells
  simp only
  have m1 := rd.mx
  have m2 := rc.mx
  have m3 := rg.mx
  have m4 := rp.mx
  have m5 := rf.mx
  have n1 := rd.cap
  have n2 := rc.cap
  have n3 := rg.cap
  have n4 := rp.cap
  have n5 := rf.cap
  have RD := Aside.mk rd
  have RC := Aside.mk rc
  have RG := Aside.mk rg
  have RP := Aside.mk rp
  have RF := Aside.mk rf
  have RDS := Aside.mk rds
  have RDB := Aside.mk rdb
  have RCK := Aside.mk rck
  clear rd rc rg rp rf rdb rck rds
  have X0 := Aside.mk (boxed_new w (.cells #[.bool ack, .int .u32 t, .int .u16 s, .int .u16 q, .bool u, .bool f, .bool l, .slice dA dn dc, .int .u32 tag, .int .u32 rw_, .int .u16 ou, .int .u16 inn, .int .u32 tsn, .slice cA cn cc, .int .u32 cum, .int .u32 rwnd, .slice gA gn gc, .slice pA pn pc, .int .u32 fc, .slice sA sn sc, .int .i64 at_, .int .u32 cm] 43))
  go_enter Try.func11, Try.ntmps11
  obtain ⟨M, hM⟩ : ∃ M, isMany gn pn sn = M := ⟨_, rfl⟩
  have T1 := Aside.mk (fun V => many_ V cum rwnd fc gA pA sA gn gc pn pc sn sc (E := M) hM)
  have HM := Aside.mk hM
  clear hM
  go_wp2_with fail
  refine (T1.out _).mono ?_
  rintro e w2 ⟨rfl, bw2⟩
  have X2 := Aside.mk (X0.out.below bw2)
  clear bw2 T1 X0
  have kx := keep22 X2.out.box
  have W1 := Aside.mk (works_ w2)
  cases M
  · cases hd : decide ((8192 : Int) < (dn : Int))
    · cases hc : decide ((8192 : Int) < (cn : Int))
      · obtain ⟨g1, g2, g3⟩ := not_many HM.out
        have g4 : dn ≤ 8192 := by simp at hd; omega
        have g5 : cn ≤ 8192 := by simp at hc; omega
        have RDr := Aside.mk (RD.out.rd (by omega))
        have RCr := Aside.mk (RC.out.rd (by omega))
        have RGr := Aside.mk (RG.out.rd (by omega))
        have RPr := Aside.mk (RP.out.rd (by omega))
        have RFr := Aside.mk (RF.out.rd (by omega))
        clear W1 HM RD RC RG RP RF
        go_upto_region 3 with (fail)
        obtain ⟨E1, hE1⟩ : ∃ E1, decide (0 < dn) = E1 := ⟨_, rfl⟩
        have HE1 := Aside.mk hE1
        clear hE1
        go_cut [3, 4] (fun s3 s4 wx => ∃ g : Nat, s3 = .pointer (some ⟨g, 0, none⟩) ∧ s4 = errV E1 ∧ Aside (Boxed w (.cells #[.bool ack, .int .u32 t, .int .u16 s, .int .u16 q, .bool u, .bool f, .bool l, .slice dA dn dc, .int .u32 tag, .int .u32 rw_, .int .u16 ou, .int .u16 inn, .int .u32 tsn, .slice cA cn cc, .int .u32 cum, .int .u32 rwnd, .slice gA gn gc, .slice pA pn pc, .int .u32 fc, .slice sA sn sc, .int .i64 at_, .int .u32 cm] 43) wx ∧ (E1 = true → ∃ B d, wx.heap[g]? = some (.cells #[.int .u32 t, .int .u16 s, .int .u16 q, .bool u, .bool f, .bool l, .slice B dn d] 32) ∧ Rd .u8 wx B dn d db)))
        case first =>
          as_aux_lemma =>
            have T1 := Aside.mk (putDataN_ w2 t s q u f l b1 b2 b3 (RDr.out.below X2.out.low) (by omega))
            go_wp2_with fail
            refine T1.out.mono ?_
            rintro e w3 ⟨A, c, rfl, P3⟩
            have T2 := Aside.mk (backData_ w3 t s q u f l b1 b2 b3 (P3.out.1.rd (by omega)) RDB.out RDr.out.len g4 HE1.out)
            clear T1
            go_wp2_with fail
            refine T2.out.mono ?_
            rintro e w4 ⟨B, d, rfl, P4⟩
            have X4 := Aside.mk ((X2.out.below P3.out.2).below P4.out.2)
            clear T2
            cases E1
            all_goals (
              unfold pickV errV dataZ dataV
              go_wp2_with fail
              go_meet)
            · exact ⟨_, rfl, rfl, ⟨X4.out.alloc _, fun h => by cases h⟩⟩
            · exact ⟨_, rfl, rfl, ⟨X4.out.alloc _, fun _ => ⟨B, d, heap_alloc_new w4 _, (P4.out.1.rd (by omega)).below (below_alloc w4 _)⟩⟩⟩
        case rest =>
          obtain ⟨g, rfl, rfl, hX⟩ := hcut
          have XC := Aside.mk hX.out.1
          have kx := keep22 XC.out.box
          clear X2
          go_upto_region 4 with (fail)
          go_cut [4, 64] (fun s4 s64 wx => s64 = .bool false ∧ Aside (Boxed w (.cells #[.bool ack, .int .u32 t, .int .u16 s, .int .u16 q, .bool u, .bool f, .bool l, .slice dA dn dc, .int .u32 tag, .int .u32 rw_, .int .u16 ou, .int .u16 inn, .int .u32 tsn, .slice cA cn cc, .int .u32 cum, .int .u32 rwnd, .slice gA gn gc, .slice pA pn pc, .int .u32 fc, .slice sA sn sc, .int .i64 at_, .int .u32 cm] 43) wx))
          case first =>
            as_aux_lemma =>
              cases E1
              · obtain rfl : dn = 0 := by have := HE1.out; rw [decide_eq_false_iff_not] at this; omega
                unfold errV
                go_wp2_with fail
                go_meet
                exact ⟨rfl, XC⟩
              · have hdn : 0 < dn := by have := HE1.out; rw [decide_eq_true_eq] at this; exact this
                obtain ⟨B, d, hb, hr⟩ := hX.out.2 rfl
                have kv := keep7 hb
                have T := Aside.mk (sameData_ wc t s q t s q u f l u f l hr (RDr.out.below XC.out.low) RDB.out RDB.out (E := true) (by simp))
                clear hb hr
                unfold errV
                go_wp2_with fail
                refine T.out.mono ?_
                rintro e w5 ⟨rfl, b5⟩
                have X5 := Aside.mk (XC.out.below b5)
                clear b5 T
                go_wp2_with fail
                go_meet
                exact ⟨rfl, X5⟩
          case rest =>
            obtain ⟨rfl, X6⟩ := hcut
            clear XC hX kx
            have kx := keep22 X6.out.box
            have kf := blk_free (i := 13) X6.out.box
            go_upto_if 71 with (fail)
            go_cut [5, 6] (fun s5 s6 wx => ∃ (kd : Int) (cb : Bool) (cA' : Option Addr) (cn' cc' : Nat) (cks : List Int), s5 = .int .u8 kd ∧ s6 = .bool cb ∧ Aside (Boxed w (.cells #[.bool ack, .int .u32 t, .int .u16 s, .int .u16 q, .bool u, .bool f, .bool l, .slice dA dn dc, .int .u32 tag, .int .u32 rw_, .int .u16 ou, .int .u16 inn, .int .u32 tsn, .slice cA' cn' cc', .int .u32 cum, .int .u32 rwnd, .slice gA gn gc, .slice pA pn pc, .int .u32 fc, .slice sA sn sc, .int .i64 at_, .int .u32 cm] 43) wx ∧ Rd .u8 wx cA' cn' cc' cks ∧ Byt cks ∧ cn' ≤ 8192 ∧ (kd = 1 → cks = []) ∧ ((kd = 1 ∧ cb = true) ∨ (kd = 2 ∧ cb = decide (0 < cks.length)))))
            case first =>
              as_aux_lemma =>
                cases ack
                · by_cases c0 : cn = 0
                  · subst c0
                    have hck : ck = [] := List.eq_nil_of_length_eq_zero RCr.out.len
                    go_wp2_with fail
                    go_meet
                    exact ⟨1, true, cA, 0, cc, ck, rfl, rfl, ⟨X6.out, RCr.out.below X6.out.low, RCK.out, by omega, fun _ => hck, .inl ⟨rfl, rfl⟩⟩⟩
                  · have hcb : ((cn : Int) == 0) = false := beq_eq_false_iff_ne.2 (by omega)
                    have XS := Aside.mk (X6.out.set 13 (.slice none 0 0))
                    clear c0
                    go_wp2_with fail
                    go_meet
                    exact ⟨1, true, none, 0, 0, [], rfl, rfl, ⟨XS.out, rd_nil0 _, fun x hx => by simp at hx, by omega, fun _ => rfl, .inl ⟨rfl, rfl⟩⟩⟩
                · go_wp2_with fail
                  go_meet
                  exact ⟨2, _, cA, cn, cc, ck, rfl, rfl, ⟨X6.out, RCr.out.below X6.out.low, RCK.out, by omega, (fun h => by cases h), .inr ⟨rfl, decide_eq_decide.2 (by have := RCr.out.len; omega)⟩⟩⟩
            case rest =>
              obtain ⟨kd, cb, cA', cn', cc', cks, rfl, rfl, hX⟩ := hcut
              have hkd : kd = 1 ∨ kd = 2 := by rcases hX.out.2.2.2.2.2 with ⟨h, _⟩ | ⟨h, _⟩ <;> omega
              have kc1 := hX.out.2.1.cap
              have kc2 := hX.out.2.1.mx
              have kc3 := hX.out.2.2.2.1
              have XC := Aside.mk hX.out.1
              have kx := keep22 XC.out.box
              clear X6 kf
              obtain ⟨E2, hE2⟩ : ∃ E2, (nz3 tag ou inn && cb) = E2 := ⟨_, rfl⟩
              have HE2 := Aside.mk hE2
              clear hE2
              go_upto_region 14 with (fail)
              go_cut [7, 4] (fun s7 s4 wx => ∃ g : Nat, s7 = .pointer (some ⟨g, 0, none⟩) ∧ s4 = errV E2 ∧ Aside (Boxed w (.cells #[.bool ack, .int .u32 t, .int .u16 s, .int .u16 q, .bool u, .bool f, .bool l, .slice dA dn dc, .int .u32 tag, .int .u32 rw_, .int .u16 ou, .int .u16 inn, .int .u32 tsn, .slice cA' cn' cc', .int .u32 cum, .int .u32 rwnd, .slice gA gn gc, .slice pA pn pc, .int .u32 fc, .slice sA sn sc, .int .i64 at_, .int .u32 cm] 43) wx ∧ Rd .u8 wx cA' cn' cc' cks ∧ (E2 = true → ∃ B m d, wx.heap[g]? = some (.cells #[.int .u32 tag, .int .u32 rw_, .int .u16 ou, .int .u16 inn, .int .u32 tsn, .slice B m d] 34) ∧ Rd .u8 wx B m d cks)))
              case first =>
                as_aux_lemma =>
                  obtain ⟨NN, hNN⟩ : ∃ NN, (if kd = 2 then 20 + (cn' + 3) / 4 * 4 else 16) = NN := ⟨_, rfl⟩
                  have hNb : NN ≤ 60000 := by rw [← hNN]; split <;> omega
                  have T1 := Aside.mk (putInitN_ wc kd tag rw_ ou inn tsn b4 b5 b6 b7 b8 hX.out.2.1 (by omega) NN hNN)
                  clear hNN
                  go_wp2_with fail
                  refine T1.out.mono ?_
                  rintro e w3 ⟨A, c, rfl, P3⟩
                  have T2 := Aside.mk (backInit_ w3 kd tag rw_ ou inn tsn hkd b4 b5 b6 b7 b8 (P3.out.1.rd (by omega)) hX.out.2.2.1 (by have := hX.out.2.1.len; omega) hX.out.2.2.2.2.1 hX.out.2.2.2.2.2 HE2.out)
                  clear T1
                  go_wp2_with fail
                  refine T2.out.mono ?_
                  rintro e w4 ⟨B, m, d, rfl, P4⟩
                  have X4 := Aside.mk ((XC.out.below P3.out.2).below P4.out.2)
                  have R4 := Aside.mk ((hX.out.2.1.below P3.out.2).below P4.out.2)
                  clear T2
                  cases E2
                  all_goals (
                    unfold pickV errV initZ initV
                    go_wp2_with fail
                    go_meet)
                  · exact ⟨_, rfl, rfl, ⟨X4.out.alloc _, R4.out.below (below_alloc w4 _), fun h => by cases h⟩⟩
                  · exact ⟨_, rfl, rfl, ⟨X4.out.alloc _, R4.out.below (below_alloc w4 _), fun _ => ⟨B, m, d, heap_alloc_new w4 _, (P4.out.1.rd (by have := P4.out.1.len; have := hX.out.2.1.len; omega)).below (below_alloc w4 _)⟩⟩⟩
              case rest =>
                obtain ⟨g, rfl, rfl, hY⟩ := hcut
                have XD := Aside.mk hY.out.1
                have HBY := Aside.mk hX.out.2.2.1
                have kx := keep22 XD.out.box
                clear XC hX
                go_upto_region 15 with (fail)
                go_cut [4, 121] (fun s4 s121 wx => s121 = .bool false ∧ Aside (Boxed w (.cells #[.bool ack, .int .u32 t, .int .u16 s, .int .u16 q, .bool u, .bool f, .bool l, .slice dA dn dc, .int .u32 tag, .int .u32 rw_, .int .u16 ou, .int .u16 inn, .int .u32 tsn, .slice cA' cn' cc', .int .u32 cum, .int .u32 rwnd, .slice gA gn gc, .slice pA pn pc, .int .u32 fc, .slice sA sn sc, .int .i64 at_, .int .u32 cm] 43) wx))
                case first =>
                  as_aux_lemma =>
                    cases cb
                    · obtain rfl : E2 = false := by rw [← HE2.out]; simp
                      unfold errV
                      go_wp2_with fail
                      go_meet
                      exact ⟨rfl, XD⟩
                    · by_cases z1 : tag = 0
                      · subst z1
                        obtain rfl : E2 = false := by rw [← HE2.out]; rfl
                        unfold errV
                        go_wp2_with fail
                        go_meet
                        exact ⟨rfl, XD⟩
                      · by_cases z2 : ou = 0
                        · subst z2
                          obtain rfl : E2 = false := by rw [← HE2.out, nz3_of]; simp
                          have z1' : (tag != 0) = true := bne_iff_ne.2 z1
                          unfold errV
                          go_wp2_with fail
                          go_meet
                          exact ⟨rfl, XD⟩
                        · by_cases z3 : inn = 0
                          · subst z3
                            obtain rfl : E2 = false := by rw [← HE2.out, nz3_of]; simp
                            have z1' : (tag != 0) = true := bne_iff_ne.2 z1
                            have z2' : (ou != 0) = true := bne_iff_ne.2 z2
                            unfold errV
                            go_wp2_with fail
                            go_meet
                            exact ⟨rfl, XD⟩
                          · have z1' : (tag != 0) = true := bne_iff_ne.2 z1
                            have z2' : (ou != 0) = true := bne_iff_ne.2 z2
                            have z3' : (inn != 0) = true := bne_iff_ne.2 z3
                            obtain rfl : E2 = true := by rw [← HE2.out, nz3_of, z1', z2', z3']; rfl
                            obtain ⟨B, m, d, hb, hr⟩ := hY.out.2.2 rfl
                            have kv := keep6 hb
                            have T := Aside.mk (sameInit_ wc tag rw_ ou inn tsn tag rw_ ou inn tsn hr hY.out.2.1 HBY.out HBY.out (E := true) (by simp))
                            clear hb hr
                            unfold errV
                            go_wp2_with fail
                            refine T.out.mono ?_
                            rintro e w5 ⟨rfl, b5⟩
                            have X5 := Aside.mk (XD.out.below b5)
                            clear b5 T
                            go_wp2_with fail
                            go_meet
                            exact ⟨rfl, X5⟩
                case rest =>
                  obtain ⟨rfl, X7⟩ := hcut
                  clear XD hY kx HBY HE2
                  have kx := keep22 X7.out.box
                  obtain ⟨E3, hE3⟩ : ∃ E3, (aptS gs).1 = E3 := ⟨_, rfl⟩
                  have HE3 := Aside.mk hE3
                  clear hE3
                  have hgl := RGr.out.len
                  have hpl := RPr.out.len
                  have HGL := Aside.mk hgl
                  have HPL := Aside.mk hpl
                  clear hgl hpl
                  go_upto_region 17 with (fail)
                  go_cut [8, 4] (fun s8 s4 wx => ∃ g : Nat, s8 = .pointer (some ⟨g, 0, none⟩) ∧ s4 = errV E3 ∧ Aside (Boxed w (.cells #[.bool ack, .int .u32 t, .int .u16 s, .int .u16 q, .bool u, .bool f, .bool l, .slice dA dn dc, .int .u32 tag, .int .u32 rw_, .int .u16 ou, .int .u16 inn, .int .u32 tsn, .slice cA' cn' cc', .int .u32 cum, .int .u32 rwnd, .slice gA gn gc, .slice pA pn pc, .int .u32 fc, .slice sA sn sc, .int .i64 at_, .int .u32 cm] 43) wx ∧ g < wx.heap.size ∧ (E3 = true → ∃ B d B2 d2, wx.heap[g]? = some (.cells #[.int .u32 cum, .int .u32 rwnd, .slice B gn d, .slice B2 pn d2] 38) ∧ Rd2 wx B gn d gs ∧ Rd .u32 wx B2 pn d2 ds)))
                  case first =>
                    as_aux_lemma =>
                      have T1 := Aside.mk (putSackN_ wc cum rwnd b9 b10 (RGr.out.below X7.out.low) (RPr.out.below X7.out.low) (by omega) RDS.out)
                      go_wp2_with fail
                      refine T1.out.mono ?_
                      rintro e w3 ⟨A, c, rfl, P3⟩
                      have T2 := Aside.mk (backSack_ w3 cum rwnd b9 b10 (P3.out.1.rd (by omega)) (by have := HGL.out; omega) (by have := HPL.out; omega) RGr.out.num (mem_of_getD RDS.out) HE3.out)
                      rw [HGL.out, HPL.out] at T2
                      clear T1
                      go_wp2_with fail
                      refine T2.out.mono ?_
                      rintro e w4 ⟨B, d, B2, d2, rfl, P4⟩
                      have X4 := Aside.mk ((X7.out.below P3.out.2).below P4.out.2.2)
                      clear T2
                      cases E3
                      all_goals (
                        unfold pickV errV sackZ sackV
                        go_wp2_with fail
                        go_meet)
                      · exact ⟨_, rfl, rfl, ⟨X4.out.alloc _, lt_of_block (heap_alloc_new w4 _), fun h => by cases h⟩⟩
                      · exact ⟨_, rfl, rfl, ⟨X4.out.alloc _, lt_of_block (heap_alloc_new w4 _), fun _ => ⟨B, d, B2, d2, heap_alloc_new w4 _, (P4.out.1.rd2 (by omega) RGr.out.num).below (below_alloc w4 _), (P4.out.2.1.rd (by omega)).below (below_alloc w4 _)⟩⟩⟩
                  case rest =>
                    obtain ⟨g, rfl, rfl, hZ⟩ := hcut
                    obtain ⟨wo, rfl⟩ : ∃ wo : World, wo = wc := ⟨_, rfl⟩
                    have X8 := Aside.mk hZ.out.1
                    clear X7 kx
                    go_upto_block 0 with (fail)
                    go_cut [9] (fun s9 wx => s9 = .bool (aptS gs).1 ∧ Aside (Below wo.heap.size wo wx))
                    case first =>
                      as_aux_lemma =>
                        go_wp2_with fail
                        go_loopg [9, 10] gn (fun j s9 s10 wr => ∃ i, i + j = gn ∧ s10 = .int .i64 (i : Nat) ∧ s9 = .bool (aptS (gs.take i)).1 ∧ Aside (Below wo.heap.size wo wr))
                        case atStart => exact ⟨0, by omega, rfl, rfl, ⟨Below.refl _ _⟩⟩
                        case round =>
                          obtain ⟨i, hij, rfl, rfl, BV⟩ := hrel
                          have XW := Aside.mk (X8.out.below BV.out)
                          have kx := keep22 XW.out.box
                          have kz := lt_of_block XW.out.box
                          by_cases ci : i < gn
                          · obtain ⟨p, b1', o1', hp, rfl, hlt, k0, k1, hp1, hp2⟩ := (RGr.out.below XW.out.low).get ci
                            have EV : ∃ ev : Int, (aptS (gs.take i)).2 = ev ∧ 0 ≤ ev ∧ ev < 65536 ∧ ((i = 0 ∧ ev = 0) ∨ (0 < i ∧ wr.cell? ⟨b1', o1' + (i - 1) * 2 + 1, none⟩ = some (.int .u16 ev))) := by
                              rcases Nat.eq_zero_or_pos i with h0 | h0
                              · subst h0
                                exact ⟨0, rfl, by omega, by omega, .inl ⟨rfl, rfl⟩⟩
                              · obtain ⟨p', b2', o2', hp', hbb, hlt', _, k1', _, hq2⟩ := (RGr.out.below XW.out.low).get (show i - 1 < gn by omega)
                                injection hbb with hbb
                                injection hbb with hb1 hb2 _
                                subst hb1 hb2
                                have := aptS_ev hp'
                                rw [show i - 1 + 1 = i by omega] at this
                                exact ⟨p'.2, this, hq2.1, hq2.2, .inr ⟨h0, k1'⟩⟩
                            obtain ⟨ev, hev, hev0, hev1, hprev⟩ := EV
                            have NX := Aside.mk (aptS_next hp)
                            obtain ⟨a, b⟩ := p
                            simp only at k0 k1 hp1 hp2 NX
                            rw [hev] at NX
                            generalize (aptS (gs.take i)).1 = mb at *
                            have KC := Aside.mk (And.intro k0 k1)
                            have hcap := RGr.out.cap
                            have hmx := RGr.out.mx
                            clear hp hev
                            have BA := Aside.mk (BV.out.trans ((below_alloc wr (.cells #[.int .u16 a, .int .u16 b] 84)).mono BV.out.size))
                            have hnew := keep2 (heap_alloc_new wr (.cells #[.int .u16 a, .int .u16 b] 84))
                            have fin : Aside (∀ r : Bool, r = (mb && decide (ev + 2 ≤ a) && decide (a ≤ b)) → Value.bool r = .bool (aptS (gs.take (i + 1))).1) := ⟨fun r h => by rw [h, NX.out]⟩
                            have KD := Aside.mk (show i < gn from ci)
                            cases mb
                            · have M := Aside.mk (fin.out false rfl)
                              go_wp2_with fail
                              go_quiet (fail)
                              go_wp2_with fail
                              go_roundg (gn - (i + 1))
                              case' rel => exact ⟨i + 1, by omega, by go_num, M.out, ⟨below_drewN BA.out _⟩⟩
                              case' measure => omega
                            · cases d1 : decide (a ≤ b)
                              · have M := Aside.mk (fin.out false (by rw [d1]; simp))
                                go_wp2_with fail
                                go_quiet (fail)
                                go_wp2_with fail
                                go_roundg (gn - (i + 1))
                                case' rel => exact ⟨i + 1, by omega, by go_num, M.out, ⟨below_drewN BA.out _⟩⟩
                                case' measure => omega
                              · cases d2 : decide ((2 : Int) ≤ a)
                                · have M := Aside.mk (fin.out false (by rw [show decide (ev + 2 ≤ a) = false by rw [decide_eq_false_iff_not] at d2 ⊢; omega]; rfl))
                                  go_wp2_with fail
                                  go_quiet (fail)
                                  go_wp2_with fail
                                  go_roundg (gn - (i + 1))
                                  case' rel => exact ⟨i + 1, by omega, by go_num, M.out, ⟨below_drewN BA.out _⟩⟩
                                  case' measure => omega
                                · rcases hprev with ⟨hi0, he0⟩ | ⟨hi0, hpc⟩
                                  · subst hi0
                                    have k0' : wr.cell? ⟨b1', o1', none⟩ = some (.int .u16 a) := by simpa using k0
                                    have k1' : wr.cell? ⟨b1', o1' + 1, none⟩ = some (.int .u16 b) := by simpa using k1
                                    have M := Aside.mk (fin.out true (by rw [he0, show decide ((0 : Int) + 2 ≤ a) = true by rw [decide_eq_true_eq] at d2 ⊢; omega, d1]; rfl))
                                    clear he0
                                    go_wp2_with fail
                                    go_quiet (fail)
                                    go_wp2_with fail
                                    go_roundg (gn - (0 + 1))
                                    case' rel => exact ⟨0 + 1, by omega, by go_num, M.out, ⟨below_drewN BA.out _⟩⟩
                                    case' measure => omega
                                  · have hi1 : ((i : Int) == 0) = false := beq_eq_false_iff_ne.2 (by omega)
                                    have hi2 : ((i : Int) - 1).toNat = i - 1 := by omega
                                    have hi3 : (0 : Int) ≤ (i : Int) - 1 := by omega
                                    have hi4 : (i : Int) - 1 < (gn : Int) := by omega
                                    have hi5 : IntKind.i64.wrap ((i : Int) - 1) = (i : Int) - 1 := IntWalk.i64_in _ (by omega)
                                    have hi6 : IntKind.i64.wrap (ev + 1) = ev + 1 := IntWalk.i64_in _ (by omega)
                                    cases d3 : decide (ev + 1 < a)
                                    · have M := Aside.mk (fin.out false (by rw [show decide (ev + 2 ≤ a) = false by rw [decide_eq_false_iff_not] at d3 ⊢; omega]; rfl))
                                      go_wp2_with fail
                                      go_quiet (fail)
                                      go_wp2_with fail
                                      go_roundg (gn - (i + 1))
                                      case' rel => exact ⟨i + 1, by omega, by go_num, M.out, ⟨below_drewN BA.out _⟩⟩
                                      case' measure => omega
                                    · have M := Aside.mk (fin.out true (by rw [show decide (ev + 2 ≤ a) = true by rw [decide_eq_true_eq] at d3 ⊢; omega, d1]; rfl))
                                      go_wp2_with fail
                                      go_quiet (fail)
                                      go_wp2_with fail
                                      go_roundg (gn - (i + 1))
                                      case' rel => exact ⟨i + 1, by omega, by go_num, M.out, ⟨below_drewN BA.out _⟩⟩
                                      case' measure => omega
                          · obtain rfl : i = gn := by omega
                            have hd : decide (i < i) = false := decide_eq_false ci
                            have hl : gs.take i = gs := List.take_of_length_le (by rw [HGL.out]; exact Nat.le_refl _)
                            rw [hl]
                            go_wp2_with fail
                            go_meet
                            exact ⟨rfl, BV⟩
                    case rest =>
                      obtain ⟨rfl, BV⟩ := hcut
                      rw [HE3.out]
                      have XW := Aside.mk (X8.out.below BV.out)
                      have kx := keep22 XW.out.box
                      go_upto_region 24 with (fail)
                      go_cut [4, 190] (fun s4 s190 wx => s190 = .bool false ∧ Aside (Boxed w (.cells #[.bool ack, .int .u32 t, .int .u16 s, .int .u16 q, .bool u, .bool f, .bool l, .slice dA dn dc, .int .u32 tag, .int .u32 rw_, .int .u16 ou, .int .u16 inn, .int .u32 tsn, .slice cA' cn' cc', .int .u32 cum, .int .u32 rwnd, .slice gA gn gc, .slice pA pn pc, .int .u32 fc, .slice sA sn sc, .int .i64 at_, .int .u32 cm] 43) wx))
                      case first =>
                        as_aux_lemma =>
                          cases E3
                          · unfold errV
                            go_wp2_with fail
                            go_meet
                            exact ⟨rfl, XW⟩
                          · obtain ⟨B, d, B2, d2, hb, hr1, hr2⟩ := hZ.out.2.2 rfl
                            have kv := keep4 ((BV.out.block _ (lt_of_block hb)).trans hb)
                            have T := Aside.mk (sameSack_ wc cum rwnd cum rwnd (hr1.below BV.out) (RGr.out.below XW.out.low) (hr2.below BV.out) (RPr.out.below XW.out.low) (E := true) (by simp))
                            clear hb hr1 hr2
                            unfold errV
                            go_wp2_with fail
                            refine T.out.mono ?_
                            rintro e w5 ⟨rfl, b5⟩
                            have X5 := Aside.mk (XW.out.below b5)
                            clear b5 T
                            go_wp2_with fail
                            go_meet
                            exact ⟨rfl, X5⟩
                      case rest =>
                        obtain ⟨rfl, X9⟩ := hcut
                        clear XW kx hZ X8 BV HE3
                        have kx := keep22 X9.out.box
                        have T1 := Aside.mk (putFwdN_ wc fc b11 (RFr.out.below X9.out.low))
                        go_wp2_with fail
                        refine T1.out.mono ?_
                        rintro e w3 ⟨A, c, rfl, P3⟩
                        have T2 := Aside.mk (backFwd_ w3 fc b11 (P3.out.1.rd (by omega)) (by have := RFr.out.len; omega) RFr.out.num)
                        rw [RFr.out.len] at T2
                        clear T1
                        go_wp2_with fail
                        refine T2.out.mono ?_
                        rintro e w4 ⟨B, d, rfl, P4⟩
                        have X4 := Aside.mk ((X9.out.below P3.out.2).below P4.out.2)
                        have X5 := Aside.mk (X4.out.alloc (.cells #[.int .u32 fc, .slice B sn d] 41))
                        have T3 := Aside.mk (sameFwd_ (w4.alloc (.cells #[.int .u32 fc, .slice B sn d] 41)) fc fc ((P4.out.1.rd2 (by omega) RFr.out.num).below (below_alloc w4 _)) (RFr.out.below X5.out.low) (E := true) (by simp))
                        have kz4 := lt_of_block X4.out.box
                        have kb4 := keep22 X4.out.box
                        clear T2 X9 X4 P3 P4 kx
                        unfold fwdV
                        go_wp2_with fail
                        refine T3.out.mono ?_
                        rintro e w5 ⟨rfl, b5⟩
                        have X6 := Aside.mk (X5.out.below b5)
                        have kb5 := keep22 X6.out.box
                        have T4 := Aside.mk (putTimeN_ w5 4 at_ b12)
                        clear T3 X5 b5 kb4 kz4
                        go_wp2_with fail
                        refine T4.out.mono ?_
                        rintro e w6 ⟨A6, c6, rfl, P6⟩
                        have T5 := Aside.mk (backTime_ w6 4 at_ (.inl rfl) b12 (P6.out.1.rd (by omega)))
                        clear T4
                        go_wp2_with fail
                        refine T5.out.mono ?_
                        rintro e w7 ⟨rfl, P7⟩
                        have X7 := Aside.mk ((X6.out.below P6.out.2).below P7.out)
                        have kb7 := keep22 X7.out.box
                        have T6 := Aside.mk (putTimeN_ w7 5 at_ b12)
                        clear T5 X6 P6 P7 kb5
                        go_wp2_with fail
                        refine T6.out.mono ?_
                        rintro e w8 ⟨A8, c8, rfl, P8⟩
                        have T7 := Aside.mk (backTime_ w8 5 at_ (.inr rfl) b12 (P8.out.1.rd (by omega)))
                        clear T6
                        go_wp2_with fail
                        refine T7.out.mono ?_
                        rintro e w9 ⟨rfl, P9⟩
                        have X8 := Aside.mk ((X7.out.below P8.out.2).below P9.out)
                        have kb9 := keep22 X8.out.box
                        have T8 := Aside.mk (putCumN_ w9 cm b13)
                        clear T7 X7 P8 P9 kb7
                        go_wp2_with fail
                        refine T8.out.mono ?_
                        rintro e w10 ⟨A10, c10, rfl, P10⟩
                        have T9 := Aside.mk (backCum_ w10 cm b13 (P10.out.1.rd (by omega)))
                        clear T8
                        go_wp2_with fail
                        refine T9.out.mono ?_
                        rintro e w11 ⟨rfl, P11⟩
                        have X9 := Aside.mk ((X8.out.below P10.out.2).below P11.out)
                        have kb11 := keep22 X9.out.box
                        have T10 := Aside.mk (works_ w11)
                        clear T9 X8 P10 P11 kb9
                        go_wp2_with fail
                        refine T10.out.mono ?_
                        rintro e w12 ⟨rfl, b12'⟩
                        have BB := Aside.mk (X9.out.below b12').low
                        clear b12' T10
                        go_wp2_with fail
                        go_ret
                        exact ⟨rfl, BB.out⟩
      · go_wp2_with fail
        refine W1.out.mono ?_
        rintro e w3 ⟨rfl, b3⟩
        have BB := Aside.mk (X2.out.below b3).low
        clear b3
        go_wp2_with fail
        go_ret
        exact ⟨rfl, BB.out⟩
    · go_wp2_with fail
      refine W1.out.mono ?_
      rintro e w3 ⟨rfl, b3⟩
      have BB := Aside.mk (X2.out.below b3).low
      clear b3
      go_wp2_with fail
      go_ret
      exact ⟨rfl, BB.out⟩
  · go_wp2_with fail
    refine W1.out.mono ?_
    rintro e w3 ⟨rfl, b3⟩
    have BB := Aside.mk (X2.out.below b3).low
    clear b3
    go_wp2_with fail
    go_ret
    exact ⟨rfl, BB.out⟩
end Go.Proofs.Ytedbmpfjikaljaa
