/-
  Proved: what each method of a table of timers does to memory and what it answers, at one kind of keys. Conditions: the keys are such as the kind can hold; fewer than a million times have been set.
-/
import Derived.Test.YtgfpeppaimhgiaaI1
namespace Go.Proofs.Ytgfpeppaimhgiaa
open Go.RowKit Go.Maps
set_option linter.unusedVariables false
set_option linter.unusedSimpArgs false

def encI (a : Int) : Value := .int .i64 a
def okI (a : Int) : Prop := (Lit.int .i64 a).wf = true
theorem kkI : KK Try.prog 3 encI okI := KK.of_keyed (int_keyed Try.underlying3) (fun {a b} h => by injection h) (fun a ha => ⟨_, keyOf_int_mk Try.underlying3 ha⟩)
theorem zeroTI (w : World) : (zeroValue 76).run Try.prog w = .ok (valOf 0 0) w := by kernel_rfl
abbrev TI := Tbl encI okI 74

theorem new_I (w : World) : Calls Try.prog 11 #[] w fun e w' => e = .returned (.pointer (some ⟨w.heap.size + 1, 0, none⟩)) ∧ TI w' (w.heap.size + 1) w.heap.size 0 [] ∧ Below w.heap.size w w' ∧ w'.heap.size = w.heap.size + 2 := by
  have hmm := @run_makeMap Try.prog
  go_enter Try.func11, Try.ntmps11
  go_wp2
  go_ret
  refine ⟨rfl, Tbl.made (ml := 0) (ms := 0) ?_ ?_, ((Below.refl _ _).alloc (Nat.le_refl _) _).alloc (by simp) _, by simp⟩
  · exact (Below.heap_alloc _ _ _ (by simp)).trans (heap_alloc_new _ _)
  · simpa using heap_alloc_new (w.alloc (.map #[] 0)) (.cells #[.map (some w.heap.size), .int .u64 0] 74)

theorem len_I (w : World) {b m n : Nat} {R : List (Int × Int)} (h : TI w b m n R) : Calls Try.prog 20 #[.pointer (some ⟨b, 0, none⟩)] w fun e w' => e = .returned (.int .i64 (R.length : Int)) ∧ w = w' := by
  have hl := tbl_len (P := Try.prog) Try.underlying71 h 3
  have h0 := h.cell0
  clear h
  go_enter Try.func20, Try.ntmps20
  go_wp2
  go_ret
  exact ⟨rfl, rfl⟩

theorem set_I (w : World) {b m n : Nat} {R : List (Int × Int)} (h : TI w b m n R) (a : Int) (t : Int) (ha : okI a) (hn : n < 1000000) :
    Calls Try.prog 12 #[.pointer (some ⟨b, 0, none⟩), .int .i64 a, .int .i64 t] w fun e w' => e = .returned (.tuple #[]) ∧ TI w' b m (n + 1) (rset R a t) ∧ Upd (Two b m) w w' := by
  obtain ⟨W, hup, hT, hU⟩ := tbl_set kkI Try.underlying71 h ha t
  have h0 := h.cell0
  have h1 := h.cell1
  have h2 := h.free1
  simp only [encI] at hup
  have HT := Aside.mk hT
  have HU := Aside.mk hU
  clear hT hU ha h
  go_enter Try.func12, Try.ntmps12
  go_wp2
  go_region
  go_end0
  exact ⟨rfl, HT.out, HU.out⟩

theorem set_nilI (a : Value) (t : Int) (w : World) : Calls Try.prog 12 #[.pointer none, a, .int .i64 t] w fun e w' => e = .returned (.tuple #[]) ∧ w = w' := by
  go_enter Try.func12, Try.ntmps12
  go_wp2
  go_end0
  exact ⟨rfl, rfl⟩

theorem stop_I (w : World) {b m n : Nat} {R : List (Int × Int)} (h : TI w b m n R) (a : Int) (ha : okI a) :
    Calls Try.prog 14 #[.pointer (some ⟨b, 0, none⟩), .int .i64 a] w fun e w' => e = .returned (.bool (rhas R a)) ∧ TI w' b m n (rdrop R a) ∧ Upd (Two b m) w w' := by
  obtain ⟨t, u, hl, hd⟩ := tbl_stop kkI Try.underlying71 zeroTI h ha 3 0
  obtain ⟨W, hdel, hT, hU⟩ := hd (.cells #[.int .i64 t, .int .u64 u] 76)
  have h0 := h.cell0
  have hlt := h.lt
  simp only [encI] at hl hdel
  clear hd
  have HT := Aside.mk hT
  have HU := Aside.mk hU
  clear hT hU ha h
  go_enter Try.func14, Try.ntmps14
  go_wp2
  go_ret
  exact ⟨rfl, HT.out, HU.out⟩

theorem stop_nilI (a : Value) (w : World) : Calls Try.prog 14 #[.pointer none, a] w fun e w' => e = .returned (.bool false) ∧ w = w' := by
  go_enter Try.func14, Try.ntmps14
  go_wp2
  go_ret
  exact ⟨rfl, rfl⟩
theorem len_nilI (w : World) : Calls Try.prog 20 #[.pointer none] w fun e w' => e = .returned (.int .i64 0) ∧ w = w' := by
  go_enter Try.func20, Try.ntmps20
  go_wp2
  go_ret
  exact ⟨rfl, rfl⟩
theorem next_nilI (w : World) : Calls Try.prog 16 #[.pointer none] w fun e w' => e = .returned (.tuple #[.int .i64 0, .int .i64 0, .bool false]) ∧ w = w' := by
  go_enter Try.func16, Try.ntmps16
  go_wp2
  go_ret3
  exact ⟨rfl, rfl⟩
theorem pop_nilI (t : Int) (w : World) : Calls Try.prog 18 #[.pointer none, .int .i64 t] w fun e w' => e = .returned (.tuple #[.int .i64 0, .bool false]) ∧ w = w' := by
  go_enter Try.func18, Try.ntmps18
  go_wp2_with (go_at_call 16; refine (next_nilI _).mono ?_; rintro e w' ⟨rfl, rfl⟩)
  go_ret2
  exact ⟨rfl, rfl⟩

def BestI (D : List (Ent Int)) (vk vok : Value) (cs : Array Value) : Prop :=
  (D = [] ∧ vk = .int .i64 0 ∧ vok = .bool false ∧ cs = #[.int .i64 0, .int .u64 0]) ∨
  ∃ e ∈ D, vk = encI e.key ∧ vok = .bool true ∧ cs = #[.int .i64 e.time, .int .u64 e.turn] ∧ ∀ d ∈ D, aheadB d.time d.turn e.time e.turn = false
structure RoundI (w : World) (m ck : Nat) (L D : List (Ent Int)) (vk vok : Value) (cs : Array Value) (wr : World) : Prop where
  sub : ∀ d ∈ D, d ∈ L
  iter : wr.heap[w.heap.size + 1]? = some (iterOf m ck D)
  map : MapIs encI wr m L ck
  first : wr.heap[w.heap.size]? = some (.cells cs 76)
  best : BestI D vk vok cs
  upd : Upd (fun _ => False) w wr

/-- What 'Next' answers. -/
def ansI (R : List (Int × Int)) : Value := match nxt R with
  | some p => .tuple #[encI p.1, .int .i64 p.2, .bool true]
  | none => .tuple #[.int .i64 0, .int .i64 0, .bool false]

/-- The step has come to e: the iterator alone has turned. -/
theorem RoundI.step {w wr w1 : World} {m ck : Nat} {L D : List (Ent Int)} {vk vok : Value} {cs : Array Value} (hR : RoundI w m ck L D vk vok cs wr) {e : Ent Int} (he : e ∈ L) (hw : w1 = wr ∨ w1 = wr.drew) (hm : m < w.heap.size) :
    (World.putObj w1 (w.heap.size + 1) (iterOf m ck (D ++ [e]))).heap[w.heap.size + 1]? = some (iterOf m ck (D ++ [e])) ∧
    MapIs encI (World.putObj w1 (w.heap.size + 1) (iterOf m ck (D ++ [e]))) m L ck ∧
    (World.putObj w1 (w.heap.size + 1) (iterOf m ck (D ++ [e]))).heap[w.heap.size]? = some (.cells cs 76) ∧
    Upd (fun _ => False) w (World.putObj w1 (w.heap.size + 1) (iterOf m ck (D ++ [e]))) := by
  have hh : w1.heap = wr.heap := by rcases hw with rfl | rfl <;> rfl
  have hu : Upd (fun _ => False) w w1 := by rcases hw with rfl | rfl; exact hR.upd; exact hR.upd.drew
  refine ⟨putObj_heap (by rw [hh]; exact lt_of_block hR.iter), ?_, ?_, hu.putObj _ _ (fun h => by omega)⟩
  · unfold MapIs
    simp only [World.putObj, Array.getElem?_setIfInBounds, hh]
    rw [if_neg (by omega)]
    exact hR.map
  · simp only [World.putObj, Array.getElem?_setIfInBounds, hh]
    rw [if_neg (by omega)]
    exact hR.first

def leftInI (L : List (Ent Int)) (r : Nat) (w : World) : Nat := match w.heap[r]? with
  | some (.mapIter _ _ seen _) => (L.filter fun e => !seen.toList.contains e.born).length
  | _ => 0
theorem leftIn_eqI {L D : List (Ent Int)} {r m ck : Nat} {w : World} (h : w.heap[r]? = some (iterOf m ck D)) : leftInI L r w = leftN L D := by
  simp [leftInI, h, iterOf, leftN]

/-- The round's end: the first one's cells hold what they should. -/
theorem RoundI.next_ {w W1 W2 : World} {m ck : Nat} {L D : List (Ent Int)} {vk vok : Value} {cs' : Array Value} {e : Ent Int}
    (hsub : ∀ d ∈ D, d ∈ L) (he : e ∈ L) (hit : W1.heap[w.heap.size + 1]? = some (iterOf m ck (D ++ [e]))) (hmp : MapIs encI W1 m L ck) (hup : Upd (fun _ => False) w W1) (hm : m < w.heap.size)
    (hu : Upd (Just w.heap.size) W1 W2) (hf : W2.heap[w.heap.size]? = some (.cells cs' 76)) (hb : BestI (D ++ [e]) vk vok cs') : RoundI w m ck L (D ++ [e]) vk vok cs' W2 where
  sub d hd := by
    rcases List.mem_append.1 hd with hd | hd
    · exact hsub d hd
    · simp at hd
      subst hd
      exact he
  iter := hu.heap hit (by unfold Just; omega)
  map := hu.heap hmp (by unfold Just; omega)
  first := hf
  best := hb
  upd := hup.new hu (fun i h1 h2 => by unfold Just at h2; omega)

set_option maxHeartbeats 2000000 in
theorem next_I (w : World) {b m n : Nat} {R : List (Int × Int)} (h : TI w b m n R) :
    Calls Try.prog 16 #[.pointer (some ⟨b, 0, none⟩)] w fun e w' => e = .returned (ansI R) ∧ Upd (fun _ => False) w w' := by
  have h0 := h.cell0
  have hlb := h.lt
  have hlm := h.ltm
  obtain ⟨hb, L, ck, hm, hi⟩ := h
  have hm' : MapIs encI (w.alloc (.cells #[.int .i64 0, .int .u64 0] 76)) m L ck := (Below.heap_alloc w _ m hlm).trans hm
  have hr := run_range_tbl (P := Try.prog) Try.underlying71 hm'
  have hstart : RoundI w m ck L [] (.int .i64 0) (.bool false) #[.int .i64 0, .int .u64 0] ((w.alloc (.cells #[.int .i64 0, .int .u64 0] 76)).alloc (iterOf m ck ([] : List (Ent Int)))) :=
    ⟨by simp, by simpa using heap_alloc_new (w.alloc (.cells #[.int .i64 0, .int .u64 0] 76)) _, (Below.heap_alloc _ _ m (by simp; omega)).trans hm', (Below.heap_alloc _ _ _ (by simp)).trans (heap_alloc_new w _), .inl ⟨rfl, rfl, rfl, rfl⟩, ((Upd.refl _ w).alloc _).alloc _⟩
  have HI := Aside.mk hi
  have HS := Aside.mk hstart
  clear hi hm hb hm' hstart
  go_enter Try.func16, Try.ntmps16
  go_wp2
  go_loopw [2, 4] (fun vk vok wr => ∃ D cs, RoundI w m ck L D vk vok cs wr) (fun vk vok wr => leftInI L (w.heap.size + 1) wr)
  case atStart => exact ⟨_, _, HS.out⟩
  case round =>
    obtain ⟨D, cs, hR⟩ := hrel
    have hi := HI.out
    rcases run_next_tbl (P := Try.prog) hR.iter hR.map hi.lt hR.sub 0 with ⟨hall, hnx⟩ | ⟨e, he, hne, w1, hw1, hnx⟩
    · rcases hR.best with ⟨hD, rfl, rfl, rfl⟩ | ⟨e, heD, rfl, rfl, rfl, hbest⟩
      · have c0 : wr.cell? ⟨w.heap.size, 0, none⟩ = some (.int .i64 0) := by simp [World.cell?, hR.first]
        have hans : ansI R = .tuple #[.int .i64 0, .int .i64 0, .bool false] := by
          have hL : L = [] := by
            subst hD
            rcases L with _ | ⟨x, L⟩
            · rfl
            · obtain ⟨d, hd, _⟩ := hall x (by simp)
              simp at hd
          subst hL
          rw [inv_nxt_nil hi]; rfl
        have HA := Aside.mk hans
        have HU := Aside.mk hR.upd
        clear hall hans hR hi hD
        go_wp2
        go_region
        go_wp2
        go_ret3
        exact ⟨by rw [HA.out]; rfl, HU.out.drew⟩
      · have c0 : wr.cell? ⟨w.heap.size, 0, none⟩ = some (.int .i64 e.time) := by simp [World.cell?, hR.first]
        have hans : ansI R = .tuple #[encI e.key, .int .i64 e.time, .bool true] := by
          unfold ansI
          rw [inv_nxt hi (hR.sub e heD) (fun d hd => ?_)]
          obtain ⟨d', hd', hb'⟩ := hall d hd
          have := born_inj hi.born (hR.sub d' hd') hd hb'
          subst this
          simpa [aheadB] using hbest d' hd'
        have HA := Aside.mk hans
        have HU := Aside.mk hR.upd
        clear hall hans hR hi hbest heD
        go_wp2
        go_region
        go_wp2
        go_ret3
        exact ⟨by rw [HA.out]; rfl, HU.out.drew⟩
    · obtain ⟨hit, hmp, hfst, hup⟩ := hR.step he hw1 hlm
      generalize World.putObj w1 (w.heap.size + 1) (iterOf m ck (D ++ [e])) = W1 at *
      have hent := run_entry_tbl (P := Try.prog) hit hmp he hi.born
      have hent' : (Instr.entry (.pointer (some ⟨w.heap.size + 1, 0, none⟩))).run Try.prog W1 = .ok (.tuple #[.int .i64 e.key, .agg #[.int .i64 e.time, .int .u64 e.turn]]) W1 := hent
      simp only [encI, valOf] at hnx
      have hfl := lt_of_block hfst
      have HR := Aside.mk hR
      rcases hR.best with ⟨hD, rfl, rfl, rfl⟩ | ⟨x, hxD, rfl, rfl, rfl, hbest⟩
      · have c0 : W1.cell? ⟨w.heap.size, 0, none⟩ = some (.int .i64 0) := by simp [World.cell?, hfst]
        have c1 : W1.cell? ⟨w.heap.size, 1, none⟩ = some (.int .u64 0) := by simp [World.cell?, hfst]
        have f0 : W1.frozen? ⟨w.heap.size, 0, none⟩ = false := by simp [World.frozen?, hfst]
        have f1 : W1.frozen? ⟨w.heap.size, 1, none⟩ = false := by simp [World.frozen?, hfst]
        have H1 := Aside.mk hit
        have H2 := Aside.mk hmp
        have H3 := Aside.mk hfst
        have H4 := Aside.mk hup
        have H5 := Aside.mk hne
        have H6 := Aside.mk he
        have H7 := Aside.mk hD
        clear hit hmp hfst hup hne he hent hw1 hi hR hD
        go_wp2
        go_region
        go_wp2
        go_roundw
        case rel =>
          refine ⟨D ++ [e], _, RoundI.next_ HR.out.sub H6.out H1.out H2.out H4.out hlm ((((Upd.refl (Just w.heap.size) W1).setCell ⟨w.heap.size, 0, none⟩ _ (fun _ => rfl)).setCell ⟨w.heap.size, 1, none⟩ _ (fun _ => rfl)).alloc _).drew ((Below.heap_alloc _ _ _ (by simpa using hfl)).trans (first_set H3.out)) (.inr ⟨e, by simp, rfl, rfl, rfl, fun d hd => ?_⟩)⟩
          rw [H7.out] at hd
          simp at hd
          subst hd
          simp [aheadB]
        case measure =>
          have hu : Upd (Just w.heap.size) W1 ((((W1.setCell ⟨w.heap.size, 0, none⟩ (.int .i64 e.time)).setCell ⟨w.heap.size, 1, none⟩ (.int .u64 e.turn)).alloc (.cells #[.int .i64 e.time, .int .u64 e.turn] 76)).drew) :=
            ((((Upd.refl (Just w.heap.size) W1).setCell ⟨w.heap.size, 0, none⟩ _ (fun _ => rfl)).setCell ⟨w.heap.size, 1, none⟩ _ (fun _ => rfl)).alloc _).drew
          rw [leftIn_eqI (hu.heap H1.out (by unfold Just; omega)), leftIn_eqI HR.out.iter]
          exact leftN_lt H6.out H5.out
      · have c0 : W1.cell? ⟨w.heap.size, 0, none⟩ = some (.int .i64 x.time) := by simp [World.cell?, hfst]
        have c1 : W1.cell? ⟨w.heap.size, 1, none⟩ = some (.int .u64 x.turn) := by simp [World.cell?, hfst]
        have H1 := Aside.mk hit
        have H2 := Aside.mk hmp
        have H3 := Aside.mk hfst
        have H4 := Aside.mk hup
        have H5 := Aside.mk hne
        have H6 := Aside.mk he
        have H7 := Aside.mk hbest
        have H8 := Aside.mk hxD
        clear hit hmp hfst hup hne he hent hw1 hi hR hbest hxD
        go_wp2_with fail
        refine (ahead_any _ _ _ _ _).mono ?_
        rintro e1 w2 ⟨rfl, hb2⟩
        have hu2 : Upd (fun _ => False) W1 w2 := ((Upd.refl _ W1).alloc _).trans (Upd.of_below hb2)
        have hx := (hb2.block W1.heap.size (by simp)).trans (heap_alloc_new W1 _)
        have hf2 : w2.heap[w.heap.size]? = some (.cells #[.int .i64 x.time, .int .u64 x.turn] 76) := hu2.heap H3.out (by simp)
        have hxl := lt_of_block hx
        cases hab : aheadB e.time e.turn x.time x.turn
        · have HB := Aside.mk hu2
          have HF := Aside.mk hf2
          clear hb2 hu2 hx hf2
          go_wp2_with fail
          go_roundw
          case rel =>
            refine ⟨D ++ [e], _, RoundI.next_ HR.out.sub H6.out H1.out H2.out H4.out hlm (HB.out.mono (fun _ h => h.elim)) HF.out (.inr ⟨x, by simp [H8.out], rfl, rfl, rfl, fun d hd => ?_⟩)⟩
            rcases List.mem_append.1 hd with hd | hd
            · exact H7.out d hd
            · simp at hd
              subst hd
              exact hab
          case measure =>
            rw [leftIn_eqI (HB.out.heap H1.out (by simp)), leftIn_eqI HR.out.iter]
            exact leftN_lt H6.out H5.out
        · have c0' : w2.cell? ⟨w.heap.size, 0, none⟩ = some (.int .i64 x.time) := by simp [World.cell?, hf2]
          have c1' : w2.cell? ⟨w.heap.size, 1, none⟩ = some (.int .u64 x.turn) := by simp [World.cell?, hf2]
          have f0 : w2.frozen? ⟨w.heap.size, 0, none⟩ = false := by simp [World.frozen?, hf2]
          have f1 : w2.frozen? ⟨w.heap.size, 1, none⟩ = false := by simp [World.frozen?, hf2]
          have d0 : w2.cell? ⟨W1.heap.size, 0, none⟩ = some (.int .i64 e.time) := by simp [World.cell?, hx]
          have d1 : w2.cell? ⟨W1.heap.size, 1, none⟩ = some (.int .u64 e.turn) := by simp [World.cell?, hx]
          have HB := Aside.mk hu2
          have HF := Aside.mk hf2
          have HL := Aside.mk hab
          clear hb2 hu2 hx hf2
          go_wp2_with fail
          go_region
          go_wp2_with fail
          go_roundw
          case rel =>
            refine ⟨D ++ [e], _, RoundI.next_ HR.out.sub H6.out H1.out H2.out H4.out hlm (HB.out.mono (S' := Just w.heap.size) (fun _ h => h.elim) |>.trans ((((Upd.refl (Just w.heap.size) w2).setCell ⟨w.heap.size, 0, none⟩ _ (fun _ => rfl)).setCell ⟨w.heap.size, 1, none⟩ _ (fun _ => rfl))).drew) (first_set HF.out) (.inr ⟨e, by simp, rfl, rfl, rfl, fun d hd => ?_⟩)⟩
            rcases List.mem_append.1 hd with hd | hd
            · have := H7.out d hd
              have h2 := HL.out
              simp only [aheadB, decide_eq_true_eq, decide_eq_false_iff_not] at this h2 ⊢
              omega
            · simp at hd
              subst hd
              simp [aheadB]
          case measure =>
            rw [leftIn_eqI (((HB.out.mono (S' := Just w.heap.size) (fun _ h => h.elim) |>.trans ((((Upd.refl (Just w.heap.size) w2).setCell ⟨w.heap.size, 0, none⟩ _ (fun _ => rfl)).setCell ⟨w.heap.size, 1, none⟩ _ (fun _ => rfl))).drew)).heap H1.out (by unfold Just; omega)), leftIn_eqI HR.out.iter]
            exact leftN_lt H6.out H5.out

/-- What 'Pop' answers. -/
def popAnsI (R : List (Int × Int)) (now : Int) : Value := match due R now with
  | some a => .tuple #[encI a, .bool true]
  | none => .tuple #[.int .i64 0, .bool false]

set_option maxHeartbeats 1000000 in
theorem pop_I (w : World) {b m n : Nat} {R : List (Int × Int)} (h : TI w b m n R) (now : Int) :
    Calls Try.prog 18 #[.pointer (some ⟨b, 0, none⟩), .int .i64 now] w fun e w' => e = .returned (popAnsI R now) ∧ TI w' b m n (rpop R now) ∧ Upd (Two b m) w w' := by
  cases hn : nxt R with
  | none =>
    have ha : ansI R = .tuple #[.int .i64 0, .int .i64 0, .bool false] := by simp [ansI, hn]
    have hp : popAnsI R now = .tuple #[.int .i64 0, .bool false] := by simp [popAnsI, due, hn]
    have hr : rpop R now = R := by simp [rpop, due, hn]
    have HN := next_I w h
    rw [ha] at HN
    rw [hp, hr]
    have HN' := Aside.mk HN
    have HT := Aside.mk h
    clear HN h ha hp hr hn
    go_enter Try.func18, Try.ntmps18
    go_wp2_with fail
    refine HN'.out.mono ?_
    rintro e w2 ⟨rfl, hu⟩
    have HU := Aside.mk hu
    clear hu
    go_wp2_with fail
    go_ret2
    exact ⟨rfl, HT.out.upd HU.out (fun h => h) (fun h => h), HU.out.mono (fun _ h => h.elim)⟩
  | some p =>
    have ha : ansI R = .tuple #[encI p.1, .int .i64 p.2, .bool true] := by simp [ansI, hn]
    have HN := next_I w h
    rw [ha] at HN
    have hok := h.okOf (nxt_mem hn)
    have hhas := rhas_of_mem (nxt_mem hn)
    obtain ⟨k, t⟩ := p
    simp only [encI] at HN hok hhas
    by_cases hlt : now < t
    · have hp : popAnsI R now = .tuple #[.int .i64 0, .bool false] := by simp [popAnsI, due, hn, hlt]
      have hr : rpop R now = R := by simp [rpop, due, hn, hlt]
      rw [hp, hr]
      have HN' := Aside.mk HN
      have HT := Aside.mk h
      clear HN h ha hp hr hn hok hhas
      go_enter Try.func18, Try.ntmps18
      go_wp2_with fail
      refine HN'.out.mono ?_
      rintro e w2 ⟨rfl, hu⟩
      have HU := Aside.mk hu
      clear hu
      go_wp2_with fail
      go_ret2
      exact ⟨rfl, HT.out.upd HU.out (fun h => h) (fun h => h), HU.out.mono (fun _ h => h.elim)⟩
    · have hp : popAnsI R now = .tuple #[encI k, .bool true] := by simp [popAnsI, due, hn, hlt]
      have hr : rpop R now = rdrop R k := by simp [rpop, due, hn, hlt]
      rw [hp, hr]
      have HN' := Aside.mk HN
      have HT := Aside.mk h
      have HK := Aside.mk hok
      have HH := Aside.mk hhas
      clear HN h ha hp hr hn hok hhas
      go_enter Try.func18, Try.ntmps18
      go_wp2_with fail
      refine HN'.out.mono ?_
      rintro e w2 ⟨rfl, hu⟩
      have HU := Aside.mk hu
      clear hu
      go_wp2_with fail
      have HS := stop_I w2 (HT.out.upd HU.out (fun h => h) (fun h => h)) k HK.out
      rw [HH.out] at HS
      refine HS.mono ?_
      rintro e w3 ⟨rfl, ht3, hu3⟩
      have HT3 := Aside.mk ht3
      have HU3 := Aside.mk hu3
      clear ht3 hu3 HS
      go_wp2_with fail
      go_ret2
      exact ⟨rfl, HT3.out, (HU.out.mono (fun _ h => h.elim)).trans HU3.out⟩
end Go.Proofs.Ytgfpeppaimhgiaa
