/-
  Proved: what each method of a table of timers does to memory and what it answers, at pairs of numbers as keys. Conditions: the keys are the four pairs of noughts and ones; fewer than a million times have been set.
-/
import Derived.Test.YtgfpeppaimhgiaaI1
import Derived.DeepKeys4
import Derived.Deep.RegionHeld3
import Derived.StillTailTactics
namespace Go.Proofs.Ytgfpeppaimhgiaa
open Go.RowKit Go.Maps
set_option linter.unusedVariables false
set_option linter.unusedSimpArgs false

abbrev KP := Int × Int
def encP (a : KP) : Value := .agg #[.int .u16 a.1, .int .u16 a.2]
def okP (a : KP) : Prop := a = (0, 0) ∨ a = (0, 1) ∨ a = (1, 0) ∨ a = (1, 1)
theorem laidOut_ : laidOutB Try.prog = true := by kernel_rfl
theorem row58 : 58 < Try.prog.types.size := of_decide_eq_true (by kernel_rfl)
theorem key58 : Try.prog.keyTypeAt 3 58 = true := by kernel_rfl
theorem wide58 : (match Try.prog.underlying 58 with | some (.array _ _) | some (.struct _) => true | _ => false) = true := by kernel_rfl
theorem key00 : (keyOf Try.prog 58 (.agg #[.int .u16 0, .int .u16 0])).isSome = true := by kernel_rfl
theorem key01 : (keyOf Try.prog 58 (.agg #[.int .u16 0, .int .u16 1])).isSome = true := by kernel_rfl
theorem key10 : (keyOf Try.prog 58 (.agg #[.int .u16 1, .int .u16 0])).isSome = true := by kernel_rfl
theorem key11 : (keyOf Try.prog 58 (.agg #[.int .u16 1, .int .u16 1])).isSome = true := by kernel_rfl
theorem encP_inj {a b : KP} (h : encP a = encP b) : a = b := by
  obtain ⟨a1, a2⟩ := a
  obtain ⟨b1, b2⟩ := b
  simp [encP] at h
  rw [h.1, h.2]
theorem kkP : KK Try.prog 58 encP okP := KK.of_keyed (Keyed.of_law (deep_law_laid laidOut_ (m := 3) (by omega) row58 key58 wide58)) encP_inj (fun a ha => by
  rcases ha with rfl | rfl | rfl | rfl
  · exact Option.isSome_iff_exists.1 key00
  · exact Option.isSome_iff_exists.1 key01
  · exact Option.isSome_iff_exists.1 key10
  · exact Option.isSome_iff_exists.1 key11)
theorem zeroTP (w : World) : (zeroValue 76).run Try.prog w = .ok (valOf 0 0) w := by kernel_rfl
abbrev TP := Tbl encP okP 92

theorem new_P (w : World) : Calls Try.prog 27 #[] w fun e w' => e = .returned (.pointer (some ⟨w.heap.size + 1, 0, none⟩)) ∧ TP w' (w.heap.size + 1) w.heap.size 0 [] ∧ Below w.heap.size w w' ∧ w'.heap.size = w.heap.size + 2 := by
  have hmm := @run_makeMap Try.prog
  go_enter Try.func27, Try.ntmps27
  go_wp2
  go_ret
  refine ⟨rfl, Tbl.made (ml := 0) (ms := 0) ?_ ?_, ((Below.refl _ _).alloc (Nat.le_refl _) _).alloc (by simp) _, by simp⟩
  · exact (Below.heap_alloc _ _ _ (by simp)).trans (heap_alloc_new _ _)
  · simpa using heap_alloc_new (w.alloc (.map #[] 0)) (.cells #[.map (some w.heap.size), .int .u64 0] 92)

theorem len_P (w : World) {b m n : Nat} {R : List (KP × Int)} (h : TP w b m n R) : Calls Try.prog 35 #[.pointer (some ⟨b, 0, none⟩)] w fun e w' => e = .returned (.int .i64 (R.length : Int)) ∧ w = w' := by
  have hl := tbl_len (P := Try.prog) Try.underlying90 h 3
  have h0 := h.cell0
  clear h
  go_enter Try.func35, Try.ntmps35
  go_wp2
  go_ret
  exact ⟨rfl, rfl⟩

theorem set_P (w : World) {b m n : Nat} {R : List (KP × Int)} (h : TP w b m n R) (a : KP) (t : Int) (ha : okP a) (hn : n < 1000000) :
    Calls Try.prog 29 #[.pointer (some ⟨b, 0, none⟩), encP a, .int .i64 t] w fun e w' => e = .returned (.tuple #[]) ∧ TP w' b m (n + 1) (rset R a t) ∧ Upd (Two b m) w w' := by
  have hlt := h.lt
  have u1 : Upd (fun _ => False) w (w.alloc (.cells #[.int .u16 a.1, .int .u16 a.2] 58)) := (Upd.refl _ w).alloc _
  obtain ⟨W, hup, hT, hU⟩ := tbl_set kkP Try.underlying90 (h.upd u1 (fun h => h) (fun h => h)) ha t
  have h0 := h.cell0
  have h1 := h.cell1
  have h2 := h.free1
  rw [World.setCell_alloc_past _ _ _ _ hlt] at hup
  simp only [encP] at hup
  have HT := Aside.mk hT
  have HU := Aside.mk ((u1.mono (fun _ h => h.elim)).trans hU)
  clear hT hU ha h u1
  unfold encP
  go_enter Try.func29, Try.ntmps29
  go_wp2
  go_region
  go_end0
  exact ⟨rfl, HT.out, HU.out⟩

theorem key_inj {κ : Type} : ∀ {L : List (Ent κ)}, (L.map (·.key)).Nodup → ∀ {x y : Ent κ}, x ∈ L → y ∈ L → x.key = y.key → x = y
  | [], _, x, y, hx, _, _ => by simp at hx
  | z :: L, hn, x, y, hx, hy, h => by
    simp only [List.map_cons, List.nodup_cons, List.mem_map, not_exists, not_and] at hn
    rcases List.mem_cons.1 hx with hx | hx <;> rcases List.mem_cons.1 hy with hy | hy
    · rw [hx, hy]
    · exact absurd (hx ▸ h).symm (hn.1 y hy)
    · exact absurd (hy ▸ h) (hn.1 x hx)
    · exact key_inj hn.2 hx hy h
theorem stop_run (w : World) {b m n : Nat} {R : List (KP × Int)} (h : TP w b m n R) {a : KP} (ha : okP a) : ∃ (t : Int) (u : Nat), ∀ W, Upd (fun _ => False) w W →
    (Instr.lookup 90 (.map (some m)) (encP a) true).run Try.prog W = .ok (.tuple #[.agg #[.int .i64 t, .int .u64 u], .bool (rhas R a)]) W ∧
    ∃ W2, (Builtin.delete_ #[90, 58] 0 #[.map (some m), encP a]).run Try.prog W = .ok (.tuple #[]) W2 ∧ TP W2 b m n (rdrop R a) ∧ Upd (Two b m) w W2 := by
  have hne := h.ne
  have hlm := h.ltm
  have hlb := h.lt
  obtain ⟨h1, L, ck, h2, h3⟩ := h
  have hfind : ∃ (t : Int) (u : Nat), ∀ W, Upd (fun _ => False) w W → (Instr.lookup 90 (.map (some m)) (encP a) true).run Try.prog W = .ok (.tuple #[valOf t u, .bool (hasKey L a)]) W := by
    cases hk : hasKey L a with
    | false =>
      refine ⟨0, 0, fun W hW => ?_⟩
      have h2' : MapIs encP W m L ck := hW.heap h2 (fun h => h)
      have hc := kkP.check W (L.map (entOf encP)).toArray.isEmpty ha
      have hg := run_getMap (P := Try.prog) h2'
      rcases kkP.find_ent W ha h3.fine with ⟨e1, e2⟩ | ⟨j, e, e1, e2, e3⟩
      · simp [Instr.lookup, run_underlying Try.underlying90, hg, Result.andThen] at hc ⊢
        simp [hc, e1, zeroTP]
        rfl
      · rw [hasKey_true.2 ⟨e, List.mem_of_getElem? e2, e3⟩] at hk
        cases hk
    | true =>
      obtain ⟨e0, he0, hk0⟩ := hasKey_true.1 hk
      refine ⟨e0.time, e0.turn, fun W hW => ?_⟩
      have h2' : MapIs encP W m L ck := hW.heap h2 (fun h => h)
      have hc := kkP.check W (L.map (entOf encP)).toArray.isEmpty ha
      have hg := run_getMap (P := Try.prog) h2'
      rcases kkP.find_ent W ha h3.fine with ⟨e1, e2⟩ | ⟨j, e, e1, e2, e3⟩
      · exact absurd hk0 (e2 e0 he0)
      · have hee : e = e0 := key_inj h3.fine.nodup (List.mem_of_getElem? e2) he0 (by rw [e3, hk0])
        subst hee
        simp [Instr.lookup, run_underlying Try.underlying90, hg, Result.andThen] at hc ⊢
        simp [hc, e1]
  obtain ⟨t, u, hl⟩ := hfind
  rw [inv_has h3] at hl
  refine ⟨t, u, fun W hW => ⟨hl W hW, ?_⟩⟩
  have u1 : Upd (Two b m) w W := hW.mono (fun _ h => h.elim)
  have h2' : MapIs encP W m L ck := hW.heap h2 (fun h => h)
  have hd := run_delete_tbl kkP Try.underlying90 h2' h3.fine ha 0 58
  refine ⟨_, hd, ⟨?_, _, _, putObj_heap (Nat.lt_of_lt_of_le hlm hW.size), inv_drop h3 a⟩, u1.putObj m _ (fun _ => .inr rfl)⟩
  simp only [World.putObj, Array.getElem?_setIfInBounds]
  rw [if_neg (fun e => hne e.symm)]
  exact hW.heap h1 (fun h => h)

theorem stop_P (w : World) {b m n : Nat} {R : List (KP × Int)} (h : TP w b m n R) (a : KP) (ha : okP a) :
    Calls Try.prog 31 #[.pointer (some ⟨b, 0, none⟩), encP a] w fun e w' => e = .returned (.bool (rhas R a)) ∧ TP w' b m n (rdrop R a) ∧ Upd (Two b m) w w' := by
  have hlt := h.lt
  obtain ⟨t, u, hrun⟩ := stop_run w h ha
  have HRUN := Aside.mk hrun
  have h0 := h.cell0
  have HLK : Aside (∀ W, Upd (fun _ => False) w W → (Instr.lookup 90 (.map (some m)) (.agg #[.int .u16 a.1, .int .u16 a.2]) true).run Try.prog W = .ok (.tuple #[.agg #[.int .i64 t, .int .u64 u], .bool (rhas R a)]) W) := ⟨fun W hW => (hrun W hW).1⟩
  have hl0 := HLK.out (w.alloc (.cells #[.int .u16 a.1, .int .u16 a.2] 58)) ((Upd.refl _ w).alloc _)
  obtain ⟨W2, hd, hT, hU⟩ := (HRUN.out (((w.alloc (.cells #[.int .u16 a.1, .int .u16 a.2] 58)).alloc (.cells #[.int .i64 t, .int .u64 u] 76)).drew.drew) ((((Upd.refl _ w).alloc _).alloc _).drew.drew)).2
  simp only [encP] at hd
  have HT := Aside.mk hT
  have HU := Aside.mk hU
  clear hT hU
  clear h ha hrun
  unfold encP
  go_enter Try.func31, Try.ntmps31
  go_wp2
  go_region_held3 (fun w' => w'.cell? ⟨b, 0, none⟩ = some (.map (some m)) ∧ w'.cell? ⟨w.heap.size, 0, none⟩ = some (.int .u16 a.1) ∧ w'.cell? ⟨w.heap.size, 1, none⟩ = some (.int .u16 a.2) ∧ (Instr.lookup 90 (.map (some m)) (.agg #[.int .u16 a.1, .int .u16 a.2]) true).run Try.prog w' = .ok (.tuple #[.agg #[.int .i64 t, .int .u64 u], .bool (rhas R a)]) w')
    (first
      | (go_split_ands
         refine ⟨by go_keep, by go_keep, by go_keep, ?_⟩
         exact HLK.out _ (by repeat (first | exact Upd.refl _ _ | apply Upd.drew | apply Upd.alloc | (refine Upd.setCell ?_ _ _ (fun h => absurd h (by simp)))))))
    (fail)
  all_goals
    go_wp2
    go_region
    go_wp2
    go_ret
    exact ⟨rfl, HT.out, HU.out⟩

def keyCells (a : KP) : Array Value := #[.int .u16 a.1, .int .u16 a.2]
def BestP (D : List (Ent KP)) (ck vok : Value) (k0 k1 c0 c1 : Value) : Prop :=
  (D = [] ∧ vok = .bool false ∧ k0 = .int .u16 0 ∧ k1 = .int .u16 0 ∧ c0 = .int .i64 0 ∧ c1 = .int .u64 0) ∨
  ∃ e ∈ D, vok = .bool true ∧ k0 = .int .u16 e.key.1 ∧ k1 = .int .u16 e.key.2 ∧ c0 = .int .i64 e.time ∧ c1 = .int .u64 e.turn ∧ ∀ d ∈ D, aheadB d.time d.turn e.time e.turn = false
structure RoundP (w : World) (m ck : Nat) (L D : List (Ent KP)) (vok k0 k1 c0 c1 : Value) (wr : World) : Prop where
  sub : ∀ d ∈ D, d ∈ L
  iter : wr.heap[w.heap.size + 2]? = some (iterOf m ck D)
  map : MapIs encP wr m L ck
  kcell : wr.heap[w.heap.size]? = some (.cells #[k0, k1] 58)
  first : wr.heap[w.heap.size + 1]? = some (.cells #[c0, c1] 76)
  best : BestP D (.bool true) vok k0 k1 c0 c1
  upd : Upd (fun _ => False) w wr

/-- What 'Next' answers. -/
def ansP (R : List (KP × Int)) : Value := match nxt R with
  | some p => .tuple #[encP p.1, .int .i64 p.2, .bool true]
  | none => .tuple #[.agg #[.int .u16 0, .int .u16 0], .int .i64 0, .bool false]

theorem RoundP.step {w wr w1 : World} {m ck : Nat} {L D : List (Ent KP)} {vok k0 k1 c0 c1 : Value} (hR : RoundP w m ck L D vok k0 k1 c0 c1 wr) {e : Ent KP} (he : e ∈ L) (hw : w1 = wr ∨ w1 = wr.drew) (hm : m < w.heap.size) :
    (World.putObj w1 (w.heap.size + 2) (iterOf m ck (D ++ [e]))).heap[w.heap.size + 2]? = some (iterOf m ck (D ++ [e])) ∧
    MapIs encP (World.putObj w1 (w.heap.size + 2) (iterOf m ck (D ++ [e]))) m L ck ∧
    (World.putObj w1 (w.heap.size + 2) (iterOf m ck (D ++ [e]))).heap[w.heap.size]? = some (.cells #[k0, k1] 58) ∧
    (World.putObj w1 (w.heap.size + 2) (iterOf m ck (D ++ [e]))).heap[w.heap.size + 1]? = some (.cells #[c0, c1] 76) ∧
    Upd (fun _ => False) w (World.putObj w1 (w.heap.size + 2) (iterOf m ck (D ++ [e]))) := by
  have hh : w1.heap = wr.heap := by rcases hw with rfl | rfl <;> rfl
  have hu : Upd (fun _ => False) w w1 := by rcases hw with rfl | rfl; exact hR.upd; exact hR.upd.drew
  refine ⟨putObj_heap (by rw [hh]; exact lt_of_block hR.iter), ?_, ?_, ?_, hu.putObj _ _ (fun h => by omega)⟩
  · unfold MapIs
    simp only [World.putObj, Array.getElem?_setIfInBounds, hh]
    rw [if_neg (by omega)]
    exact hR.map
  · simp only [World.putObj, Array.getElem?_setIfInBounds, hh]
    rw [if_neg (by omega)]
    exact hR.kcell
  · simp only [World.putObj, Array.getElem?_setIfInBounds, hh]
    rw [if_neg (by omega)]
    exact hR.first

def leftInP (L : List (Ent KP)) (r : Nat) (w : World) : Nat := match w.heap[r]? with
  | some (.mapIter _ _ seen _) => (L.filter fun e => !seen.toList.contains e.born).length
  | _ => 0
theorem leftInP_eq {L D : List (Ent KP)} {r m ck : Nat} {w : World} (h : w.heap[r]? = some (iterOf m ck D)) : leftInP L r w = leftN L D := by
  simp [leftInP, h, iterOf, leftN]
def Pair_ (f g i : Nat) : Prop := i = f ∨ i = g
theorem RoundP.next_ {w W1 W2 : World} {m ck : Nat} {L D : List (Ent KP)} {vok k0 k1 c0 c1 : Value} {e : Ent KP}
    (hsub : ∀ d ∈ D, d ∈ L) (he : e ∈ L) (hit : W1.heap[w.heap.size + 2]? = some (iterOf m ck (D ++ [e]))) (hmp : MapIs encP W1 m L ck) (hup : Upd (fun _ => False) w W1) (hm : m < w.heap.size)
    (hu : Upd (Pair_ w.heap.size (w.heap.size + 1)) W1 W2) (hk : W2.heap[w.heap.size]? = some (.cells #[k0, k1] 58)) (hf : W2.heap[w.heap.size + 1]? = some (.cells #[c0, c1] 76)) (hb : BestP (D ++ [e]) (.bool true) vok k0 k1 c0 c1) :
    RoundP w m ck L (D ++ [e]) vok k0 k1 c0 c1 W2 where
  sub d hd := by
    rcases List.mem_append.1 hd with hd | hd
    · exact hsub d hd
    · simp at hd
      subst hd
      exact he
  iter := hu.heap hit (by unfold Pair_; omega)
  map := hu.heap hmp (by unfold Pair_; omega)
  kcell := hk
  first := hf
  best := hb
  upd := hup.new hu (fun i h1 h2 => by unfold Pair_ at h2; omega)

theorem four_set {W1 : World} {f : Nat} {a b c d k0 k1 c0 c1 : Value} (h1 : W1.heap[f]? = some (.cells #[a, b] 58)) (h2 : W1.heap[f + 1]? = some (.cells #[c, d] 76)) :
    Upd (Pair_ f (f + 1)) W1 ((((W1.setCell ⟨f, 0, none⟩ k0).setCell ⟨f, 1, none⟩ k1).setCell ⟨f + 1, 0, none⟩ c0).setCell ⟨f + 1, 1, none⟩ c1) ∧
    ((((W1.setCell ⟨f, 0, none⟩ k0).setCell ⟨f, 1, none⟩ k1).setCell ⟨f + 1, 0, none⟩ c0).setCell ⟨f + 1, 1, none⟩ c1).heap[f]? = some (.cells #[k0, k1] 58) ∧
    ((((W1.setCell ⟨f, 0, none⟩ k0).setCell ⟨f, 1, none⟩ k1).setCell ⟨f + 1, 0, none⟩ c0).setCell ⟨f + 1, 1, none⟩ c1).heap[f + 1]? = some (.cells #[c0, c1] 76) := by
  refine ⟨((((Upd.refl _ W1).setCell _ _ (fun _ => .inl rfl)).setCell _ _ (fun _ => .inl rfl)).setCell _ _ (fun _ => .inr rfl)).setCell _ _ (fun _ => .inr rfl), ?_, ?_⟩
  · rw [Below.heap_setCell _ _ _ _ (by simp), Below.heap_setCell _ _ _ _ (by simp)]
    exact first_set h1
  · refine first_set ?_ (a := c) (b := d)
    rw [Below.heap_setCell _ _ _ _ (by simp), Below.heap_setCell _ _ _ _ (by simp)]
    exact h2

set_option maxHeartbeats 2000000 in
theorem next_P (w : World) {b m n : Nat} {R : List (KP × Int)} (h : TP w b m n R) :
    Calls Try.prog 40 #[.pointer (some ⟨b, 0, none⟩)] w fun e w' => e = .returned (ansP R) ∧ Upd (fun _ => False) w w' := by
  have h0 := h.cell0
  have hlb := h.lt
  have hlm := h.ltm
  obtain ⟨hb, L, ck, hm, hi⟩ := h
  have hu2 : Upd (fun _ => False) w ((w.alloc (.cells #[.int .u16 0, .int .u16 0] 58)).alloc (.cells #[.int .i64 0, .int .u64 0] 76)) := ((Upd.refl _ w).alloc _).alloc _
  have hm' : MapIs encP ((w.alloc (.cells #[.int .u16 0, .int .u16 0] 58)).alloc (.cells #[.int .i64 0, .int .u64 0] 76)) m L ck := hu2.heap hm (fun h => h)
  have hr := run_range_tbl (P := Try.prog) Try.underlying90 hm'
  have hstart : RoundP w m ck L [] (.bool false) (.int .u16 0) (.int .u16 0) (.int .i64 0) (.int .u64 0) (((w.alloc (.cells #[.int .u16 0, .int .u16 0] 58)).alloc (.cells #[.int .i64 0, .int .u64 0] 76)).alloc (iterOf m ck ([] : List (Ent KP)))) :=
    ⟨by simp, by simpa using heap_alloc_new ((w.alloc (.cells #[.int .u16 0, .int .u16 0] 58)).alloc (.cells #[.int .i64 0, .int .u64 0] 76)) _, (hu2.alloc _).heap hm (fun h => h),
      (Below.heap_alloc _ _ _ (by simp; omega)).trans ((Below.heap_alloc _ _ _ (by simp)).trans (heap_alloc_new w _)), (Below.heap_alloc _ _ _ (by simp)).trans (by simpa using heap_alloc_new (w.alloc (.cells #[.int .u16 0, .int .u16 0] 58)) _), .inl ⟨rfl, rfl, rfl, rfl, rfl, rfl⟩, hu2.alloc _⟩
  have HI := Aside.mk hi
  have HS := Aside.mk hstart
  clear hi hm hb hm' hstart hu2
  go_enter Try.func40, Try.ntmps40
  go_wp2
  go_loopw [4] (fun vok wr => ∃ D k0 k1 c0 c1, RoundP w m ck L D vok k0 k1 c0 c1 wr) (fun vok wr => leftInP L (w.heap.size + 2) wr)
  case atStart => exact ⟨_, _, _, _, _, HS.out⟩
  case round =>
    obtain ⟨D, k0, k1, c0, c1, hR⟩ := hrel
    have hi := HI.out
    rcases run_next_tbl (P := Try.prog) hR.iter hR.map hi.lt hR.sub 0 with ⟨hall, hnx⟩ | ⟨e, he, hne, w1, hw1, hnx⟩
    · rcases hR.best with ⟨hD, rfl, rfl, rfl, rfl, rfl⟩ | ⟨e, heD, rfl, rfl, rfl, rfl, rfl, hbest⟩
      · have e0 : wr.cell? ⟨w.heap.size + 1, 0, none⟩ = some (.int .i64 0) := by simp [World.cell?, hR.first]
        have q0 : wr.cell? ⟨w.heap.size, 0, none⟩ = some (.int .u16 0) := by simp [World.cell?, hR.kcell]
        have q1 : wr.cell? ⟨w.heap.size, 1, none⟩ = some (.int .u16 0) := by simp [World.cell?, hR.kcell]
        have f0 : wr.frozen? ⟨w.heap.size, 0, none⟩ = false := by simp [World.frozen?, hR.kcell]
        have f1 : wr.frozen? ⟨w.heap.size, 1, none⟩ = false := by simp [World.frozen?, hR.kcell]
        have hans : ansP R = .tuple #[.agg #[.int .u16 0, .int .u16 0], .int .i64 0, .bool false] := by
          have hL : L = [] := by
            subst hD
            rcases L with _ | ⟨x, L⟩
            · rfl
            · obtain ⟨d, hd, _⟩ := hall x (by simp)
              simp at hd
          subst hL
          rw [inv_nxt_nil hi]; rfl
        have HA := Aside.mk hans
        have HU := Aside.mk hR.upd
        have HK := Aside.mk hR.kcell
        clear hall hans hR hi hD
        go_wp2
        go_region
        all_goals go_wp2
        all_goals
          refine bodyPost_ret (v := .tuple #[.agg #[.int .u16 0, .int .u16 0], .int .i64 0, .bool false]) ?_ rfl ⟨by rw [HA.out], (((HU.out.setCell _ _ (fun h => absurd h (Nat.lt_irrefl _))).setCell _ _ (fun h => absurd h (Nat.lt_irrefl _)))).drew⟩
          have hz := first_set (v0 := .int .u16 0) (v1 := .int .u16 0) HK.out
          have z0 : (((wr.setCell ⟨w.heap.size, 0, none⟩ (.int .u16 0)).setCell ⟨w.heap.size, 1, none⟩ (.int .u16 0))).cell? ⟨w.heap.size, 0, none⟩ = some (.int .u16 0) := by simp [World.cell?, hz]
          have z1 : (((wr.setCell ⟨w.heap.size, 0, none⟩ (.int .u16 0)).setCell ⟨w.heap.size, 1, none⟩ (.int .u16 0))).cell? ⟨w.heap.size, 1, none⟩ = some (.int .u16 0) := by simp [World.cell?, hz]
          simp [results, Try.results40, go_sem, z0, z1]
      · have e0 : wr.cell? ⟨w.heap.size + 1, 0, none⟩ = some (.int .i64 e.time) := by simp [World.cell?, hR.first]
        have q0 : wr.cell? ⟨w.heap.size, 0, none⟩ = some (.int .u16 e.key.1) := by simp [World.cell?, hR.kcell]
        have q1 : wr.cell? ⟨w.heap.size, 1, none⟩ = some (.int .u16 e.key.2) := by simp [World.cell?, hR.kcell]
        have f0 : wr.frozen? ⟨w.heap.size, 0, none⟩ = false := by simp [World.frozen?, hR.kcell]
        have f1 : wr.frozen? ⟨w.heap.size, 1, none⟩ = false := by simp [World.frozen?, hR.kcell]
        have hans : ansP R = .tuple #[.agg #[.int .u16 e.key.1, .int .u16 e.key.2], .int .i64 e.time, .bool true] := by
          unfold ansP
          rw [inv_nxt hi (hR.sub e heD) (fun d hd => ?_)]
          · rfl
          · obtain ⟨d', hd', hb'⟩ := hall d hd
            have := born_inj hi.born (hR.sub d' hd') hd hb'
            subst this
            simpa [aheadB] using hbest d' hd'
        have HA := Aside.mk hans
        have HU := Aside.mk hR.upd
        have HK := Aside.mk hR.kcell
        clear hall hans hR hi hbest heD
        go_wp2
        go_region
        all_goals go_wp2
        all_goals
          refine bodyPost_ret (v := .tuple #[.agg #[.int .u16 e.key.1, .int .u16 e.key.2], .int .i64 e.time, .bool true]) ?_ rfl ⟨by rw [HA.out], (((HU.out.setCell _ _ (fun h => absurd h (Nat.lt_irrefl _))).setCell _ _ (fun h => absurd h (Nat.lt_irrefl _)))).drew⟩
          have hz := first_set (v0 := .int .u16 e.key.1) (v1 := .int .u16 e.key.2) HK.out
          have z0 : (((wr.setCell ⟨w.heap.size, 0, none⟩ (.int .u16 e.key.1)).setCell ⟨w.heap.size, 1, none⟩ (.int .u16 e.key.2))).cell? ⟨w.heap.size, 0, none⟩ = some (.int .u16 e.key.1) := by simp [World.cell?, hz]
          have z1 : (((wr.setCell ⟨w.heap.size, 0, none⟩ (.int .u16 e.key.1)).setCell ⟨w.heap.size, 1, none⟩ (.int .u16 e.key.2))).cell? ⟨w.heap.size, 1, none⟩ = some (.int .u16 e.key.2) := by simp [World.cell?, hz]
          simp [results, Try.results40, go_sem, z0, z1]
    · obtain ⟨hit, hmp, hkc, hfst, hup⟩ := hR.step he hw1 hlm
      generalize World.putObj w1 (w.heap.size + 2) (iterOf m ck (D ++ [e])) = W1 at *
      have hent := run_entry_tbl (P := Try.prog) hit hmp he hi.born
      have hent' : (Instr.entry (.pointer (some ⟨w.heap.size + 2, 0, none⟩))).run Try.prog W1 = .ok (.tuple #[.agg #[.int .u16 e.key.1, .int .u16 e.key.2], .agg #[.int .i64 e.time, .int .u64 e.turn]]) W1 := hent
      simp only [encP, valOf] at hnx
      have hfl := lt_of_block hfst
      have hfl' := lt_of_block hkc
      have HR := Aside.mk hR
      have HB := Aside.mk hR.best
      have c0' : W1.cell? ⟨w.heap.size + 1, 0, none⟩ = some c0 := by simp [World.cell?, hfst]
      have c1' : W1.cell? ⟨w.heap.size + 1, 1, none⟩ = some c1 := by simp [World.cell?, hfst]
      have f0 : W1.frozen? ⟨w.heap.size + 1, 0, none⟩ = false := by simp [World.frozen?, hfst]
      have f1 : W1.frozen? ⟨w.heap.size + 1, 1, none⟩ = false := by simp [World.frozen?, hfst]
      have q0' : W1.cell? ⟨w.heap.size, 0, none⟩ = some k0 := by simp [World.cell?, hkc]
      have q1' : W1.cell? ⟨w.heap.size, 1, none⟩ = some k1 := by simp [World.cell?, hkc]
      have g0 : W1.frozen? ⟨w.heap.size, 0, none⟩ = false := by simp [World.frozen?, hkc]
      have g1 : W1.frozen? ⟨w.heap.size, 1, none⟩ = false := by simp [World.frozen?, hkc]
      have H1 := Aside.mk hit
      have H2 := Aside.mk hmp
      have H3 := Aside.mk hfst
      have H3k := Aside.mk hkc
      have H4 := Aside.mk hup
      have H5 := Aside.mk hne
      have H6 := Aside.mk he
      clear hit hmp hfst hkc hup hne he hent hw1 hi hR
      rcases HB.out with ⟨hD, rfl, rfl, rfl, rfl, rfl⟩ | ⟨x, hxD, rfl, rfl, rfl, rfl, rfl, hbest⟩
      · have H7 := Aside.mk hD
        clear hD HB
        go_wp2
        go_region
        all_goals go_wp2
        all_goals
          obtain ⟨hu, hz1, hz2⟩ := four_set (k0 := .int .u16 e.key.1) (k1 := .int .u16 e.key.2) (c0 := .int .i64 e.time) (c1 := .int .u64 e.turn) H3k.out H3.out
          have hua := (((Upd.refl (fun _ => False) ((((W1.setCell ⟨w.heap.size, 0, none⟩ (.int .u16 e.key.1)).setCell ⟨w.heap.size, 1, none⟩ (.int .u16 e.key.2)).setCell ⟨w.heap.size + 1, 0, none⟩ (.int .i64 e.time)).setCell ⟨w.heap.size + 1, 1, none⟩ (.int .u64 e.turn))).alloc (.cells #[.int .u16 e.key.1, .int .u16 e.key.2] 58)).alloc (.cells #[.int .i64 e.time, .int .u64 e.turn] 76)).drew
          have hu' := hu.trans (hua.mono (fun _ h => h.elim))
          refine ⟨⟨D ++ [e], _, _, _, _, RoundP.next_ HR.out.sub H6.out H1.out H2.out H4.out hlm hu' (hua.heap hz1 (fun h => h)) (hua.heap hz2 (fun h => h)) (.inr ⟨e, by simp, rfl, rfl, rfl, rfl, rfl, fun d hd => ?_⟩)⟩, ?_⟩
          · rw [H7.out] at hd
            simp at hd
            subst hd
            simp [aheadB]
          · rw [leftInP_eq (hu'.heap H1.out (by unfold Pair_; omega)), leftInP_eq HR.out.iter]
            exact leftN_lt H6.out H5.out
      · have H7 := Aside.mk hbest
        have H8 := Aside.mk hxD
        clear hbest hxD HB
        go_wp2_with fail
        refine (ahead_any _ _ _ _ _).mono ?_
        rintro e1 w2 ⟨rfl, hb2⟩
        have hu2 : Upd (fun _ => False) W1 w2 := (((Upd.refl _ W1).alloc _).alloc _).trans (Upd.of_below hb2)
        have hkn := (hb2.block W1.heap.size (by simp; omega)).trans ((Below.heap_alloc _ _ _ (by simp)).trans (heap_alloc_new W1 (.cells #[.int .u16 e.key.1, .int .u16 e.key.2] 58)))
        have hxn : w2.heap[W1.heap.size + 1]? = some (.cells #[.int .i64 e.time, .int .u64 e.turn] 76) := by
          rw [hb2.block (W1.heap.size + 1) (by simp)]
          simpa using heap_alloc_new (W1.alloc (.cells #[.int .u16 e.key.1, .int .u16 e.key.2] 58)) (.cells #[.int .i64 e.time, .int .u64 e.turn] 76)
        have hf2 : w2.heap[w.heap.size + 1]? = some (.cells #[.int .i64 x.time, .int .u64 x.turn] 76) := hu2.heap H3.out (fun h => h)
        have hk2 : w2.heap[w.heap.size]? = some (.cells #[.int .u16 x.key.1, .int .u16 x.key.2] 58) := hu2.heap H3k.out (fun h => h)
        have hxl := lt_of_block hxn
        cases hab : aheadB e.time e.turn x.time x.turn
        · have HB := Aside.mk hu2
          have HF := Aside.mk hf2
          have HK := Aside.mk hk2
          clear hb2 hu2 hkn hxn hf2 hk2
          go_wp2_with fail
          go_roundw
          case rel =>
            refine ⟨D ++ [e], _, _, _, _, RoundP.next_ HR.out.sub H6.out H1.out H2.out H4.out hlm (HB.out.mono (fun _ h => h.elim)) HK.out HF.out (.inr ⟨x, by simp [H8.out], rfl, rfl, rfl, rfl, rfl, fun d hd => ?_⟩)⟩
            rcases List.mem_append.1 hd with hd | hd
            · exact H7.out d hd
            · simp at hd
              subst hd
              exact hab
          case measure =>
            rw [leftInP_eq (HB.out.heap H1.out (fun h => h)), leftInP_eq HR.out.iter]
            exact leftN_lt H6.out H5.out
        · have p0 : w2.cell? ⟨w.heap.size + 1, 0, none⟩ = some (.int .i64 x.time) := by simp [World.cell?, hf2]
          have p1 : w2.cell? ⟨w.heap.size + 1, 1, none⟩ = some (.int .u64 x.turn) := by simp [World.cell?, hf2]
          have p2 : w2.frozen? ⟨w.heap.size + 1, 0, none⟩ = false := by simp [World.frozen?, hf2]
          have p3 : w2.frozen? ⟨w.heap.size + 1, 1, none⟩ = false := by simp [World.frozen?, hf2]
          have r0 : w2.cell? ⟨w.heap.size, 0, none⟩ = some (.int .u16 x.key.1) := by simp [World.cell?, hk2]
          have r1 : w2.cell? ⟨w.heap.size, 1, none⟩ = some (.int .u16 x.key.2) := by simp [World.cell?, hk2]
          have r2 : w2.frozen? ⟨w.heap.size, 0, none⟩ = false := by simp [World.frozen?, hk2]
          have r3 : w2.frozen? ⟨w.heap.size, 1, none⟩ = false := by simp [World.frozen?, hk2]
          have d0 : w2.cell? ⟨W1.heap.size + 1, 0, none⟩ = some (.int .i64 e.time) := by simp [World.cell?, hxn]
          have d1 : w2.cell? ⟨W1.heap.size + 1, 1, none⟩ = some (.int .u64 e.turn) := by simp [World.cell?, hxn]
          have d2 : w2.cell? ⟨W1.heap.size, 0, none⟩ = some (.int .u16 e.key.1) := by simp [World.cell?, hkn]
          have d3 : w2.cell? ⟨W1.heap.size, 1, none⟩ = some (.int .u16 e.key.2) := by simp [World.cell?, hkn]
          have HB := Aside.mk hu2
          have HF := Aside.mk hf2
          have HK := Aside.mk hk2
          have HL := Aside.mk hab
          clear hb2 hu2 hkn hxn hf2 hk2
          go_wp2_with fail
          go_region
          all_goals (go_wp2_with fail)
          all_goals
            obtain ⟨hu, hz1, hz2⟩ := four_set (k0 := .int .u16 e.key.1) (k1 := .int .u16 e.key.2) (c0 := .int .i64 e.time) (c1 := .int .u64 e.turn) HK.out HF.out
            have hu' := ((HB.out.mono (S' := Pair_ w.heap.size (w.heap.size + 1)) (fun _ h => h.elim)).trans hu).drew
            refine ⟨⟨D ++ [e], _, _, _, _, RoundP.next_ HR.out.sub H6.out H1.out H2.out H4.out hlm hu' hz1 hz2 (.inr ⟨e, by simp, rfl, rfl, rfl, rfl, rfl, fun d hd => ?_⟩)⟩, ?_⟩
            · rcases List.mem_append.1 hd with hd | hd
              · have := H7.out d hd
                have h2 := HL.out
                simp only [aheadB, decide_eq_true_eq, decide_eq_false_iff_not] at this h2 ⊢
                omega
              · simp at hd
                subst hd
                simp [aheadB]
            · rw [leftInP_eq (hu'.heap H1.out (by unfold Pair_; omega)), leftInP_eq HR.out.iter]
              exact leftN_lt H6.out H5.out

/-- What 'Pop' answers. -/
def popAnsP (R : List (KP × Int)) (now : Int) : Value := match due R now with
  | some a => .tuple #[encP a, .bool true]
  | none => .tuple #[.agg #[.int .u16 0, .int .u16 0], .bool false]

set_option maxHeartbeats 2000000 in
theorem pop_P (w : World) {b m n : Nat} {R : List (KP × Int)} (h : TP w b m n R) (now : Int) :
    Calls Try.prog 33 #[.pointer (some ⟨b, 0, none⟩), .int .i64 now] w fun e w' => e = .returned (popAnsP R now) ∧ TP w' b m n (rpop R now) ∧ Upd (Two b m) w w' := by
  have hlb := h.lt
  have hlm := h.ltm
  have u0 : Upd (fun _ => False) w (w.alloc (.cells #[.int .u16 0, .int .u16 0] 58)) := (Upd.refl _ w).alloc _
  have hT0 := h.upd u0 (fun h => h) (fun h => h)
  have hz0 := heap_alloc_new w (.cells #[.int .u16 0, .int .u16 0] 58)
  have HN := next_P _ hT0
  have U0 := Aside.mk u0
  have T0 := Aside.mk hT0
  have Z0 := Aside.mk hz0
  clear u0 hT0 hz0
  cases hn : nxt R with
  | none =>
    have ha : ansP R = .tuple #[.agg #[.int .u16 0, .int .u16 0], .int .i64 0, .bool false] := by simp [ansP, hn]
    have hp : popAnsP R now = .tuple #[.agg #[.int .u16 0, .int .u16 0], .bool false] := by simp [popAnsP, due, hn]
    have hr : rpop R now = R := by simp [rpop, due, hn]
    rw [ha] at HN
    rw [hp, hr]
    have HN' := Aside.mk HN
    have HT := Aside.mk h
    clear HN h ha hp hr hn
    go_enter Try.func33, Try.ntmps33
    go_wp2_with fail
    refine HN'.out.mono ?_
    rintro e w2 ⟨rfl, hu⟩
    have HU := Aside.mk (U0.out.trans hu)
    have hz2 := hu.heap Z0.out (fun h => h)
    have q0 : w2.cell? ⟨w.heap.size, 0, none⟩ = some (.int .u16 0) := by simp [World.cell?, hz2]
    have q1 : w2.cell? ⟨w.heap.size, 1, none⟩ = some (.int .u16 0) := by simp [World.cell?, hz2]
    have f0 : w2.frozen? ⟨w.heap.size, 0, none⟩ = false := by simp [World.frozen?, hz2]
    have f1 : w2.frozen? ⟨w.heap.size, 1, none⟩ = false := by simp [World.frozen?, hz2]
    have hlt2 := lt_of_block hz2
    have Z2 := Aside.mk hz2
    clear hu hz2
    go_wp2_with fail
    have hw3 : ∃ w3, w3 = (((w2.setCell ⟨w.heap.size, 0, none⟩ (.int .u16 0)).setCell ⟨w.heap.size, 1, none⟩ (.int .u16 0)).alloc (.cells #[.int .u16 0, .int .u16 0] 58)) := ⟨_, rfl⟩
    obtain ⟨w3, hw3⟩ := hw3
    have hz3 : w3.heap[w.heap.size]? = some (.cells #[.int .u16 0, .int .u16 0] 58) := by
      rw [hw3, Below.heap_alloc _ _ _ (by simpa using hlt2)]
      exact first_set Z2.out
    have hu3 : Upd (fun _ => False) w w3 := by
      rw [hw3]
      exact (((HU.out.setCell ⟨w.heap.size, 0, none⟩ _ (fun h => absurd h (Nat.lt_irrefl _))).setCell ⟨w.heap.size, 1, none⟩ _ (fun h => absurd h (Nat.lt_irrefl _)))).alloc _
    have z0 : w3.cell? ⟨w.heap.size, 0, none⟩ = some (.int .u16 0) := by simp [World.cell?, hz3]
    have z1 : w3.cell? ⟨w.heap.size, 1, none⟩ = some (.int .u16 0) := by simp [World.cell?, hz3]
    rw [← hw3]
    refine bodyPost_ret (v := .tuple #[.agg #[.int .u16 0, .int .u16 0], .bool false]) ?_ rfl ⟨rfl, HT.out.upd hu3 (fun h => h) (fun h => h), hu3.mono (fun _ h => h.elim)⟩
    simp [results, Try.results33, go_sem, z0, z1]
  | some p =>
    have ha : ansP R = .tuple #[encP p.1, .int .i64 p.2, .bool true] := by simp [ansP, hn]
    rw [ha] at HN
    have hok := h.okOf (nxt_mem hn)
    have hhas := rhas_of_mem (nxt_mem hn)
    obtain ⟨⟨ka, kb⟩, t⟩ := p
    simp only [encP] at HN hok hhas
    by_cases hlt : now < t
    · have hp : popAnsP R now = .tuple #[.agg #[.int .u16 0, .int .u16 0], .bool false] := by simp [popAnsP, due, hn, hlt]
      have hr : rpop R now = R := by simp [rpop, due, hn, hlt]
      rw [hp, hr]
      have HN' := Aside.mk HN
      have HT := Aside.mk h
      clear HN h ha hp hr hn hok hhas
      go_enter Try.func33, Try.ntmps33
      go_wp2_with fail
      refine HN'.out.mono ?_
      rintro e w2 ⟨rfl, hu⟩
      have HU := Aside.mk (U0.out.trans hu)
      have hz2 := hu.heap Z0.out (fun h => h)
      have q0 : w2.cell? ⟨w.heap.size, 0, none⟩ = some (.int .u16 0) := by simp [World.cell?, hz2]
      have q1 : w2.cell? ⟨w.heap.size, 1, none⟩ = some (.int .u16 0) := by simp [World.cell?, hz2]
      have f0 : w2.frozen? ⟨w.heap.size, 0, none⟩ = false := by simp [World.frozen?, hz2]
      have f1 : w2.frozen? ⟨w.heap.size, 1, none⟩ = false := by simp [World.frozen?, hz2]
      have hlt2 := lt_of_block hz2
      have Z2 := Aside.mk hz2
      clear hu hz2
      go_wp2_with fail
      have hw3 : ∃ w3, w3 = (((w2.setCell ⟨w.heap.size, 0, none⟩ (.int .u16 0)).setCell ⟨w.heap.size, 1, none⟩ (.int .u16 0)).alloc (.cells #[.int .u16 ka, .int .u16 kb] 58)) := ⟨_, rfl⟩
      obtain ⟨w3, hw3⟩ := hw3
      have hz3 : w3.heap[w.heap.size]? = some (.cells #[.int .u16 0, .int .u16 0] 58) := by
        rw [hw3, Below.heap_alloc _ _ _ (by simpa using hlt2)]
        exact first_set Z2.out
      have hu3 : Upd (fun _ => False) w w3 := by
        rw [hw3]
        exact (((HU.out.setCell ⟨w.heap.size, 0, none⟩ _ (fun h => absurd h (Nat.lt_irrefl _))).setCell ⟨w.heap.size, 1, none⟩ _ (fun h => absurd h (Nat.lt_irrefl _)))).alloc _
      have z0 : w3.cell? ⟨w.heap.size, 0, none⟩ = some (.int .u16 0) := by simp [World.cell?, hz3]
      have z1 : w3.cell? ⟨w.heap.size, 1, none⟩ = some (.int .u16 0) := by simp [World.cell?, hz3]
      rw [← hw3]
      refine bodyPost_ret (v := .tuple #[.agg #[.int .u16 0, .int .u16 0], .bool false]) ?_ rfl ⟨rfl, HT.out.upd hu3 (fun h => h) (fun h => h), hu3.mono (fun _ h => h.elim)⟩
      simp [results, Try.results33, go_sem, z0, z1]
    · have hp : popAnsP R now = .tuple #[.agg #[.int .u16 ka, .int .u16 kb], .bool true] := by simp [popAnsP, due, hn, hlt, encP]
      have hr : rpop R now = rdrop R (ka, kb) := by simp [rpop, due, hn, hlt]
      rw [hp, hr]
      have HN' := Aside.mk HN
      have HT := Aside.mk h
      have HS : Aside (∀ W, Upd (fun _ => False) w W → Calls Try.prog 31 #[.pointer (some ⟨b, 0, none⟩), .agg #[.int .u16 ka, .int .u16 kb]] W fun e w' => e = .returned (.bool true) ∧ TP w' b m n (rdrop R (ka, kb)) ∧ Upd (Two b m) W w') := ⟨fun W u => by
        have h1 := stop_P W (h.upd u (fun h => h) (fun h => h)) (ka, kb) hok
        rw [hhas] at h1
        exact h1⟩
      clear HN h ha hp hr hn hok hhas
      go_enter Try.func33, Try.ntmps33
      go_wp2_with fail
      refine HN'.out.mono ?_
      rintro e w2 ⟨rfl, hu⟩
      have HU := Aside.mk (U0.out.trans hu)
      have hz2 := hu.heap Z0.out (fun h => h)
      have q0 : w2.cell? ⟨w.heap.size, 0, none⟩ = some (.int .u16 0) := by simp [World.cell?, hz2]
      have q1 : w2.cell? ⟨w.heap.size, 1, none⟩ = some (.int .u16 0) := by simp [World.cell?, hz2]
      have f0 : w2.frozen? ⟨w.heap.size, 0, none⟩ = false := by simp [World.frozen?, hz2]
      have f1 : w2.frozen? ⟨w.heap.size, 1, none⟩ = false := by simp [World.frozen?, hz2]
      have hlt2 := lt_of_block hz2
      have Z2 := Aside.mk hz2
      clear hu hz2
      go_wp2_with fail
      obtain ⟨w3, hw3⟩ : ∃ w3, w3 = w2.alloc (.cells #[.int .u16 ka, .int .u16 kb] 58) := ⟨_, rfl⟩
      have hk3 : w3.heap[w2.heap.size]? = some (.cells #[.int .u16 ka, .int .u16 kb] 58) := by rw [hw3]; exact heap_alloc_new _ _
      have hz3 : w3.heap[w.heap.size]? = some (.cells #[.int .u16 0, .int .u16 0] 58) := by rw [hw3, Below.heap_alloc _ _ _ hlt2]; exact Z2.out
      have hu3 : Upd (fun _ => False) w w3 := by rw [hw3]; exact HU.out.alloc _
      have hs3 : w2.heap.size < w3.heap.size := lt_of_block hk3
      rw [← hw3]
      clear hw3 q0 q1 f0 f1
      have HKEEP : Aside (∀ W, Upd (Two b m) w3 W → W.cell? ⟨w2.heap.size, 0, none⟩ = some (.int .u16 ka) ∧ W.cell? ⟨w2.heap.size, 1, none⟩ = some (.int .u16 kb) ∧ W.cell? ⟨w.heap.size, 0, none⟩ = some (.int .u16 0) ∧ W.cell? ⟨w.heap.size, 1, none⟩ = some (.int .u16 0) ∧
          W.frozen? ⟨w.heap.size, 0, none⟩ = false ∧ W.frozen? ⟨w.heap.size, 1, none⟩ = false ∧ W.heap[w.heap.size]? = some (.cells #[.int .u16 0, .int .u16 0] 58)) := ⟨fun W u => by
        have k1 := u.heap hk3 (by unfold Two; omega)
        have k2 := u.heap hz3 (by unfold Two; omega)
        exact ⟨by simp [World.cell?, k1], by simp [World.cell?, k1], by simp [World.cell?, k2], by simp [World.cell?, k2], by simp [World.frozen?, k2], by simp [World.frozen?, k2], k2⟩⟩
      obtain ⟨x0, x1, x2, x3, x4, x5, _⟩ := HKEEP.out w3 (Upd.refl _ _)
      have HU3 := Aside.mk hu3
      have hlw : w.heap.size < w3.heap.size := by omega
      clear hk3 hz3 hu3
      have hne2 : w2.heap.size ≠ w.heap.size := by omega
      go_region_held3 (fun W => W.cell? ⟨w2.heap.size, 0, none⟩ = some (.int .u16 ka) ∧ W.cell? ⟨w2.heap.size, 1, none⟩ = some (.int .u16 kb))
        (first | go_keep | exact ⟨y0, y1⟩ | (simp [World.cell?_setCell_other, hne2.symm]; exact ⟨y0, y1⟩))
        ((go_at_call 31; refine (HS.out _ HU3.out.drew).mono ?_; rintro e w4 ⟨rfl, t4, u4⟩; have HT4 := Aside.mk t4; have HU4 : Aside (Upd (Two b m) w3 w4) := ⟨(Upd.refl _ _).drew.trans u4⟩; clear t4 u4; obtain ⟨y0, y1, y2, y3, y4, y5, y6⟩ := HKEEP.out _ HU4.out; have Y6 := Aside.mk y6; clear y6))
      all_goals
        go_wp2_with fail
        have hz := first_set (v0 := .int .u16 ka) (v1 := .int .u16 kb) Y6.out
        have hu : Upd (Just w.heap.size) w4 ((w4.setCell ⟨w.heap.size, 0, none⟩ (.int .u16 ka)).setCell ⟨w.heap.size, 1, none⟩ (.int .u16 kb)) := ((Upd.refl (Just w.heap.size) w4).setCell ⟨w.heap.size, 0, none⟩ _ (fun _ => rfl)).setCell ⟨w.heap.size, 1, none⟩ _ (fun _ => rfl)
        have z0 : ((w4.setCell ⟨w.heap.size, 0, none⟩ (.int .u16 ka)).setCell ⟨w.heap.size, 1, none⟩ (.int .u16 kb)).cell? ⟨w.heap.size, 0, none⟩ = some (.int .u16 ka) := by simp [World.cell?, hz]
        have z1 : ((w4.setCell ⟨w.heap.size, 0, none⟩ (.int .u16 ka)).setCell ⟨w.heap.size, 1, none⟩ (.int .u16 kb)).cell? ⟨w.heap.size, 1, none⟩ = some (.int .u16 kb) := by simp [World.cell?, hz]
        refine bodyPost_ret (v := .tuple #[.agg #[.int .u16 ka, .int .u16 kb], .bool true]) ?_ rfl ⟨rfl, HT4.out.upd hu (by unfold Just; omega) (by unfold Just; omega), ((HU3.out.mono (fun _ h => h.elim)).trans HU4.out).new hu (fun i h1 h2 => by unfold Just at h2; omega)⟩
        simp [results, Try.results33, go_sem, z0, z1]
end Go.Proofs.Ytgfpeppaimhgiaa
