/-
  Proved: what the program's function that makes a chunk of data does to memory and what it answers: the bytes of the body are those of the document. Conditions: the data are shorter than a hundred thousand bytes.
-/
import Derived.Test.YtedbmpfjikaljaaPutc
namespace Go.Proofs.Ytedbmpfjikaljaa
open Go.RowKit
set_option linter.unusedVariables false
set_option linter.unusedSimpArgs false
set_option linter.unusedSectionVars false
set_option maxRecDepth 100000

def flg (b : Bool) (x : Int) : Int := if b = true then x else 0
theorem flag_ (w : World) (b : Bool) (x : Int) : Calls Try.prog 50 #[.bool b, .int .u8 x] w fun e w' => e = .returned (.int .u8 (flg b x)) ∧ w = w' := by
  cases b
  · go_enter Try.func50, Try.ntmps50
    go_wp2
    go_ret
    exact ⟨rfl, rfl⟩
  · go_enter Try.func50, Try.ntmps50
    go_wp2
    go_ret
    exact ⟨rfl, rfl⟩

theorem set3_box {V : World} {h r : Nat} {o : Obj} (k : V.heap[h]? = some o) (hr : h ≠ r) (v0 v1 v2 : Value) : ((((V.setCell ⟨r, 0, none⟩ v0).setCell ⟨r, 1, none⟩ v1).setCell ⟨r, 2, none⟩ v2).drew).heap[h]? = some o := by
  show (((V.setCell ⟨r, 0, none⟩ v0).setCell ⟨r, 1, none⟩ v1).setCell ⟨r, 2, none⟩ v2).heap[h]? = some o
  rw [Below.heap_setCell _ _ _ _ hr, Below.heap_setCell _ _ _ _ hr, Below.heap_setCell _ _ _ _ hr]
  exact k

theorem Own.drewN {w : World} {base : Nat} {A : Option Addr} {n c : Nat} {xs : List Int} (h : Own w base A n c xs) (q : Nat) : Own (w.drewN q) base A n c xs := h.below (below_drewN (Below.refl _ _) q)
theorem Good.grown {w V V' : World} {o : Obj} (h : Good w o V) {r : Option Nat} (g : V.grownBy V' r) (hr : ∀ b, r = some b → w.heap.size + 2 ≤ b) : Good w o V' :=
  have hs := h.size
  ⟨(g.block _ (by omega) (fun e => by have := hr _ e.symm; omega)).trans h.box, (g.block _ (by omega) (fun e => by have := hr _ e.symm; omega)).trans h.res, below_grown h.low g (fun b hb => by have := hr b hb; omega) (by omega), by have := g.size; omega⟩

def flagsV (u f l : Bool) : Int := flg u 4 + flg f 2 + flg l 1
theorem flags_or (u f l : Bool) : bits .or .u8 (bits .or .u8 (flg u 4) (flg f 2)) (flg l 1) = flagsV u f l := by cases u <;> cases f <;> cases l <;> decide
def dataL (tsn stream ssn : Int) (bytes : List Int) : List Int := bes 4 [tsn] ++ bes 2 [stream, ssn] ++ bes 4 [0] ++ bytes

theorem keep7 {w : World} {h : Nat} {a b c d e f g : Value} {t : TypeId} (k : w.heap[h]? = some (.cells #[a, b, c, d, e, f, g] t)) : w.cell? ⟨h, 0, none⟩ = some a ∧ w.cell? ⟨h, 1, none⟩ = some b ∧ w.cell? ⟨h, 2, none⟩ = some c ∧ w.cell? ⟨h, 3, none⟩ = some d ∧ w.cell? ⟨h, 4, none⟩ = some e ∧ w.cell? ⟨h, 5, none⟩ = some f ∧ w.cell? ⟨h, 6, none⟩ = some g :=
  ⟨by rw [blk_cell k]; rfl, by rw [blk_cell k]; rfl, by rw [blk_cell k]; rfl, by rw [blk_cell k]; rfl, by rw [blk_cell k]; rfl, by rw [blk_cell k]; rfl, by rw [blk_cell k]; rfl⟩

theorem step_append_run {P : Program} {w w' : World} {ops : Array Oper} {o : Oper} {a : Act} {K : Act → World → Prop} {Q : Exit → Act → World → Prop} {E : Prop} {v' : Value} (t : TypeId) (s x : Operand) (v src : Value) (hgd : o.guard = none)
    (ho : o.op = .call { callee := .builtin .append, args := #[s, x], argTypes := #[t, t] }) (hs : a.eval s = v) (hx : a.eval x = src) (hrun : (Builtin.append_ #[t, t] o.type #[v, src]).run P w = .ok v' w')
    (h : K (a.put o.dst v') w') : if Region.wanted o (yielded ops a.tmps) = true then Oper.wp P o a w K Q else E := by
  have hw : Region.wanted o (yielded ops a.tmps) = true := by simp [Region.wanted, hgd]
  rw [if_pos hw]
  unfold Oper.wp execOp
  simp only [ho, resolve, invoke, builtin, Sem.run_bind, Sem.run_pure, Result.andThen_ok, List.map_toArray, List.map_cons, List.map_nil, hs, hx, hrun]
  exact h

set_option maxHeartbeats 2000000 in
theorem putData_ (w : World) (tsn stream ssn : Int) (u f l : Bool) (h0 : 0 ≤ tsn) (h1 : tsn < 4294967296) (h2 : 0 ≤ stream) (h3 : stream < 65536) (h4 : 0 ≤ ssn) (h5 : ssn < 65536) {B : Option Addr} {n d : Nat} {bs : List Int} (h : Rd .u8 w B n d bs) (hn : n ≤ 500000) :
    Calls Try.prog 21 #[.agg #[.int .u32 tsn, .int .u16 stream, .int .u16 ssn, .bool u, .bool f, .bool l, .slice B n d]] w fun e w' => ∃ A n c, e = .returned (chunkV 0 (flagsV u f l) A n c) ∧ Own w' w.heap.size A n c (dataL tsn stream ssn bs) ∧ Below w.heap.size w w' := by
  have H := Aside.mk h
  clear h
  go_enter Try.func21, Try.ntmps21
  go_wp2_with fail
  generalize hO : Obj.cells #[.int .u32 tsn, .int .u16 stream, .int .u16 ssn, .bool u, .bool f, .bool l, .slice B n d] 32 = O
  generalize hW : (w.alloc O).alloc (.cells #[.int .u8 0, .int .u8 0, .slice none 0 0] 24) = W
  obtain ⟨hbox, hres, hbl, hsz⟩ := setup2 w _ hW
  clear hW
  rw [← hO] at hbox
  obtain ⟨k0, k1, k2, k3, k4, k5, k6⟩ := keep7 hbox
  rw [hO] at hbox
  have hw1 : IntKind.u64.wrap tsn = tsn := by rw [IntKind.wrap_u64]; omega
  have hw2 : IntKind.u64.wrap stream = stream := by rw [IntKind.wrap_u64]; omega
  have hw3 : IntKind.u64.wrap ssn = ssn := by rw [IntKind.wrap_u64]; omega
  have G : Aside (Good w O W) := ⟨hbox, hres, hbl, by omega⟩
  have C1 := Aside.mk (fun (V : World) (g : Nat) (hg : V.heap[g]? = some (.cells #[.int .u64 (IntKind.u64.wrap tsn)] 86)) (hG : Good w O V) => good_put1 w _ V tsn hG (own_nil V (w.heap.size + 2)) (by omega) hg hw1 (by omega) (by omega) 4 (si := 4) rfl rfl)
  have C2 := Aside.mk (fun (V : World) (A : Option Addr) (c : Nat) (xs : List Int) (ho : Own V (w.heap.size + 2) A 4 c xs) (g : Nat) (hg : V.heap[g]? = some (.cells #[.int .u64 (IntKind.u64.wrap stream), .int .u64 (IntKind.u64.wrap ssn)] 86)) (hG : Good w O V) => good_put2 w _ V stream ssn hG ho (by omega) hg hw2 hw3 (by omega) (by omega) 2 (si := 2) rfl rfl)
  have KP : Aside (∀ (V : World), V.heap[w.heap.size]? = some O → V.cell? ⟨w.heap.size, 0, none⟩ = some (.int .u32 tsn) ∧ V.cell? ⟨w.heap.size, 1, none⟩ = some (.int .u16 stream) ∧ V.cell? ⟨w.heap.size, 2, none⟩ = some (.int .u16 ssn)) := ⟨fun V hV => by
    rw [← hO] at hV
    exact ⟨(keep7 hV).1, (keep7 hV).2.1, (keep7 hV).2.2.1⟩⟩
  have KQ : Aside (∀ (V : World), V.heap[w.heap.size]? = some O → V.cell? ⟨w.heap.size, 6, none⟩ = some (.slice B n d)) := ⟨fun V hV => by
    rw [← hO] at hV
    exact (keep7 hV).2.2.2.2.2.2⟩
  have KR : Aside (∀ (V : World), V.heap[w.heap.size]? = some O → V.cell? ⟨w.heap.size, 3, none⟩ = some (.bool u) ∧ V.cell? ⟨w.heap.size, 4, none⟩ = some (.bool f) ∧ V.cell? ⟨w.heap.size, 5, none⟩ = some (.bool l)) := ⟨fun V hV => by
    rw [← hO] at hV
    exact ⟨(keep7 hV).2.2.2.1, (keep7 hV).2.2.2.2.1, (keep7 hV).2.2.2.2.2.1⟩⟩
  clear hw1 hw2 hw3 hbox hres hbl hsz k0 k1 k2 k3 k4 k5 k6 hO
  go_region_held3 (fun w' => w'.cell? ⟨w.heap.size, 0, none⟩ = some (.int .u32 tsn) ∧ w'.cell? ⟨w.heap.size, 1, none⟩ = some (.int .u16 stream) ∧ w'.cell? ⟨w.heap.size, 2, none⟩ = some (.int .u16 ssn))
    (first | exact KP.out _ P3.out.1.box | exact KP.out _ (alloc_keep P2.out.1.box) | exact KP.out _ P2.out.1.box | exact KP.out _ (alloc_keep (alloc_keep G.out.box)) | exact KP.out _ (alloc_keep G.out.box) | exact KP.out _ G.out.box | go_keep)
    (first
      | (go_at_call 48; refine (C2.out _ A2 c2 _ (by first | exact P2.out.2.1 | exact P2.out.2.1.below (below_alloc w2 _)) _ (by first | exact heap_alloc_new _ _ | (refine (P2.out.2.2.block _ (by simp <;> omega)).trans ?_; first | exact heap_alloc_new _ _ | exact blk_new2 _ _ _ | exact alloc_keep (heap_alloc_new _ _))) (by first | exact P2.out.1 | exact P2.out.1.alloc _)).mono ?_; rintro e w3 ⟨A3, c3, rfl, P3⟩)
      | (go_at_call 48; refine (C1.out _ _ (by first | exact heap_alloc_new _ _ | exact blk_new2 _ _ _ | exact alloc_keep (heap_alloc_new _ _)) (by first | exact (G.out.alloc _).drew | exact ((G.out.alloc _).alloc _).drew)).mono ?_; rintro e w2 ⟨A2, c2, rfl, P2⟩))
  all_goals (
    have G3 := Aside.mk P3.out.1
    have C3 := Aside.mk (fun (V : World) (ho : Own V (w.heap.size + 2) A3 8 c3 (bes 4 [tsn] ++ bes 2 [stream, ssn])) (g : Nat) (hg : V.heap[g]? = some (.cells #[.int .u64 0] 86)) (hG : Good w O V) => good_put1 w _ V 0 hG ho (by omega) hg rfl (by omega) (by omega) 4 (si := 4) rfl rfl)
    have O3 : Aside (Own w3 (w.heap.size + 2) A3 8 c3 (bes 4 [tsn] ++ bes 2 [stream, ssn])) := ⟨by simpa using P3.out.2.1⟩
    clear P3 P2 C1 C2 G
    go_wp2_with fail
    go_region_held3 (fun w' => w'.cell? ⟨w.heap.size, 6, none⟩ = some (.slice B n d))
      (first | exact KQ.out _ P5.out.1.box | exact KQ.out _ P4.out.1.box | exact KQ.out _ (alloc_keep G3.out.box) | exact KQ.out _ G3.out.box | go_keep)
      (first
        | (go_at_call 48; refine (C3.out _ (O3.out.below (below_drewN (below_alloc w3 _) 1)) _ (heap_alloc_new _ _) (G3.out.alloc _).drew).mono ?_; rintro e w4 ⟨A4, c4, rfl, P4⟩)
        | (obtain ⟨A5, c5, w5, hrun, o5, g5⟩ := append_run P4.out.2.1 P4.out.1.size (H.out.below P4.out.1.low) (by omega); refine step_append_run 22 _ _ _ _ rfl rfl rfl rfl hrun ?_; have P5 := Aside.mk (And.intro (P4.out.1.grown g5 (fun g hg => P4.out.2.1.base_le hg)) o5); clear hrun o5 g5))
    all_goals (
      have O5 := Aside.mk P5.out.2
      have GG5 := Aside.mk P5.out.1
      obtain ⟨q0, q1, q2⟩ := P5.out.1.res.cells
      obtain ⟨f0, f1, f2⟩ := P5.out.1.res.free
      clear P4 P5 C3
      go_wp2_with fail
      go_region_held3 (fun w' => w'.cell? ⟨w.heap.size, 3, none⟩ = some (.bool u) ∧ w'.cell? ⟨w.heap.size, 4, none⟩ = some (.bool f) ∧ w'.cell? ⟨w.heap.size, 5, none⟩ = some (.bool l))
        (first | exact KR.out _ GG5.out.box | exact KR.out _ (set3_box GG5.out.box (by omega) _ _ _) | go_keep)
        ((go_at_call 50; refine (flag_ _ _ _).mono ?_; rintro e w' ⟨rfl, rfl⟩))
      all_goals (
        have hfl := flags_or u f l
        go_wp2_with fail
        refine bodyPost_ret (v := chunkV 0 (flagsV u f l) A5 (12 + n) c5) (by simp [results, Try.results21, go_sem, chunkV, q0, q1, q2, hfl]) rfl ⟨A5, 12 + n, c5, rfl, ?_, below_drewN (fin_below (r := w.heap.size + 1) GG5.out.low (by omega) _ _ _) 1⟩
        have := (fin_own (r := w.heap.size + 1) O5.out (by omega) (.int .u8 0) (.int .u8 (bits .or .u8 (bits .or .u8 (flg u 4) (flg f 2)) (flg l 1))) (.slice A5 (12 + n) c5)).mono (show w.heap.size ≤ w.heap.size + 2 by omega)
        exact this.drewN 1)))
end Go.Proofs.Ytedbmpfjikaljaa
