/-
  Proved: the function by which a statement asks whether rows of bytes reach into one another answers that they do not, where each lies in a block of its own. Conditions: there are at most a hundred rows.
-/
import Derived.Test.YtedbmpfjikaljaaAparta
namespace Go.Proofs.Ytedbmpfjikaljaa
open Go.RowKit
set_option linter.unusedVariables false
set_option linter.unusedSimpArgs false
set_option linter.unusedSectionVars false
set_option maxRecDepth 100000

abbrev Hdr := Option Addr × Nat × Nat
def hdrV (r : Hdr) : Value := .slice r.1 r.2.1 r.2.2
def RB (A : Option Addr) (g : Nat) : Prop := A = some ⟨g, 0, none⟩
def SB (R : List Hdr) (g : Nat) : Prop := ∃ r ∈ R, RB r.1 g
/-- Rows, their headers in block b, and all that they have. -/
structure RowsOk (R : List Hdr) (b : Nat) (Y : Nat → List Int) (w : World) : Prop where
  hdr : w.heap[b]? = some (.cells (R.map hdrV).toArray 22)
  full : ∀ k r, R[k]? = some r → Full w r.1 r.2.1 r.2.2 (Y k)
structure RowsIn (R : List Hdr) (b : Nat) : Prop where
  small : R.length ≤ 100
  apart : ∀ (k l : Nat) (r s : Hdr) (g : Nat), R[k]? = some r → R[l]? = some s → RB r.1 g → RB s.1 g → k = l
  off : ¬ SB R b
theorem RowsOk.keep {R : List Hdr} {b : Nat} {Y : Nat → List Int} {w w' : World} (h : RowsOk R b Y w) (u : Below w.heap.size w w') : RowsOk R b Y w' :=
  ⟨(u.block _ (lt_of_block h.hdr)).trans h.hdr, fun k r hr => (h.full k r hr).below u⟩
theorem RowsOk.cell {R : List Hdr} {b : Nat} {Y : Nat → List Int} {w : World} (h : RowsOk R b Y w) {k : Nat} {r : Hdr} (hr : R[k]? = some r) : w.cell? ⟨b, k, none⟩ = some (.slice r.1 r.2.1 r.2.2) := by
  rw [blk_cell h.hdr]
  simp [hr, hdrV]
/-- One row is turned. -/
theorem RowsOk.turn {R : List Hdr} {b : Nat} {Y : Nat → List Int} {w w' : World} (h : RowsOk R b Y w) (q : RowsIn R b) {i : Nat} {r : Hdr} (hr : R[i]? = some r) (u : Upd (RB r.1) w w') {ys : List Int} (f : Full w' r.1 r.2.2 r.2.2 ys) :
    RowsOk R b (fun k => if k = i then ys else Y k) w' :=
  ⟨u.heap h.hdr (fun hb => q.off ⟨r, List.mem_of_getElem? hr, hb⟩), fun k s hs => by
    by_cases hk : k = i
    · subst hk
      rw [hs] at hr
      injection hr with hr
      subst hr
      rw [if_pos rfl]
      exact ⟨(h.full k s hs).cap, f.mx, f.len, f.at_⟩
    · rw [if_neg hk]
      exact (h.full k s hs).keep fun g hg hlt => u.block g hlt (fun hb => hk (q.apart k i s r g hs hr hg hb))⟩
def txt (R : List Hdr) (Y : Nat → List Int) (k : Nat) : ByteArray := textOf ((R.getD k (none, 0, 0)).2.1) (Y k)
theorem RowsOk.text {R : List Hdr} {b : Nat} {Y : Nat → List Int} {w : World} (h : RowsOk R b Y w) {k : Nat} {r : Hdr} (hr : R[k]? = some r) : (convert 22 9 (.slice r.1 r.2.1 r.2.2)).run Try.prog w = .ok (.string (txt R Y k)) w := by
  rw [(h.full k r hr).text]
  unfold txt
  rw [List.getD_eq_getElem?_getD, hr]
  rfl
/-- A row of texts that the call has made. -/
def OwnS (w : World) (base : Nat) (A : Option Addr) (n c : Nat) (ss : List ByteArray) : Prop := w.ownsRow base 9 1 (.slice A n c) n (ss.map Value.string)
theorem info9 : (Try.prog.info? 9).map (fun i => (i.zero, i.size, i.bytes)) = some (some (.string ByteArray.empty), 1, 16) := by kernel_rfl
theorem append_text {w : World} {base : Nat} {A : Option Addr} {n c : Nat} {ss : List ByteArray} (h : OwnS w base A n c ss) (hb : base ≤ w.heap.size) {g : Nat} {s : ByteArray} {t : TypeId} (k : w.heap[g]? = some (.cells #[.string s] t)) (hn : n ≤ 1000000) :
    ∃ A' c' w', (Builtin.append_ #[99, 99] 99 #[.slice A n c, .slice (some ⟨g, 0, none⟩) 1 1]).run Try.prog w = .ok (.slice A' (n + 1) c') w' ∧ OwnS w' base A' (n + 1) c' (ss ++ [s]) ∧ w.grownBy w' (Value.slice A n c).ownBlock := by
  obtain ⟨i0, hi0, hz0, hz1, hz2⟩ := info_parts info9
  obtain ⟨A', c', w', h1, h2, h3⟩ := append_gen 99 9 i0 _ 1 16 Try.underlying99 hi0 hz0 hz1 hz2 rfl (by omega) (by omega) h hb (B := some ⟨g, 0, none⟩) (m := 1) (d := 1) (ys := [.string s]) rfl (fun j u hu => by
    rcases j with _ | j
    · simp at hu
      subst hu
      exact ⟨g, 0, rfl, by rw [Nat.zero_add, blk_cell k]; rfl⟩
    · simp at hu) (fun u hu => by simp at hu; subst hu; rfl) hn (by omega)
  exact ⟨A', c', w', h1, by unfold OwnS; rw [List.map_append]; exact h2, h3⟩

theorem Full.set {w : World} {g n c p : Nat} {ys : List Int} (h : Full w (some ⟨g, 0, none⟩) n c ys) (v : Int) : Full (w.setCell ⟨g, p, none⟩ (.int .u8 v)) (some ⟨g, 0, none⟩) n c (ys.set p v) := by
  refine ⟨h.cap, h.mx, by rw [List.length_set]; exact h.len, .inr ⟨g, rfl, ?_⟩⟩
  rcases h.at_ with ⟨h0, _⟩ | ⟨g', h1, h2⟩
  · cases h0
  · injection h1 with h1
    injection h1 with h1 _ _
    subst h1
    have := setCell_block (i := p) (v := .int .u8 v) h2
    rw [row_set] at this
    exact this
theorem Full.get {w : World} {A : Option Addr} {n c : Nat} {ys : List Int} (h : Full w A n c ys) {p : Nat} (hp : p < c) : ∃ g y, A = some ⟨g, 0, none⟩ ∧ g < w.heap.size ∧ w.cell? ⟨g, p, none⟩ = some (.int .u8 y) ∧ w.frozen? ⟨g, p, none⟩ = false := by
  rcases h.at_ with ⟨h0, h1⟩ | ⟨g, h1, h2⟩
  · omega
  · exact ⟨g, ys[p]'(by have := h.len; omega), h1, lt_of_block h2, by rw [blk_cell h2, row_at, List.getElem?_eq_getElem (by have := h.len; omega)]; rfl, blk_free h2⟩
theorem OwnS.get {w : World} {base : Nat} {A : Option Addr} {n c : Nat} {f : Nat → ByteArray} (h : OwnS w base A n c ((List.range n).map f)) {k : Nat} (hk : k < n) : ∃ g, A = some ⟨g, 0, none⟩ ∧ w.cell? ⟨g, k, none⟩ = some (.string (f k)) := by
  obtain ⟨g, h1, _, h2⟩ := row_at_ h (i := k) (u := .string (f k)) (by simp [hk])
  exact ⟨g, h1, h2⟩
set_option maxHeartbeats 4000000 in
theorem apartRows_ (w : World) {R : List Hdr} {b m : Nat} (hm : R.length = m) (q : RowsIn R b) {Y : Nat → List Int} (h : RowsOk R b Y w) :
    Calls Try.prog 29 #[.slice (some ⟨b, 0, none⟩) m m] w fun e w' => e = .returned (.bool true) ∧ Upd (SB R) w w' := by
  have Q := Aside.mk q
  have H := Aside.mk h
  have hm2 := q.small
  have HM := Aside.mk hm
  rw [hm] at hm2
  clear hm q h
  go_enter Try.func29, Try.ntmps29
  go_wp2_with fail
  go_loopg [3, 4] m (fun j s3 s4 wr => ∃ i Y', i + j = m ∧ s4 = .int .i64 (i : Nat) ∧ s3 = .bool true ∧ Aside (RowsOk R b Y' wr ∧ Upd (SB R) w wr))
  case atStart => exact ⟨0, Y, by omega, rfl, rfl, ⟨H.out, Upd.refl _ _⟩⟩
  case round =>
    obtain ⟨i, Y', hij, rfl, rfl, P⟩ := hrel
    by_cases ci : i < m
    · obtain ⟨w1, rfl⟩ : ∃ w1 : World, w1 = wr := ⟨_, rfl⟩
      obtain ⟨⟨A, n, c⟩, hi⟩ : ∃ r, R[i]? = some r := ⟨_, List.getElem?_eq_getElem (by rw [HM.out]; exact ci)⟩
      have HI := Aside.mk hi
      have EV := Aside.mk (fun (k : Nat) (hk : k < m) => (⟨_, List.getElem?_eq_getElem (by rw [HM.out]; exact hk)⟩ : ∃ r, R[k]? = some r))
      have hcap := (P.out.1.full i _ hi).cap
      have hmx := (P.out.1.full i _ hi).mx
      simp only at hcap hmx
      clear hi
      go_wp2_with fail
      go_loopg [5, 6] m (fun j s5 s6 wr => ∃ k A' c', k + j = m ∧ s6 = .int .i64 (k : Nat) ∧ s5 = .slice A' k c' ∧ Aside (OwnS wr w1.heap.size A' k c' ((List.range k).map (txt R Y')) ∧ Below w1.heap.size w1 wr))
      case atStart => exact ⟨0, none, 0, by omega, rfl, rfl, ⟨World.ownsRow_nil _ _ _ _, Below.refl _ _⟩⟩
      case round =>
        obtain ⟨k, A', c', hkj, rfl, rfl, O⟩ := hrel
        by_cases ck : k < m
        · obtain ⟨r, hr⟩ := EV.out k ck
          have V1 := P.out.1.keep O.out.2
          have T := V1.text hr
          have hc := V1.cell hr
          obtain ⟨A2, n2, c2⟩ := r
          simp only at T hc
          have hs := O.out.2.size
          obtain ⟨A3, c3, w6, hrun, o6, g6⟩ := append_text (row_below O.out.1 (below_alloc wr (.cells #[.string (txt R Y' k)] 9))) (by simp; omega) (heap_alloc_new wr (.cells #[.string (txt R Y' k)] 9)) (by omega)
          have B6 := Aside.mk (below_grown (O.out.2.trans ((below_alloc wr (.cells #[.string (txt R Y' k)] 9)).mono hs)) g6 (fun g hg => row_base O.out.1 hg) (by simp; omega))
          have O6 : Aside (OwnS w6 w1.heap.size A3 (k + 1) c3 ((List.range (k + 1)).map (txt R Y'))) := ⟨by rw [List.range_succ, List.map_append]; exact o6⟩
          have RR := Aside.mk hrun
          clear hrun o6 g6 V1 hr P HI EV H
          generalize txt R Y' k = tx at *
          go_wp2_with (at_builtin; refine wpList_append_run 99 _ _ _ _ rfl rfl rfl rfl RR.out ?_)
          go_roundg (m - (k + 1))
          case rel => exact ⟨k + 1, A3, c3, by omega, by go_num, rfl, ⟨O6.out, B6.out⟩⟩
          case measure => omega
        · obtain rfl : m = k := by omega
          have hd : decide (m < m) = false := decide_eq_false ck
          obtain ⟨w2, rfl⟩ : ∃ w2 : World, w2 = wr := ⟨_, rfl⟩
          have V1 := Aside.mk (P.out.1.keep O.out.2)
          have U1 := Aside.mk (P.out.2.new (Upd.of_below (S := fun _ => False) O.out.2) (fun _ _ h => False.elim h))
          have W := Aside.mk (whole_ w2 (A := A) hcap hmx)
          have hc := V1.out.cell HI.out
          simp only at hc
          have hw12 := O.out.2.size
          have hz1 : ∀ g, A = some ⟨g, 0, none⟩ → g < w1.heap.size := fun g hg => (P.out.1.full i _ HI.out).lt hg
          have HZ := Aside.mk hz1
          have F1 : Aside (∃ ys, Full w2 A c c ys) := ⟨⟨_, ⟨Nat.le_refl _, hmx, (V1.out.full i _ HI.out).len, (V1.out.full i _ HI.out).at_⟩⟩⟩
          clear hz1 P
          go_wp2_with fail
          refine W.out.mono ?_
          rintro e w2' ⟨rfl, rfl⟩
          clear W hc
          go_wp2_with fail
          go_loopg [8] c (fun j s8 wr => ∃ p, p + j = c ∧ s8 = .int .i64 (p : Nat) ∧ Aside ((∃ ys, Full wr A c c ys) ∧ Upd (RB A) w2 wr))
          case atStart => exact ⟨0, by omega, rfl, ⟨F1.out, Upd.refl _ _⟩⟩
          case round =>
            obtain ⟨p, hpj, rfl, G⟩ := hrel
            by_cases cp : p < c
            · obtain ⟨ys, fy⟩ := G.out.1
              obtain ⟨g, y, hA, hgl, hgc, hgf⟩ := fy.get cp
              subst hA
              have G2 := Aside.mk (And.intro fy G.out.2)
              clear fy G
              go_wp2_with fail
              go_roundg (c - (p + 1))
              case rel => exact ⟨p + 1, by omega, by go_num, ⟨⟨_, G2.out.1.set _⟩, G2.out.2.setCell ⟨g, p, none⟩ _ (fun _ => rfl)⟩⟩
              case measure => omega
            · obtain rfl : c = p := by omega
              have hdp : decide (c < c) = false := decide_eq_false cp
              obtain ⟨w3, rfl⟩ : ∃ w3 : World, w3 = wr := ⟨_, rfl⟩
              obtain ⟨ys, fy⟩ := G.out.1
              have V3 := Aside.mk (V1.out.turn Q.out HI.out G.out.2 fy)
              have O3 := Aside.mk (show OwnS w3 w1.heap.size A' m c' ((List.range m).map (txt R Y')) from row_upd O.out.1 G.out.2 (fun g hg => HZ.out g hg))
              have U2 := Aside.mk (U1.out.trans (G.out.2.mono (fun g hg => ⟨_, List.mem_of_getElem? HI.out, hg⟩)))
              have TX : Aside (∀ l, l ≠ i → txt R (fun k => if k = i then ys else Y' k) l = txt R Y' l) := ⟨fun l hl => by unfold txt; simp [hl]⟩
              have F3 := Aside.mk fy
              clear G fy V1 U1 O F1
              go_wp2_with fail
              go_loopg [3, 9] m (fun j s3 s9 wr => ∃ l, l + j = m ∧ s9 = .int .i64 (l : Nat) ∧ s3 = .bool true ∧ Aside (Below w3.heap.size w3 wr))
              case atStart => exact ⟨0, by omega, rfl, rfl, ⟨Below.refl _ _⟩⟩
              case round =>
                obtain ⟨l, hlj, rfl, rfl, BL⟩ := hrel
                by_cases cl : l < m
                · obtain ⟨r, hr⟩ := EV.out l cl
                  have V4 := V3.out.keep BL.out
                  have T := V4.text hr
                  have T' : ∀ nq, (convert 22 9 (.slice r.1 r.2.1 r.2.2)).run Try.prog (wr.drewN nq) = .ok (.string (txt R (fun k => if k = i then ys else Y' k) l)) (wr.drewN nq) := fun nq => (V4.keep (below_drewN (Below.refl _ wr) nq)).text hr
                  have hc := V4.cell hr
                  obtain ⟨A2, n2, c2⟩ := r
                  simp only at T T' hc
                  obtain ⟨gs, hgs, hcs⟩ := (show OwnS wr w1.heap.size A' m c' ((List.range m).map (txt R Y')) from row_below O3.out BL.out).get cl
                  subst hgs
                  have hkc := (row_cap O3.out).1
                  have hkc2 := (row_cap O3.out).2
                  by_cases hli : l = i
                  · have hbi : ((l : Int) == (i : Int)) = true := beq_iff_eq.2 (by omega)
                    clear T T' V4 hr hcs hc V3 O3 U2 TX F3 HI EV
                    go_wp2_with fail
                    go_quiet (fail)
                    go_wp2_with fail
                    go_roundg (m - (l + 1))
                    case rel => exact ⟨l + 1, by omega, by go_num, rfl, ⟨below_drewN BL.out _⟩⟩
                    case measure => omega
                  · have hbi : ((l : Int) == (i : Int)) = false := beq_eq_false_iff_ne.2 (by omega)
                    rw [TX.out l hli] at T
                    simp only [TX.out l hli] at T'
                    clear V4 hr V3 O3 U2 TX F3 HI EV
                    generalize txt R Y' l = tx at *
                    go_wp2_with fail
                    go_quiet (fail)
                    go_wp2_with fail
                    go_roundg (m - (l + 1))
                    case rel => exact ⟨l + 1, by omega, by go_num, rfl, ⟨below_drewN BL.out _⟩⟩
                    case measure => omega
                · obtain rfl : m = l := by omega
                  have hdl : decide (m < m) = false := decide_eq_false cl
                  obtain ⟨w4, rfl⟩ : ∃ w4 : World, w4 = wr := ⟨_, rfl⟩
                  have V4 := Aside.mk (V3.out.keep BL.out)
                  have U2' := Aside.mk (U2.out.new (Upd.of_below (S := fun _ => False) BL.out) (fun _ _ h => False.elim h))
                  have F4 := Aside.mk (F3.out.below BL.out)
                  clear U2 BL F3 V3 O3 TX
                  have U2 := U2'
                  clear U2'
                  go_wp2_with fail
                  go_loopg [10] c (fun j s10 wr => ∃ p, p + j = c ∧ s10 = .int .i64 (p : Nat) ∧ Aside ((∃ ys, Full wr A c c ys) ∧ Upd (RB A) w4 wr))
                  case atStart => exact ⟨0, by omega, rfl, ⟨⟨_, F4.out⟩, Upd.refl _ _⟩⟩
                  case round =>
                    obtain ⟨p, hpj, rfl, G⟩ := hrel
                    by_cases cp : p < c
                    · obtain ⟨ys, fy⟩ := G.out.1
                      obtain ⟨g, y, hA, hgl, hgc, hgf⟩ := fy.get cp
                      subst hA
                      have G2 := Aside.mk (And.intro fy G.out.2)
                      clear fy G
                      go_wp2_with fail
                      go_roundg (c - (p + 1))
                      case rel => exact ⟨p + 1, by omega, by go_num, ⟨⟨_, G2.out.1.set _⟩, G2.out.2.setCell ⟨g, p, none⟩ _ (fun _ => rfl)⟩⟩
                      case measure => omega
                    · obtain rfl : c = p := by omega
                      have hdp : decide (c < c) = false := decide_eq_false cp
                      have U3 := Aside.mk (U2.out.trans (G.out.2.mono (fun g hg => ⟨_, List.mem_of_getElem? HI.out, hg⟩)))
                      have V5 : Aside (∃ Y3, RowsOk R b Y3 wr) := ⟨by
                        obtain ⟨ys, fy⟩ := G.out.1
                        exact ⟨_, V4.out.turn Q.out HI.out G.out.2 fy⟩⟩
                      clear G V4
                      go_wp2_with fail
                      go_roundg (m - (i + 1))
                      case rel =>
                        obtain ⟨Y3, V6⟩ := V5.out
                        exact ⟨i + 1, Y3, by omega, by go_num, rfl, ⟨V6, U3.out⟩⟩
                      case measure => omega
    · obtain rfl : i = m := by omega
      have hd : decide (i < i) = false := decide_eq_false ci
      have U1 := Aside.mk P.out.2
      clear P
      go_wp2_with fail
      go_ret
      exact ⟨rfl, U1.out⟩
end Go.Proofs.Ytedbmpfjikaljaa
