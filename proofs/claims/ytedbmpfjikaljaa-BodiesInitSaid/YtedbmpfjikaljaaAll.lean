/-
  Proved: how long the chunks are that the program makes, and what is told of an argument that has one of each. Conditions: rows are short.
-/
import Derived.Test.YtedbmpfjikaljaaWorks
namespace Go.Proofs.Ytedbmpfjikaljaa
open Go.RowKit
set_option linter.unusedVariables false
set_option linter.unusedSimpArgs false
set_option linter.unusedSectionVars false
set_option maxRecDepth 100000

/-- What came in: a slice whose reading counts where it is short. -/
structure Rdx (k : IntKind) (w : World) (A : Option Addr) (n c : Nat) (xs : List Int) : Prop where
  cap : n ≤ c
  mx : c ≤ 9223372036854775807
  rd : n ≤ 1000000 → Rd k w A n c xs
structure Rdx2 (w : World) (A : Option Addr) (n c : Nat) (ps : List (Int × Int)) : Prop where
  cap : n ≤ c
  mx : c ≤ 9223372036854775807
  rd : n ≤ 50000 → Rd2 w A n c ps
theorem Rdx.below {k : IntKind} {w w' : World} {A : Option Addr} {n c : Nat} {xs : List Int} (h : Rdx k w A n c xs) (b : Below w.heap.size w w') : Rdx k w' A n c xs := ⟨h.cap, h.mx, fun hn => (h.rd hn).below b⟩
theorem Rdx2.below {w w' : World} {A : Option Addr} {n c : Nat} {ps : List (Int × Int)} (h : Rdx2 w A n c ps) (b : Below w.heap.size w w') : Rdx2 w' A n c ps := ⟨h.cap, h.mx, fun hn => (h.rd hn).below b⟩

/-- One of each. -/
structure AllA where
  ack : Bool
  (t s q : Int)
  (u f l : Bool)
  dA : Option Addr
  (dn dc : Nat)
  (tag rw ou inn tsn : Int)
  cA : Option Addr
  (cn cc : Nat)
  (cum rwnd : Int)
  gA : Option Addr
  (gn gc : Nat)
  pA : Option Addr
  (pn pc : Nat)
  fc : Int
  sA : Option Addr
  (sn sc : Nat)
  at_ : Int
  cm : Int
def AllA.cells (a : AllA) : Array Value := #[.bool a.ack, .int .u32 a.t, .int .u16 a.s, .int .u16 a.q, .bool a.u, .bool a.f, .bool a.l, .slice a.dA a.dn a.dc, .int .u32 a.tag, .int .u32 a.rw, .int .u16 a.ou, .int .u16 a.inn, .int .u32 a.tsn, .slice a.cA a.cn a.cc, .int .u32 a.cum, .int .u32 a.rwnd, .slice a.gA a.gn a.gc, .slice a.pA a.pn a.pc, .int .u32 a.fc, .slice a.sA a.sn a.sc, .int .i64 a.at_, .int .u32 a.cm]
structure AllOk (w : World) (a : AllA) (db ck : List Int) (gs : List (Int × Int)) (ds : List Int) (ss : List (Int × Int)) : Prop where
  t : 0 ≤ a.t ∧ a.t < 4294967296
  s : 0 ≤ a.s ∧ a.s < 65536
  q : 0 ≤ a.q ∧ a.q < 65536
  tag : 0 ≤ a.tag ∧ a.tag < 4294967296
  rw : 0 ≤ a.rw ∧ a.rw < 4294967296
  ou : 0 ≤ a.ou ∧ a.ou < 65536
  inn : 0 ≤ a.inn ∧ a.inn < 65536
  tsn : 0 ≤ a.tsn ∧ a.tsn < 4294967296
  cum : 0 ≤ a.cum ∧ a.cum < 4294967296
  rwnd : 0 ≤ a.rwnd ∧ a.rwnd < 4294967296
  fc : 0 ≤ a.fc ∧ a.fc < 4294967296
  at_ : -9223372036854775808 ≤ a.at_ ∧ a.at_ < 9223372036854775808
  cm : 0 ≤ a.cm ∧ a.cm < 4294967296
  d : Rdx .u8 w a.dA a.dn a.dc db
  db : Byt db
  c : Rdx .u8 w a.cA a.cn a.cc ck
  ck : Byt ck
  g : Rdx2 w a.gA a.gn a.gc gs
  p : Rdx .u32 w a.pA a.pn a.pc ds
  ds : ∀ i, 0 ≤ ds.getD i 0 ∧ ds.getD i 0 < 4294967296
  f : Rdx2 w a.sA a.sn a.sc ss

/-! The chunks and how long they are. -/
theorem putDataN_ (w : World) (t s q : Int) (u f l : Bool) (ht : 0 ≤ t ∧ t < 4294967296) (hs : 0 ≤ s ∧ s < 65536) (hq : 0 ≤ q ∧ q < 65536) {B : Option Addr} {n d : Nat} {bs : List Int} (h : Rd .u8 w B n d bs) (hn : n ≤ 100000) :
    Calls Try.prog 21 #[dataV t s q u f l B n d] w fun e w' => ∃ A c, e = .returned (chunkV 0 (flagsV u f l) A (12 + n) c) ∧ Aside (Own w' w.heap.size A (12 + n) c (dataL t s q bs) ∧ Below w.heap.size w w') := by
  refine (putData_ w t s q u f l ht.1 ht.2 hs.1 hs.2 hq.1 hq.2 h (by omega)).mono ?_
  rintro e w' ⟨A, n', c, rfl, h1, h2⟩
  obtain rfl : n' = 12 + n := by rw [← h1.len, dataL_len, h.len]
  exact ⟨A, c, rfl, ⟨h1, h2⟩⟩
theorem initL_n (k a b c d e : Int) (bs : List Int) : (initL k a b c d e bs).length = if k = 2 then 20 + (bs.length + 3) / 4 * 4 else 16 := by
  unfold initL ackL
  split
  · simp [headL_len, bes_len]
    unfold rnd
    omega
  · rw [headL_len]
theorem putInitN_ (w : World) (k tag rwnd out inn tsn : Int) (h1 : 0 ≤ tag ∧ tag < 4294967296) (h2 : 0 ≤ rwnd ∧ rwnd < 4294967296) (h3 : 0 ≤ out ∧ out < 65536) (h4 : 0 ≤ inn ∧ inn < 65536) (h5 : 0 ≤ tsn ∧ tsn < 4294967296)
    {B : Option Addr} {n d : Nat} {bs : List Int} (h : Rd .u8 w B n d bs) (hn : n ≤ 100000) (N : Nat) (hN : (if k = 2 then 20 + (n + 3) / 4 * 4 else 16) = N) :
    Calls Try.prog 16 #[.int .u8 k, initV tag rwnd out inn tsn B n d] w fun e w' => ∃ A c, e = .returned (chunkV k 0 A N c) ∧ Aside (Own w' w.heap.size A N c (initL k tag rwnd out inn tsn bs) ∧ Below w.heap.size w w') := by
  refine (putInit_ w k tag rwnd out inn tsn h1.1 h1.2 h2.1 h2.2 h3.1 h3.2 h4.1 h4.2 h5.1 h5.2 h (by omega)).mono ?_
  rintro e w' ⟨A, n', c, rfl, h1, h2⟩
  obtain rfl : n' = N := by rw [← h1.len, initL_n, h.len, hN]
  exact ⟨A, c, rfl, ⟨h1, h2⟩⟩
theorem putSackN_ (w : World) (cum rwnd : Int) (h1 : 0 ≤ cum ∧ cum < 4294967296) (h2 : 0 ≤ rwnd ∧ rwnd < 4294967296) {B D : Option Addr} {n d m q : Nat} {ps : List (Int × Int)} {ds : List Int} (h : Rd2 w B n d ps) (k : Rd .u32 w D m q ds)
    (hm : m ≤ 50000) (hds : ∀ i, 0 ≤ ds.getD i 0 ∧ ds.getD i 0 < 4294967296) :
    Calls Try.prog 17 #[sackV cum rwnd B n d D m q] w fun e w' => ∃ A c, e = .returned (chunkV 3 0 A (12 + n * 4 + m * 4) c) ∧ Aside (Own w' w.heap.size A (12 + n * 4 + m * 4) c (sackL cum rwnd ps ds) ∧ Below w.heap.size w w') := by
  refine (putSack_ w cum rwnd h1.1 h1.2 h2.1 h2.2 h k hm hds).mono ?_
  rintro e w' ⟨A, n', c, rfl, h1, h2⟩
  obtain rfl : n' = 12 + n * 4 + m * 4 := by rw [← h1.len, sackL_len, h.len, k.len]
  exact ⟨A, c, rfl, ⟨h1, h2⟩⟩
theorem putFwdN_ (w : World) (cum : Int) (h1 : 0 ≤ cum ∧ cum < 4294967296) {B : Option Addr} {n d : Nat} {ps : List (Int × Int)} (h : Rd2 w B n d ps) :
    Calls Try.prog 18 #[fwdV cum B n d] w fun e w' => ∃ A c, e = .returned (chunkV 192 0 A (4 + n * 4) c) ∧ Aside (Own w' w.heap.size A (4 + n * 4) c (fwdL cum ps) ∧ Below w.heap.size w w') := by
  refine (putForward_ w cum h1.1 h1.2 h).mono ?_
  rintro e w' ⟨A, n', c, rfl, h1, h2⟩
  obtain rfl : n' = 4 + n * 4 := by rw [← h1.len, fwdL_len, h.len]
  exact ⟨A, c, rfl, ⟨h1, h2⟩⟩
theorem putTimeN_ (w : World) (k x : Int) (h1 : -9223372036854775808 ≤ x ∧ x < 9223372036854775808) :
    Calls Try.prog 19 #[.int .u8 k, .int .i64 x] w fun e w' => ∃ A c, e = .returned (chunkV k 0 A 12 c) ∧ Aside (Own w' w.heap.size A 12 c (timeL x) ∧ Below w.heap.size w w') := by
  refine (putTime_ w k x h1.1 h1.2).mono ?_
  rintro e w' ⟨A, n', c, rfl, h1, h2⟩
  obtain rfl : n' = 12 := by rw [← h1.len]; simp [timeL, bes_len]
  exact ⟨A, c, rfl, ⟨h1, h2⟩⟩
theorem putCumN_ (w : World) (x : Int) (h1 : 0 ≤ x ∧ x < 4294967296) :
    Calls Try.prog 20 #[.int .u32 x] w fun e w' => ∃ A c, e = .returned (chunkV 7 0 A 4 c) ∧ Aside (Own w' w.heap.size A 4 c (cumL x) ∧ Below w.heap.size w w') := by
  refine (putCum_ w x h1.1 h1.2).mono ?_
  rintro e w' ⟨A, n', c, rfl, h1, h2⟩
  obtain rfl : n' = 4 := by rw [← h1.len]; simp [cumL, bes_len]
  exact ⟨A, c, rfl, ⟨h1, h2⟩⟩

/-- The place where a law's argument lies stays as it was. -/
structure Boxed (w : World) (o : Obj) (V : World) : Prop where
  box : V.heap[w.heap.size]? = some o
  low : Below w.heap.size w V
theorem Boxed.below {w V V' : World} {o : Obj} (h : Boxed w o V) (b : Below V.heap.size V V') : Boxed w o V' := ⟨(b.block _ (lt_of_block h.box)).trans h.box, h.low.trans (b.mono h.low.size)⟩
theorem Boxed.drewN {w V : World} {o : Obj} (h : Boxed w o V) (q : Nat) : Boxed w o (V.drewN q) := ⟨h.box, below_drewN h.low q⟩
theorem Boxed.drew {w V : World} {o : Obj} (h : Boxed w o V) : Boxed w o V.drew := h.drewN 1
theorem boxed_new (w : World) (o : Obj) : Boxed w o (w.alloc o) := ⟨heap_alloc_new w o, below_alloc w o⟩
theorem Boxed.alloc {w V : World} {o : Obj} (h : Boxed w o V) (o' : Obj) : Boxed w o (V.alloc o') := h.below (below_alloc V o')

theorem box_cells {w V : World} {cs : Array Value} {t : TypeId} (h : Boxed w (.cells cs t) V) (i : Nat) : V.cell? ⟨w.heap.size, i, none⟩ = cs[i]? := by rw [blk_cell h.box]
theorem keep22 {w : World} {g : Nat} {v0 v1 v2 v3 v4 v5 v6 v7 v8 v9 v10 v11 v12 v13 v14 v15 v16 v17 v18 v19 v20 v21 : Value} {t : TypeId} (h : w.heap[g]? = some (.cells #[v0, v1, v2, v3, v4, v5, v6, v7, v8, v9, v10, v11, v12, v13, v14, v15, v16, v17, v18, v19, v20, v21] t)) : w.cell? ⟨g, 0, none⟩ = some v0 ∧ w.cell? ⟨g, 1, none⟩ = some v1 ∧ w.cell? ⟨g, 2, none⟩ = some v2 ∧ w.cell? ⟨g, 3, none⟩ = some v3 ∧ w.cell? ⟨g, 4, none⟩ = some v4 ∧ w.cell? ⟨g, 5, none⟩ = some v5 ∧ w.cell? ⟨g, 6, none⟩ = some v6 ∧ w.cell? ⟨g, 7, none⟩ = some v7 ∧ w.cell? ⟨g, 8, none⟩ = some v8 ∧ w.cell? ⟨g, 9, none⟩ = some v9 ∧ w.cell? ⟨g, 10, none⟩ = some v10 ∧ w.cell? ⟨g, 11, none⟩ = some v11 ∧ w.cell? ⟨g, 12, none⟩ = some v12 ∧ w.cell? ⟨g, 13, none⟩ = some v13 ∧ w.cell? ⟨g, 14, none⟩ = some v14 ∧ w.cell? ⟨g, 15, none⟩ = some v15 ∧ w.cell? ⟨g, 16, none⟩ = some v16 ∧ w.cell? ⟨g, 17, none⟩ = some v17 ∧ w.cell? ⟨g, 18, none⟩ = some v18 ∧ w.cell? ⟨g, 19, none⟩ = some v19 ∧ w.cell? ⟨g, 20, none⟩ = some v20 ∧ w.cell? ⟨g, 21, none⟩ = some v21 :=
  ⟨by rw [blk_cell h]; rfl, by rw [blk_cell h]; rfl, by rw [blk_cell h]; rfl, by rw [blk_cell h]; rfl, by rw [blk_cell h]; rfl, by rw [blk_cell h]; rfl, by rw [blk_cell h]; rfl, by rw [blk_cell h]; rfl, by rw [blk_cell h]; rfl, by rw [blk_cell h]; rfl, by rw [blk_cell h]; rfl, by rw [blk_cell h]; rfl, by rw [blk_cell h]; rfl, by rw [blk_cell h]; rfl, by rw [blk_cell h]; rfl, by rw [blk_cell h]; rfl, by rw [blk_cell h]; rfl, by rw [blk_cell h]; rfl, by rw [blk_cell h]; rfl, by rw [blk_cell h]; rfl, by rw [blk_cell h]; rfl, by rw [blk_cell h]; rfl⟩
theorem field_body (W : World) (k f : Int) (A : Option Addr) (n c : Nat) : (Instr.field 24 (.agg #[.int .u8 k, .int .u8 f, .slice A n c]) 2).run Try.prog W = .ok (.slice A n c) W := by kernel_rfl
theorem not_many {a b c : Nat} (h : isMany a b c = false) : a ≤ 2048 ∧ b ≤ 2048 ∧ c ≤ 2048 := by
  unfold isMany at h
  simp at h
  omega
end Go.Proofs.Ytedbmpfjikaljaa
