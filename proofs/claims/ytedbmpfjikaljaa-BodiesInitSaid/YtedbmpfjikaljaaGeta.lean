/-
  Proved: what the program's generic function that takes a thing, if its chunk is the one of which it was read, does to memory and what it answers, for a thing of each kind. Conditions: rows are shorter than a million and one.
-/
import Derived.Test.YtedbmpfjikaljaaPute
namespace Go.Proofs.Ytedbmpfjikaljaa
open Go.RowKit
set_option linter.unusedVariables false
set_option linter.unusedSimpArgs false
set_option linter.unusedSectionVars false
set_option maxRecDepth 100000

def pickV (b : Bool) (x y : Value) : Value := if b = true then x else y
def errV (b : Bool) : Value := .int .i64 (if b = true then 0 else 7)
def dataV (t s sn : Int) (u f l : Bool) (A : Option Addr) (n c : Nat) : Value := .agg #[.int .u32 t, .int .u16 s, .int .u16 sn, .bool u, .bool f, .bool l, .slice A n c]
def dataZ : Value := dataV 0 0 0 false false false none 0 0
def initV (tag rwnd out inn tsn : Int) (A : Option Addr) (n c : Nat) : Value := .agg #[.int .u32 tag, .int .u32 rwnd, .int .u16 out, .int .u16 inn, .int .u32 tsn, .slice A n c]
def initZ : Value := initV 0 0 0 0 0 none 0 0
def sackV (cum rwnd : Int) (A : Option Addr) (n c : Nat) (B : Option Addr) (m d : Nat) : Value := .agg #[.int .u32 cum, .int .u32 rwnd, .slice A n c, .slice B m d]
def sackZ : Value := sackV 0 0 none 0 0 none 0 0
def fwdV (cum : Int) (A : Option Addr) (n c : Nat) : Value := .agg #[.int .u32 cum, .slice A n c]
def fwdZ : Value := fwdV 0 none 0 0
def timeV (x : Int) : Value := .int .i64 x
def timeZ : Value := timeV 0
def cumV (x : Int) : Value := .int .u32 x
def cumZ : Value := cumV 0

theorem keep3 {w : World} {g : Nat} {a b c : Value} {t : TypeId} (h : w.heap[g]? = some (.cells #[a, b, c] t)) : w.cell? ⟨g, 0, none⟩ = some a ∧ w.cell? ⟨g, 1, none⟩ = some b ∧ w.cell? ⟨g, 2, none⟩ = some c :=
  ⟨by rw [blk_cell h]; rfl, by rw [blk_cell h]; rfl, by rw [blk_cell h]; rfl⟩
theorem keep2 {w : World} {g : Nat} {a b : Value} {t : TypeId} (h : w.heap[g]? = some (.cells #[a, b] t)) : w.cell? ⟨g, 0, none⟩ = some a ∧ w.cell? ⟨g, 1, none⟩ = some b :=
  ⟨by rw [blk_cell h]; rfl, by rw [blk_cell h]; rfl⟩

theorem setup3b (w : World) (o1 o2 o3 : Obj) {W : World} (hW : ((w.alloc o1).alloc o2).alloc o3 = W) :
    W.heap[w.heap.size]? = some o1 ∧ W.heap[w.heap.size + 1]? = some o2 ∧ W.heap[w.heap.size + 1 + 1]? = some o3 ∧ Below w.heap.size w W ∧ W.heap.size = w.heap.size + 3 := by
  subst hW
  refine ⟨alloc_keep (alloc_keep (heap_alloc_new w o1)), alloc_keep (blk_new2 w o1 o2), ?_, ?_, by simp⟩
  · have h1 := blk_new2 (w.alloc o1) o2 o3
    simpa using h1
  · exact (((Below.refl w.heap.size w).alloc (Nat.le_refl _) _).alloc (by simp) _).alloc (by simp; omega) _

set_option maxHeartbeats 4000000 in
theorem getData0_ (w : World) {k f : Int} {A : Option Addr} {n c : Nat} {xs : List Int} (h : Rd .u8 w A n c xs) (t s sn : Int) (u fi l : Bool) (B : Option Addr) (m d : Nat) (may : Bool) (k' f' : Int) (ys : List Int)
    (hput : ∀ V, Below w.heap.size w V → Calls Try.prog 21 #[dataV t s sn u fi l B m d] V fun e w' => ∃ A n c, e = .returned (chunkV k' f' A n c) ∧ Rd .u8 w' A n c ys ∧ Below V.heap.size V w')
    {E : Bool} (hE : (may && (k' == k) && (f' == f) && decide (ys = xs)) = E) :
    Calls Try.prog 54 #[chunkV k f A n c, dataV t s sn u fi l B m d, .bool may, .func (.func 21) #[] #[]] w fun e w' => e = .returned (.tuple #[pickV E (dataV t s sn u fi l B m d) dataZ, errV E]) ∧ Below w.heap.size w w' := by
  have H := Aside.mk h
  have HP := Aside.mk hput
  have HE := Aside.mk hE
  clear h hput hE
  unfold chunkV dataV at *
  go_enter Try.func54, Try.ntmps54
  go_wp2_with fail
  generalize hW : ((w.alloc (.cells #[.int .u8 k, .int .u8 f, .slice A n c] 24)).alloc (.cells #[.int .u32 t, .int .u16 s, .int .u16 sn, .bool u, .bool fi, .bool l, .slice B m d] 32)).alloc (.cells #[.int .u32 0, .int .u16 0, .int .u16 0, .bool false, .bool false, .bool false, .slice none 0 0] 32) = W
  obtain ⟨h1, h2, h3, hbl, hsz⟩ := setup3b w _ _ _ hW
  clear hW
  refine (HP.out W hbl).mono ?_
  rintro e w2 ⟨A2, n2, c2, rfl, o2, b2⟩
  have hz2 := b2.size
  have hl2 : w.heap.size + 1 + 1 < w2.heap.size := by omega
  have hl1 : w.heap.size + 1 < w2.heap.size := by omega
  have hl0 : w.heap.size < w2.heap.size := by omega
  have Q := Aside.mk (fun z => sequal_ (((w2.alloc (.cells #[.int .u8 k', .int .u8 f', .slice A2 n2 c2] 24)).drewN z)) (((o2.below (below_alloc w2 _))).below (below_drewN (Below.refl _ _) z)) ((((H.out.below hbl).below b2).below (below_alloc w2 _)).below (below_drewN (Below.refl _ _) z)))
  obtain ⟨a0, a1, a2⟩ := keep3 ((b2.block _ (by omega)).trans h1)
  obtain ⟨x0, x1, x2, x3, x4, x5, x6⟩ := keep7 ((b2.block _ (by omega)).trans h2)
  obtain ⟨r0, r1, r2, r3, r4, r5, r6⟩ := keep7 ((b2.block _ (by omega)).trans h3)
  have fz := fun i => blk_free (i := i) ((b2.block _ (by omega)).trans h3)
  have fz0 := fz 0
  have fz1 := fz 1
  have fz2 := fz 2
  have fz3 := fz 3
  have fz4 := fz 4
  have fz5 := fz 5
  have fz6 := fz 6
  have BL := Aside.mk (hbl.trans (b2.mono (show w.heap.size ≤ W.heap.size by omega)))
  clear h1 h2 h3 hbl b2 o2 fz hsz hz2
  cases may
  · obtain rfl : E = false := by rw [← HE.out]; rfl
    clear HE
    go_wp2_with fail
    refine bodyPost_ret (v := .tuple #[dataZ, .int .i64 7]) (by simp [results, Try.results54, go_sem, dataZ, dataV, r0, r1, r2, r3, r4, r5, r6, hl0, hl1, hl2]) rfl ⟨rfl, ?_⟩
    repeat (first | (with_reducible exact BL.out) | ((with_reducible refine Below.alloc ?_ ?_ _); rotate_left; (first | omega | (simp; omega))) | ((with_reducible refine Below.setCell ?_ ?_ _); rotate_left; (show w.heap.size ≤ w.heap.size + 1 + 1; omega)) | (with_reducible refine below_drewN ?_ _))
  · cases hk : (k' == k)
    · obtain rfl : E = false := by rw [← HE.out, hk]; rfl
      clear HE
      go_wp2_with fail
      refine bodyPost_ret (v := .tuple #[dataZ, .int .i64 7]) (by simp [results, Try.results54, go_sem, dataZ, dataV, r0, r1, r2, r3, r4, r5, r6, hl0, hl1, hl2]) rfl ⟨rfl, ?_⟩
      repeat (first | (with_reducible exact BL.out) | ((with_reducible refine Below.alloc ?_ ?_ _); rotate_left; (first | omega | (simp; omega))) | ((with_reducible refine Below.setCell ?_ ?_ _); rotate_left; (show w.heap.size ≤ w.heap.size + 1 + 1; omega)) | (with_reducible refine below_drewN ?_ _))
    · cases hf : (f' == f)
      · obtain rfl : E = false := by rw [← HE.out, hk, hf]; rfl
        clear HE
        go_wp2_with fail
        refine bodyPost_ret (v := .tuple #[dataZ, .int .i64 7]) (by simp [results, Try.results54, go_sem, dataZ, dataV, r0, r1, r2, r3, r4, r5, r6, hl0, hl1, hl2]) rfl ⟨rfl, ?_⟩
        repeat (first | (with_reducible exact BL.out) | ((with_reducible refine Below.alloc ?_ ?_ _); rotate_left; (first | omega | (simp; omega))) | ((with_reducible refine Below.setCell ?_ ?_ _); rotate_left; (show w.heap.size ≤ w.heap.size + 1 + 1; omega)) | (with_reducible refine below_drewN ?_ _))
      · by_cases he : ys = xs
        · have hd := decide_eq_true he
          obtain rfl : E = true := by rw [← HE.out, hk, hf, hd]; rfl
          clear HE
          rw [hd] at Q
          clear he hd
          go_wp2_with fail
          refine (Q.out 0).mono ?_
          rintro e w3 ⟨rfl, q, rfl⟩
          go_wp2_with fail
          refine bodyPost_ret (v := .tuple #[dataV t s sn u fi l B m d, .int .i64 0]) (by simp [results, Try.results54, go_sem, dataZ, dataV, r0, r1, r2, r3, r4, r5, r6, hl0, hl1, hl2]) rfl ⟨rfl, ?_⟩
          repeat (first | (with_reducible exact BL.out) | ((with_reducible refine Below.alloc ?_ ?_ _); rotate_left; (first | omega | (simp; omega))) | ((with_reducible refine Below.setCell ?_ ?_ _); rotate_left; (show w.heap.size ≤ w.heap.size + 1 + 1; omega)) | (with_reducible refine below_drewN ?_ _))
        · have hd := decide_eq_false he
          obtain rfl : E = false := by rw [← HE.out, hk, hf, hd]; rfl
          clear HE
          rw [hd] at Q
          clear he hd
          go_wp2_with fail
          refine (Q.out 0).mono ?_
          rintro e w3 ⟨rfl, q, rfl⟩
          go_wp2_with fail
          refine bodyPost_ret (v := .tuple #[dataZ, .int .i64 7]) (by simp [results, Try.results54, go_sem, dataZ, dataV, r0, r1, r2, r3, r4, r5, r6, hl0, hl1, hl2]) rfl ⟨rfl, ?_⟩
          repeat (first | (with_reducible exact BL.out) | ((with_reducible refine Below.alloc ?_ ?_ _); rotate_left; (first | omega | (simp; omega))) | ((with_reducible refine Below.setCell ?_ ?_ _); rotate_left; (show w.heap.size ≤ w.heap.size + 1 + 1; omega)) | (with_reducible refine below_drewN ?_ _))

set_option maxHeartbeats 4000000 in
theorem getInit0_ (w : World) {k f : Int} {A : Option Addr} {n c : Nat} {xs : List Int} (h : Rd .u8 w A n c xs) (tag rwnd ou inn tsn : Int) (B : Option Addr) (m d : Nat) (may : Bool) (bq : Nat) (k' f' : Int) (ys : List Int)
    (hput : ∀ V, Below w.heap.size w V → Calls Try.prog 67 #[initV tag rwnd ou inn tsn B m d, .pointer (some ⟨bq, 0, none⟩)] V fun e w' => ∃ A n c, e = .returned (chunkV k' f' A n c) ∧ Rd .u8 w' A n c ys ∧ Below V.heap.size V w')
    {E : Bool} (hE : (may && (k' == k) && (f' == f) && decide (ys = xs)) = E) :
    Calls Try.prog 66 #[chunkV k f A n c, initV tag rwnd ou inn tsn B m d, .bool may, .func (.func 67) #[] #[.pointer (some ⟨bq, 0, none⟩)]] w fun e w' => e = .returned (.tuple #[pickV E (initV tag rwnd ou inn tsn B m d) initZ, errV E]) ∧ Below w.heap.size w w' := by
  have H := Aside.mk h
  have HP := Aside.mk hput
  have HE := Aside.mk hE
  clear h hput hE
  unfold chunkV initV at *
  go_enter Try.func66, Try.ntmps66
  go_wp2_with fail
  generalize hW : ((w.alloc (.cells #[.int .u8 k, .int .u8 f, .slice A n c] 24)).alloc (.cells #[.int .u32 tag, .int .u32 rwnd, .int .u16 ou, .int .u16 inn, .int .u32 tsn, .slice B m d] 34)).alloc (.cells #[.int .u32 0, .int .u32 0, .int .u16 0, .int .u16 0, .int .u32 0, .slice none 0 0] 34) = W
  obtain ⟨h1, h2, h3, hbl, hsz⟩ := setup3b w _ _ _ hW
  clear hW
  refine (HP.out W hbl).mono ?_
  rintro e w2 ⟨A2, n2, c2, rfl, o2, b2⟩
  have hz2 := b2.size
  have hl2 : w.heap.size + 1 + 1 < w2.heap.size := by omega
  have hl1 : w.heap.size + 1 < w2.heap.size := by omega
  have hl0 : w.heap.size < w2.heap.size := by omega
  have Q := Aside.mk (fun z => sequal_ (((w2.alloc (.cells #[.int .u8 k', .int .u8 f', .slice A2 n2 c2] 24)).drewN z)) (((o2.below (below_alloc w2 _))).below (below_drewN (Below.refl _ _) z)) ((((H.out.below hbl).below b2).below (below_alloc w2 _)).below (below_drewN (Below.refl _ _) z)))
  obtain ⟨a0, a1, a2⟩ := keep3 ((b2.block _ (by omega)).trans h1)
  obtain ⟨x0, x1, x2, x3, x4, x5⟩ := keep6 ((b2.block _ (by omega)).trans h2)
  obtain ⟨r0, r1, r2, r3, r4, r5⟩ := keep6 ((b2.block _ (by omega)).trans h3)
  have fz := fun i => blk_free (i := i) ((b2.block _ (by omega)).trans h3)
  have fz0 := fz 0
  have fz1 := fz 1
  have fz2 := fz 2
  have fz3 := fz 3
  have fz4 := fz 4
  have fz5 := fz 5
  have BL := Aside.mk (hbl.trans (b2.mono (show w.heap.size ≤ W.heap.size by omega)))
  clear h1 h2 h3 hbl b2 o2 fz hsz hz2
  cases may
  · obtain rfl : E = false := by rw [← HE.out]; rfl
    clear HE
    go_wp2_with fail
    refine bodyPost_ret (v := .tuple #[initZ, .int .i64 7]) (by simp [results, Try.results66, go_sem, initZ, initV, r0, r1, r2, r3, r4, r5, hl0, hl1, hl2]) rfl ⟨rfl, ?_⟩
    repeat (first | (with_reducible exact BL.out) | ((with_reducible refine Below.alloc ?_ ?_ _); rotate_left; (first | omega | (simp; omega))) | ((with_reducible refine Below.setCell ?_ ?_ _); rotate_left; (show w.heap.size ≤ w.heap.size + 1 + 1; omega)) | (with_reducible refine below_drewN ?_ _))
  · cases hk : (k' == k)
    · obtain rfl : E = false := by rw [← HE.out, hk]; rfl
      clear HE
      go_wp2_with fail
      refine bodyPost_ret (v := .tuple #[initZ, .int .i64 7]) (by simp [results, Try.results66, go_sem, initZ, initV, r0, r1, r2, r3, r4, r5, hl0, hl1, hl2]) rfl ⟨rfl, ?_⟩
      repeat (first | (with_reducible exact BL.out) | ((with_reducible refine Below.alloc ?_ ?_ _); rotate_left; (first | omega | (simp; omega))) | ((with_reducible refine Below.setCell ?_ ?_ _); rotate_left; (show w.heap.size ≤ w.heap.size + 1 + 1; omega)) | (with_reducible refine below_drewN ?_ _))
    · cases hf : (f' == f)
      · obtain rfl : E = false := by rw [← HE.out, hk, hf]; rfl
        clear HE
        go_wp2_with fail
        refine bodyPost_ret (v := .tuple #[initZ, .int .i64 7]) (by simp [results, Try.results66, go_sem, initZ, initV, r0, r1, r2, r3, r4, r5, hl0, hl1, hl2]) rfl ⟨rfl, ?_⟩
        repeat (first | (with_reducible exact BL.out) | ((with_reducible refine Below.alloc ?_ ?_ _); rotate_left; (first | omega | (simp; omega))) | ((with_reducible refine Below.setCell ?_ ?_ _); rotate_left; (show w.heap.size ≤ w.heap.size + 1 + 1; omega)) | (with_reducible refine below_drewN ?_ _))
      · by_cases he : ys = xs
        · have hd := decide_eq_true he
          obtain rfl : E = true := by rw [← HE.out, hk, hf, hd]; rfl
          clear HE
          rw [hd] at Q
          clear he hd
          go_wp2_with fail
          refine (Q.out 0).mono ?_
          rintro e w3 ⟨rfl, q, rfl⟩
          go_wp2_with fail
          refine bodyPost_ret (v := .tuple #[initV tag rwnd ou inn tsn B m d, .int .i64 0]) (by simp [results, Try.results66, go_sem, initZ, initV, r0, r1, r2, r3, r4, r5, hl0, hl1, hl2]) rfl ⟨rfl, ?_⟩
          repeat (first | (with_reducible exact BL.out) | ((with_reducible refine Below.alloc ?_ ?_ _); rotate_left; (first | omega | (simp; omega))) | ((with_reducible refine Below.setCell ?_ ?_ _); rotate_left; (show w.heap.size ≤ w.heap.size + 1 + 1; omega)) | (with_reducible refine below_drewN ?_ _))
        · have hd := decide_eq_false he
          obtain rfl : E = false := by rw [← HE.out, hk, hf, hd]; rfl
          clear HE
          rw [hd] at Q
          clear he hd
          go_wp2_with fail
          refine (Q.out 0).mono ?_
          rintro e w3 ⟨rfl, q, rfl⟩
          go_wp2_with fail
          refine bodyPost_ret (v := .tuple #[initZ, .int .i64 7]) (by simp [results, Try.results66, go_sem, initZ, initV, r0, r1, r2, r3, r4, r5, hl0, hl1, hl2]) rfl ⟨rfl, ?_⟩
          repeat (first | (with_reducible exact BL.out) | ((with_reducible refine Below.alloc ?_ ?_ _); rotate_left; (first | omega | (simp; omega))) | ((with_reducible refine Below.setCell ?_ ?_ _); rotate_left; (show w.heap.size ≤ w.heap.size + 1 + 1; omega)) | (with_reducible refine below_drewN ?_ _))

set_option maxHeartbeats 4000000 in
theorem getSack0_ (w : World) {k f : Int} {A : Option Addr} {n c : Nat} {xs : List Int} (h : Rd .u8 w A n c xs) (cum rwnd : Int) (B : Option Addr) (m d : Nat) (B2 : Option Addr) (m2 d2 : Nat) (may : Bool) (k' f' : Int) (ys : List Int)
    (hput : ∀ V, Below w.heap.size w V → Calls Try.prog 17 #[sackV cum rwnd B m d B2 m2 d2] V fun e w' => ∃ A n c, e = .returned (chunkV k' f' A n c) ∧ Rd .u8 w' A n c ys ∧ Below V.heap.size V w')
    {E : Bool} (hE : (may && (k' == k) && (f' == f) && decide (ys = xs)) = E) :
    Calls Try.prog 60 #[chunkV k f A n c, sackV cum rwnd B m d B2 m2 d2, .bool may, .func (.func 17) #[] #[]] w fun e w' => e = .returned (.tuple #[pickV E (sackV cum rwnd B m d B2 m2 d2) sackZ, errV E]) ∧ Below w.heap.size w w' := by
  have H := Aside.mk h
  have HP := Aside.mk hput
  have HE := Aside.mk hE
  clear h hput hE
  unfold chunkV sackV at *
  go_enter Try.func60, Try.ntmps60
  go_wp2_with fail
  generalize hW : ((w.alloc (.cells #[.int .u8 k, .int .u8 f, .slice A n c] 24)).alloc (.cells #[.int .u32 cum, .int .u32 rwnd, .slice B m d, .slice B2 m2 d2] 38)).alloc (.cells #[.int .u32 0, .int .u32 0, .slice none 0 0, .slice none 0 0] 38) = W
  obtain ⟨h1, h2, h3, hbl, hsz⟩ := setup3b w _ _ _ hW
  clear hW
  refine (HP.out W hbl).mono ?_
  rintro e w2 ⟨A2, n2, c2, rfl, o2, b2⟩
  have hz2 := b2.size
  have hl2 : w.heap.size + 1 + 1 < w2.heap.size := by omega
  have hl1 : w.heap.size + 1 < w2.heap.size := by omega
  have hl0 : w.heap.size < w2.heap.size := by omega
  have Q := Aside.mk (fun z => sequal_ (((w2.alloc (.cells #[.int .u8 k', .int .u8 f', .slice A2 n2 c2] 24)).drewN z)) (((o2.below (below_alloc w2 _))).below (below_drewN (Below.refl _ _) z)) ((((H.out.below hbl).below b2).below (below_alloc w2 _)).below (below_drewN (Below.refl _ _) z)))
  obtain ⟨a0, a1, a2⟩ := keep3 ((b2.block _ (by omega)).trans h1)
  obtain ⟨x0, x1, x2, x3⟩ := keep4 ((b2.block _ (by omega)).trans h2)
  obtain ⟨r0, r1, r2, r3⟩ := keep4 ((b2.block _ (by omega)).trans h3)
  have fz := fun i => blk_free (i := i) ((b2.block _ (by omega)).trans h3)
  have fz0 := fz 0
  have fz1 := fz 1
  have fz2 := fz 2
  have fz3 := fz 3
  have BL := Aside.mk (hbl.trans (b2.mono (show w.heap.size ≤ W.heap.size by omega)))
  clear h1 h2 h3 hbl b2 o2 fz hsz hz2
  cases may
  · obtain rfl : E = false := by rw [← HE.out]; rfl
    clear HE
    go_wp2_with fail
    refine bodyPost_ret (v := .tuple #[sackZ, .int .i64 7]) (by simp [results, Try.results60, go_sem, sackZ, sackV, r0, r1, r2, r3, hl0, hl1, hl2]) rfl ⟨rfl, ?_⟩
    repeat (first | (with_reducible exact BL.out) | ((with_reducible refine Below.alloc ?_ ?_ _); rotate_left; (first | omega | (simp; omega))) | ((with_reducible refine Below.setCell ?_ ?_ _); rotate_left; (show w.heap.size ≤ w.heap.size + 1 + 1; omega)) | (with_reducible refine below_drewN ?_ _))
  · cases hk : (k' == k)
    · obtain rfl : E = false := by rw [← HE.out, hk]; rfl
      clear HE
      go_wp2_with fail
      refine bodyPost_ret (v := .tuple #[sackZ, .int .i64 7]) (by simp [results, Try.results60, go_sem, sackZ, sackV, r0, r1, r2, r3, hl0, hl1, hl2]) rfl ⟨rfl, ?_⟩
      repeat (first | (with_reducible exact BL.out) | ((with_reducible refine Below.alloc ?_ ?_ _); rotate_left; (first | omega | (simp; omega))) | ((with_reducible refine Below.setCell ?_ ?_ _); rotate_left; (show w.heap.size ≤ w.heap.size + 1 + 1; omega)) | (with_reducible refine below_drewN ?_ _))
    · cases hf : (f' == f)
      · obtain rfl : E = false := by rw [← HE.out, hk, hf]; rfl
        clear HE
        go_wp2_with fail
        refine bodyPost_ret (v := .tuple #[sackZ, .int .i64 7]) (by simp [results, Try.results60, go_sem, sackZ, sackV, r0, r1, r2, r3, hl0, hl1, hl2]) rfl ⟨rfl, ?_⟩
        repeat (first | (with_reducible exact BL.out) | ((with_reducible refine Below.alloc ?_ ?_ _); rotate_left; (first | omega | (simp; omega))) | ((with_reducible refine Below.setCell ?_ ?_ _); rotate_left; (show w.heap.size ≤ w.heap.size + 1 + 1; omega)) | (with_reducible refine below_drewN ?_ _))
      · by_cases he : ys = xs
        · have hd := decide_eq_true he
          obtain rfl : E = true := by rw [← HE.out, hk, hf, hd]; rfl
          clear HE
          rw [hd] at Q
          clear he hd
          go_wp2_with fail
          refine (Q.out 0).mono ?_
          rintro e w3 ⟨rfl, q, rfl⟩
          go_wp2_with fail
          refine bodyPost_ret (v := .tuple #[sackV cum rwnd B m d B2 m2 d2, .int .i64 0]) (by simp [results, Try.results60, go_sem, sackZ, sackV, r0, r1, r2, r3, hl0, hl1, hl2]) rfl ⟨rfl, ?_⟩
          repeat (first | (with_reducible exact BL.out) | ((with_reducible refine Below.alloc ?_ ?_ _); rotate_left; (first | omega | (simp; omega))) | ((with_reducible refine Below.setCell ?_ ?_ _); rotate_left; (show w.heap.size ≤ w.heap.size + 1 + 1; omega)) | (with_reducible refine below_drewN ?_ _))
        · have hd := decide_eq_false he
          obtain rfl : E = false := by rw [← HE.out, hk, hf, hd]; rfl
          clear HE
          rw [hd] at Q
          clear he hd
          go_wp2_with fail
          refine (Q.out 0).mono ?_
          rintro e w3 ⟨rfl, q, rfl⟩
          go_wp2_with fail
          refine bodyPost_ret (v := .tuple #[sackZ, .int .i64 7]) (by simp [results, Try.results60, go_sem, sackZ, sackV, r0, r1, r2, r3, hl0, hl1, hl2]) rfl ⟨rfl, ?_⟩
          repeat (first | (with_reducible exact BL.out) | ((with_reducible refine Below.alloc ?_ ?_ _); rotate_left; (first | omega | (simp; omega))) | ((with_reducible refine Below.setCell ?_ ?_ _); rotate_left; (show w.heap.size ≤ w.heap.size + 1 + 1; omega)) | (with_reducible refine below_drewN ?_ _))

set_option maxHeartbeats 4000000 in
theorem getFwd0_ (w : World) {k f : Int} {A : Option Addr} {n c : Nat} {xs : List Int} (h : Rd .u8 w A n c xs) (cum : Int) (B : Option Addr) (m d : Nat) (may : Bool) (k' f' : Int) (ys : List Int)
    (hput : ∀ V, Below w.heap.size w V → Calls Try.prog 18 #[fwdV cum B m d] V fun e w' => ∃ A n c, e = .returned (chunkV k' f' A n c) ∧ Rd .u8 w' A n c ys ∧ Below V.heap.size V w')
    {E : Bool} (hE : (may && (k' == k) && (f' == f) && decide (ys = xs)) = E) :
    Calls Try.prog 62 #[chunkV k f A n c, fwdV cum B m d, .bool may, .func (.func 18) #[] #[]] w fun e w' => e = .returned (.tuple #[pickV E (fwdV cum B m d) fwdZ, errV E]) ∧ Below w.heap.size w w' := by
  have H := Aside.mk h
  have HP := Aside.mk hput
  have HE := Aside.mk hE
  clear h hput hE
  unfold chunkV fwdV at *
  go_enter Try.func62, Try.ntmps62
  go_wp2_with fail
  generalize hW : ((w.alloc (.cells #[.int .u8 k, .int .u8 f, .slice A n c] 24)).alloc (.cells #[.int .u32 cum, .slice B m d] 41)).alloc (.cells #[.int .u32 0, .slice none 0 0] 41) = W
  obtain ⟨h1, h2, h3, hbl, hsz⟩ := setup3b w _ _ _ hW
  clear hW
  refine (HP.out W hbl).mono ?_
  rintro e w2 ⟨A2, n2, c2, rfl, o2, b2⟩
  have hz2 := b2.size
  have hl2 : w.heap.size + 1 + 1 < w2.heap.size := by omega
  have hl1 : w.heap.size + 1 < w2.heap.size := by omega
  have hl0 : w.heap.size < w2.heap.size := by omega
  have Q := Aside.mk (fun z => sequal_ (((w2.alloc (.cells #[.int .u8 k', .int .u8 f', .slice A2 n2 c2] 24)).drewN z)) (((o2.below (below_alloc w2 _))).below (below_drewN (Below.refl _ _) z)) ((((H.out.below hbl).below b2).below (below_alloc w2 _)).below (below_drewN (Below.refl _ _) z)))
  obtain ⟨a0, a1, a2⟩ := keep3 ((b2.block _ (by omega)).trans h1)
  obtain ⟨x0, x1⟩ := keep2 ((b2.block _ (by omega)).trans h2)
  obtain ⟨r0, r1⟩ := keep2 ((b2.block _ (by omega)).trans h3)
  have fz := fun i => blk_free (i := i) ((b2.block _ (by omega)).trans h3)
  have fz0 := fz 0
  have fz1 := fz 1
  have BL := Aside.mk (hbl.trans (b2.mono (show w.heap.size ≤ W.heap.size by omega)))
  clear h1 h2 h3 hbl b2 o2 fz hsz hz2
  cases may
  · obtain rfl : E = false := by rw [← HE.out]; rfl
    clear HE
    go_wp2_with fail
    refine bodyPost_ret (v := .tuple #[fwdZ, .int .i64 7]) (by simp [results, Try.results62, go_sem, fwdZ, fwdV, r0, r1, hl0, hl1, hl2]) rfl ⟨rfl, ?_⟩
    repeat (first | (with_reducible exact BL.out) | ((with_reducible refine Below.alloc ?_ ?_ _); rotate_left; (first | omega | (simp; omega))) | ((with_reducible refine Below.setCell ?_ ?_ _); rotate_left; (show w.heap.size ≤ w.heap.size + 1 + 1; omega)) | (with_reducible refine below_drewN ?_ _))
  · cases hk : (k' == k)
    · obtain rfl : E = false := by rw [← HE.out, hk]; rfl
      clear HE
      go_wp2_with fail
      refine bodyPost_ret (v := .tuple #[fwdZ, .int .i64 7]) (by simp [results, Try.results62, go_sem, fwdZ, fwdV, r0, r1, hl0, hl1, hl2]) rfl ⟨rfl, ?_⟩
      repeat (first | (with_reducible exact BL.out) | ((with_reducible refine Below.alloc ?_ ?_ _); rotate_left; (first | omega | (simp; omega))) | ((with_reducible refine Below.setCell ?_ ?_ _); rotate_left; (show w.heap.size ≤ w.heap.size + 1 + 1; omega)) | (with_reducible refine below_drewN ?_ _))
    · cases hf : (f' == f)
      · obtain rfl : E = false := by rw [← HE.out, hk, hf]; rfl
        clear HE
        go_wp2_with fail
        refine bodyPost_ret (v := .tuple #[fwdZ, .int .i64 7]) (by simp [results, Try.results62, go_sem, fwdZ, fwdV, r0, r1, hl0, hl1, hl2]) rfl ⟨rfl, ?_⟩
        repeat (first | (with_reducible exact BL.out) | ((with_reducible refine Below.alloc ?_ ?_ _); rotate_left; (first | omega | (simp; omega))) | ((with_reducible refine Below.setCell ?_ ?_ _); rotate_left; (show w.heap.size ≤ w.heap.size + 1 + 1; omega)) | (with_reducible refine below_drewN ?_ _))
      · by_cases he : ys = xs
        · have hd := decide_eq_true he
          obtain rfl : E = true := by rw [← HE.out, hk, hf, hd]; rfl
          clear HE
          rw [hd] at Q
          clear he hd
          go_wp2_with fail
          refine (Q.out 0).mono ?_
          rintro e w3 ⟨rfl, q, rfl⟩
          go_wp2_with fail
          refine bodyPost_ret (v := .tuple #[fwdV cum B m d, .int .i64 0]) (by simp [results, Try.results62, go_sem, fwdZ, fwdV, r0, r1, hl0, hl1, hl2]) rfl ⟨rfl, ?_⟩
          repeat (first | (with_reducible exact BL.out) | ((with_reducible refine Below.alloc ?_ ?_ _); rotate_left; (first | omega | (simp; omega))) | ((with_reducible refine Below.setCell ?_ ?_ _); rotate_left; (show w.heap.size ≤ w.heap.size + 1 + 1; omega)) | (with_reducible refine below_drewN ?_ _))
        · have hd := decide_eq_false he
          obtain rfl : E = false := by rw [← HE.out, hk, hf, hd]; rfl
          clear HE
          rw [hd] at Q
          clear he hd
          go_wp2_with fail
          refine (Q.out 0).mono ?_
          rintro e w3 ⟨rfl, q, rfl⟩
          go_wp2_with fail
          refine bodyPost_ret (v := .tuple #[fwdZ, .int .i64 7]) (by simp [results, Try.results62, go_sem, fwdZ, fwdV, r0, r1, hl0, hl1, hl2]) rfl ⟨rfl, ?_⟩
          repeat (first | (with_reducible exact BL.out) | ((with_reducible refine Below.alloc ?_ ?_ _); rotate_left; (first | omega | (simp; omega))) | ((with_reducible refine Below.setCell ?_ ?_ _); rotate_left; (show w.heap.size ≤ w.heap.size + 1 + 1; omega)) | (with_reducible refine below_drewN ?_ _))

set_option maxHeartbeats 4000000 in
theorem getTime0_ (w : World) {k f : Int} {A : Option Addr} {n c : Nat} {xs : List Int} (h : Rd .u8 w A n c xs) (x : Int) (may : Bool) (bq : Nat) (k' f' : Int) (ys : List Int)
    (hput : ∀ V, Below w.heap.size w V → Calls Try.prog 64 #[timeV x, .pointer (some ⟨bq, 0, none⟩)] V fun e w' => ∃ A n c, e = .returned (chunkV k' f' A n c) ∧ Rd .u8 w' A n c ys ∧ Below V.heap.size V w')
    {E : Bool} (hE : (may && (k' == k) && (f' == f) && decide (ys = xs)) = E) :
    Calls Try.prog 63 #[chunkV k f A n c, timeV x, .bool may, .func (.func 64) #[] #[.pointer (some ⟨bq, 0, none⟩)]] w fun e w' => e = .returned (.tuple #[pickV E (timeV x) timeZ, errV E]) ∧ Below w.heap.size w w' := by
  have H := Aside.mk h
  have HP := Aside.mk hput
  have HE := Aside.mk hE
  clear h hput hE
  unfold chunkV timeV at *
  go_enter Try.func63, Try.ntmps63
  go_wp2_with fail
  generalize hW : (w.alloc (.cells #[.int .u8 k, .int .u8 f, .slice A n c] 24)) = W
  have h1 : W.heap[w.heap.size]? = some (.cells #[.int .u8 k, .int .u8 f, .slice A n c] 24) := by rw [← hW]; exact heap_alloc_new w _
  have hbl : Below w.heap.size w W := by rw [← hW]; exact below_alloc w _
  have hsz : W.heap.size = w.heap.size + 1 := by rw [← hW]; simp
  clear hW
  refine (HP.out W hbl).mono ?_
  rintro e w2 ⟨A2, n2, c2, rfl, o2, b2⟩
  have hz2 := b2.size
  have hl0 : w.heap.size < w2.heap.size := by omega
  have Q := Aside.mk (fun z => sequal_ (((w2.alloc (.cells #[.int .u8 k', .int .u8 f', .slice A2 n2 c2] 24)).drewN z)) (((o2.below (below_alloc w2 _))).below (below_drewN (Below.refl _ _) z)) ((((H.out.below hbl).below b2).below (below_alloc w2 _)).below (below_drewN (Below.refl _ _) z)))
  obtain ⟨a0, a1, a2⟩ := keep3 ((b2.block _ (by omega)).trans h1)
  have BL := Aside.mk (hbl.trans (b2.mono (show w.heap.size ≤ W.heap.size by omega)))
  clear h1 hbl b2 o2 hsz hz2
  cases may
  · obtain rfl : E = false := by rw [← HE.out]; rfl
    clear HE
    go_wp2_with fail
    go_ret2
    refine ⟨rfl, ?_⟩
    repeat (first | (with_reducible exact BL.out) | ((with_reducible refine Below.alloc ?_ ?_ _); rotate_left; (first | omega | (simp; omega))) | (with_reducible refine below_drewN ?_ _))
  · cases hk : (k' == k)
    · obtain rfl : E = false := by rw [← HE.out, hk]; rfl
      clear HE
      go_wp2_with fail
      go_ret2
      refine ⟨rfl, ?_⟩
      repeat (first | (with_reducible exact BL.out) | ((with_reducible refine Below.alloc ?_ ?_ _); rotate_left; (first | omega | (simp; omega))) | (with_reducible refine below_drewN ?_ _))
    · cases hf : (f' == f)
      · obtain rfl : E = false := by rw [← HE.out, hk, hf]; rfl
        clear HE
        go_wp2_with fail
        go_ret2
        refine ⟨rfl, ?_⟩
        repeat (first | (with_reducible exact BL.out) | ((with_reducible refine Below.alloc ?_ ?_ _); rotate_left; (first | omega | (simp; omega))) | (with_reducible refine below_drewN ?_ _))
      · by_cases he : ys = xs
        · have hd := decide_eq_true he
          obtain rfl : E = true := by rw [← HE.out, hk, hf, hd]; rfl
          clear HE
          rw [hd] at Q
          clear he hd
          go_wp2_with fail
          refine (Q.out 0).mono ?_
          rintro e w3 ⟨rfl, q, rfl⟩
          go_wp2_with fail
          go_ret2
          refine ⟨rfl, ?_⟩
          repeat (first | (with_reducible exact BL.out) | ((with_reducible refine Below.alloc ?_ ?_ _); rotate_left; (first | omega | (simp; omega))) | (with_reducible refine below_drewN ?_ _))
        · have hd := decide_eq_false he
          obtain rfl : E = false := by rw [← HE.out, hk, hf, hd]; rfl
          clear HE
          rw [hd] at Q
          clear he hd
          go_wp2_with fail
          refine (Q.out 0).mono ?_
          rintro e w3 ⟨rfl, q, rfl⟩
          go_wp2_with fail
          go_ret2
          refine ⟨rfl, ?_⟩
          repeat (first | (with_reducible exact BL.out) | ((with_reducible refine Below.alloc ?_ ?_ _); rotate_left; (first | omega | (simp; omega))) | (with_reducible refine below_drewN ?_ _))

set_option maxHeartbeats 4000000 in
theorem getCum0_ (w : World) {k f : Int} {A : Option Addr} {n c : Nat} {xs : List Int} (h : Rd .u8 w A n c xs) (x : Int) (may : Bool) (k' f' : Int) (ys : List Int)
    (hput : ∀ V, Below w.heap.size w V → Calls Try.prog 20 #[cumV x] V fun e w' => ∃ A n c, e = .returned (chunkV k' f' A n c) ∧ Rd .u8 w' A n c ys ∧ Below V.heap.size V w')
    {E : Bool} (hE : (may && (k' == k) && (f' == f) && decide (ys = xs)) = E) :
    Calls Try.prog 65 #[chunkV k f A n c, cumV x, .bool may, .func (.func 20) #[] #[]] w fun e w' => e = .returned (.tuple #[pickV E (cumV x) cumZ, errV E]) ∧ Below w.heap.size w w' := by
  have H := Aside.mk h
  have HP := Aside.mk hput
  have HE := Aside.mk hE
  clear h hput hE
  unfold chunkV cumV at *
  go_enter Try.func65, Try.ntmps65
  go_wp2_with fail
  generalize hW : (w.alloc (.cells #[.int .u8 k, .int .u8 f, .slice A n c] 24)) = W
  have h1 : W.heap[w.heap.size]? = some (.cells #[.int .u8 k, .int .u8 f, .slice A n c] 24) := by rw [← hW]; exact heap_alloc_new w _
  have hbl : Below w.heap.size w W := by rw [← hW]; exact below_alloc w _
  have hsz : W.heap.size = w.heap.size + 1 := by rw [← hW]; simp
  clear hW
  refine (HP.out W hbl).mono ?_
  rintro e w2 ⟨A2, n2, c2, rfl, o2, b2⟩
  have hz2 := b2.size
  have hl0 : w.heap.size < w2.heap.size := by omega
  have Q := Aside.mk (fun z => sequal_ (((w2.alloc (.cells #[.int .u8 k', .int .u8 f', .slice A2 n2 c2] 24)).drewN z)) (((o2.below (below_alloc w2 _))).below (below_drewN (Below.refl _ _) z)) ((((H.out.below hbl).below b2).below (below_alloc w2 _)).below (below_drewN (Below.refl _ _) z)))
  obtain ⟨a0, a1, a2⟩ := keep3 ((b2.block _ (by omega)).trans h1)
  have BL := Aside.mk (hbl.trans (b2.mono (show w.heap.size ≤ W.heap.size by omega)))
  clear h1 hbl b2 o2 hsz hz2
  cases may
  · obtain rfl : E = false := by rw [← HE.out]; rfl
    clear HE
    go_wp2_with fail
    go_ret2
    refine ⟨rfl, ?_⟩
    repeat (first | (with_reducible exact BL.out) | ((with_reducible refine Below.alloc ?_ ?_ _); rotate_left; (first | omega | (simp; omega))) | (with_reducible refine below_drewN ?_ _))
  · cases hk : (k' == k)
    · obtain rfl : E = false := by rw [← HE.out, hk]; rfl
      clear HE
      go_wp2_with fail
      go_ret2
      refine ⟨rfl, ?_⟩
      repeat (first | (with_reducible exact BL.out) | ((with_reducible refine Below.alloc ?_ ?_ _); rotate_left; (first | omega | (simp; omega))) | (with_reducible refine below_drewN ?_ _))
    · cases hf : (f' == f)
      · obtain rfl : E = false := by rw [← HE.out, hk, hf]; rfl
        clear HE
        go_wp2_with fail
        go_ret2
        refine ⟨rfl, ?_⟩
        repeat (first | (with_reducible exact BL.out) | ((with_reducible refine Below.alloc ?_ ?_ _); rotate_left; (first | omega | (simp; omega))) | (with_reducible refine below_drewN ?_ _))
      · by_cases he : ys = xs
        · have hd := decide_eq_true he
          obtain rfl : E = true := by rw [← HE.out, hk, hf, hd]; rfl
          clear HE
          rw [hd] at Q
          clear he hd
          go_wp2_with fail
          refine (Q.out 0).mono ?_
          rintro e w3 ⟨rfl, q, rfl⟩
          go_wp2_with fail
          go_ret2
          refine ⟨rfl, ?_⟩
          repeat (first | (with_reducible exact BL.out) | ((with_reducible refine Below.alloc ?_ ?_ _); rotate_left; (first | omega | (simp; omega))) | (with_reducible refine below_drewN ?_ _))
        · have hd := decide_eq_false he
          obtain rfl : E = false := by rw [← HE.out, hk, hf, hd]; rfl
          clear HE
          rw [hd] at Q
          clear he hd
          go_wp2_with fail
          refine (Q.out 0).mono ?_
          rintro e w3 ⟨rfl, q, rfl⟩
          go_wp2_with fail
          go_ret2
          refine ⟨rfl, ?_⟩
          repeat (first | (with_reducible exact BL.out) | ((with_reducible refine Below.alloc ?_ ?_ _); rotate_left; (first | omega | (simp; omega))) | (with_reducible refine below_drewN ?_ _))
end Go.Proofs.Ytedbmpfjikaljaa
