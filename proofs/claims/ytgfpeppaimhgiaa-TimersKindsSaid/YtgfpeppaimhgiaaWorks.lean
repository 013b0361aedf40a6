/-
  Proved: the anchor of the statements on timers returns true in any memory and writes nothing that was there. No condition.
-/
import Derived.Test.YtgfpeppaimhgiaaTabI
import Derived.Test.YtgfpeppaimhgiaaTabU
import Derived.Test.YtgfpeppaimhgiaaTabS
namespace Go.Proofs.Ytgfpeppaimhgiaa
open Go.RowKit Go.Maps
set_option linter.unusedVariables false
set_option linter.unusedSimpArgs false

def wA : ByteArray := ⟨#[97]⟩
def wB : ByteArray := ⟨#[98]⟩
def wC : ByteArray := ⟨#[99]⟩
def wR : List (ByteArray × Int) := rset (rset (rset (rset [] wA 5) wB 3) wC 3) wB 3
theorem wok (a : ByteArray) (h : a.size = 1) : okS a := by unfold okS maxLen; omega
theorem w1 : ansS wR = .tuple #[.string wC, .int .i64 3, .bool true] := rfl
theorem w2 : popAnsS wR 2 = .tuple #[.string ⟨#[]⟩, .bool false] := rfl
theorem w3 : rpop wR 2 = wR := rfl
theorem w4 : popAnsS wR 3 = .tuple #[.string wC, .bool true] := rfl
theorem w6 : (wC.toList == [99]) = true := by rw [ByteArray.toList_eq]; rfl
theorem w5 : (rpop wR 3).length = 2 := rfl

set_option maxHeartbeats 2000000 in
theorem works_any (w : World) : Calls Try.prog 10 #[] w fun e w' => e = .returned (.bool true) ∧ Below w.heap.size w w' := by
  go_enter Try.func10, Try.ntmps10
  go_wp2_with fail
  refine (new_S _).mono ?_
  rintro e v1 ⟨rfl, t1, hb, hs⟩
  have T1 := Aside.mk t1
  have B1 := Aside.mk hb
  clear t1 hb hs
  go_wp2_with fail
  refine (set_S _ T1.out wA 5 (wok _ rfl) (by omega)).mono ?_
  rintro e v2 ⟨rfl, t2, u2⟩
  have T2 := Aside.mk t2
  have U2 := Aside.mk u2
  clear t2 u2
  go_wp2_with fail
  refine (set_S _ T2.out wB 3 (wok _ rfl) (by omega)).mono ?_
  rintro e v3 ⟨rfl, t3, u3⟩
  have T3 := Aside.mk t3
  have U3 := Aside.mk u3
  clear t3 u3
  go_wp2_with fail
  refine (set_S _ T3.out wC 3 (wok _ rfl) (by omega)).mono ?_
  rintro e v4 ⟨rfl, t4, u4⟩
  have T4 := Aside.mk t4
  have U4 := Aside.mk u4
  clear t4 u4
  go_wp2_with fail
  refine (set_S _ T4.out wB 3 (wok _ rfl) (by omega)).mono ?_
  rintro e v5 ⟨rfl, t5, u5⟩
  have T5 : Aside (TS v5 (w.heap.size + 1) w.heap.size 4 wR) := Aside.mk t5
  have U5 := Aside.mk u5
  clear t5 u5
  go_wp2_with fail
  have N := next_S v5 T5.out
  rw [w1] at N
  refine N.mono ?_
  clear N
  rintro e v6 ⟨rfl, u6⟩
  have T6 := Aside.mk (T5.out.upd u6 (fun h => h) (fun h => h))
  have U6 := Aside.mk u6
  clear u6
  go_wp2_with fail
  have N := pop_S v6 T6.out 2
  rw [w2, w3] at N
  refine N.mono ?_
  clear N
  rintro e v7 ⟨rfl, t7, u7⟩
  have T7 := Aside.mk t7
  have U7 := Aside.mk u7
  clear t7 u7
  go_wp2_with fail
  have N := pop_S v7 T7.out 3
  rw [w4] at N
  refine N.mono ?_
  clear N
  rintro e v8 ⟨rfl, t8, u8⟩
  have T8 := Aside.mk t8
  have U8 := Aside.mk u8
  clear t8 u8
  have q6 := w6
  have N := len_S v8 T8.out
  rw [w5] at N
  have N' := Aside.mk N
  clear N
  go_wp2_with fail
  refine N'.out.mono ?_
  rintro e v9 ⟨rfl, rfl⟩
  go_wp2_with fail
  go_ret
  refine ⟨rfl, ?_⟩
  have u : Upd (Two (w.heap.size + 1) w.heap.size) v1 v8 := (((((((U2.out).trans U3.out).trans U4.out).trans U5.out).trans (U6.out.mono (fun _ h => h.elim))).trans U7.out).trans U8.out)
  exact B1.out.trans (u.below B1.out.size (by unfold Two; omega))
end Go.Proofs.Ytgfpeppaimhgiaa
