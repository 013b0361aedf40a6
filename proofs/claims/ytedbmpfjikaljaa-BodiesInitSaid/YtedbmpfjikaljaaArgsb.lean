/-
  Proved: what an argument of a kind, a time and a number reads as. No condition.
-/
import Derived.Test.YtedbmpfjikaljaaArgs
namespace Go.Proofs.Ytedbmpfjikaljaa
open Go.RowKit Go.ChangeShapes Go.WideShapes Go.Deep Go.Joins
set_option linter.unusedVariables false
set_option linter.unusedSimpArgs false
set_option linter.unusedSectionVars false
set_option maxRecDepth 100000
section
variable {H : Type} {enc : TypeId × Value → H} {w : World} {fuel : Nat} {cs : List Value} {x : DataW H × List MemPlace}
theorem tab72 : ∃ fs, Try.prog.underlying 72 = some (.struct fs) ∧ fs.toList.map (fun f => (f.type, f.offset, Try.prog.cellsOf f.type)) = [(5, 0, 1), (2, 1, 1), (29, 2, 1)] := ⟨_, Try.underlying72, by kernel_rfl⟩
theorem open_plain_ (h : DataW.trod enc Try.prog w 0 (fun _ => true) true fuel 72 cs = some x) : ∃ (z0 z1 z2 : Int), cs = [.int .u8 z0, .int .i64 z1, .int .u32 z2] ∧ (0 ≤ z0 ∧ z0 < 256) ∧ (-9223372036854775808 ≤ z1 ∧ z1 < 9223372036854775808) ∧ (0 ≤ z2 ∧ z2 < 4294967296) := by
  obtain ⟨hlen, hf⟩ := open_fields (L := 3) (by kernel_rfl) tab72 h
  match cs, hlen with
  | [c0, c1, c2], _ =>
    obtain ⟨n0, y0, r0⟩ := hf 0 5 0 1 rfl
    obtain ⟨n1, y1, r1⟩ := hf 1 2 1 1 rfl
    obtain ⟨n2, y2, r2⟩ := hf 2 29 2 1 rfl
    obtain ⟨z0, e0, _, w0⟩ := DataW.trod_int Try.underlying5 r0
    obtain ⟨z1, e1, _, w1⟩ := DataW.trod_int Try.underlying2 r1
    obtain ⟨z2, e2, _, w2⟩ := DataW.trod_int Try.underlying29 r2
    simp at e0 e1 e2
    subst e0 e1 e2
    exact ⟨z0, z1, z2, rfl, wf_u8 w0, wf_i64 w1, wf_u32 w2⟩
end
end Go.Proofs.Ytedbmpfjikaljaa
