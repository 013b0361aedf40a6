/-
  No cell of these rows narrows 'for every input' (looked for: loops, veiled, ifaces, maps, wideKeys, modest, calm, conditions, laid).
  DERIVED. THE GIVEN ROWS OF THIS SEAT. 7 by the template 'for every input the law returns true; each argument reads behind the call as it read before'; 0 by the template 'total and deterministic' (their statements: YtgfpeppaimhgiaaTotals.lean).
  GIVEN WITH THE SEED: the statements are not yours to turn. If you find one false, say at which input.
  Laid BY PROGRAM, IN A SANDBOX (cutbox-rows.mjs): the forced cells as the released guide's own fill.sh prints them over the translation 826e8a2f4b8836cb… (all of the seat's roots in one cut). By AI agents, Wed Nov 11 2026. No macro, syntax, notation, axiom, sorry.
-/
import Derived.Test.YtgfpeppaimhgiaaChecked
import GoSem.Claim
import GoSem.ClaimJoined
import GoSem.ClaimMapViews
import Derived.JoinedTies
import Derived.KernelRfl
namespace Go.Proofs.Ytgfpeppaimhgiaa
/- THE CELL 'sum', in the pinned program and in every row, IS THE sha256 OF THE DUMP (.gsa) THAT YtgfpeppaimhgiaaProg.lean LOADS. Nothing in Lean hashes anything: it is a label: what it is worth is what the hold of that sum in a sandbox is worth. -/
noncomputable def Try.pinned : Pinned := { name := "ytgfpeppaimhgiaa", sum := "826e8a2f4b8836cb4ef47a67ec6b4bca7e52e77f0db33240c4f06d1e6e2feee2", checked := Try.checked }
namespace Rows
def none {H : Type} : Left H := { results := [], args := [] }

/-- 'fairleadlaw24.TimersPlays': WHATEVER THE INPUT: true; the input reads as it did. -/
def timersPlaysSpec : ChangeSpec := { name := "timersPlays", fn := fun _ => fun
  | [d] => { results := [.lit (.bool true)], args := [d] }
  | _ => none }
def timersPlaysRow : OpenClaim := { program := "ytgfpeppaimhgiaa", sum := "826e8a2f4b8836cb4ef47a67ec6b4bca7e52e77f0db33240c4f06d1e6e2feee2", func := "fairlead/fairleadlaw24.TimersPlays", spec := "timersPlays", plainKeys := false, apart := false }
def TimersPlaysSaid : Prop := timersPlaysRow.holds Try.pinned (OpenSpec.ofChange timersPlaysSpec)

/-- ITS FALSE NEIGHBOUR: 'it returns false'. Refute it at one input. -/
def timersPlaysWrong : ChangeSpec := { name := "timersPlays", fn := fun _ => fun
  | [d] => { results := [.lit (.bool false)], args := [d] }
  | _ => none }
def TimersPlaysWrongFalsely : Prop := timersPlaysRow.holds Try.pinned (OpenSpec.ofChange timersPlaysWrong)

/-- 'fairleadlaw24.TimersOrder': WHATEVER THE INPUT: true; the input reads as it did. -/
def timersOrderSpec : ChangeSpec := { name := "timersOrder", fn := fun _ => fun
  | [d] => { results := [.lit (.bool true)], args := [d] }
  | _ => none }
def timersOrderRow : OpenClaim := { program := "ytgfpeppaimhgiaa", sum := "826e8a2f4b8836cb4ef47a67ec6b4bca7e52e77f0db33240c4f06d1e6e2feee2", func := "fairlead/fairleadlaw24.TimersOrder", spec := "timersOrder", plainKeys := false, apart := false }
def TimersOrderSaid : Prop := timersOrderRow.holds Try.pinned (OpenSpec.ofChange timersOrderSpec)

/-- ITS FALSE NEIGHBOUR: 'it returns false'. Refute it at one input. -/
def timersOrderWrong : ChangeSpec := { name := "timersOrder", fn := fun _ => fun
  | [d] => { results := [.lit (.bool false)], args := [d] }
  | _ => none }
def TimersOrderWrongFalsely : Prop := timersOrderRow.holds Try.pinned (OpenSpec.ofChange timersOrderWrong)

/-- 'fairleadlaw24.TimersDue': WHATEVER THE INPUT: true; the input reads as it did. -/
def timersDueSpec : ChangeSpec := { name := "timersDue", fn := fun _ => fun
  | [d1, d2] => { results := [.lit (.bool true)], args := [d1, d2] }
  | _ => none }
def timersDueRow : OpenClaim := { program := "ytgfpeppaimhgiaa", sum := "826e8a2f4b8836cb4ef47a67ec6b4bca7e52e77f0db33240c4f06d1e6e2feee2", func := "fairlead/fairleadlaw24.TimersDue", spec := "timersDue", plainKeys := false, apart := false }
def TimersDueSaid : Prop := timersDueRow.holds Try.pinned (OpenSpec.ofChange timersDueSpec)

/-- ITS FALSE NEIGHBOUR: 'it returns false'. Refute it at one input. -/
def timersDueWrong : ChangeSpec := { name := "timersDue", fn := fun _ => fun
  | [d1, d2] => { results := [.lit (.bool false)], args := [d1, d2] }
  | _ => none }
def TimersDueWrongFalsely : Prop := timersDueRow.holds Try.pinned (OpenSpec.ofChange timersDueWrong)

/-- 'fairleadlaw24.TimersAgain': WHATEVER THE INPUT: true; the input reads as it did. -/
def timersAgainSpec : ChangeSpec := { name := "timersAgain", fn := fun _ => fun
  | [d1, d2, d3] => { results := [.lit (.bool true)], args := [d1, d2, d3] }
  | _ => none }
def timersAgainRow : OpenClaim := { program := "ytgfpeppaimhgiaa", sum := "826e8a2f4b8836cb4ef47a67ec6b4bca7e52e77f0db33240c4f06d1e6e2feee2", func := "fairlead/fairleadlaw24.TimersAgain", spec := "timersAgain", plainKeys := false, apart := false }
def TimersAgainSaid : Prop := timersAgainRow.holds Try.pinned (OpenSpec.ofChange timersAgainSpec)

/-- ITS FALSE NEIGHBOUR: 'it returns false'. Refute it at one input. -/
def timersAgainWrong : ChangeSpec := { name := "timersAgain", fn := fun _ => fun
  | [d1, d2, d3] => { results := [.lit (.bool false)], args := [d1, d2, d3] }
  | _ => none }
def TimersAgainWrongFalsely : Prop := timersAgainRow.holds Try.pinned (OpenSpec.ofChange timersAgainWrong)

/-- 'fairleadlaw24.TimersKinds': WHATEVER THE INPUT: true; the input reads as it did. -/
def timersKindsSpec : ChangeSpec := { name := "timersKinds", fn := fun _ => fun
  | [d] => { results := [.lit (.bool true)], args := [d] }
  | _ => none }
def timersKindsRow : OpenClaim := { program := "ytgfpeppaimhgiaa", sum := "826e8a2f4b8836cb4ef47a67ec6b4bca7e52e77f0db33240c4f06d1e6e2feee2", func := "fairlead/fairleadlaw24.TimersKinds", spec := "timersKinds", plainKeys := false, apart := false }
def TimersKindsSaid : Prop := timersKindsRow.holds Try.pinned (OpenSpec.ofChange timersKindsSpec)

/-- ITS FALSE NEIGHBOUR: 'it returns false'. Refute it at one input. -/
def timersKindsWrong : ChangeSpec := { name := "timersKinds", fn := fun _ => fun
  | [d] => { results := [.lit (.bool false)], args := [d] }
  | _ => none }
def TimersKindsWrongFalsely : Prop := timersKindsRow.holds Try.pinned (OpenSpec.ofChange timersKindsWrong)

/-- 'fairleadlaw24.TimersApart': WHATEVER THE INPUT: true; the input reads as it did. -/
def timersApartSpec : ChangeSpec := { name := "timersApart", fn := fun _ => fun
  | [d1, d2] => { results := [.lit (.bool true)], args := [d1, d2] }
  | _ => none }
def timersApartRow : OpenClaim := { program := "ytgfpeppaimhgiaa", sum := "826e8a2f4b8836cb4ef47a67ec6b4bca7e52e77f0db33240c4f06d1e6e2feee2", func := "fairlead/fairleadlaw24.TimersApart", spec := "timersApart", plainKeys := false, apart := false }
def TimersApartSaid : Prop := timersApartRow.holds Try.pinned (OpenSpec.ofChange timersApartSpec)

/-- ITS FALSE NEIGHBOUR: 'it returns false'. Refute it at one input. -/
def timersApartWrong : ChangeSpec := { name := "timersApart", fn := fun _ => fun
  | [d1, d2] => { results := [.lit (.bool false)], args := [d1, d2] }
  | _ => none }
def TimersApartWrongFalsely : Prop := timersApartRow.holds Try.pinned (OpenSpec.ofChange timersApartWrong)

/-- 'fairleadlaw24.TimersNil': WHATEVER THE INPUT: true; the input reads as it did. -/
def timersNilSpec : ChangeSpec := { name := "timersNil", fn := fun _ => fun
  | [d1, d2] => { results := [.lit (.bool true)], args := [d1, d2] }
  | _ => none }
def timersNilRow : OpenClaim := { program := "ytgfpeppaimhgiaa", sum := "826e8a2f4b8836cb4ef47a67ec6b4bca7e52e77f0db33240c4f06d1e6e2feee2", func := "fairlead/fairleadlaw24.TimersNil", spec := "timersNil", plainKeys := false, apart := false }
def TimersNilSaid : Prop := timersNilRow.holds Try.pinned (OpenSpec.ofChange timersNilSpec)

/-- ITS FALSE NEIGHBOUR: 'it returns false'. Refute it at one input. -/
def timersNilWrong : ChangeSpec := { name := "timersNil", fn := fun _ => fun
  | [d1, d2] => { results := [.lit (.bool false)], args := [d1, d2] }
  | _ => none }
def TimersNilWrongFalsely : Prop := timersNilRow.holds Try.pinned (OpenSpec.ofChange timersNilWrong)

/- THE SECOND FORM. 'bulk': how many values and letters a reading holds, each counted each time it is reached (what is shared counts as often as it is met; a slice's spare places count too). A statement '..UptoSaid' is the law's where the arguments, and the package variables that the reading takes, are together of bulk at most 1048576: NARROWER than '..Said'. Prove '..Said' where nothing that the law and all that it calls make is longer than what came in: it says more and counts as full. Else prove '..UptoSaid'. A law counts once. -/
mutual
def uptoBulk {H : Type} : DataW H → Nat
  | .lit (.string bytes) => bytes.length + 1
  | .lit _ => 1
  | .nil => 1
  | .ptr d => uptoBulk d + 1
  | .slice elems spare => uptoBulkAll elems + uptoBulkAll spare + 1
  | .agg parts => uptoBulkAll parts + 1
  | .iface _ d => uptoBulk d + 1
  | .map entries => uptoBulkEntries entries + 1
  | .held _ => 1
def uptoBulkAll {H : Type} : List (DataW H) → Nat
  | [] => 0
  | d :: r => uptoBulk d + uptoBulkAll r
def uptoBulkEntries {H : Type} : List (Lit × DataW H) → Nat
  | [] => 0
  | x :: r => uptoBulkEntry x + uptoBulkEntries r
def uptoBulkEntry {H : Type} : Lit × DataW H → Nat
  | (.string bytes, d) => bytes.length + uptoBulk d + 1
  | (_, d) => uptoBulk d + 1
 end
def uptoSmall : (H : Type) → List (DataW H) → Bool := fun _ ds => decide (uptoBulkAll ds ≤ 1048576)
def OpenSpec.upto (s : _root_.Go.ChangeSpec) : _root_.Go.OpenSpec := { _root_.Go.OpenSpec.ofChange s with cond := some uptoSmall }

/-- 'fairleadlaw24.TimersPlays', WHERE WHAT IT READS IS OF BULK AT MOST 1048576: true; the input reads as it did. -/
def timersPlaysUptoRow : OpenClaim := { program := "ytgfpeppaimhgiaa", sum := "826e8a2f4b8836cb4ef47a67ec6b4bca7e52e77f0db33240c4f06d1e6e2feee2", func := "fairlead/fairleadlaw24.TimersPlays", spec := "timersPlays", plainKeys := false, apart := false, narrowed := true }
def TimersPlaysUptoSaid : Prop := timersPlaysUptoRow.holds Try.pinned (OpenSpec.upto timersPlaysSpec)

/-- 'fairleadlaw24.TimersOrder', WHERE WHAT IT READS IS OF BULK AT MOST 1048576: true; the input reads as it did. -/
def timersOrderUptoRow : OpenClaim := { program := "ytgfpeppaimhgiaa", sum := "826e8a2f4b8836cb4ef47a67ec6b4bca7e52e77f0db33240c4f06d1e6e2feee2", func := "fairlead/fairleadlaw24.TimersOrder", spec := "timersOrder", plainKeys := false, apart := false, narrowed := true }
def TimersOrderUptoSaid : Prop := timersOrderUptoRow.holds Try.pinned (OpenSpec.upto timersOrderSpec)

/-- 'fairleadlaw24.TimersDue', WHERE WHAT IT READS IS OF BULK AT MOST 1048576: true; the input reads as it did. -/
def timersDueUptoRow : OpenClaim := { program := "ytgfpeppaimhgiaa", sum := "826e8a2f4b8836cb4ef47a67ec6b4bca7e52e77f0db33240c4f06d1e6e2feee2", func := "fairlead/fairleadlaw24.TimersDue", spec := "timersDue", plainKeys := false, apart := false, narrowed := true }
def TimersDueUptoSaid : Prop := timersDueUptoRow.holds Try.pinned (OpenSpec.upto timersDueSpec)

/-- 'fairleadlaw24.TimersAgain', WHERE WHAT IT READS IS OF BULK AT MOST 1048576: true; the input reads as it did. -/
def timersAgainUptoRow : OpenClaim := { program := "ytgfpeppaimhgiaa", sum := "826e8a2f4b8836cb4ef47a67ec6b4bca7e52e77f0db33240c4f06d1e6e2feee2", func := "fairlead/fairleadlaw24.TimersAgain", spec := "timersAgain", plainKeys := false, apart := false, narrowed := true }
def TimersAgainUptoSaid : Prop := timersAgainUptoRow.holds Try.pinned (OpenSpec.upto timersAgainSpec)

/-- 'fairleadlaw24.TimersKinds', WHERE WHAT IT READS IS OF BULK AT MOST 1048576: true; the input reads as it did. -/
def timersKindsUptoRow : OpenClaim := { program := "ytgfpeppaimhgiaa", sum := "826e8a2f4b8836cb4ef47a67ec6b4bca7e52e77f0db33240c4f06d1e6e2feee2", func := "fairlead/fairleadlaw24.TimersKinds", spec := "timersKinds", plainKeys := false, apart := false, narrowed := true }
def TimersKindsUptoSaid : Prop := timersKindsUptoRow.holds Try.pinned (OpenSpec.upto timersKindsSpec)

/-- 'fairleadlaw24.TimersApart', WHERE WHAT IT READS IS OF BULK AT MOST 1048576: true; the input reads as it did. -/
def timersApartUptoRow : OpenClaim := { program := "ytgfpeppaimhgiaa", sum := "826e8a2f4b8836cb4ef47a67ec6b4bca7e52e77f0db33240c4f06d1e6e2feee2", func := "fairlead/fairleadlaw24.TimersApart", spec := "timersApart", plainKeys := false, apart := false, narrowed := true }
def TimersApartUptoSaid : Prop := timersApartUptoRow.holds Try.pinned (OpenSpec.upto timersApartSpec)

/-- 'fairleadlaw24.TimersNil', WHERE WHAT IT READS IS OF BULK AT MOST 1048576: true; the input reads as it did. -/
def timersNilUptoRow : OpenClaim := { program := "ytgfpeppaimhgiaa", sum := "826e8a2f4b8836cb4ef47a67ec6b4bca7e52e77f0db33240c4f06d1e6e2feee2", func := "fairlead/fairleadlaw24.TimersNil", spec := "timersNil", plainKeys := false, apart := false, narrowed := true }
def TimersNilUptoSaid : Prop := timersNilUptoRow.holds Try.pinned (OpenSpec.upto timersNilSpec)

end Rows
end Go.Proofs.Ytgfpeppaimhgiaa
