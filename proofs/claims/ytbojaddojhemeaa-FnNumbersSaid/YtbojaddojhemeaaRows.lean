/-
  No cell of these rows narrows 'for every input' (looked for: loops, veiled, ifaces, maps, wideKeys, modest, calm, conditions, laid).
  DERIVED. THE GIVEN ROWS OF THIS SEAT. 10 by the template 'for every input the law returns true; each argument reads behind the call as it read before'; 0 by the template 'total and deterministic' (their statements: YtbojaddojhemeaaTotals.lean).
  GIVEN WITH THE SEED: the statements are not yours to turn. If you find one false, say at which input.
  Laid BY PROGRAM, IN A SANDBOX (cutbox-rows.mjs): the forced cells as the released guide's own fill.sh prints them over the translation fe7926ec8e831bfc… (all of the seat's roots in one cut). By AI agents, Wed Nov 11 2026. No macro, syntax, notation, axiom, sorry.
-/
import Derived.Test.YtbojaddojhemeaaChecked
import GoSem.Claim
import GoSem.ClaimJoined
import GoSem.ClaimMapViews
import Derived.JoinedTies
import Derived.KernelRfl
namespace Go.Proofs.Ytbojaddojhemeaa
/- THE CELL 'sum', in the pinned program and in every row, IS THE sha256 OF THE DUMP (.gsa) THAT YtbojaddojhemeaaProg.lean LOADS. Nothing in Lean hashes anything: it is a label: what it is worth is what the hold of that sum in a sandbox is worth. -/
noncomputable def Try.pinned : Pinned := { name := "ytbojaddojhemeaa", sum := "fe7926ec8e831bfc1c98f94e1bd7f9f86dd65f71ec05f87df8f4dfca58365ac0", checked := Try.checked }
namespace Rows
def none {H : Type} : Left H := { results := [], args := [] }

/-- 'laws.FnExactConstants': WHATEVER THE INPUT: true; the input reads as it did. -/
def fnExactConstantsSpec : ChangeSpec := { name := "fnExactConstants", fn := fun _ => fun
  | [] => { results := [.lit (.bool true)], args := [] }
  | _ => none }
def fnExactConstantsRow : OpenClaim := { program := "ytbojaddojhemeaa", sum := "fe7926ec8e831bfc1c98f94e1bd7f9f86dd65f71ec05f87df8f4dfca58365ac0", func := "loop.example/g01214/laws.FnExactConstants", spec := "fnExactConstants", apart := false }
def FnExactConstantsSaid : Prop := fnExactConstantsRow.holds Try.pinned (OpenSpec.ofChange fnExactConstantsSpec)

/-- ITS FALSE NEIGHBOUR: 'it returns false'. Refute it at one input. -/
def fnExactConstantsWrong : ChangeSpec := { name := "fnExactConstants", fn := fun _ => fun
  | [] => { results := [.lit (.bool false)], args := [] }
  | _ => none }
def FnExactConstantsWrongFalsely : Prop := fnExactConstantsRow.holds Try.pinned (OpenSpec.ofChange fnExactConstantsWrong)

/-- 'laws.FnExactFloatAt': WHATEVER THE INPUT: true; the input reads as it did. -/
def fnExactFloatAtSpec : ChangeSpec := { name := "fnExactFloatAt", fn := fun _ => fun
  | [d] => { results := [.lit (.bool true)], args := [d] }
  | _ => none }
def fnExactFloatAtRow : OpenClaim := { program := "ytbojaddojhemeaa", sum := "fe7926ec8e831bfc1c98f94e1bd7f9f86dd65f71ec05f87df8f4dfca58365ac0", func := "loop.example/g01214/laws.FnExactFloatAt", spec := "fnExactFloatAt", inPlace := ["math.Float32frombits"], recurses := true, apart := false }
def FnExactFloatAtSaid : Prop := fnExactFloatAtRow.holds Try.pinned (OpenSpec.ofChange fnExactFloatAtSpec)

/-- ITS FALSE NEIGHBOUR: 'it returns false'. Refute it at one input. -/
def fnExactFloatAtWrong : ChangeSpec := { name := "fnExactFloatAt", fn := fun _ => fun
  | [d] => { results := [.lit (.bool false)], args := [d] }
  | _ => none }
def FnExactFloatAtWrongFalsely : Prop := fnExactFloatAtRow.holds Try.pinned (OpenSpec.ofChange fnExactFloatAtWrong)

/-- 'laws.FnExactPlaceOf': WHATEVER THE INPUT: true; the input reads as it did. -/
def fnExactPlaceOfSpec : ChangeSpec := { name := "fnExactPlaceOf", fn := fun _ => fun
  | [d] => { results := [.lit (.bool true)], args := [d] }
  | _ => none }
def fnExactPlaceOfRow : OpenClaim := { program := "ytbojaddojhemeaa", sum := "fe7926ec8e831bfc1c98f94e1bd7f9f86dd65f71ec05f87df8f4dfca58365ac0", func := "loop.example/g01214/laws.FnExactPlaceOf", spec := "fnExactPlaceOf", inPlace := ["math.Float64bits", "math.Float64frombits", "math.Float32bits"], recurses := true, apart := false }
def FnExactPlaceOfSaid : Prop := fnExactPlaceOfRow.holds Try.pinned (OpenSpec.ofChange fnExactPlaceOfSpec)

/-- ITS FALSE NEIGHBOUR: 'it returns false'. Refute it at one input. -/
def fnExactPlaceOfWrong : ChangeSpec := { name := "fnExactPlaceOf", fn := fun _ => fun
  | [d] => { results := [.lit (.bool false)], args := [d] }
  | _ => none }
def FnExactPlaceOfWrongFalsely : Prop := fnExactPlaceOfRow.holds Try.pinned (OpenSpec.ofChange fnExactPlaceOfWrong)

/-- 'laws.FnExactStepsBetween': WHATEVER THE INPUT: true; the input reads as it did. -/
def fnExactStepsBetweenSpec : ChangeSpec := { name := "fnExactStepsBetween", fn := fun _ => fun
  | [d1, d2] => { results := [.lit (.bool true)], args := [d1, d2] }
  | _ => none }
def fnExactStepsBetweenRow : OpenClaim := { program := "ytbojaddojhemeaa", sum := "fe7926ec8e831bfc1c98f94e1bd7f9f86dd65f71ec05f87df8f4dfca58365ac0", func := "loop.example/g01214/laws.FnExactStepsBetween", spec := "fnExactStepsBetween", inPlace := ["math.Float64bits", "math.Float64frombits", "math.Float32bits"], recurses := true, apart := false }
def FnExactStepsBetweenSaid : Prop := fnExactStepsBetweenRow.holds Try.pinned (OpenSpec.ofChange fnExactStepsBetweenSpec)

/-- ITS FALSE NEIGHBOUR: 'it returns false'. Refute it at one input. -/
def fnExactStepsBetweenWrong : ChangeSpec := { name := "fnExactStepsBetween", fn := fun _ => fun
  | [d1, d2] => { results := [.lit (.bool false)], args := [d1, d2] }
  | _ => none }
def FnExactStepsBetweenWrongFalsely : Prop := fnExactStepsBetweenRow.holds Try.pinned (OpenSpec.ofChange fnExactStepsBetweenWrong)

/-- 'laws.FnExactDotVectors': WHATEVER THE INPUT: true; the input reads as it did. -/
def fnExactDotVectorsSpec : ChangeSpec := { name := "fnExactDotVectors", fn := fun _ => fun
  | [d1, d2] => { results := [.lit (.bool true)], args := [d1, d2] }
  | _ => none }
def fnExactDotVectorsRow : OpenClaim := { program := "ytbojaddojhemeaa", sum := "fe7926ec8e831bfc1c98f94e1bd7f9f86dd65f71ec05f87df8f4dfca58365ac0", func := "loop.example/g01214/laws.FnExactDotVectors", spec := "fnExactDotVectors", inPlace := ["math.Float64bits", "math.Float64frombits"], unfollowed := true, recurses := true, apart := false }
def FnExactDotVectorsSaid : Prop := fnExactDotVectorsRow.holds Try.pinned (OpenSpec.ofChange fnExactDotVectorsSpec)

/-- ITS FALSE NEIGHBOUR: 'it returns false'. Refute it at one input. -/
def fnExactDotVectorsWrong : ChangeSpec := { name := "fnExactDotVectors", fn := fun _ => fun
  | [d1, d2] => { results := [.lit (.bool false)], args := [d1, d2] }
  | _ => none }
def FnExactDotVectorsWrongFalsely : Prop := fnExactDotVectorsRow.holds Try.pinned (OpenSpec.ofChange fnExactDotVectorsWrong)

/-- 'laws.FnExactAddVectors': WHATEVER THE INPUT: true; the input reads as it did. -/
def fnExactAddVectorsSpec : ChangeSpec := { name := "fnExactAddVectors", fn := fun _ => fun
  | [d1, d2] => { results := [.lit (.bool true)], args := [d1, d2] }
  | _ => none }
def fnExactAddVectorsRow : OpenClaim := { program := "ytbojaddojhemeaa", sum := "fe7926ec8e831bfc1c98f94e1bd7f9f86dd65f71ec05f87df8f4dfca58365ac0", func := "loop.example/g01214/laws.FnExactAddVectors", spec := "fnExactAddVectors", inPlace := ["math.Float64bits", "math.Float64frombits"], unfollowed := true, recurses := true, apart := false }
def FnExactAddVectorsSaid : Prop := fnExactAddVectorsRow.holds Try.pinned (OpenSpec.ofChange fnExactAddVectorsSpec)

/-- ITS FALSE NEIGHBOUR: 'it returns false'. Refute it at one input. -/
def fnExactAddVectorsWrong : ChangeSpec := { name := "fnExactAddVectors", fn := fun _ => fun
  | [d1, d2] => { results := [.lit (.bool false)], args := [d1, d2] }
  | _ => none }
def FnExactAddVectorsWrongFalsely : Prop := fnExactAddVectorsRow.holds Try.pinned (OpenSpec.ofChange fnExactAddVectorsWrong)

/-- 'laws.FnExactTurnOfParts': WHATEVER THE INPUT: true; the input reads as it did. -/
def fnExactTurnOfPartsSpec : ChangeSpec := { name := "fnExactTurnOfParts", fn := fun _ => fun
  | [d] => { results := [.lit (.bool true)], args := [d] }
  | _ => none }
def fnExactTurnOfPartsRow : OpenClaim := { program := "ytbojaddojhemeaa", sum := "fe7926ec8e831bfc1c98f94e1bd7f9f86dd65f71ec05f87df8f4dfca58365ac0", func := "loop.example/g01214/laws.FnExactTurnOfParts", spec := "fnExactTurnOfParts", inPlace := ["math.Float64bits", "math.Float64frombits"], unfollowed := true, recurses := true, apart := false }
def FnExactTurnOfPartsSaid : Prop := fnExactTurnOfPartsRow.holds Try.pinned (OpenSpec.ofChange fnExactTurnOfPartsSpec)

/-- ITS FALSE NEIGHBOUR: 'it returns false'. Refute it at one input. -/
def fnExactTurnOfPartsWrong : ChangeSpec := { name := "fnExactTurnOfParts", fn := fun _ => fun
  | [d] => { results := [.lit (.bool false)], args := [d] }
  | _ => none }
def FnExactTurnOfPartsWrongFalsely : Prop := fnExactTurnOfPartsRow.holds Try.pinned (OpenSpec.ofChange fnExactTurnOfPartsWrong)

/-- 'laws.FnExactRootOf': WHATEVER THE INPUT: true; the input reads as it did. -/
def fnExactRootOfSpec : ChangeSpec := { name := "fnExactRootOf", fn := fun _ => fun
  | [d] => { results := [.lit (.bool true)], args := [d] }
  | _ => none }
def fnExactRootOfRow : OpenClaim := { program := "ytbojaddojhemeaa", sum := "fe7926ec8e831bfc1c98f94e1bd7f9f86dd65f71ec05f87df8f4dfca58365ac0", func := "loop.example/g01214/laws.FnExactRootOf", spec := "fnExactRootOf", inPlace := ["math.Float64bits", "math.Float64frombits", "math.sqrt"], apart := false }
def FnExactRootOfSaid : Prop := fnExactRootOfRow.holds Try.pinned (OpenSpec.ofChange fnExactRootOfSpec)

/-- ITS FALSE NEIGHBOUR: 'it returns false'. Refute it at one input. -/
def fnExactRootOfWrong : ChangeSpec := { name := "fnExactRootOf", fn := fun _ => fun
  | [d] => { results := [.lit (.bool false)], args := [d] }
  | _ => none }
def FnExactRootOfWrongFalsely : Prop := fnExactRootOfRow.holds Try.pinned (OpenSpec.ofChange fnExactRootOfWrong)

/-- 'laws.FnExactHalvedTurn': WHATEVER THE INPUT: true; the input reads as it did. -/
def fnExactHalvedTurnSpec : ChangeSpec := { name := "fnExactHalvedTurn", fn := fun _ => fun
  | [d1, d2] => { results := [.lit (.bool true)], args := [d1, d2] }
  | _ => none }
def fnExactHalvedTurnRow : OpenClaim := { program := "ytbojaddojhemeaa", sum := "fe7926ec8e831bfc1c98f94e1bd7f9f86dd65f71ec05f87df8f4dfca58365ac0", func := "loop.example/g01214/laws.FnExactHalvedTurn", spec := "fnExactHalvedTurn", inPlace := ["math.Float64bits", "math.Float64frombits", "math.sqrt"], apart := false }
def FnExactHalvedTurnSaid : Prop := fnExactHalvedTurnRow.holds Try.pinned (OpenSpec.ofChange fnExactHalvedTurnSpec)

/-- ITS FALSE NEIGHBOUR: 'it returns false'. Refute it at one input. -/
def fnExactHalvedTurnWrong : ChangeSpec := { name := "fnExactHalvedTurn", fn := fun _ => fun
  | [d1, d2] => { results := [.lit (.bool false)], args := [d1, d2] }
  | _ => none }
def FnExactHalvedTurnWrongFalsely : Prop := fnExactHalvedTurnRow.holds Try.pinned (OpenSpec.ofChange fnExactHalvedTurnWrong)

/-- 'laws.FnNumbers': WHATEVER THE INPUT: true; the input reads as it did. -/
def fnNumbersSpec : ChangeSpec := { name := "fnNumbers", fn := fun _ => fun
  | [d] => { results := [.lit (.bool true)], args := [d] }
  | _ => none }
def fnNumbersRow : OpenClaim := { program := "ytbojaddojhemeaa", sum := "fe7926ec8e831bfc1c98f94e1bd7f9f86dd65f71ec05f87df8f4dfca58365ac0", func := "loop.example/g01214/laws.FnNumbers", spec := "fnNumbers", inPlace := ["math.Float64bits", "math.Float64frombits", "math.Float32bits", "math.Float32frombits", "math.sqrt"], recurses := true, apart := false }
def FnNumbersSaid : Prop := fnNumbersRow.holds Try.pinned (OpenSpec.ofChange fnNumbersSpec)

/-- ITS FALSE NEIGHBOUR: 'it returns false'. Refute it at one input. -/
def fnNumbersWrong : ChangeSpec := { name := "fnNumbers", fn := fun _ => fun
  | [d] => { results := [.lit (.bool false)], args := [d] }
  | _ => none }
def FnNumbersWrongFalsely : Prop := fnNumbersRow.holds Try.pinned (OpenSpec.ofChange fnNumbersWrong)

/- THE SECOND FORM. 'bulk': how many values and letters a reading holds, each counted each time it is reached (what is shared counts as often as it is met; a slice's spare places count too). A statement '..UptoSaid' is the law's where the arguments, and the package variables that the reading takes, are together of bulk at most 1048576: NARROWER than '..Said'. Prove '..Said' where nothing that the law and all that it calls make is longer than what came in: it says more and counts as full. Else prove '..UptoSaid'. A law counts once. -/
mutual
def uptoBulk {H : Type} : DataW H → Nat
  | .lit (.string bytes) => bytes.length + 1
  | .lit _ => 1
  | .nil => 1
  | .ptr d => uptoBulk d + 1
  | .slice elems spare => uptoBulkAll elems + uptoBulkAll spare + 1
  | .agg parts => uptoBulkAll parts + 1
  | .iface _ d => uptoBulk d + 1
  | .map entries => uptoBulkEntries entries + 1
  | .held _ => 1
def uptoBulkAll {H : Type} : List (DataW H) → Nat
  | [] => 0
  | d :: r => uptoBulk d + uptoBulkAll r
def uptoBulkEntries {H : Type} : List (Lit × DataW H) → Nat
  | [] => 0
  | x :: r => uptoBulkEntry x + uptoBulkEntries r
def uptoBulkEntry {H : Type} : Lit × DataW H → Nat
  | (.string bytes, d) => bytes.length + uptoBulk d + 1
  | (_, d) => uptoBulk d + 1
 end
def uptoSmall : (H : Type) → List (DataW H) → Bool := fun _ ds => decide (uptoBulkAll ds ≤ 1048576)
def OpenSpec.upto (s : _root_.Go.ChangeSpec) : _root_.Go.OpenSpec := { _root_.Go.OpenSpec.ofChange s with cond := some uptoSmall }

/-- 'laws.FnExactConstants', WHERE WHAT IT READS IS OF BULK AT MOST 1048576: true; the input reads as it did. -/
def fnExactConstantsUptoRow : OpenClaim := { program := "ytbojaddojhemeaa", sum := "fe7926ec8e831bfc1c98f94e1bd7f9f86dd65f71ec05f87df8f4dfca58365ac0", func := "loop.example/g01214/laws.FnExactConstants", spec := "fnExactConstants", apart := false, narrowed := true }
def FnExactConstantsUptoSaid : Prop := fnExactConstantsUptoRow.holds Try.pinned (OpenSpec.upto fnExactConstantsSpec)

/-- 'laws.FnExactFloatAt', WHERE WHAT IT READS IS OF BULK AT MOST 1048576: true; the input reads as it did. -/
def fnExactFloatAtUptoRow : OpenClaim := { program := "ytbojaddojhemeaa", sum := "fe7926ec8e831bfc1c98f94e1bd7f9f86dd65f71ec05f87df8f4dfca58365ac0", func := "loop.example/g01214/laws.FnExactFloatAt", spec := "fnExactFloatAt", inPlace := ["math.Float32frombits"], recurses := true, apart := false, narrowed := true }
def FnExactFloatAtUptoSaid : Prop := fnExactFloatAtUptoRow.holds Try.pinned (OpenSpec.upto fnExactFloatAtSpec)

/-- 'laws.FnExactPlaceOf', WHERE WHAT IT READS IS OF BULK AT MOST 1048576: true; the input reads as it did. -/
def fnExactPlaceOfUptoRow : OpenClaim := { program := "ytbojaddojhemeaa", sum := "fe7926ec8e831bfc1c98f94e1bd7f9f86dd65f71ec05f87df8f4dfca58365ac0", func := "loop.example/g01214/laws.FnExactPlaceOf", spec := "fnExactPlaceOf", inPlace := ["math.Float64bits", "math.Float64frombits", "math.Float32bits"], recurses := true, apart := false, narrowed := true }
def FnExactPlaceOfUptoSaid : Prop := fnExactPlaceOfUptoRow.holds Try.pinned (OpenSpec.upto fnExactPlaceOfSpec)

/-- 'laws.FnExactStepsBetween', WHERE WHAT IT READS IS OF BULK AT MOST 1048576: true; the input reads as it did. -/
def fnExactStepsBetweenUptoRow : OpenClaim := { program := "ytbojaddojhemeaa", sum := "fe7926ec8e831bfc1c98f94e1bd7f9f86dd65f71ec05f87df8f4dfca58365ac0", func := "loop.example/g01214/laws.FnExactStepsBetween", spec := "fnExactStepsBetween", inPlace := ["math.Float64bits", "math.Float64frombits", "math.Float32bits"], recurses := true, apart := false, narrowed := true }
def FnExactStepsBetweenUptoSaid : Prop := fnExactStepsBetweenUptoRow.holds Try.pinned (OpenSpec.upto fnExactStepsBetweenSpec)

/-- 'laws.FnExactDotVectors', WHERE WHAT IT READS IS OF BULK AT MOST 1048576: true; the input reads as it did. -/
def fnExactDotVectorsUptoRow : OpenClaim := { program := "ytbojaddojhemeaa", sum := "fe7926ec8e831bfc1c98f94e1bd7f9f86dd65f71ec05f87df8f4dfca58365ac0", func := "loop.example/g01214/laws.FnExactDotVectors", spec := "fnExactDotVectors", inPlace := ["math.Float64bits", "math.Float64frombits"], unfollowed := true, recurses := true, apart := false, narrowed := true }
def FnExactDotVectorsUptoSaid : Prop := fnExactDotVectorsUptoRow.holds Try.pinned (OpenSpec.upto fnExactDotVectorsSpec)

/-- 'laws.FnExactAddVectors', WHERE WHAT IT READS IS OF BULK AT MOST 1048576: true; the input reads as it did. -/
def fnExactAddVectorsUptoRow : OpenClaim := { program := "ytbojaddojhemeaa", sum := "fe7926ec8e831bfc1c98f94e1bd7f9f86dd65f71ec05f87df8f4dfca58365ac0", func := "loop.example/g01214/laws.FnExactAddVectors", spec := "fnExactAddVectors", inPlace := ["math.Float64bits", "math.Float64frombits"], unfollowed := true, recurses := true, apart := false, narrowed := true }
def FnExactAddVectorsUptoSaid : Prop := fnExactAddVectorsUptoRow.holds Try.pinned (OpenSpec.upto fnExactAddVectorsSpec)

/-- 'laws.FnExactTurnOfParts', WHERE WHAT IT READS IS OF BULK AT MOST 1048576: true; the input reads as it did. -/
def fnExactTurnOfPartsUptoRow : OpenClaim := { program := "ytbojaddojhemeaa", sum := "fe7926ec8e831bfc1c98f94e1bd7f9f86dd65f71ec05f87df8f4dfca58365ac0", func := "loop.example/g01214/laws.FnExactTurnOfParts", spec := "fnExactTurnOfParts", inPlace := ["math.Float64bits", "math.Float64frombits"], unfollowed := true, recurses := true, apart := false, narrowed := true }
def FnExactTurnOfPartsUptoSaid : Prop := fnExactTurnOfPartsUptoRow.holds Try.pinned (OpenSpec.upto fnExactTurnOfPartsSpec)

/-- 'laws.FnExactRootOf', WHERE WHAT IT READS IS OF BULK AT MOST 1048576: true; the input reads as it did. -/
def fnExactRootOfUptoRow : OpenClaim := { program := "ytbojaddojhemeaa", sum := "fe7926ec8e831bfc1c98f94e1bd7f9f86dd65f71ec05f87df8f4dfca58365ac0", func := "loop.example/g01214/laws.FnExactRootOf", spec := "fnExactRootOf", inPlace := ["math.Float64bits", "math.Float64frombits", "math.sqrt"], apart := false, narrowed := true }
def FnExactRootOfUptoSaid : Prop := fnExactRootOfUptoRow.holds Try.pinned (OpenSpec.upto fnExactRootOfSpec)

/-- 'laws.FnExactHalvedTurn', WHERE WHAT IT READS IS OF BULK AT MOST 1048576: true; the input reads as it did. -/
def fnExactHalvedTurnUptoRow : OpenClaim := { program := "ytbojaddojhemeaa", sum := "fe7926ec8e831bfc1c98f94e1bd7f9f86dd65f71ec05f87df8f4dfca58365ac0", func := "loop.example/g01214/laws.FnExactHalvedTurn", spec := "fnExactHalvedTurn", inPlace := ["math.Float64bits", "math.Float64frombits", "math.sqrt"], apart := false, narrowed := true }
def FnExactHalvedTurnUptoSaid : Prop := fnExactHalvedTurnUptoRow.holds Try.pinned (OpenSpec.upto fnExactHalvedTurnSpec)

/-- 'laws.FnNumbers', WHERE WHAT IT READS IS OF BULK AT MOST 1048576: true; the input reads as it did. -/
def fnNumbersUptoRow : OpenClaim := { program := "ytbojaddojhemeaa", sum := "fe7926ec8e831bfc1c98f94e1bd7f9f86dd65f71ec05f87df8f4dfca58365ac0", func := "loop.example/g01214/laws.FnNumbers", spec := "fnNumbers", inPlace := ["math.Float64bits", "math.Float64frombits", "math.Float32bits", "math.Float32frombits", "math.sqrt"], recurses := true, apart := false, narrowed := true }
def FnNumbersUptoSaid : Prop := fnNumbersUptoRow.holds Try.pinned (OpenSpec.upto fnNumbersSpec)

end Rows
end Go.Proofs.Ytbojaddojhemeaa
