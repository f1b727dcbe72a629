/-
  No cell of these rows narrows 'for every input' (looked for: loops, veiled, ifaces, maps, wideKeys, modest, calm, conditions, laid).
  DERIVED. THE GIVEN ROWS OF THIS SEAT. 7 by the template 'for every input the law returns true; each argument reads behind the call as it read before'; 0 by the template 'total and deterministic' (their statements: YtiglgjginjbfoaaTotals.lean).
  GIVEN WITH THE SEED: the statements are not yours to turn. If you find one false, say at which input.
  Laid BY PROGRAM, IN A SANDBOX (cutbox-rows.mjs): the forced cells as the released guide's own fill.sh prints them over the translation b59d377efe5198aa… (all of the seat's roots in one cut). By AI agents, Wed Nov 11 2026. No macro, syntax, notation, axiom, sorry.
-/
import Derived.Test.YtiglgjginjbfoaaChecked
import GoSem.Claim
import GoSem.ClaimJoined
import GoSem.ClaimMapViews
import Derived.JoinedTies
import Derived.KernelRfl
namespace Go.Proofs.Ytiglgjginjbfoaa
/- THE CELL 'sum', in the pinned program and in every row, IS THE sha256 OF THE DUMP (.gsa) THAT YtiglgjginjbfoaaProg.lean LOADS. Nothing in Lean hashes anything: it is a label: what it is worth is what the hold of that sum in a sandbox is worth. -/
noncomputable def Try.pinned : Pinned := { name := "ytiglgjginjbfoaa", sum := "b59d377efe5198aa1189e431cc64258c2b8990515ae08f66ece725395ca9f1f4", checked := Try.checked }
namespace Rows
def none {H : Type} : Left H := { results := [], args := [] }

/-- 'laws.FnExactHurt': WHATEVER THE INPUT: true; the input reads as it did. -/
def fnExactHurtSpec : ChangeSpec := { name := "fnExactHurt", fn := fun _ => fun
  | [d1, d2] => { results := [.lit (.bool true)], args := [d1, d2] }
  | _ => none }
def fnExactHurtRow : OpenClaim := { program := "ytiglgjginjbfoaa", sum := "b59d377efe5198aa1189e431cc64258c2b8990515ae08f66ece725395ca9f1f4", func := "loop.example/g00502/laws.FnExactHurt", spec := "fnExactHurt", unfollowed := true, recurses := true, apart := false }
def FnExactHurtSaid : Prop := fnExactHurtRow.holds Try.pinned (OpenSpec.ofChange fnExactHurtSpec)

/-- ITS FALSE NEIGHBOUR: 'it returns false'. Refute it at one input. -/
def fnExactHurtWrong : ChangeSpec := { name := "fnExactHurt", fn := fun _ => fun
  | [d1, d2] => { results := [.lit (.bool false)], args := [d1, d2] }
  | _ => none }
def FnExactHurtWrongFalsely : Prop := fnExactHurtRow.holds Try.pinned (OpenSpec.ofChange fnExactHurtWrong)

/-- 'laws.FnExactHurtAbove': WHATEVER THE INPUT: true; the input reads as it did. -/
def fnExactHurtAboveSpec : ChangeSpec := { name := "fnExactHurtAbove", fn := fun _ => fun
  | [d1, d2] => { results := [.lit (.bool true)], args := [d1, d2] }
  | _ => none }
def fnExactHurtAboveRow : OpenClaim := { program := "ytiglgjginjbfoaa", sum := "b59d377efe5198aa1189e431cc64258c2b8990515ae08f66ece725395ca9f1f4", func := "loop.example/g00502/laws.FnExactHurtAbove", spec := "fnExactHurtAbove", unfollowed := true, recurses := true, apart := false }
def FnExactHurtAboveSaid : Prop := fnExactHurtAboveRow.holds Try.pinned (OpenSpec.ofChange fnExactHurtAboveSpec)

/-- ITS FALSE NEIGHBOUR: 'it returns false'. Refute it at one input. -/
def fnExactHurtAboveWrong : ChangeSpec := { name := "fnExactHurtAbove", fn := fun _ => fun
  | [d1, d2] => { results := [.lit (.bool false)], args := [d1, d2] }
  | _ => none }
def FnExactHurtAboveWrongFalsely : Prop := fnExactHurtAboveRow.holds Try.pinned (OpenSpec.ofChange fnExactHurtAboveWrong)

/-- 'laws.FnExactLossless': WHATEVER THE INPUT: true; the input reads as it did. -/
def fnExactLosslessSpec : ChangeSpec := { name := "fnExactLossless", fn := fun _ => fun
  | [d] => { results := [.lit (.bool true)], args := [d] }
  | _ => none }
def fnExactLosslessRow : OpenClaim := { program := "ytiglgjginjbfoaa", sum := "b59d377efe5198aa1189e431cc64258c2b8990515ae08f66ece725395ca9f1f4", func := "loop.example/g00502/laws.FnExactLossless", spec := "fnExactLossless", apart := false }
def FnExactLosslessSaid : Prop := fnExactLosslessRow.holds Try.pinned (OpenSpec.ofChange fnExactLosslessSpec)

/-- ITS FALSE NEIGHBOUR: 'it returns false'. Refute it at one input. -/
def fnExactLosslessWrong : ChangeSpec := { name := "fnExactLossless", fn := fun _ => fun
  | [d] => { results := [.lit (.bool false)], args := [d] }
  | _ => none }
def FnExactLosslessWrongFalsely : Prop := fnExactLosslessRow.holds Try.pinned (OpenSpec.ofChange fnExactLosslessWrong)

/-- 'laws.FnExactBytesOf': WHATEVER THE INPUT: true; the input reads as it did. -/
def fnExactBytesOfSpec : ChangeSpec := { name := "fnExactBytesOf", fn := fun _ => fun
  | [d] => { results := [.lit (.bool true)], args := [d] }
  | _ => none }
def fnExactBytesOfRow : OpenClaim := { program := "ytiglgjginjbfoaa", sum := "b59d377efe5198aa1189e431cc64258c2b8990515ae08f66ece725395ca9f1f4", func := "loop.example/g00502/laws.FnExactBytesOf", spec := "fnExactBytesOf", apart := false }
def FnExactBytesOfSaid : Prop := fnExactBytesOfRow.holds Try.pinned (OpenSpec.ofChange fnExactBytesOfSpec)

/-- ITS FALSE NEIGHBOUR: 'it returns false'. Refute it at one input. -/
def fnExactBytesOfWrong : ChangeSpec := { name := "fnExactBytesOf", fn := fun _ => fun
  | [d] => { results := [.lit (.bool false)], args := [d] }
  | _ => none }
def FnExactBytesOfWrongFalsely : Prop := fnExactBytesOfRow.holds Try.pinned (OpenSpec.ofChange fnExactBytesOfWrong)

/-- 'laws.FnExactLossSum': WHATEVER THE INPUT: true; the input reads as it did. -/
def fnExactLossSumSpec : ChangeSpec := { name := "fnExactLossSum", fn := fun _ => fun
  | [d] => { results := [.lit (.bool true)], args := [d] }
  | _ => none }
def fnExactLossSumRow : OpenClaim := { program := "ytiglgjginjbfoaa", sum := "b59d377efe5198aa1189e431cc64258c2b8990515ae08f66ece725395ca9f1f4", func := "loop.example/g00502/laws.FnExactLossSum", spec := "fnExactLossSum", apart := false }
def FnExactLossSumSaid : Prop := fnExactLossSumRow.holds Try.pinned (OpenSpec.ofChange fnExactLossSumSpec)

/-- ITS FALSE NEIGHBOUR: 'it returns false'. Refute it at one input. -/
def fnExactLossSumWrong : ChangeSpec := { name := "fnExactLossSum", fn := fun _ => fun
  | [d] => { results := [.lit (.bool false)], args := [d] }
  | _ => none }
def FnExactLossSumWrongFalsely : Prop := fnExactLossSumRow.holds Try.pinned (OpenSpec.ofChange fnExactLossSumWrong)

/-- 'laws.FnExactFirstBad': WHATEVER THE INPUT: true; the input reads as it did. -/
def fnExactFirstBadSpec : ChangeSpec := { name := "fnExactFirstBad", fn := fun _ => fun
  | [d] => { results := [.lit (.bool true)], args := [d] }
  | _ => none }
def fnExactFirstBadRow : OpenClaim := { program := "ytiglgjginjbfoaa", sum := "b59d377efe5198aa1189e431cc64258c2b8990515ae08f66ece725395ca9f1f4", func := "loop.example/g00502/laws.FnExactFirstBad", spec := "fnExactFirstBad", unfollowed := true, recurses := true, apart := false }
def FnExactFirstBadSaid : Prop := fnExactFirstBadRow.holds Try.pinned (OpenSpec.ofChange fnExactFirstBadSpec)

/-- ITS FALSE NEIGHBOUR: 'it returns false'. Refute it at one input. -/
def fnExactFirstBadWrong : ChangeSpec := { name := "fnExactFirstBad", fn := fun _ => fun
  | [d] => { results := [.lit (.bool false)], args := [d] }
  | _ => none }
def FnExactFirstBadWrongFalsely : Prop := fnExactFirstBadRow.holds Try.pinned (OpenSpec.ofChange fnExactFirstBadWrong)

/-- 'laws.FnExactGoodOf': WHATEVER THE INPUT: true; the input reads as it did. -/
def fnExactGoodOfSpec : ChangeSpec := { name := "fnExactGoodOf", fn := fun _ => fun
  | [d] => { results := [.lit (.bool true)], args := [d] }
  | _ => none }
def fnExactGoodOfRow : OpenClaim := { program := "ytiglgjginjbfoaa", sum := "b59d377efe5198aa1189e431cc64258c2b8990515ae08f66ece725395ca9f1f4", func := "loop.example/g00502/laws.FnExactGoodOf", spec := "fnExactGoodOf", apart := false }
def FnExactGoodOfSaid : Prop := fnExactGoodOfRow.holds Try.pinned (OpenSpec.ofChange fnExactGoodOfSpec)

/-- ITS FALSE NEIGHBOUR: 'it returns false'. Refute it at one input. -/
def fnExactGoodOfWrong : ChangeSpec := { name := "fnExactGoodOf", fn := fun _ => fun
  | [d] => { results := [.lit (.bool false)], args := [d] }
  | _ => none }
def FnExactGoodOfWrongFalsely : Prop := fnExactGoodOfRow.holds Try.pinned (OpenSpec.ofChange fnExactGoodOfWrong)

/- THE SECOND FORM. 'bulk': how many values and letters a reading holds, each counted each time it is reached (what is shared counts as often as it is met; a slice's spare places count too). A statement '..UptoSaid' is the law's where the arguments, and the package variables that the reading takes, are together of bulk at most 1048576: NARROWER than '..Said'. Prove '..Said' where nothing that the law and all that it calls make is longer than what came in: it says more and counts as full. Else prove '..UptoSaid'. A law counts once. -/
mutual
def uptoBulk {H : Type} : DataW H → Nat
  | .lit (.string bytes) => bytes.length + 1
  | .lit _ => 1
  | .nil => 1
  | .ptr d => uptoBulk d + 1
  | .slice elems spare => uptoBulkAll elems + uptoBulkAll spare + 1
  | .agg parts => uptoBulkAll parts + 1
  | .iface _ d => uptoBulk d + 1
  | .map entries => uptoBulkEntries entries + 1
  | .held _ => 1
def uptoBulkAll {H : Type} : List (DataW H) → Nat
  | [] => 0
  | d :: r => uptoBulk d + uptoBulkAll r
def uptoBulkEntries {H : Type} : List (Lit × DataW H) → Nat
  | [] => 0
  | x :: r => uptoBulkEntry x + uptoBulkEntries r
def uptoBulkEntry {H : Type} : Lit × DataW H → Nat
  | (.string bytes, d) => bytes.length + uptoBulk d + 1
  | (_, d) => uptoBulk d + 1
 end
def uptoSmall : (H : Type) → List (DataW H) → Bool := fun _ ds => decide (uptoBulkAll ds ≤ 1048576)
def OpenSpec.upto (s : _root_.Go.ChangeSpec) : _root_.Go.OpenSpec := { _root_.Go.OpenSpec.ofChange s with cond := some uptoSmall }

/-- 'laws.FnExactHurt', WHERE WHAT IT READS IS OF BULK AT MOST 1048576: true; the input reads as it did. -/
def fnExactHurtUptoRow : OpenClaim := { program := "ytiglgjginjbfoaa", sum := "b59d377efe5198aa1189e431cc64258c2b8990515ae08f66ece725395ca9f1f4", func := "loop.example/g00502/laws.FnExactHurt", spec := "fnExactHurt", unfollowed := true, recurses := true, apart := false, narrowed := true }
def FnExactHurtUptoSaid : Prop := fnExactHurtUptoRow.holds Try.pinned (OpenSpec.upto fnExactHurtSpec)

/-- 'laws.FnExactHurtAbove', WHERE WHAT IT READS IS OF BULK AT MOST 1048576: true; the input reads as it did. -/
def fnExactHurtAboveUptoRow : OpenClaim := { program := "ytiglgjginjbfoaa", sum := "b59d377efe5198aa1189e431cc64258c2b8990515ae08f66ece725395ca9f1f4", func := "loop.example/g00502/laws.FnExactHurtAbove", spec := "fnExactHurtAbove", unfollowed := true, recurses := true, apart := false, narrowed := true }
def FnExactHurtAboveUptoSaid : Prop := fnExactHurtAboveUptoRow.holds Try.pinned (OpenSpec.upto fnExactHurtAboveSpec)

/-- 'laws.FnExactLossless', WHERE WHAT IT READS IS OF BULK AT MOST 1048576: true; the input reads as it did. -/
def fnExactLosslessUptoRow : OpenClaim := { program := "ytiglgjginjbfoaa", sum := "b59d377efe5198aa1189e431cc64258c2b8990515ae08f66ece725395ca9f1f4", func := "loop.example/g00502/laws.FnExactLossless", spec := "fnExactLossless", apart := false, narrowed := true }
def FnExactLosslessUptoSaid : Prop := fnExactLosslessUptoRow.holds Try.pinned (OpenSpec.upto fnExactLosslessSpec)

/-- 'laws.FnExactBytesOf', WHERE WHAT IT READS IS OF BULK AT MOST 1048576: true; the input reads as it did. -/
def fnExactBytesOfUptoRow : OpenClaim := { program := "ytiglgjginjbfoaa", sum := "b59d377efe5198aa1189e431cc64258c2b8990515ae08f66ece725395ca9f1f4", func := "loop.example/g00502/laws.FnExactBytesOf", spec := "fnExactBytesOf", apart := false, narrowed := true }
def FnExactBytesOfUptoSaid : Prop := fnExactBytesOfUptoRow.holds Try.pinned (OpenSpec.upto fnExactBytesOfSpec)

/-- 'laws.FnExactLossSum', WHERE WHAT IT READS IS OF BULK AT MOST 1048576: true; the input reads as it did. -/
def fnExactLossSumUptoRow : OpenClaim := { program := "ytiglgjginjbfoaa", sum := "b59d377efe5198aa1189e431cc64258c2b8990515ae08f66ece725395ca9f1f4", func := "loop.example/g00502/laws.FnExactLossSum", spec := "fnExactLossSum", apart := false, narrowed := true }
def FnExactLossSumUptoSaid : Prop := fnExactLossSumUptoRow.holds Try.pinned (OpenSpec.upto fnExactLossSumSpec)

/-- 'laws.FnExactFirstBad', WHERE WHAT IT READS IS OF BULK AT MOST 1048576: true; the input reads as it did. -/
def fnExactFirstBadUptoRow : OpenClaim := { program := "ytiglgjginjbfoaa", sum := "b59d377efe5198aa1189e431cc64258c2b8990515ae08f66ece725395ca9f1f4", func := "loop.example/g00502/laws.FnExactFirstBad", spec := "fnExactFirstBad", unfollowed := true, recurses := true, apart := false, narrowed := true }
def FnExactFirstBadUptoSaid : Prop := fnExactFirstBadUptoRow.holds Try.pinned (OpenSpec.upto fnExactFirstBadSpec)

/-- 'laws.FnExactGoodOf', WHERE WHAT IT READS IS OF BULK AT MOST 1048576: true; the input reads as it did. -/
def fnExactGoodOfUptoRow : OpenClaim := { program := "ytiglgjginjbfoaa", sum := "b59d377efe5198aa1189e431cc64258c2b8990515ae08f66ece725395ca9f1f4", func := "loop.example/g00502/laws.FnExactGoodOf", spec := "fnExactGoodOf", apart := false, narrowed := true }
def FnExactGoodOfUptoSaid : Prop := fnExactGoodOfUptoRow.holds Try.pinned (OpenSpec.upto fnExactGoodOfSpec)

end Rows
end Go.Proofs.Ytiglgjginjbfoaa
