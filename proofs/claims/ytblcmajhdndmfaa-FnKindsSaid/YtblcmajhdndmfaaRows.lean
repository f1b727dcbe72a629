/-
  NARROWER THAN 'FOR EVERY INPUT', by the rows' own cells (each row's printed sentence says how): FnExactCountKind: loops · FnExactTextsIn: loops · FnExactFind: loops · FnExactKindsIn: loops.
  DERIVED. THE GIVEN ROWS OF THIS SEAT. 8 by the template 'for every input the law returns true; each argument reads behind the call as it read before'; 0 by the template 'total and deterministic' (their statements: YtblcmajhdndmfaaTotals.lean).
  GIVEN WITH THE SEED: the statements are not yours to turn. If you find one false, say at which input.
  Laid BY PROGRAM, IN A SANDBOX (cutbox-rows.mjs): the forced cells as the released guide's own fill.sh prints them over the translation 61cc0d207f25e072… (all of the seat's roots in one cut). By AI agents, Wed Nov 11 2026. No macro, syntax, notation, axiom, sorry.
-/
import Derived.Test.YtblcmajhdndmfaaChecked
import GoSem.Claim
import GoSem.ClaimJoined
import GoSem.ClaimMapViews
import Derived.JoinedTies
import Derived.KernelRfl
namespace Go.Proofs.Ytblcmajhdndmfaa
/- THE CELL 'sum', in the pinned program and in every row, IS THE sha256 OF THE DUMP (.gsa) THAT YtblcmajhdndmfaaProg.lean LOADS. Nothing in Lean hashes anything: it is a label: what it is worth is what the hold of that sum in a sandbox is worth. -/
noncomputable def Try.pinned : Pinned := { name := "ytblcmajhdndmfaa", sum := "61cc0d207f25e072b88549abcadac96470ea4f96819cd1781d06c44a95935b57", checked := Try.checked }
namespace Rows
def none {H : Type} : Left H := { results := [], args := [] }

/-- 'laws.FnExactSameOut': WHATEVER THE INPUT: true; the input reads as it did. -/
def fnExactSameOutSpec : ChangeSpec := { name := "fnExactSameOut", fn := fun _ => fun
  | [d1, d2] => { results := [.lit (.bool true)], args := [d1, d2] }
  | _ => none }
def fnExactSameOutRow : OpenClaim := { program := "ytblcmajhdndmfaa", sum := "61cc0d207f25e072b88549abcadac96470ea4f96819cd1781d06c44a95935b57", func := "loop.example/g00502/laws.FnExactSameOut", spec := "fnExactSameOut", unfollowed := true, recurses := true, apart := false }
def FnExactSameOutSaid : Prop := fnExactSameOutRow.holds Try.pinned (OpenSpec.ofChange fnExactSameOutSpec)

/-- ITS FALSE NEIGHBOUR: 'it returns false'. Refute it at one input. -/
def fnExactSameOutWrong : ChangeSpec := { name := "fnExactSameOut", fn := fun _ => fun
  | [d1, d2] => { results := [.lit (.bool false)], args := [d1, d2] }
  | _ => none }
def FnExactSameOutWrongFalsely : Prop := fnExactSameOutRow.holds Try.pinned (OpenSpec.ofChange fnExactSameOutWrong)

/-- 'laws.FnExactCountKind': WHATEVER THE INPUT: true; the input reads as it did. -/
def fnExactCountKindSpec : ChangeSpec := { name := "fnExactCountKind", fn := fun _ => fun
  | [d1, d2] => { results := [.lit (.bool true)], args := [d1, d2] }
  | _ => none }
def fnExactCountKindRow : OpenClaim := { program := "ytblcmajhdndmfaa", sum := "61cc0d207f25e072b88549abcadac96470ea4f96819cd1781d06c44a95935b57", func := "loop.example/g00502/laws.FnExactCountKind", spec := "fnExactCountKind", unfollowed := true, recurses := true, loops := true, apart := false }
def FnExactCountKindSaid : Prop := fnExactCountKindRow.holds Try.pinned (OpenSpec.ofChange fnExactCountKindSpec)

/-- ITS FALSE NEIGHBOUR: 'it returns false'. Refute it at one input. -/
def fnExactCountKindWrong : ChangeSpec := { name := "fnExactCountKind", fn := fun _ => fun
  | [d1, d2] => { results := [.lit (.bool false)], args := [d1, d2] }
  | _ => none }
def FnExactCountKindWrongFalsely : Prop := fnExactCountKindRow.holds Try.pinned (OpenSpec.ofChange fnExactCountKindWrong)

/-- 'laws.FnExactTextsIn': WHATEVER THE INPUT: true; the input reads as it did. -/
def fnExactTextsInSpec : ChangeSpec := { name := "fnExactTextsIn", fn := fun _ => fun
  | [d] => { results := [.lit (.bool true)], args := [d] }
  | _ => none }
def fnExactTextsInRow : OpenClaim := { program := "ytblcmajhdndmfaa", sum := "61cc0d207f25e072b88549abcadac96470ea4f96819cd1781d06c44a95935b57", func := "loop.example/g00502/laws.FnExactTextsIn", spec := "fnExactTextsIn", unfollowed := true, recurses := true, loops := true, apart := false }
def FnExactTextsInSaid : Prop := fnExactTextsInRow.holds Try.pinned (OpenSpec.ofChange fnExactTextsInSpec)

/-- ITS FALSE NEIGHBOUR: 'it returns false'. Refute it at one input. -/
def fnExactTextsInWrong : ChangeSpec := { name := "fnExactTextsIn", fn := fun _ => fun
  | [d] => { results := [.lit (.bool false)], args := [d] }
  | _ => none }
def FnExactTextsInWrongFalsely : Prop := fnExactTextsInRow.holds Try.pinned (OpenSpec.ofChange fnExactTextsInWrong)

/-- 'laws.FnExactBends': WHATEVER THE INPUT: true; the input reads as it did. -/
def fnExactBendsSpec : ChangeSpec := { name := "fnExactBends", fn := fun _ => fun
  | [d1, d2, d3] => { results := [.lit (.bool true)], args := [d1, d2, d3] }
  | _ => none }
def fnExactBendsRow : OpenClaim := { program := "ytblcmajhdndmfaa", sum := "61cc0d207f25e072b88549abcadac96470ea4f96819cd1781d06c44a95935b57", func := "loop.example/g00502/laws.FnExactBends", spec := "fnExactBends", apart := false }
def FnExactBendsSaid : Prop := fnExactBendsRow.holds Try.pinned (OpenSpec.ofChange fnExactBendsSpec)

/-- ITS FALSE NEIGHBOUR: 'it returns false'. Refute it at one input. -/
def fnExactBendsWrong : ChangeSpec := { name := "fnExactBends", fn := fun _ => fun
  | [d1, d2, d3] => { results := [.lit (.bool false)], args := [d1, d2, d3] }
  | _ => none }
def FnExactBendsWrongFalsely : Prop := fnExactBendsRow.holds Try.pinned (OpenSpec.ofChange fnExactBendsWrong)

/-- 'laws.FnExactFewer': WHATEVER THE INPUT: true; the input reads as it did. -/
def fnExactFewerSpec : ChangeSpec := { name := "fnExactFewer", fn := fun _ => fun
  | [d1, d2] => { results := [.lit (.bool true)], args := [d1, d2] }
  | _ => none }
def fnExactFewerRow : OpenClaim := { program := "ytblcmajhdndmfaa", sum := "61cc0d207f25e072b88549abcadac96470ea4f96819cd1781d06c44a95935b57", func := "loop.example/g00502/laws.FnExactFewer", spec := "fnExactFewer", apart := false }
def FnExactFewerSaid : Prop := fnExactFewerRow.holds Try.pinned (OpenSpec.ofChange fnExactFewerSpec)

/-- ITS FALSE NEIGHBOUR: 'it returns false'. Refute it at one input. -/
def fnExactFewerWrong : ChangeSpec := { name := "fnExactFewer", fn := fun _ => fun
  | [d1, d2] => { results := [.lit (.bool false)], args := [d1, d2] }
  | _ => none }
def FnExactFewerWrongFalsely : Prop := fnExactFewerRow.holds Try.pinned (OpenSpec.ofChange fnExactFewerWrong)

/-- 'laws.FnExactFind': WHATEVER THE INPUT: true; the input reads as it did. -/
def fnExactFindSpec : ChangeSpec := { name := "fnExactFind", fn := fun _ => fun
  | [d1, d2] => { results := [.lit (.bool true)], args := [d1, d2] }
  | _ => none }
def fnExactFindRow : OpenClaim := { program := "ytblcmajhdndmfaa", sum := "61cc0d207f25e072b88549abcadac96470ea4f96819cd1781d06c44a95935b57", func := "loop.example/g00502/laws.FnExactFind", spec := "fnExactFind", unfollowed := true, recurses := true, loops := true, apart := false }
def FnExactFindSaid : Prop := fnExactFindRow.holds Try.pinned (OpenSpec.ofChange fnExactFindSpec)

/-- ITS FALSE NEIGHBOUR: 'it returns false'. Refute it at one input. -/
def fnExactFindWrong : ChangeSpec := { name := "fnExactFind", fn := fun _ => fun
  | [d1, d2] => { results := [.lit (.bool false)], args := [d1, d2] }
  | _ => none }
def FnExactFindWrongFalsely : Prop := fnExactFindRow.holds Try.pinned (OpenSpec.ofChange fnExactFindWrong)

/-- 'laws.FnExactKindsIn': WHATEVER THE INPUT: true; the input reads as it did. -/
def fnExactKindsInSpec : ChangeSpec := { name := "fnExactKindsIn", fn := fun _ => fun
  | [d] => { results := [.lit (.bool true)], args := [d] }
  | _ => none }
def fnExactKindsInRow : OpenClaim := { program := "ytblcmajhdndmfaa", sum := "61cc0d207f25e072b88549abcadac96470ea4f96819cd1781d06c44a95935b57", func := "loop.example/g00502/laws.FnExactKindsIn", spec := "fnExactKindsIn", unfollowed := true, recurses := true, loops := true, apart := false }
def FnExactKindsInSaid : Prop := fnExactKindsInRow.holds Try.pinned (OpenSpec.ofChange fnExactKindsInSpec)

/-- ITS FALSE NEIGHBOUR: 'it returns false'. Refute it at one input. -/
def fnExactKindsInWrong : ChangeSpec := { name := "fnExactKindsIn", fn := fun _ => fun
  | [d] => { results := [.lit (.bool false)], args := [d] }
  | _ => none }
def FnExactKindsInWrongFalsely : Prop := fnExactKindsInRow.holds Try.pinned (OpenSpec.ofChange fnExactKindsInWrong)

/-- 'laws.FnKinds': WHATEVER THE INPUT: true; the input reads as it did. -/
def fnKindsSpec : ChangeSpec := { name := "fnKinds", fn := fun _ => fun
  | [d] => { results := [.lit (.bool true)], args := [d] }
  | _ => none }
def fnKindsRow : OpenClaim := { program := "ytblcmajhdndmfaa", sum := "61cc0d207f25e072b88549abcadac96470ea4f96819cd1781d06c44a95935b57", func := "loop.example/g00502/laws.FnKinds", spec := "fnKinds", unfollowed := true, recurses := true, apart := false }
def FnKindsSaid : Prop := fnKindsRow.holds Try.pinned (OpenSpec.ofChange fnKindsSpec)

/-- ITS FALSE NEIGHBOUR: 'it returns false'. Refute it at one input. -/
def fnKindsWrong : ChangeSpec := { name := "fnKinds", fn := fun _ => fun
  | [d] => { results := [.lit (.bool false)], args := [d] }
  | _ => none }
def FnKindsWrongFalsely : Prop := fnKindsRow.holds Try.pinned (OpenSpec.ofChange fnKindsWrong)

/- THE SECOND FORM. 'bulk': how many values and letters a reading holds, each counted each time it is reached (what is shared counts as often as it is met; a slice's spare places count too). A statement '..UptoSaid' is the law's where the arguments, and the package variables that the reading takes, are together of bulk at most 1048576: NARROWER than '..Said'. Prove '..Said' where nothing that the law and all that it calls make is longer than what came in: it says more and counts as full. Else prove '..UptoSaid'. A law counts once. -/
mutual
def uptoBulk {H : Type} : DataW H → Nat
  | .lit (.string bytes) => bytes.length + 1
  | .lit _ => 1
  | .nil => 1
  | .ptr d => uptoBulk d + 1
  | .slice elems spare => uptoBulkAll elems + uptoBulkAll spare + 1
  | .agg parts => uptoBulkAll parts + 1
  | .iface _ d => uptoBulk d + 1
  | .map entries => uptoBulkEntries entries + 1
  | .held _ => 1
def uptoBulkAll {H : Type} : List (DataW H) → Nat
  | [] => 0
  | d :: r => uptoBulk d + uptoBulkAll r
def uptoBulkEntries {H : Type} : List (Lit × DataW H) → Nat
  | [] => 0
  | x :: r => uptoBulkEntry x + uptoBulkEntries r
def uptoBulkEntry {H : Type} : Lit × DataW H → Nat
  | (.string bytes, d) => bytes.length + uptoBulk d + 1
  | (_, d) => uptoBulk d + 1
 end
def uptoSmall : (H : Type) → List (DataW H) → Bool := fun _ ds => decide (uptoBulkAll ds ≤ 1048576)
def OpenSpec.upto (s : _root_.Go.ChangeSpec) : _root_.Go.OpenSpec := { _root_.Go.OpenSpec.ofChange s with cond := some uptoSmall }

/-- 'laws.FnExactSameOut', WHERE WHAT IT READS IS OF BULK AT MOST 1048576: true; the input reads as it did. -/
def fnExactSameOutUptoRow : OpenClaim := { program := "ytblcmajhdndmfaa", sum := "61cc0d207f25e072b88549abcadac96470ea4f96819cd1781d06c44a95935b57", func := "loop.example/g00502/laws.FnExactSameOut", spec := "fnExactSameOut", unfollowed := true, recurses := true, apart := false, narrowed := true }
def FnExactSameOutUptoSaid : Prop := fnExactSameOutUptoRow.holds Try.pinned (OpenSpec.upto fnExactSameOutSpec)

/-- 'laws.FnExactCountKind', WHERE WHAT IT READS IS OF BULK AT MOST 1048576: true; the input reads as it did. -/
def fnExactCountKindUptoRow : OpenClaim := { program := "ytblcmajhdndmfaa", sum := "61cc0d207f25e072b88549abcadac96470ea4f96819cd1781d06c44a95935b57", func := "loop.example/g00502/laws.FnExactCountKind", spec := "fnExactCountKind", unfollowed := true, recurses := true, loops := true, apart := false, narrowed := true }
def FnExactCountKindUptoSaid : Prop := fnExactCountKindUptoRow.holds Try.pinned (OpenSpec.upto fnExactCountKindSpec)

/-- 'laws.FnExactTextsIn', WHERE WHAT IT READS IS OF BULK AT MOST 1048576: true; the input reads as it did. -/
def fnExactTextsInUptoRow : OpenClaim := { program := "ytblcmajhdndmfaa", sum := "61cc0d207f25e072b88549abcadac96470ea4f96819cd1781d06c44a95935b57", func := "loop.example/g00502/laws.FnExactTextsIn", spec := "fnExactTextsIn", unfollowed := true, recurses := true, loops := true, apart := false, narrowed := true }
def FnExactTextsInUptoSaid : Prop := fnExactTextsInUptoRow.holds Try.pinned (OpenSpec.upto fnExactTextsInSpec)

/-- 'laws.FnExactBends', WHERE WHAT IT READS IS OF BULK AT MOST 1048576: true; the input reads as it did. -/
def fnExactBendsUptoRow : OpenClaim := { program := "ytblcmajhdndmfaa", sum := "61cc0d207f25e072b88549abcadac96470ea4f96819cd1781d06c44a95935b57", func := "loop.example/g00502/laws.FnExactBends", spec := "fnExactBends", apart := false, narrowed := true }
def FnExactBendsUptoSaid : Prop := fnExactBendsUptoRow.holds Try.pinned (OpenSpec.upto fnExactBendsSpec)

/-- 'laws.FnExactFewer', WHERE WHAT IT READS IS OF BULK AT MOST 1048576: true; the input reads as it did. -/
def fnExactFewerUptoRow : OpenClaim := { program := "ytblcmajhdndmfaa", sum := "61cc0d207f25e072b88549abcadac96470ea4f96819cd1781d06c44a95935b57", func := "loop.example/g00502/laws.FnExactFewer", spec := "fnExactFewer", apart := false, narrowed := true }
def FnExactFewerUptoSaid : Prop := fnExactFewerUptoRow.holds Try.pinned (OpenSpec.upto fnExactFewerSpec)

/-- 'laws.FnExactFind', WHERE WHAT IT READS IS OF BULK AT MOST 1048576: true; the input reads as it did. -/
def fnExactFindUptoRow : OpenClaim := { program := "ytblcmajhdndmfaa", sum := "61cc0d207f25e072b88549abcadac96470ea4f96819cd1781d06c44a95935b57", func := "loop.example/g00502/laws.FnExactFind", spec := "fnExactFind", unfollowed := true, recurses := true, loops := true, apart := false, narrowed := true }
def FnExactFindUptoSaid : Prop := fnExactFindUptoRow.holds Try.pinned (OpenSpec.upto fnExactFindSpec)

/-- 'laws.FnExactKindsIn', WHERE WHAT IT READS IS OF BULK AT MOST 1048576: true; the input reads as it did. -/
def fnExactKindsInUptoRow : OpenClaim := { program := "ytblcmajhdndmfaa", sum := "61cc0d207f25e072b88549abcadac96470ea4f96819cd1781d06c44a95935b57", func := "loop.example/g00502/laws.FnExactKindsIn", spec := "fnExactKindsIn", unfollowed := true, recurses := true, loops := true, apart := false, narrowed := true }
def FnExactKindsInUptoSaid : Prop := fnExactKindsInUptoRow.holds Try.pinned (OpenSpec.upto fnExactKindsInSpec)

/-- 'laws.FnKinds', WHERE WHAT IT READS IS OF BULK AT MOST 1048576: true; the input reads as it did. -/
def fnKindsUptoRow : OpenClaim := { program := "ytblcmajhdndmfaa", sum := "61cc0d207f25e072b88549abcadac96470ea4f96819cd1781d06c44a95935b57", func := "loop.example/g00502/laws.FnKinds", spec := "fnKinds", unfollowed := true, recurses := true, apart := false, narrowed := true }
def FnKindsUptoSaid : Prop := fnKindsUptoRow.holds Try.pinned (OpenSpec.upto fnKindsSpec)

end Rows
end Go.Proofs.Ytblcmajhdndmfaa
