/-
  No cell of these rows narrows 'for every input' (looked for: loops, veiled, ifaces, maps, wideKeys, modest, calm, conditions, laid).
  DERIVED. THE GIVEN ROWS OF THIS SEAT. 8 by the template 'for every input the law returns true; each argument reads behind the call as it read before'; 0 by the template 'total and deterministic' (their statements: YtbjehiagaikhoaaTotals.lean).
  GIVEN WITH THE SEED: the statements are not yours to turn. If you find one false, say at which input.
  Laid BY PROGRAM, IN A SANDBOX (cutbox-rows.mjs): the forced cells as the released guide's own fill.sh prints them over the translation 3ad2e1eeb712a62a… (all of the seat's roots in one cut). By AI agents, Wed Nov 11 2026. No macro, syntax, notation, axiom, sorry.
-/
import Derived.Test.YtbjehiagaikhoaaChecked
import GoSem.Claim
import GoSem.ClaimJoined
import GoSem.ClaimMapViews
import Derived.JoinedTies
import Derived.KernelRfl
namespace Go.Proofs.Ytbjehiagaikhoaa
/- THE CELL 'sum', in the pinned program and in every row, IS THE sha256 OF THE DUMP (.gsa) THAT YtbjehiagaikhoaaProg.lean LOADS. Nothing in Lean hashes anything: it is a label: what it is worth is what the hold of that sum in a sandbox is worth. -/
noncomputable def Try.pinned : Pinned := { name := "ytbjehiagaikhoaa", sum := "3ad2e1eeb712a62ae254b2ac75319538c4887d06e8a2c8a2f1ac320502164c3b", checked := Try.checked }
namespace Rows
def none {H : Type} : Left H := { results := [], args := [] }

/-- 'finesselaw04.CardLess': WHATEVER THE INPUT: true; the input reads as it did. -/
def cardLessSpec : ChangeSpec := { name := "cardLess", fn := fun _ => fun
  | [d1, d2] => { results := [.lit (.bool true)], args := [d1, d2] }
  | _ => none }
def cardLessRow : OpenClaim := { program := "ytbjehiagaikhoaa", sum := "3ad2e1eeb712a62ae254b2ac75319538c4887d06e8a2c8a2f1ac320502164c3b", func := "finesse/finesselaw04.CardLess", spec := "cardLess", inPlace := ["internal/bytealg.IndexByteString", "internal/abi.NoEscape", "internal/bytealg.MakeNoZero"], unfollowed := true, recurses := true, apart := false }
def CardLessSaid : Prop := cardLessRow.holds Try.pinned (OpenSpec.ofChange cardLessSpec)

/-- ITS FALSE NEIGHBOUR: 'it returns false'. Refute it at one input. -/
def cardLessWrong : ChangeSpec := { name := "cardLess", fn := fun _ => fun
  | [d1, d2] => { results := [.lit (.bool false)], args := [d1, d2] }
  | _ => none }
def CardLessWrongFalsely : Prop := cardLessRow.holds Try.pinned (OpenSpec.ofChange cardLessWrong)

/-- 'finesselaw04.CardTells': WHATEVER THE INPUT: true; the input reads as it did. -/
def cardTellsSpec : ChangeSpec := { name := "cardTells", fn := fun _ => fun
  | [d1, d2, d3, d4] => { results := [.lit (.bool true)], args := [d1, d2, d3, d4] }
  | _ => none }
def cardTellsRow : OpenClaim := { program := "ytbjehiagaikhoaa", sum := "3ad2e1eeb712a62ae254b2ac75319538c4887d06e8a2c8a2f1ac320502164c3b", func := "finesse/finesselaw04.CardTells", spec := "cardTells", inPlace := ["internal/bytealg.IndexByteString", "internal/abi.NoEscape", "internal/bytealg.MakeNoZero"], unfollowed := true, recurses := true, apart := false }
def CardTellsSaid : Prop := cardTellsRow.holds Try.pinned (OpenSpec.ofChange cardTellsSpec)

/-- ITS FALSE NEIGHBOUR: 'it returns false'. Refute it at one input. -/
def cardTellsWrong : ChangeSpec := { name := "cardTells", fn := fun _ => fun
  | [d1, d2, d3, d4] => { results := [.lit (.bool false)], args := [d1, d2, d3, d4] }
  | _ => none }
def CardTellsWrongFalsely : Prop := cardTellsRow.holds Try.pinned (OpenSpec.ofChange cardTellsWrong)

/-- 'finesselaw04.CardOne': WHATEVER THE INPUT: true; the input reads as it did. -/
def cardOneSpec : ChangeSpec := { name := "cardOne", fn := fun _ => fun
  | [d] => { results := [.lit (.bool true)], args := [d] }
  | _ => none }
def cardOneRow : OpenClaim := { program := "ytbjehiagaikhoaa", sum := "3ad2e1eeb712a62ae254b2ac75319538c4887d06e8a2c8a2f1ac320502164c3b", func := "finesse/finesselaw04.CardOne", spec := "cardOne", inPlace := ["internal/bytealg.IndexByteString", "internal/abi.NoEscape", "internal/bytealg.MakeNoZero"], unfollowed := true, recurses := true, apart := false }
def CardOneSaid : Prop := cardOneRow.holds Try.pinned (OpenSpec.ofChange cardOneSpec)

/-- ITS FALSE NEIGHBOUR: 'it returns false'. Refute it at one input. -/
def cardOneWrong : ChangeSpec := { name := "cardOne", fn := fun _ => fun
  | [d] => { results := [.lit (.bool false)], args := [d] }
  | _ => none }
def CardOneWrongFalsely : Prop := cardOneRow.holds Try.pinned (OpenSpec.ofChange cardOneWrong)

/-- 'finesselaw04.CardOrder': WHATEVER THE INPUT: true; the input reads as it did. -/
def cardOrderSpec : ChangeSpec := { name := "cardOrder", fn := fun _ => fun
  | [d] => { results := [.lit (.bool true)], args := [d] }
  | _ => none }
def cardOrderRow : OpenClaim := { program := "ytbjehiagaikhoaa", sum := "3ad2e1eeb712a62ae254b2ac75319538c4887d06e8a2c8a2f1ac320502164c3b", func := "finesse/finesselaw04.CardOrder", spec := "cardOrder", inPlace := ["internal/bytealg.IndexByteString", "internal/abi.NoEscape", "internal/bytealg.MakeNoZero"], unfollowed := true, recurses := true, apart := false }
def CardOrderSaid : Prop := cardOrderRow.holds Try.pinned (OpenSpec.ofChange cardOrderSpec)

/-- ITS FALSE NEIGHBOUR: 'it returns false'. Refute it at one input. -/
def cardOrderWrong : ChangeSpec := { name := "cardOrder", fn := fun _ => fun
  | [d] => { results := [.lit (.bool false)], args := [d] }
  | _ => none }
def CardOrderWrongFalsely : Prop := cardOrderRow.holds Try.pinned (OpenSpec.ofChange cardOrderWrong)

/-- 'finesselaw04.CardSets': WHATEVER THE INPUT: true; the input reads as it did. -/
def cardSetsSpec : ChangeSpec := { name := "cardSets", fn := fun _ => fun
  | [d1, d2, d3] => { results := [.lit (.bool true)], args := [d1, d2, d3] }
  | _ => none }
def cardSetsRow : OpenClaim := { program := "ytbjehiagaikhoaa", sum := "3ad2e1eeb712a62ae254b2ac75319538c4887d06e8a2c8a2f1ac320502164c3b", func := "finesse/finesselaw04.CardSets", spec := "cardSets", inPlace := ["internal/abi.NoEscape", "internal/bytealg.MakeNoZero", "internal/bytealg.IndexByteString"], unfollowed := true, recurses := true, apart := false }
def CardSetsSaid : Prop := cardSetsRow.holds Try.pinned (OpenSpec.ofChange cardSetsSpec)

/-- ITS FALSE NEIGHBOUR: 'it returns false'. Refute it at one input. -/
def cardSetsWrong : ChangeSpec := { name := "cardSets", fn := fun _ => fun
  | [d1, d2, d3] => { results := [.lit (.bool false)], args := [d1, d2, d3] }
  | _ => none }
def CardSetsWrongFalsely : Prop := cardSetsRow.holds Try.pinned (OpenSpec.ofChange cardSetsWrong)

/-- 'finesselaw04.CardBack': WHATEVER THE INPUT: true; the input reads as it did. -/
def cardBackSpec : ChangeSpec := { name := "cardBack", fn := fun _ => fun
  | [d1, d2, d3, d4] => { results := [.lit (.bool true)], args := [d1, d2, d3, d4] }
  | _ => none }
def cardBackRow : OpenClaim := { program := "ytbjehiagaikhoaa", sum := "3ad2e1eeb712a62ae254b2ac75319538c4887d06e8a2c8a2f1ac320502164c3b", func := "finesse/finesselaw04.CardBack", spec := "cardBack", inPlace := ["internal/abi.NoEscape", "internal/bytealg.MakeNoZero", "internal/bytealg.IndexByteString"], unfollowed := true, recurses := true, apart := false }
def CardBackSaid : Prop := cardBackRow.holds Try.pinned (OpenSpec.ofChange cardBackSpec)

/-- ITS FALSE NEIGHBOUR: 'it returns false'. Refute it at one input. -/
def cardBackWrong : ChangeSpec := { name := "cardBack", fn := fun _ => fun
  | [d1, d2, d3, d4] => { results := [.lit (.bool false)], args := [d1, d2, d3, d4] }
  | _ => none }
def CardBackWrongFalsely : Prop := cardBackRow.holds Try.pinned (OpenSpec.ofChange cardBackWrong)

/-- 'finesselaw04.CardSmall': WHATEVER THE INPUT: true; the input reads as it did. -/
def cardSmallSpec : ChangeSpec := { name := "cardSmall", fn := fun _ => fun
  | [] => { results := [.lit (.bool true)], args := [] }
  | _ => none }
def cardSmallRow : OpenClaim := { program := "ytbjehiagaikhoaa", sum := "3ad2e1eeb712a62ae254b2ac75319538c4887d06e8a2c8a2f1ac320502164c3b", func := "finesse/finesselaw04.CardSmall", spec := "cardSmall", inPlace := ["internal/bytealg.IndexByteString", "internal/abi.NoEscape", "internal/bytealg.MakeNoZero"], unfollowed := true, recurses := true, apart := false }
def CardSmallSaid : Prop := cardSmallRow.holds Try.pinned (OpenSpec.ofChange cardSmallSpec)

/-- ITS FALSE NEIGHBOUR: 'it returns false'. Refute it at one input. -/
def cardSmallWrong : ChangeSpec := { name := "cardSmall", fn := fun _ => fun
  | [] => { results := [.lit (.bool false)], args := [] }
  | _ => none }
def CardSmallWrongFalsely : Prop := cardSmallRow.holds Try.pinned (OpenSpec.ofChange cardSmallWrong)

/-- 'finesselaw04.CardWrong': WHATEVER THE INPUT: true; the input reads as it did. -/
def cardWrongSpec : ChangeSpec := { name := "cardWrong", fn := fun _ => fun
  | [d1, d2, d3, d4] => { results := [.lit (.bool true)], args := [d1, d2, d3, d4] }
  | _ => none }
def cardWrongRow : OpenClaim := { program := "ytbjehiagaikhoaa", sum := "3ad2e1eeb712a62ae254b2ac75319538c4887d06e8a2c8a2f1ac320502164c3b", func := "finesse/finesselaw04.CardWrong", spec := "cardWrong", inPlace := ["internal/abi.NoEscape", "internal/bytealg.MakeNoZero", "internal/bytealg.IndexByteString"], unfollowed := true, recurses := true, apart := false }
def CardWrongSaid : Prop := cardWrongRow.holds Try.pinned (OpenSpec.ofChange cardWrongSpec)

/-- ITS FALSE NEIGHBOUR: 'it returns false'. Refute it at one input. -/
def cardWrongWrong : ChangeSpec := { name := "cardWrong", fn := fun _ => fun
  | [d1, d2, d3, d4] => { results := [.lit (.bool false)], args := [d1, d2, d3, d4] }
  | _ => none }
def CardWrongWrongFalsely : Prop := cardWrongRow.holds Try.pinned (OpenSpec.ofChange cardWrongWrong)

/- THE SECOND FORM. 'bulk': how many values and letters a reading holds, each counted each time it is reached (what is shared counts as often as it is met; a slice's spare places count too). A statement '..UptoSaid' is the law's where the arguments, and the package variables that the reading takes, are together of bulk at most 1048576: NARROWER than '..Said'. Prove '..Said' where nothing that the law and all that it calls make is longer than what came in: it says more and counts as full. Else prove '..UptoSaid'. A law counts once. -/
mutual
def uptoBulk {H : Type} : DataW H → Nat
  | .lit (.string bytes) => bytes.length + 1
  | .lit _ => 1
  | .nil => 1
  | .ptr d => uptoBulk d + 1
  | .slice elems spare => uptoBulkAll elems + uptoBulkAll spare + 1
  | .agg parts => uptoBulkAll parts + 1
  | .iface _ d => uptoBulk d + 1
  | .map entries => uptoBulkEntries entries + 1
  | .held _ => 1
def uptoBulkAll {H : Type} : List (DataW H) → Nat
  | [] => 0
  | d :: r => uptoBulk d + uptoBulkAll r
def uptoBulkEntries {H : Type} : List (Lit × DataW H) → Nat
  | [] => 0
  | x :: r => uptoBulkEntry x + uptoBulkEntries r
def uptoBulkEntry {H : Type} : Lit × DataW H → Nat
  | (.string bytes, d) => bytes.length + uptoBulk d + 1
  | (_, d) => uptoBulk d + 1
 end
def uptoSmall : (H : Type) → List (DataW H) → Bool := fun _ ds => decide (uptoBulkAll ds ≤ 1048576)
def OpenSpec.upto (s : _root_.Go.ChangeSpec) : _root_.Go.OpenSpec := { _root_.Go.OpenSpec.ofChange s with cond := some uptoSmall }

/-- 'finesselaw04.CardLess', WHERE WHAT IT READS IS OF BULK AT MOST 1048576: true; the input reads as it did. -/
def cardLessUptoRow : OpenClaim := { program := "ytbjehiagaikhoaa", sum := "3ad2e1eeb712a62ae254b2ac75319538c4887d06e8a2c8a2f1ac320502164c3b", func := "finesse/finesselaw04.CardLess", spec := "cardLess", inPlace := ["internal/bytealg.IndexByteString", "internal/abi.NoEscape", "internal/bytealg.MakeNoZero"], unfollowed := true, recurses := true, apart := false, narrowed := true }
def CardLessUptoSaid : Prop := cardLessUptoRow.holds Try.pinned (OpenSpec.upto cardLessSpec)

/-- 'finesselaw04.CardTells', WHERE WHAT IT READS IS OF BULK AT MOST 1048576: true; the input reads as it did. -/
def cardTellsUptoRow : OpenClaim := { program := "ytbjehiagaikhoaa", sum := "3ad2e1eeb712a62ae254b2ac75319538c4887d06e8a2c8a2f1ac320502164c3b", func := "finesse/finesselaw04.CardTells", spec := "cardTells", inPlace := ["internal/bytealg.IndexByteString", "internal/abi.NoEscape", "internal/bytealg.MakeNoZero"], unfollowed := true, recurses := true, apart := false, narrowed := true }
def CardTellsUptoSaid : Prop := cardTellsUptoRow.holds Try.pinned (OpenSpec.upto cardTellsSpec)

/-- 'finesselaw04.CardOne', WHERE WHAT IT READS IS OF BULK AT MOST 1048576: true; the input reads as it did. -/
def cardOneUptoRow : OpenClaim := { program := "ytbjehiagaikhoaa", sum := "3ad2e1eeb712a62ae254b2ac75319538c4887d06e8a2c8a2f1ac320502164c3b", func := "finesse/finesselaw04.CardOne", spec := "cardOne", inPlace := ["internal/bytealg.IndexByteString", "internal/abi.NoEscape", "internal/bytealg.MakeNoZero"], unfollowed := true, recurses := true, apart := false, narrowed := true }
def CardOneUptoSaid : Prop := cardOneUptoRow.holds Try.pinned (OpenSpec.upto cardOneSpec)

/-- 'finesselaw04.CardOrder', WHERE WHAT IT READS IS OF BULK AT MOST 1048576: true; the input reads as it did. -/
def cardOrderUptoRow : OpenClaim := { program := "ytbjehiagaikhoaa", sum := "3ad2e1eeb712a62ae254b2ac75319538c4887d06e8a2c8a2f1ac320502164c3b", func := "finesse/finesselaw04.CardOrder", spec := "cardOrder", inPlace := ["internal/bytealg.IndexByteString", "internal/abi.NoEscape", "internal/bytealg.MakeNoZero"], unfollowed := true, recurses := true, apart := false, narrowed := true }
def CardOrderUptoSaid : Prop := cardOrderUptoRow.holds Try.pinned (OpenSpec.upto cardOrderSpec)

/-- 'finesselaw04.CardSets', WHERE WHAT IT READS IS OF BULK AT MOST 1048576: true; the input reads as it did. -/
def cardSetsUptoRow : OpenClaim := { program := "ytbjehiagaikhoaa", sum := "3ad2e1eeb712a62ae254b2ac75319538c4887d06e8a2c8a2f1ac320502164c3b", func := "finesse/finesselaw04.CardSets", spec := "cardSets", inPlace := ["internal/abi.NoEscape", "internal/bytealg.MakeNoZero", "internal/bytealg.IndexByteString"], unfollowed := true, recurses := true, apart := false, narrowed := true }
def CardSetsUptoSaid : Prop := cardSetsUptoRow.holds Try.pinned (OpenSpec.upto cardSetsSpec)

/-- 'finesselaw04.CardBack', WHERE WHAT IT READS IS OF BULK AT MOST 1048576: true; the input reads as it did. -/
def cardBackUptoRow : OpenClaim := { program := "ytbjehiagaikhoaa", sum := "3ad2e1eeb712a62ae254b2ac75319538c4887d06e8a2c8a2f1ac320502164c3b", func := "finesse/finesselaw04.CardBack", spec := "cardBack", inPlace := ["internal/abi.NoEscape", "internal/bytealg.MakeNoZero", "internal/bytealg.IndexByteString"], unfollowed := true, recurses := true, apart := false, narrowed := true }
def CardBackUptoSaid : Prop := cardBackUptoRow.holds Try.pinned (OpenSpec.upto cardBackSpec)

/-- 'finesselaw04.CardSmall', WHERE WHAT IT READS IS OF BULK AT MOST 1048576: true; the input reads as it did. -/
def cardSmallUptoRow : OpenClaim := { program := "ytbjehiagaikhoaa", sum := "3ad2e1eeb712a62ae254b2ac75319538c4887d06e8a2c8a2f1ac320502164c3b", func := "finesse/finesselaw04.CardSmall", spec := "cardSmall", inPlace := ["internal/bytealg.IndexByteString", "internal/abi.NoEscape", "internal/bytealg.MakeNoZero"], unfollowed := true, recurses := true, apart := false, narrowed := true }
def CardSmallUptoSaid : Prop := cardSmallUptoRow.holds Try.pinned (OpenSpec.upto cardSmallSpec)

/-- 'finesselaw04.CardWrong', WHERE WHAT IT READS IS OF BULK AT MOST 1048576: true; the input reads as it did. -/
def cardWrongUptoRow : OpenClaim := { program := "ytbjehiagaikhoaa", sum := "3ad2e1eeb712a62ae254b2ac75319538c4887d06e8a2c8a2f1ac320502164c3b", func := "finesse/finesselaw04.CardWrong", spec := "cardWrong", inPlace := ["internal/abi.NoEscape", "internal/bytealg.MakeNoZero", "internal/bytealg.IndexByteString"], unfollowed := true, recurses := true, apart := false, narrowed := true }
def CardWrongUptoSaid : Prop := cardWrongUptoRow.holds Try.pinned (OpenSpec.upto cardWrongSpec)

end Rows
end Go.Proofs.Ytbjehiagaikhoaa
