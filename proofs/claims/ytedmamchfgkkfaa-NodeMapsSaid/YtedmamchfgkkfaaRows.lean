/-
  No cell of these rows narrows 'for every input' (looked for: loops, veiled, ifaces, maps, wideKeys, modest, calm, conditions, laid).
  DERIVED. THE GIVEN ROWS OF THIS SEAT. 9 by the template 'for every input the law returns true; each argument reads behind the call as it read before'; 0 by the template 'total and deterministic' (their statements: YtedmamchfgkkfaaTotals.lean).
  GIVEN WITH THE SEED: the statements are not yours to turn. If you find one false, say at which input.
  Laid BY PROGRAM, IN A SANDBOX (cutbox-rows.mjs): the forced cells as the released guide's own fill.sh prints them over the translation 6089253de6a59451… (all of the seat's roots in one cut). By AI agents, Wed Nov 11 2026. No macro, syntax, notation, axiom, sorry.
-/
import Derived.Test.YtedmamchfgkkfaaChecked
import GoSem.Claim
import GoSem.ClaimJoined
import GoSem.ClaimMapViews
import Derived.JoinedTies
import Derived.KernelRfl
namespace Go.Proofs.Ytedmamchfgkkfaa
/- THE CELL 'sum', in the pinned program and in every row, IS THE sha256 OF THE DUMP (.gsa) THAT YtedmamchfgkkfaaProg.lean LOADS. Nothing in Lean hashes anything: it is a label: what it is worth is what the hold of that sum in a sandbox is worth. -/
noncomputable def Try.pinned : Pinned := { name := "ytedmamchfgkkfaa", sum := "6089253de6a594519ed541f27d1df1fd6282025be843706fa1763de19094d388", checked := Try.checked }
namespace Rows
def none {H : Type} : Left H := { results := [], args := [] }

/-- 'stooklaw22.DeedCodes': WHATEVER THE INPUT: true; the input reads as it did. -/
def deedCodesSpec : ChangeSpec := { name := "deedCodes", fn := fun _ => fun
  | [d1, d2] => { results := [.lit (.bool true)], args := [d1, d2] }
  | _ => none }
def deedCodesRow : OpenClaim := { program := "ytedmamchfgkkfaa", sum := "6089253de6a594519ed541f27d1df1fd6282025be843706fa1763de19094d388", func := "stook/stooklaw22.DeedCodes", spec := "deedCodes", unfollowed := true, recurses := true, apart := false }
def DeedCodesSaid : Prop := deedCodesRow.holds Try.pinned (OpenSpec.ofChange deedCodesSpec)

/-- ITS FALSE NEIGHBOUR: 'it returns false'. Refute it at one input. -/
def deedCodesWrong : ChangeSpec := { name := "deedCodes", fn := fun _ => fun
  | [d1, d2] => { results := [.lit (.bool false)], args := [d1, d2] }
  | _ => none }
def DeedCodesWrongFalsely : Prop := deedCodesRow.holds Try.pinned (OpenSpec.ofChange deedCodesWrong)

/-- 'stooklaw22.DeedAnswers': WHATEVER THE INPUT: true; the input reads as it did. -/
def deedAnswersSpec : ChangeSpec := { name := "deedAnswers", fn := fun _ => fun
  | [d1, d2, d3] => { results := [.lit (.bool true)], args := [d1, d2, d3] }
  | _ => none }
def deedAnswersRow : OpenClaim := { program := "ytedmamchfgkkfaa", sum := "6089253de6a594519ed541f27d1df1fd6282025be843706fa1763de19094d388", func := "stook/stooklaw22.DeedAnswers", spec := "deedAnswers", unfollowed := true, recurses := true, apart := false }
def DeedAnswersSaid : Prop := deedAnswersRow.holds Try.pinned (OpenSpec.ofChange deedAnswersSpec)

/-- ITS FALSE NEIGHBOUR: 'it returns false'. Refute it at one input. -/
def deedAnswersWrong : ChangeSpec := { name := "deedAnswers", fn := fun _ => fun
  | [d1, d2, d3] => { results := [.lit (.bool false)], args := [d1, d2, d3] }
  | _ => none }
def DeedAnswersWrongFalsely : Prop := deedAnswersRow.holds Try.pinned (OpenSpec.ofChange deedAnswersWrong)

/-- 'stooklaw22.DeedBack': WHATEVER THE INPUT: true; the input reads as it did. -/
def deedBackSpec : ChangeSpec := { name := "deedBack", fn := fun _ => fun
  | [d1, d2, d3] => { results := [.lit (.bool true)], args := [d1, d2, d3] }
  | _ => none }
def deedBackRow : OpenClaim := { program := "ytedmamchfgkkfaa", sum := "6089253de6a594519ed541f27d1df1fd6282025be843706fa1763de19094d388", func := "stook/stooklaw22.DeedBack", spec := "deedBack", unfollowed := true, recurses := true, apart := false }
def DeedBackSaid : Prop := deedBackRow.holds Try.pinned (OpenSpec.ofChange deedBackSpec)

/-- ITS FALSE NEIGHBOUR: 'it returns false'. Refute it at one input. -/
def deedBackWrong : ChangeSpec := { name := "deedBack", fn := fun _ => fun
  | [d1, d2, d3] => { results := [.lit (.bool false)], args := [d1, d2, d3] }
  | _ => none }
def DeedBackWrongFalsely : Prop := deedBackRow.holds Try.pinned (OpenSpec.ofChange deedBackWrong)

/-- 'stooklaw18.NodeCodes': WHATEVER THE INPUT: true; the input reads as it did. -/
def nodeCodesSpec : ChangeSpec := { name := "nodeCodes", fn := fun _ => fun
  | [d1, d2, d3] => { results := [.lit (.bool true)], args := [d1, d2, d3] }
  | _ => none }
def nodeCodesRow : OpenClaim := { program := "ytedmamchfgkkfaa", sum := "6089253de6a594519ed541f27d1df1fd6282025be843706fa1763de19094d388", func := "stook/stooklaw18.NodeCodes", spec := "nodeCodes", unfollowed := true, recurses := true, apart := false }
def NodeCodesSaid : Prop := nodeCodesRow.holds Try.pinned (OpenSpec.ofChange nodeCodesSpec)

/-- ITS FALSE NEIGHBOUR: 'it returns false'. Refute it at one input. -/
def nodeCodesWrong : ChangeSpec := { name := "nodeCodes", fn := fun _ => fun
  | [d1, d2, d3] => { results := [.lit (.bool false)], args := [d1, d2, d3] }
  | _ => none }
def NodeCodesWrongFalsely : Prop := nodeCodesRow.holds Try.pinned (OpenSpec.ofChange nodeCodesWrong)

/-- 'stooklaw18.NodeFinds': WHATEVER THE INPUT: true; the input reads as it did. -/
def nodeFindsSpec : ChangeSpec := { name := "nodeFinds", fn := fun _ => fun
  | [d1, d2] => { results := [.lit (.bool true)], args := [d1, d2] }
  | _ => none }
def nodeFindsRow : OpenClaim := { program := "ytedmamchfgkkfaa", sum := "6089253de6a594519ed541f27d1df1fd6282025be843706fa1763de19094d388", func := "stook/stooklaw18.NodeFinds", spec := "nodeFinds", unfollowed := true, recurses := true, apart := false }
def NodeFindsSaid : Prop := nodeFindsRow.holds Try.pinned (OpenSpec.ofChange nodeFindsSpec)

/-- ITS FALSE NEIGHBOUR: 'it returns false'. Refute it at one input. -/
def nodeFindsWrong : ChangeSpec := { name := "nodeFinds", fn := fun _ => fun
  | [d1, d2] => { results := [.lit (.bool false)], args := [d1, d2] }
  | _ => none }
def NodeFindsWrongFalsely : Prop := nodeFindsRow.holds Try.pinned (OpenSpec.ofChange nodeFindsWrong)

/-- 'stooklaw18.NodeParts': WHATEVER THE INPUT: true; the input reads as it did. -/
def nodePartsSpec : ChangeSpec := { name := "nodeParts", fn := fun _ => fun
  | [d1, d2, d3] => { results := [.lit (.bool true)], args := [d1, d2, d3] }
  | _ => none }
def nodePartsRow : OpenClaim := { program := "ytedmamchfgkkfaa", sum := "6089253de6a594519ed541f27d1df1fd6282025be843706fa1763de19094d388", func := "stook/stooklaw18.NodeParts", spec := "nodeParts", unfollowed := true, recurses := true, apart := false }
def NodePartsSaid : Prop := nodePartsRow.holds Try.pinned (OpenSpec.ofChange nodePartsSpec)

/-- ITS FALSE NEIGHBOUR: 'it returns false'. Refute it at one input. -/
def nodePartsWrong : ChangeSpec := { name := "nodeParts", fn := fun _ => fun
  | [d1, d2, d3] => { results := [.lit (.bool false)], args := [d1, d2, d3] }
  | _ => none }
def NodePartsWrongFalsely : Prop := nodePartsRow.holds Try.pinned (OpenSpec.ofChange nodePartsWrong)

/-- 'stooklaw18.NodeHalves': WHATEVER THE INPUT: true; the input reads as it did. -/
def nodeHalvesSpec : ChangeSpec := { name := "nodeHalves", fn := fun _ => fun
  | [d] => { results := [.lit (.bool true)], args := [d] }
  | _ => none }
def nodeHalvesRow : OpenClaim := { program := "ytedmamchfgkkfaa", sum := "6089253de6a594519ed541f27d1df1fd6282025be843706fa1763de19094d388", func := "stook/stooklaw18.NodeHalves", spec := "nodeHalves", unfollowed := true, recurses := true, apart := false }
def NodeHalvesSaid : Prop := nodeHalvesRow.holds Try.pinned (OpenSpec.ofChange nodeHalvesSpec)

/-- ITS FALSE NEIGHBOUR: 'it returns false'. Refute it at one input. -/
def nodeHalvesWrong : ChangeSpec := { name := "nodeHalves", fn := fun _ => fun
  | [d] => { results := [.lit (.bool false)], args := [d] }
  | _ => none }
def NodeHalvesWrongFalsely : Prop := nodeHalvesRow.holds Try.pinned (OpenSpec.ofChange nodeHalvesWrong)

/-- 'stooklaw18.NodeSets': WHATEVER THE INPUT: true; the input reads as it did. -/
def nodeSetsSpec : ChangeSpec := { name := "nodeSets", fn := fun _ => fun
  | [d1, d2, d3] => { results := [.lit (.bool true)], args := [d1, d2, d3] }
  | _ => none }
def nodeSetsRow : OpenClaim := { program := "ytedmamchfgkkfaa", sum := "6089253de6a594519ed541f27d1df1fd6282025be843706fa1763de19094d388", func := "stook/stooklaw18.NodeSets", spec := "nodeSets", inPlace := ["slices.overlaps[string]"], unfollowed := true, recurses := true, apart := false }
def NodeSetsSaid : Prop := nodeSetsRow.holds Try.pinned (OpenSpec.ofChange nodeSetsSpec)

/-- ITS FALSE NEIGHBOUR: 'it returns false'. Refute it at one input. -/
def nodeSetsWrong : ChangeSpec := { name := "nodeSets", fn := fun _ => fun
  | [d1, d2, d3] => { results := [.lit (.bool false)], args := [d1, d2, d3] }
  | _ => none }
def NodeSetsWrongFalsely : Prop := nodeSetsRow.holds Try.pinned (OpenSpec.ofChange nodeSetsWrong)

/-- 'stooklaw18.NodeMaps': WHATEVER THE INPUT: true; the input reads as it did. -/
def nodeMapsSpec : ChangeSpec := { name := "nodeMaps", fn := fun _ => fun
  | [d] => { results := [.lit (.bool true)], args := [d] }
  | _ => none }
def nodeMapsRow : OpenClaim := { program := "ytedmamchfgkkfaa", sum := "6089253de6a594519ed541f27d1df1fd6282025be843706fa1763de19094d388", func := "stook/stooklaw18.NodeMaps", spec := "nodeMaps", inPlace := ["slices.overlaps[string]"], unfollowed := true, recurses := true, apart := false }
def NodeMapsSaid : Prop := nodeMapsRow.holds Try.pinned (OpenSpec.ofChange nodeMapsSpec)

/-- ITS FALSE NEIGHBOUR: 'it returns false'. Refute it at one input. -/
def nodeMapsWrong : ChangeSpec := { name := "nodeMaps", fn := fun _ => fun
  | [d] => { results := [.lit (.bool false)], args := [d] }
  | _ => none }
def NodeMapsWrongFalsely : Prop := nodeMapsRow.holds Try.pinned (OpenSpec.ofChange nodeMapsWrong)

/- THE SECOND FORM. 'bulk': how many values and letters a reading holds, each counted each time it is reached (what is shared counts as often as it is met; a slice's spare places count too). A statement '..UptoSaid' is the law's where the arguments, and the package variables that the reading takes, are together of bulk at most 1048576: NARROWER than '..Said'. Prove '..Said' where nothing that the law and all that it calls make is longer than what came in: it says more and counts as full. Else prove '..UptoSaid'. A law counts once. -/
mutual
def uptoBulk {H : Type} : DataW H → Nat
  | .lit (.string bytes) => bytes.length + 1
  | .lit _ => 1
  | .nil => 1
  | .ptr d => uptoBulk d + 1
  | .slice elems spare => uptoBulkAll elems + uptoBulkAll spare + 1
  | .agg parts => uptoBulkAll parts + 1
  | .iface _ d => uptoBulk d + 1
  | .map entries => uptoBulkEntries entries + 1
  | .held _ => 1
def uptoBulkAll {H : Type} : List (DataW H) → Nat
  | [] => 0
  | d :: r => uptoBulk d + uptoBulkAll r
def uptoBulkEntries {H : Type} : List (Lit × DataW H) → Nat
  | [] => 0
  | x :: r => uptoBulkEntry x + uptoBulkEntries r
def uptoBulkEntry {H : Type} : Lit × DataW H → Nat
  | (.string bytes, d) => bytes.length + uptoBulk d + 1
  | (_, d) => uptoBulk d + 1
 end
def uptoSmall : (H : Type) → List (DataW H) → Bool := fun _ ds => decide (uptoBulkAll ds ≤ 1048576)
def OpenSpec.upto (s : _root_.Go.ChangeSpec) : _root_.Go.OpenSpec := { _root_.Go.OpenSpec.ofChange s with cond := some uptoSmall }

/-- 'stooklaw22.DeedCodes', WHERE WHAT IT READS IS OF BULK AT MOST 1048576: true; the input reads as it did. -/
def deedCodesUptoRow : OpenClaim := { program := "ytedmamchfgkkfaa", sum := "6089253de6a594519ed541f27d1df1fd6282025be843706fa1763de19094d388", func := "stook/stooklaw22.DeedCodes", spec := "deedCodes", unfollowed := true, recurses := true, apart := false, narrowed := true }
def DeedCodesUptoSaid : Prop := deedCodesUptoRow.holds Try.pinned (OpenSpec.upto deedCodesSpec)

/-- 'stooklaw22.DeedAnswers', WHERE WHAT IT READS IS OF BULK AT MOST 1048576: true; the input reads as it did. -/
def deedAnswersUptoRow : OpenClaim := { program := "ytedmamchfgkkfaa", sum := "6089253de6a594519ed541f27d1df1fd6282025be843706fa1763de19094d388", func := "stook/stooklaw22.DeedAnswers", spec := "deedAnswers", unfollowed := true, recurses := true, apart := false, narrowed := true }
def DeedAnswersUptoSaid : Prop := deedAnswersUptoRow.holds Try.pinned (OpenSpec.upto deedAnswersSpec)

/-- 'stooklaw22.DeedBack', WHERE WHAT IT READS IS OF BULK AT MOST 1048576: true; the input reads as it did. -/
def deedBackUptoRow : OpenClaim := { program := "ytedmamchfgkkfaa", sum := "6089253de6a594519ed541f27d1df1fd6282025be843706fa1763de19094d388", func := "stook/stooklaw22.DeedBack", spec := "deedBack", unfollowed := true, recurses := true, apart := false, narrowed := true }
def DeedBackUptoSaid : Prop := deedBackUptoRow.holds Try.pinned (OpenSpec.upto deedBackSpec)

/-- 'stooklaw18.NodeCodes', WHERE WHAT IT READS IS OF BULK AT MOST 1048576: true; the input reads as it did. -/
def nodeCodesUptoRow : OpenClaim := { program := "ytedmamchfgkkfaa", sum := "6089253de6a594519ed541f27d1df1fd6282025be843706fa1763de19094d388", func := "stook/stooklaw18.NodeCodes", spec := "nodeCodes", unfollowed := true, recurses := true, apart := false, narrowed := true }
def NodeCodesUptoSaid : Prop := nodeCodesUptoRow.holds Try.pinned (OpenSpec.upto nodeCodesSpec)

/-- 'stooklaw18.NodeFinds', WHERE WHAT IT READS IS OF BULK AT MOST 1048576: true; the input reads as it did. -/
def nodeFindsUptoRow : OpenClaim := { program := "ytedmamchfgkkfaa", sum := "6089253de6a594519ed541f27d1df1fd6282025be843706fa1763de19094d388", func := "stook/stooklaw18.NodeFinds", spec := "nodeFinds", unfollowed := true, recurses := true, apart := false, narrowed := true }
def NodeFindsUptoSaid : Prop := nodeFindsUptoRow.holds Try.pinned (OpenSpec.upto nodeFindsSpec)

/-- 'stooklaw18.NodeParts', WHERE WHAT IT READS IS OF BULK AT MOST 1048576: true; the input reads as it did. -/
def nodePartsUptoRow : OpenClaim := { program := "ytedmamchfgkkfaa", sum := "6089253de6a594519ed541f27d1df1fd6282025be843706fa1763de19094d388", func := "stook/stooklaw18.NodeParts", spec := "nodeParts", unfollowed := true, recurses := true, apart := false, narrowed := true }
def NodePartsUptoSaid : Prop := nodePartsUptoRow.holds Try.pinned (OpenSpec.upto nodePartsSpec)

/-- 'stooklaw18.NodeHalves', WHERE WHAT IT READS IS OF BULK AT MOST 1048576: true; the input reads as it did. -/
def nodeHalvesUptoRow : OpenClaim := { program := "ytedmamchfgkkfaa", sum := "6089253de6a594519ed541f27d1df1fd6282025be843706fa1763de19094d388", func := "stook/stooklaw18.NodeHalves", spec := "nodeHalves", unfollowed := true, recurses := true, apart := false, narrowed := true }
def NodeHalvesUptoSaid : Prop := nodeHalvesUptoRow.holds Try.pinned (OpenSpec.upto nodeHalvesSpec)

/-- 'stooklaw18.NodeSets', WHERE WHAT IT READS IS OF BULK AT MOST 1048576: true; the input reads as it did. -/
def nodeSetsUptoRow : OpenClaim := { program := "ytedmamchfgkkfaa", sum := "6089253de6a594519ed541f27d1df1fd6282025be843706fa1763de19094d388", func := "stook/stooklaw18.NodeSets", spec := "nodeSets", inPlace := ["slices.overlaps[string]"], unfollowed := true, recurses := true, apart := false, narrowed := true }
def NodeSetsUptoSaid : Prop := nodeSetsUptoRow.holds Try.pinned (OpenSpec.upto nodeSetsSpec)

/-- 'stooklaw18.NodeMaps', WHERE WHAT IT READS IS OF BULK AT MOST 1048576: true; the input reads as it did. -/
def nodeMapsUptoRow : OpenClaim := { program := "ytedmamchfgkkfaa", sum := "6089253de6a594519ed541f27d1df1fd6282025be843706fa1763de19094d388", func := "stook/stooklaw18.NodeMaps", spec := "nodeMaps", inPlace := ["slices.overlaps[string]"], unfollowed := true, recurses := true, apart := false, narrowed := true }
def NodeMapsUptoSaid : Prop := nodeMapsUptoRow.holds Try.pinned (OpenSpec.upto nodeMapsSpec)

end Rows
end Go.Proofs.Ytedmamchfgkkfaa
