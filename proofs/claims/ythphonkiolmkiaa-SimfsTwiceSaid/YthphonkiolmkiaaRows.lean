/-
  No cell of these rows narrows 'for every input' (looked for: loops, veiled, ifaces, maps, wideKeys, modest, calm, conditions, laid).
  DERIVED. THE GIVEN ROWS OF THIS SEAT. 11 by the template 'for every input the law returns true; each argument reads behind the call as it read before'; 0 by the template 'total and deterministic' (their statements: YthphonkiolmkiaaTotals.lean).
  GIVEN WITH THE SEED: the statements are not yours to turn. If you find one false, say at which input.
  Laid BY PROGRAM, IN A SANDBOX (cutbox-rows.mjs): the forced cells as the released guide's own fill.sh prints them over the translation 59a389eb59e9071e… (all of the seat's roots in one cut). By AI agents, Wed Nov 11 2026. No macro, syntax, notation, axiom, sorry.
-/
import Derived.Test.YthphonkiolmkiaaChecked
import GoSem.Claim
import GoSem.ClaimJoined
import GoSem.ClaimMapViews
import Derived.JoinedTies
import Derived.KernelRfl
namespace Go.Proofs.Ythphonkiolmkiaa
/- THE CELL 'sum', in the pinned program and in every row, IS THE sha256 OF THE DUMP (.gsa) THAT YthphonkiolmkiaaProg.lean LOADS. Nothing in Lean hashes anything: it is a label: what it is worth is what the hold of that sum in a sandbox is worth. -/
noncomputable def Try.pinned : Pinned := { name := "ythphonkiolmkiaa", sum := "59a389eb59e9071e5c3d4388e8801f6c0afce3a0a8539408de300b762ce92867", checked := Try.checked }
namespace Rows
def none {H : Type} : Left H := { results := [], args := [] }

/-- 'stooklaw14.SimfsTail': WHATEVER THE INPUT: true; the input reads as it did. -/
def simfsTailSpec : ChangeSpec := { name := "simfsTail", fn := fun _ => fun
  | [d1, d2, d3] => { results := [.lit (.bool true)], args := [d1, d2, d3] }
  | _ => none }
def simfsTailRow : OpenClaim := { program := "ythphonkiolmkiaa", sum := "59a389eb59e9071e5c3d4388e8801f6c0afce3a0a8539408de300b762ce92867", func := "stook/stooklaw14.SimfsTail", spec := "simfsTail", unfollowed := true, recurses := true, apart := false }
def SimfsTailSaid : Prop := simfsTailRow.holds Try.pinned (OpenSpec.ofChange simfsTailSpec)

/-- ITS FALSE NEIGHBOUR: 'it returns false'. Refute it at one input. -/
def simfsTailWrong : ChangeSpec := { name := "simfsTail", fn := fun _ => fun
  | [d1, d2, d3] => { results := [.lit (.bool false)], args := [d1, d2, d3] }
  | _ => none }
def SimfsTailWrongFalsely : Prop := simfsTailRow.holds Try.pinned (OpenSpec.ofChange simfsTailWrong)

/-- 'stooklaw14.SimfsRename': WHATEVER THE INPUT: true; the input reads as it did. -/
def simfsRenameSpec : ChangeSpec := { name := "simfsRename", fn := fun _ => fun
  | [d1, d2, d3, d4] => { results := [.lit (.bool true)], args := [d1, d2, d3, d4] }
  | _ => none }
def simfsRenameRow : OpenClaim := { program := "ythphonkiolmkiaa", sum := "59a389eb59e9071e5c3d4388e8801f6c0afce3a0a8539408de300b762ce92867", func := "stook/stooklaw14.SimfsRename", spec := "simfsRename", unfollowed := true, recurses := true, apart := false }
def SimfsRenameSaid : Prop := simfsRenameRow.holds Try.pinned (OpenSpec.ofChange simfsRenameSpec)

/-- ITS FALSE NEIGHBOUR: 'it returns false'. Refute it at one input. -/
def simfsRenameWrong : ChangeSpec := { name := "simfsRename", fn := fun _ => fun
  | [d1, d2, d3, d4] => { results := [.lit (.bool false)], args := [d1, d2, d3, d4] }
  | _ => none }
def SimfsRenameWrongFalsely : Prop := simfsRenameRow.holds Try.pinned (OpenSpec.ofChange simfsRenameWrong)

/-- 'stooklaw14.SimfsBlocks': WHATEVER THE INPUT: true; the input reads as it did. -/
def simfsBlocksSpec : ChangeSpec := { name := "simfsBlocks", fn := fun _ => fun
  | [d1, d2, d3, d4] => { results := [.lit (.bool true)], args := [d1, d2, d3, d4] }
  | _ => none }
def simfsBlocksRow : OpenClaim := { program := "ythphonkiolmkiaa", sum := "59a389eb59e9071e5c3d4388e8801f6c0afce3a0a8539408de300b762ce92867", func := "stook/stooklaw14.SimfsBlocks", spec := "simfsBlocks", unfollowed := true, recurses := true, apart := false }
def SimfsBlocksSaid : Prop := simfsBlocksRow.holds Try.pinned (OpenSpec.ofChange simfsBlocksSpec)

/-- ITS FALSE NEIGHBOUR: 'it returns false'. Refute it at one input. -/
def simfsBlocksWrong : ChangeSpec := { name := "simfsBlocks", fn := fun _ => fun
  | [d1, d2, d3, d4] => { results := [.lit (.bool false)], args := [d1, d2, d3, d4] }
  | _ => none }
def SimfsBlocksWrongFalsely : Prop := simfsBlocksRow.holds Try.pinned (OpenSpec.ofChange simfsBlocksWrong)

/-- 'stooklaw14.SimfsFresh': WHATEVER THE INPUT: true; the input reads as it did. -/
def simfsFreshSpec : ChangeSpec := { name := "simfsFresh", fn := fun _ => fun
  | [d1, d2] => { results := [.lit (.bool true)], args := [d1, d2] }
  | _ => none }
def simfsFreshRow : OpenClaim := { program := "ythphonkiolmkiaa", sum := "59a389eb59e9071e5c3d4388e8801f6c0afce3a0a8539408de300b762ce92867", func := "stook/stooklaw14.SimfsFresh", spec := "simfsFresh", unfollowed := true, recurses := true, apart := false }
def SimfsFreshSaid : Prop := simfsFreshRow.holds Try.pinned (OpenSpec.ofChange simfsFreshSpec)

/-- ITS FALSE NEIGHBOUR: 'it returns false'. Refute it at one input. -/
def simfsFreshWrong : ChangeSpec := { name := "simfsFresh", fn := fun _ => fun
  | [d1, d2] => { results := [.lit (.bool false)], args := [d1, d2] }
  | _ => none }
def SimfsFreshWrongFalsely : Prop := simfsFreshRow.holds Try.pinned (OpenSpec.ofChange simfsFreshWrong)

/-- 'stooklaw14.SimfsSure': WHATEVER THE INPUT: true; the input reads as it did. -/
def simfsSureSpec : ChangeSpec := { name := "simfsSure", fn := fun _ => fun
  | [d1, d2, d3] => { results := [.lit (.bool true)], args := [d1, d2, d3] }
  | _ => none }
def simfsSureRow : OpenClaim := { program := "ythphonkiolmkiaa", sum := "59a389eb59e9071e5c3d4388e8801f6c0afce3a0a8539408de300b762ce92867", func := "stook/stooklaw14.SimfsSure", spec := "simfsSure", unfollowed := true, recurses := true, apart := false }
def SimfsSureSaid : Prop := simfsSureRow.holds Try.pinned (OpenSpec.ofChange simfsSureSpec)

/-- ITS FALSE NEIGHBOUR: 'it returns false'. Refute it at one input. -/
def simfsSureWrong : ChangeSpec := { name := "simfsSure", fn := fun _ => fun
  | [d1, d2, d3] => { results := [.lit (.bool false)], args := [d1, d2, d3] }
  | _ => none }
def SimfsSureWrongFalsely : Prop := simfsSureRow.holds Try.pinned (OpenSpec.ofChange simfsSureWrong)

/-- 'stooklaw14.SimfsRoom': WHATEVER THE INPUT: true; the input reads as it did. -/
def simfsRoomSpec : ChangeSpec := { name := "simfsRoom", fn := fun _ => fun
  | [d1, d2] => { results := [.lit (.bool true)], args := [d1, d2] }
  | _ => none }
def simfsRoomRow : OpenClaim := { program := "ythphonkiolmkiaa", sum := "59a389eb59e9071e5c3d4388e8801f6c0afce3a0a8539408de300b762ce92867", func := "stook/stooklaw14.SimfsRoom", spec := "simfsRoom", unfollowed := true, recurses := true, apart := false }
def SimfsRoomSaid : Prop := simfsRoomRow.holds Try.pinned (OpenSpec.ofChange simfsRoomSpec)

/-- ITS FALSE NEIGHBOUR: 'it returns false'. Refute it at one input. -/
def simfsRoomWrong : ChangeSpec := { name := "simfsRoom", fn := fun _ => fun
  | [d1, d2] => { results := [.lit (.bool false)], args := [d1, d2] }
  | _ => none }
def SimfsRoomWrongFalsely : Prop := simfsRoomRow.holds Try.pinned (OpenSpec.ofChange simfsRoomWrong)

/-- 'stooklaw14.SimfsDead': WHATEVER THE INPUT: true; the input reads as it did. -/
def simfsDeadSpec : ChangeSpec := { name := "simfsDead", fn := fun _ => fun
  | [d1, d2, d3, d4, d5] => { results := [.lit (.bool true)], args := [d1, d2, d3, d4, d5] }
  | _ => none }
def simfsDeadRow : OpenClaim := { program := "ythphonkiolmkiaa", sum := "59a389eb59e9071e5c3d4388e8801f6c0afce3a0a8539408de300b762ce92867", func := "stook/stooklaw14.SimfsDead", spec := "simfsDead", unfollowed := true, recurses := true, apart := false }
def SimfsDeadSaid : Prop := simfsDeadRow.holds Try.pinned (OpenSpec.ofChange simfsDeadSpec)

/-- ITS FALSE NEIGHBOUR: 'it returns false'. Refute it at one input. -/
def simfsDeadWrong : ChangeSpec := { name := "simfsDead", fn := fun _ => fun
  | [d1, d2, d3, d4, d5] => { results := [.lit (.bool false)], args := [d1, d2, d3, d4, d5] }
  | _ => none }
def SimfsDeadWrongFalsely : Prop := simfsDeadRow.holds Try.pinned (OpenSpec.ofChange simfsDeadWrong)

/-- 'stooklaw14.SimfsPlays': WHATEVER THE INPUT: true; the input reads as it did. -/
def simfsPlaysSpec : ChangeSpec := { name := "simfsPlays", fn := fun _ => fun
  | [d1, d2] => { results := [.lit (.bool true)], args := [d1, d2] }
  | _ => none }
def simfsPlaysRow : OpenClaim := { program := "ythphonkiolmkiaa", sum := "59a389eb59e9071e5c3d4388e8801f6c0afce3a0a8539408de300b762ce92867", func := "stook/stooklaw14.SimfsPlays", spec := "simfsPlays", unfollowed := true, recurses := true, apart := false }
def SimfsPlaysSaid : Prop := simfsPlaysRow.holds Try.pinned (OpenSpec.ofChange simfsPlaysSpec)

/-- ITS FALSE NEIGHBOUR: 'it returns false'. Refute it at one input. -/
def simfsPlaysWrong : ChangeSpec := { name := "simfsPlays", fn := fun _ => fun
  | [d1, d2] => { results := [.lit (.bool false)], args := [d1, d2] }
  | _ => none }
def SimfsPlaysWrongFalsely : Prop := simfsPlaysRow.holds Try.pinned (OpenSpec.ofChange simfsPlaysWrong)

/-- 'stooklaw14.SimfsFails': WHATEVER THE INPUT: true; the input reads as it did. -/
def simfsFailsSpec : ChangeSpec := { name := "simfsFails", fn := fun _ => fun
  | [d1, d2, d3] => { results := [.lit (.bool true)], args := [d1, d2, d3] }
  | _ => none }
def simfsFailsRow : OpenClaim := { program := "ythphonkiolmkiaa", sum := "59a389eb59e9071e5c3d4388e8801f6c0afce3a0a8539408de300b762ce92867", func := "stook/stooklaw14.SimfsFails", spec := "simfsFails", unfollowed := true, recurses := true, apart := false }
def SimfsFailsSaid : Prop := simfsFailsRow.holds Try.pinned (OpenSpec.ofChange simfsFailsSpec)

/-- ITS FALSE NEIGHBOUR: 'it returns false'. Refute it at one input. -/
def simfsFailsWrong : ChangeSpec := { name := "simfsFails", fn := fun _ => fun
  | [d1, d2, d3] => { results := [.lit (.bool false)], args := [d1, d2, d3] }
  | _ => none }
def SimfsFailsWrongFalsely : Prop := simfsFailsRow.holds Try.pinned (OpenSpec.ofChange simfsFailsWrong)

/-- 'stooklaw14.SimfsTwice': WHATEVER THE INPUT: true; the input reads as it did. -/
def simfsTwiceSpec : ChangeSpec := { name := "simfsTwice", fn := fun _ => fun
  | [d1, d2, d3, d4, d5] => { results := [.lit (.bool true)], args := [d1, d2, d3, d4, d5] }
  | _ => none }
def simfsTwiceRow : OpenClaim := { program := "ythphonkiolmkiaa", sum := "59a389eb59e9071e5c3d4388e8801f6c0afce3a0a8539408de300b762ce92867", func := "stook/stooklaw14.SimfsTwice", spec := "simfsTwice", unfollowed := true, recurses := true, apart := false }
def SimfsTwiceSaid : Prop := simfsTwiceRow.holds Try.pinned (OpenSpec.ofChange simfsTwiceSpec)

/-- ITS FALSE NEIGHBOUR: 'it returns false'. Refute it at one input. -/
def simfsTwiceWrong : ChangeSpec := { name := "simfsTwice", fn := fun _ => fun
  | [d1, d2, d3, d4, d5] => { results := [.lit (.bool false)], args := [d1, d2, d3, d4, d5] }
  | _ => none }
def SimfsTwiceWrongFalsely : Prop := simfsTwiceRow.holds Try.pinned (OpenSpec.ofChange simfsTwiceWrong)

/-- 'stooklaw14.SimfsNil': WHATEVER THE INPUT: true; the input reads as it did. -/
def simfsNilSpec : ChangeSpec := { name := "simfsNil", fn := fun _ => fun
  | [d1, d2] => { results := [.lit (.bool true)], args := [d1, d2] }
  | _ => none }
def simfsNilRow : OpenClaim := { program := "ythphonkiolmkiaa", sum := "59a389eb59e9071e5c3d4388e8801f6c0afce3a0a8539408de300b762ce92867", func := "stook/stooklaw14.SimfsNil", spec := "simfsNil", unfollowed := true, recurses := true, apart := false }
def SimfsNilSaid : Prop := simfsNilRow.holds Try.pinned (OpenSpec.ofChange simfsNilSpec)

/-- ITS FALSE NEIGHBOUR: 'it returns false'. Refute it at one input. -/
def simfsNilWrong : ChangeSpec := { name := "simfsNil", fn := fun _ => fun
  | [d1, d2] => { results := [.lit (.bool false)], args := [d1, d2] }
  | _ => none }
def SimfsNilWrongFalsely : Prop := simfsNilRow.holds Try.pinned (OpenSpec.ofChange simfsNilWrong)

/- THE SECOND FORM. 'bulk': how many values and letters a reading holds, each counted each time it is reached (what is shared counts as often as it is met; a slice's spare places count too). A statement '..UptoSaid' is the law's where the arguments, and the package variables that the reading takes, are together of bulk at most 1048576: NARROWER than '..Said'. Prove '..Said' where nothing that the law and all that it calls make is longer than what came in: it says more and counts as full. Else prove '..UptoSaid'. A law counts once. -/
mutual
def uptoBulk {H : Type} : DataW H → Nat
  | .lit (.string bytes) => bytes.length + 1
  | .lit _ => 1
  | .nil => 1
  | .ptr d => uptoBulk d + 1
  | .slice elems spare => uptoBulkAll elems + uptoBulkAll spare + 1
  | .agg parts => uptoBulkAll parts + 1
  | .iface _ d => uptoBulk d + 1
  | .map entries => uptoBulkEntries entries + 1
  | .held _ => 1
def uptoBulkAll {H : Type} : List (DataW H) → Nat
  | [] => 0
  | d :: r => uptoBulk d + uptoBulkAll r
def uptoBulkEntries {H : Type} : List (Lit × DataW H) → Nat
  | [] => 0
  | x :: r => uptoBulkEntry x + uptoBulkEntries r
def uptoBulkEntry {H : Type} : Lit × DataW H → Nat
  | (.string bytes, d) => bytes.length + uptoBulk d + 1
  | (_, d) => uptoBulk d + 1
 end
def uptoSmall : (H : Type) → List (DataW H) → Bool := fun _ ds => decide (uptoBulkAll ds ≤ 1048576)
def OpenSpec.upto (s : _root_.Go.ChangeSpec) : _root_.Go.OpenSpec := { _root_.Go.OpenSpec.ofChange s with cond := some uptoSmall }

/-- 'stooklaw14.SimfsTail', WHERE WHAT IT READS IS OF BULK AT MOST 1048576: true; the input reads as it did. -/
def simfsTailUptoRow : OpenClaim := { program := "ythphonkiolmkiaa", sum := "59a389eb59e9071e5c3d4388e8801f6c0afce3a0a8539408de300b762ce92867", func := "stook/stooklaw14.SimfsTail", spec := "simfsTail", unfollowed := true, recurses := true, apart := false, narrowed := true }
def SimfsTailUptoSaid : Prop := simfsTailUptoRow.holds Try.pinned (OpenSpec.upto simfsTailSpec)

/-- 'stooklaw14.SimfsRename', WHERE WHAT IT READS IS OF BULK AT MOST 1048576: true; the input reads as it did. -/
def simfsRenameUptoRow : OpenClaim := { program := "ythphonkiolmkiaa", sum := "59a389eb59e9071e5c3d4388e8801f6c0afce3a0a8539408de300b762ce92867", func := "stook/stooklaw14.SimfsRename", spec := "simfsRename", unfollowed := true, recurses := true, apart := false, narrowed := true }
def SimfsRenameUptoSaid : Prop := simfsRenameUptoRow.holds Try.pinned (OpenSpec.upto simfsRenameSpec)

/-- 'stooklaw14.SimfsBlocks', WHERE WHAT IT READS IS OF BULK AT MOST 1048576: true; the input reads as it did. -/
def simfsBlocksUptoRow : OpenClaim := { program := "ythphonkiolmkiaa", sum := "59a389eb59e9071e5c3d4388e8801f6c0afce3a0a8539408de300b762ce92867", func := "stook/stooklaw14.SimfsBlocks", spec := "simfsBlocks", unfollowed := true, recurses := true, apart := false, narrowed := true }
def SimfsBlocksUptoSaid : Prop := simfsBlocksUptoRow.holds Try.pinned (OpenSpec.upto simfsBlocksSpec)

/-- 'stooklaw14.SimfsFresh', WHERE WHAT IT READS IS OF BULK AT MOST 1048576: true; the input reads as it did. -/
def simfsFreshUptoRow : OpenClaim := { program := "ythphonkiolmkiaa", sum := "59a389eb59e9071e5c3d4388e8801f6c0afce3a0a8539408de300b762ce92867", func := "stook/stooklaw14.SimfsFresh", spec := "simfsFresh", unfollowed := true, recurses := true, apart := false, narrowed := true }
def SimfsFreshUptoSaid : Prop := simfsFreshUptoRow.holds Try.pinned (OpenSpec.upto simfsFreshSpec)

/-- 'stooklaw14.SimfsSure', WHERE WHAT IT READS IS OF BULK AT MOST 1048576: true; the input reads as it did. -/
def simfsSureUptoRow : OpenClaim := { program := "ythphonkiolmkiaa", sum := "59a389eb59e9071e5c3d4388e8801f6c0afce3a0a8539408de300b762ce92867", func := "stook/stooklaw14.SimfsSure", spec := "simfsSure", unfollowed := true, recurses := true, apart := false, narrowed := true }
def SimfsSureUptoSaid : Prop := simfsSureUptoRow.holds Try.pinned (OpenSpec.upto simfsSureSpec)

/-- 'stooklaw14.SimfsRoom', WHERE WHAT IT READS IS OF BULK AT MOST 1048576: true; the input reads as it did. -/
def simfsRoomUptoRow : OpenClaim := { program := "ythphonkiolmkiaa", sum := "59a389eb59e9071e5c3d4388e8801f6c0afce3a0a8539408de300b762ce92867", func := "stook/stooklaw14.SimfsRoom", spec := "simfsRoom", unfollowed := true, recurses := true, apart := false, narrowed := true }
def SimfsRoomUptoSaid : Prop := simfsRoomUptoRow.holds Try.pinned (OpenSpec.upto simfsRoomSpec)

/-- 'stooklaw14.SimfsDead', WHERE WHAT IT READS IS OF BULK AT MOST 1048576: true; the input reads as it did. -/
def simfsDeadUptoRow : OpenClaim := { program := "ythphonkiolmkiaa", sum := "59a389eb59e9071e5c3d4388e8801f6c0afce3a0a8539408de300b762ce92867", func := "stook/stooklaw14.SimfsDead", spec := "simfsDead", unfollowed := true, recurses := true, apart := false, narrowed := true }
def SimfsDeadUptoSaid : Prop := simfsDeadUptoRow.holds Try.pinned (OpenSpec.upto simfsDeadSpec)

/-- 'stooklaw14.SimfsPlays', WHERE WHAT IT READS IS OF BULK AT MOST 1048576: true; the input reads as it did. -/
def simfsPlaysUptoRow : OpenClaim := { program := "ythphonkiolmkiaa", sum := "59a389eb59e9071e5c3d4388e8801f6c0afce3a0a8539408de300b762ce92867", func := "stook/stooklaw14.SimfsPlays", spec := "simfsPlays", unfollowed := true, recurses := true, apart := false, narrowed := true }
def SimfsPlaysUptoSaid : Prop := simfsPlaysUptoRow.holds Try.pinned (OpenSpec.upto simfsPlaysSpec)

/-- 'stooklaw14.SimfsFails', WHERE WHAT IT READS IS OF BULK AT MOST 1048576: true; the input reads as it did. -/
def simfsFailsUptoRow : OpenClaim := { program := "ythphonkiolmkiaa", sum := "59a389eb59e9071e5c3d4388e8801f6c0afce3a0a8539408de300b762ce92867", func := "stook/stooklaw14.SimfsFails", spec := "simfsFails", unfollowed := true, recurses := true, apart := false, narrowed := true }
def SimfsFailsUptoSaid : Prop := simfsFailsUptoRow.holds Try.pinned (OpenSpec.upto simfsFailsSpec)

/-- 'stooklaw14.SimfsTwice', WHERE WHAT IT READS IS OF BULK AT MOST 1048576: true; the input reads as it did. -/
def simfsTwiceUptoRow : OpenClaim := { program := "ythphonkiolmkiaa", sum := "59a389eb59e9071e5c3d4388e8801f6c0afce3a0a8539408de300b762ce92867", func := "stook/stooklaw14.SimfsTwice", spec := "simfsTwice", unfollowed := true, recurses := true, apart := false, narrowed := true }
def SimfsTwiceUptoSaid : Prop := simfsTwiceUptoRow.holds Try.pinned (OpenSpec.upto simfsTwiceSpec)

/-- 'stooklaw14.SimfsNil', WHERE WHAT IT READS IS OF BULK AT MOST 1048576: true; the input reads as it did. -/
def simfsNilUptoRow : OpenClaim := { program := "ythphonkiolmkiaa", sum := "59a389eb59e9071e5c3d4388e8801f6c0afce3a0a8539408de300b762ce92867", func := "stook/stooklaw14.SimfsNil", spec := "simfsNil", unfollowed := true, recurses := true, apart := false, narrowed := true }
def SimfsNilUptoSaid : Prop := simfsNilUptoRow.holds Try.pinned (OpenSpec.upto simfsNilSpec)

end Rows
end Go.Proofs.Ythphonkiolmkiaa
