/-
  No cell of these rows narrows 'for every input' (looked for: loops, veiled, ifaces, maps, wideKeys, modest, calm, conditions, laid).
  DERIVED. THE GIVEN ROWS OF THIS SEAT. 13 by the template 'for every input the law returns true; each argument reads behind the call as it read before'; 0 by the template 'total and deterministic' (their statements: YtbbnejehglonjaaGreatTotals.lean).
  GIVEN WITH THE SEED: the statements are not yours to turn. If you find one false, say at which input.
  Laid BY PROGRAM, IN A SANDBOX (cutbox-rows.mjs): the forced cells as the released guide's own fill.sh prints them over the translation 202ea0129644f62b… (all of the seat's roots in one cut). By AI agents, Wed Nov 11 2026. No macro, syntax, notation, axiom, sorry.
-/
import Derived.Test.YtbbnejehglonjaaGreatChecked
import GoSem.Claim
import GoSem.ClaimJoined
import GoSem.ClaimMapViews
import Derived.JoinedTies
import Derived.KernelRfl
namespace Go.Proofs.YtbbnejehglonjaaGreat
/- THE CELL 'sum', in the pinned program and in every row, IS THE sha256 OF THE DUMP (.gsa) THAT YtbbnejehglonjaaGreatProg.lean LOADS. Nothing in Lean hashes anything: it is a label: what it is worth is what the hold of that sum in a sandbox is worth. -/
noncomputable def Tryz.pinned : Pinned := { name := "ytbbnejehglonjaagreat", sum := "202ea0129644f62b4b5003fa513bfbce2f11c4a5ffe04dd74401ac3152f90c8f", checked := Tryz.checked }
namespace Rows
def none {H : Type} : Left H := { results := [], args := [] }

/-- 'clathrilaw15.TxAll': WHATEVER THE INPUT: true; the input reads as it did. -/
def txAllSpec : ChangeSpec := { name := "txAll", fn := fun _ => fun
  | [d1, d2, d3, d4, d5] => { results := [.lit (.bool true)], args := [d1, d2, d3, d4, d5] }
  | _ => none }
def txAllRow : OpenClaim := { program := "ytbbnejehglonjaagreat", sum := "202ea0129644f62b4b5003fa513bfbce2f11c4a5ffe04dd74401ac3152f90c8f", func := "clathri/clathrilaw15.TxAll", spec := "txAll", unfollowed := true, recurses := true, apart := false }
def TxAllSaid : Prop := txAllRow.holds Tryz.pinned (OpenSpec.ofChange txAllSpec)

/-- ITS FALSE NEIGHBOUR: 'it returns false'. Refute it at one input. -/
def txAllWrong : ChangeSpec := { name := "txAll", fn := fun _ => fun
  | [d1, d2, d3, d4, d5] => { results := [.lit (.bool false)], args := [d1, d2, d3, d4, d5] }
  | _ => none }
def TxAllWrongFalsely : Prop := txAllRow.holds Tryz.pinned (OpenSpec.ofChange txAllWrong)

/-- 'clathrilaw15.TxLeft': WHATEVER THE INPUT: true; the input reads as it did. -/
def txLeftSpec : ChangeSpec := { name := "txLeft", fn := fun _ => fun
  | [d1, d2, d3, d4] => { results := [.lit (.bool true)], args := [d1, d2, d3, d4] }
  | _ => none }
def txLeftRow : OpenClaim := { program := "ytbbnejehglonjaagreat", sum := "202ea0129644f62b4b5003fa513bfbce2f11c4a5ffe04dd74401ac3152f90c8f", func := "clathri/clathrilaw15.TxLeft", spec := "txLeft", unfollowed := true, recurses := true, apart := false }
def TxLeftSaid : Prop := txLeftRow.holds Tryz.pinned (OpenSpec.ofChange txLeftSpec)

/-- ITS FALSE NEIGHBOUR: 'it returns false'. Refute it at one input. -/
def txLeftWrong : ChangeSpec := { name := "txLeft", fn := fun _ => fun
  | [d1, d2, d3, d4] => { results := [.lit (.bool false)], args := [d1, d2, d3, d4] }
  | _ => none }
def TxLeftWrongFalsely : Prop := txLeftRow.holds Tryz.pinned (OpenSpec.ofChange txLeftWrong)

/-- 'clathrilaw15.TxDrops': WHATEVER THE INPUT: true; the input reads as it did. -/
def txDropsSpec : ChangeSpec := { name := "txDrops", fn := fun _ => fun
  | [d1, d2, d3, d4] => { results := [.lit (.bool true)], args := [d1, d2, d3, d4] }
  | _ => none }
def txDropsRow : OpenClaim := { program := "ytbbnejehglonjaagreat", sum := "202ea0129644f62b4b5003fa513bfbce2f11c4a5ffe04dd74401ac3152f90c8f", func := "clathri/clathrilaw15.TxDrops", spec := "txDrops", unfollowed := true, recurses := true, apart := false }
def TxDropsSaid : Prop := txDropsRow.holds Tryz.pinned (OpenSpec.ofChange txDropsSpec)

/-- ITS FALSE NEIGHBOUR: 'it returns false'. Refute it at one input. -/
def txDropsWrong : ChangeSpec := { name := "txDrops", fn := fun _ => fun
  | [d1, d2, d3, d4] => { results := [.lit (.bool false)], args := [d1, d2, d3, d4] }
  | _ => none }
def TxDropsWrongFalsely : Prop := txDropsRow.holds Tryz.pinned (OpenSpec.ofChange txDropsWrong)

/-- 'clathrilaw16.FileForms': WHATEVER THE INPUT: true; the input reads as it did. -/
def fileFormsSpec : ChangeSpec := { name := "fileForms", fn := fun _ => fun
  | [] => { results := [.lit (.bool true)], args := [] }
  | _ => none }
def fileFormsRow : OpenClaim := { program := "ytbbnejehglonjaagreat", sum := "202ea0129644f62b4b5003fa513bfbce2f11c4a5ffe04dd74401ac3152f90c8f", func := "clathri/clathrilaw16.FileForms", spec := "fileForms", unfollowed := true, recurses := true, apart := false }
def FileFormsSaid : Prop := fileFormsRow.holds Tryz.pinned (OpenSpec.ofChange fileFormsSpec)

/-- ITS FALSE NEIGHBOUR: 'it returns false'. Refute it at one input. -/
def fileFormsWrong : ChangeSpec := { name := "fileForms", fn := fun _ => fun
  | [] => { results := [.lit (.bool false)], args := [] }
  | _ => none }
def FileFormsWrongFalsely : Prop := fileFormsRow.holds Tryz.pinned (OpenSpec.ofChange fileFormsWrong)

/-- 'clathrilaw16.FileHoles': WHATEVER THE INPUT: true; the input reads as it did. -/
def fileHolesSpec : ChangeSpec := { name := "fileHoles", fn := fun _ => fun
  | [d1, d2, d3] => { results := [.lit (.bool true)], args := [d1, d2, d3] }
  | _ => none }
def fileHolesRow : OpenClaim := { program := "ytbbnejehglonjaagreat", sum := "202ea0129644f62b4b5003fa513bfbce2f11c4a5ffe04dd74401ac3152f90c8f", func := "clathri/clathrilaw16.FileHoles", spec := "fileHoles", unfollowed := true, recurses := true, apart := false }
def FileHolesSaid : Prop := fileHolesRow.holds Tryz.pinned (OpenSpec.ofChange fileHolesSpec)

/-- ITS FALSE NEIGHBOUR: 'it returns false'. Refute it at one input. -/
def fileHolesWrong : ChangeSpec := { name := "fileHoles", fn := fun _ => fun
  | [d1, d2, d3] => { results := [.lit (.bool false)], args := [d1, d2, d3] }
  | _ => none }
def FileHolesWrongFalsely : Prop := fileHolesRow.holds Tryz.pinned (OpenSpec.ofChange fileHolesWrong)

/-- 'clathrilaw16.FileOrder': WHATEVER THE INPUT: true; the input reads as it did. -/
def fileOrderSpec : ChangeSpec := { name := "fileOrder", fn := fun _ => fun
  | [d1, d2, d3, d4] => { results := [.lit (.bool true)], args := [d1, d2, d3, d4] }
  | _ => none }
def fileOrderRow : OpenClaim := { program := "ytbbnejehglonjaagreat", sum := "202ea0129644f62b4b5003fa513bfbce2f11c4a5ffe04dd74401ac3152f90c8f", func := "clathri/clathrilaw16.FileOrder", spec := "fileOrder", unfollowed := true, recurses := true, apart := false }
def FileOrderSaid : Prop := fileOrderRow.holds Tryz.pinned (OpenSpec.ofChange fileOrderSpec)

/-- ITS FALSE NEIGHBOUR: 'it returns false'. Refute it at one input. -/
def fileOrderWrong : ChangeSpec := { name := "fileOrder", fn := fun _ => fun
  | [d1, d2, d3, d4] => { results := [.lit (.bool false)], args := [d1, d2, d3, d4] }
  | _ => none }
def FileOrderWrongFalsely : Prop := fileOrderRow.holds Tryz.pinned (OpenSpec.ofChange fileOrderWrong)

/-- 'clathrilaw16.FileTape': WHATEVER THE INPUT: true; the input reads as it did. -/
def fileTapeSpec : ChangeSpec := { name := "fileTape", fn := fun _ => fun
  | [d] => { results := [.lit (.bool true)], args := [d] }
  | _ => none }
def fileTapeRow : OpenClaim := { program := "ytbbnejehglonjaagreat", sum := "202ea0129644f62b4b5003fa513bfbce2f11c4a5ffe04dd74401ac3152f90c8f", func := "clathri/clathrilaw16.FileTape", spec := "fileTape", unfollowed := true, recurses := true, apart := false }
def FileTapeSaid : Prop := fileTapeRow.holds Tryz.pinned (OpenSpec.ofChange fileTapeSpec)

/-- ITS FALSE NEIGHBOUR: 'it returns false'. Refute it at one input. -/
def fileTapeWrong : ChangeSpec := { name := "fileTape", fn := fun _ => fun
  | [d] => { results := [.lit (.bool false)], args := [d] }
  | _ => none }
def FileTapeWrongFalsely : Prop := fileTapeRow.holds Tryz.pinned (OpenSpec.ofChange fileTapeWrong)

/-- 'clathrilaw16.FileLong': WHATEVER THE INPUT: true; the input reads as it did. -/
def fileLongSpec : ChangeSpec := { name := "fileLong", fn := fun _ => fun
  | [d1, d2] => { results := [.lit (.bool true)], args := [d1, d2] }
  | _ => none }
def fileLongRow : OpenClaim := { program := "ytbbnejehglonjaagreat", sum := "202ea0129644f62b4b5003fa513bfbce2f11c4a5ffe04dd74401ac3152f90c8f", func := "clathri/clathrilaw16.FileLong", spec := "fileLong", unfollowed := true, recurses := true, apart := false }
def FileLongSaid : Prop := fileLongRow.holds Tryz.pinned (OpenSpec.ofChange fileLongSpec)

/-- ITS FALSE NEIGHBOUR: 'it returns false'. Refute it at one input. -/
def fileLongWrong : ChangeSpec := { name := "fileLong", fn := fun _ => fun
  | [d1, d2] => { results := [.lit (.bool false)], args := [d1, d2] }
  | _ => none }
def FileLongWrongFalsely : Prop := fileLongRow.holds Tryz.pinned (OpenSpec.ofChange fileLongWrong)

/-- 'clathrilaw16.FileAll': WHATEVER THE INPUT: true; the input reads as it did. -/
def fileAllSpec : ChangeSpec := { name := "fileAll", fn := fun _ => fun
  | [d1, d2, d3] => { results := [.lit (.bool true)], args := [d1, d2, d3] }
  | _ => none }
def fileAllRow : OpenClaim := { program := "ytbbnejehglonjaagreat", sum := "202ea0129644f62b4b5003fa513bfbce2f11c4a5ffe04dd74401ac3152f90c8f", func := "clathri/clathrilaw16.FileAll", spec := "fileAll", unfollowed := true, recurses := true, apart := false }
def FileAllSaid : Prop := fileAllRow.holds Tryz.pinned (OpenSpec.ofChange fileAllSpec)

/-- ITS FALSE NEIGHBOUR: 'it returns false'. Refute it at one input. -/
def fileAllWrong : ChangeSpec := { name := "fileAll", fn := fun _ => fun
  | [d1, d2, d3] => { results := [.lit (.bool false)], args := [d1, d2, d3] }
  | _ => none }
def FileAllWrongFalsely : Prop := fileAllRow.holds Tryz.pinned (OpenSpec.ofChange fileAllWrong)

/-- 'clathrilaw16.FileRoom': WHATEVER THE INPUT: true; the input reads as it did. -/
def fileRoomSpec : ChangeSpec := { name := "fileRoom", fn := fun _ => fun
  | [d1, d2] => { results := [.lit (.bool true)], args := [d1, d2] }
  | _ => none }
def fileRoomRow : OpenClaim := { program := "ytbbnejehglonjaagreat", sum := "202ea0129644f62b4b5003fa513bfbce2f11c4a5ffe04dd74401ac3152f90c8f", func := "clathri/clathrilaw16.FileRoom", spec := "fileRoom", unfollowed := true, recurses := true, apart := false }
def FileRoomSaid : Prop := fileRoomRow.holds Tryz.pinned (OpenSpec.ofChange fileRoomSpec)

/-- ITS FALSE NEIGHBOUR: 'it returns false'. Refute it at one input. -/
def fileRoomWrong : ChangeSpec := { name := "fileRoom", fn := fun _ => fun
  | [d1, d2] => { results := [.lit (.bool false)], args := [d1, d2] }
  | _ => none }
def FileRoomWrongFalsely : Prop := fileRoomRow.holds Tryz.pinned (OpenSpec.ofChange fileRoomWrong)

/-- 'clathrilaw17.ShardLists': WHATEVER THE INPUT: true; the input reads as it did. -/
def shardListsSpec : ChangeSpec := { name := "shardLists", fn := fun _ => fun
  | [d1, d2] => { results := [.lit (.bool true)], args := [d1, d2] }
  | _ => none }
def shardListsRow : OpenClaim := { program := "ytbbnejehglonjaagreat", sum := "202ea0129644f62b4b5003fa513bfbce2f11c4a5ffe04dd74401ac3152f90c8f", func := "clathri/clathrilaw17.ShardLists", spec := "shardLists", unfollowed := true, recurses := true, apart := false }
def ShardListsSaid : Prop := shardListsRow.holds Tryz.pinned (OpenSpec.ofChange shardListsSpec)

/-- ITS FALSE NEIGHBOUR: 'it returns false'. Refute it at one input. -/
def shardListsWrong : ChangeSpec := { name := "shardLists", fn := fun _ => fun
  | [d1, d2] => { results := [.lit (.bool false)], args := [d1, d2] }
  | _ => none }
def ShardListsWrongFalsely : Prop := shardListsRow.holds Tryz.pinned (OpenSpec.ofChange shardListsWrong)

/-- 'clathrilaw17.ShardOnce': WHATEVER THE INPUT: true; the input reads as it did. -/
def shardOnceSpec : ChangeSpec := { name := "shardOnce", fn := fun _ => fun
  | [d] => { results := [.lit (.bool true)], args := [d] }
  | _ => none }
def shardOnceRow : OpenClaim := { program := "ytbbnejehglonjaagreat", sum := "202ea0129644f62b4b5003fa513bfbce2f11c4a5ffe04dd74401ac3152f90c8f", func := "clathri/clathrilaw17.ShardOnce", spec := "shardOnce", unfollowed := true, recurses := true, apart := false }
def ShardOnceSaid : Prop := shardOnceRow.holds Tryz.pinned (OpenSpec.ofChange shardOnceSpec)

/-- ITS FALSE NEIGHBOUR: 'it returns false'. Refute it at one input. -/
def shardOnceWrong : ChangeSpec := { name := "shardOnce", fn := fun _ => fun
  | [d] => { results := [.lit (.bool false)], args := [d] }
  | _ => none }
def ShardOnceWrongFalsely : Prop := shardOnceRow.holds Tryz.pinned (OpenSpec.ofChange shardOnceWrong)

/-- 'clathrilaw17.ShardAll': WHATEVER THE INPUT: true; the input reads as it did. -/
def shardAllSpec : ChangeSpec := { name := "shardAll", fn := fun _ => fun
  | [d1, d2, d3, d4, d5] => { results := [.lit (.bool true)], args := [d1, d2, d3, d4, d5] }
  | _ => none }
def shardAllRow : OpenClaim := { program := "ytbbnejehglonjaagreat", sum := "202ea0129644f62b4b5003fa513bfbce2f11c4a5ffe04dd74401ac3152f90c8f", func := "clathri/clathrilaw17.ShardAll", spec := "shardAll", unfollowed := true, recurses := true, apart := false }
def ShardAllSaid : Prop := shardAllRow.holds Tryz.pinned (OpenSpec.ofChange shardAllSpec)

/-- ITS FALSE NEIGHBOUR: 'it returns false'. Refute it at one input. -/
def shardAllWrong : ChangeSpec := { name := "shardAll", fn := fun _ => fun
  | [d1, d2, d3, d4, d5] => { results := [.lit (.bool false)], args := [d1, d2, d3, d4, d5] }
  | _ => none }
def ShardAllWrongFalsely : Prop := shardAllRow.holds Tryz.pinned (OpenSpec.ofChange shardAllWrong)

/- THE SECOND FORM. 'bulk': how many values and letters a reading holds, each counted each time it is reached (what is shared counts as often as it is met; a slice's spare places count too). A statement '..UptoSaid' is the law's where the arguments, and the package variables that the reading takes, are together of bulk at most 1048576: NARROWER than '..Said'. Prove '..Said' where nothing that the law and all that it calls make is longer than what came in: it says more and counts as full. Else prove '..UptoSaid'. A law counts once. -/
mutual
def uptoBulk {H : Type} : DataW H → Nat
  | .lit (.string bytes) => bytes.length + 1
  | .lit _ => 1
  | .nil => 1
  | .ptr d => uptoBulk d + 1
  | .slice elems spare => uptoBulkAll elems + uptoBulkAll spare + 1
  | .agg parts => uptoBulkAll parts + 1
  | .iface _ d => uptoBulk d + 1
  | .map entries => uptoBulkEntries entries + 1
  | .held _ => 1
def uptoBulkAll {H : Type} : List (DataW H) → Nat
  | [] => 0
  | d :: r => uptoBulk d + uptoBulkAll r
def uptoBulkEntries {H : Type} : List (Lit × DataW H) → Nat
  | [] => 0
  | x :: r => uptoBulkEntry x + uptoBulkEntries r
def uptoBulkEntry {H : Type} : Lit × DataW H → Nat
  | (.string bytes, d) => bytes.length + uptoBulk d + 1
  | (_, d) => uptoBulk d + 1
 end
def uptoSmall : (H : Type) → List (DataW H) → Bool := fun _ ds => decide (uptoBulkAll ds ≤ 1048576)
def OpenSpec.upto (s : _root_.Go.ChangeSpec) : _root_.Go.OpenSpec := { _root_.Go.OpenSpec.ofChange s with cond := some uptoSmall }

/-- 'clathrilaw15.TxAll', WHERE WHAT IT READS IS OF BULK AT MOST 1048576: true; the input reads as it did. -/
def txAllUptoRow : OpenClaim := { program := "ytbbnejehglonjaagreat", sum := "202ea0129644f62b4b5003fa513bfbce2f11c4a5ffe04dd74401ac3152f90c8f", func := "clathri/clathrilaw15.TxAll", spec := "txAll", unfollowed := true, recurses := true, apart := false, narrowed := true }
def TxAllUptoSaid : Prop := txAllUptoRow.holds Tryz.pinned (OpenSpec.upto txAllSpec)

/-- 'clathrilaw15.TxLeft', WHERE WHAT IT READS IS OF BULK AT MOST 1048576: true; the input reads as it did. -/
def txLeftUptoRow : OpenClaim := { program := "ytbbnejehglonjaagreat", sum := "202ea0129644f62b4b5003fa513bfbce2f11c4a5ffe04dd74401ac3152f90c8f", func := "clathri/clathrilaw15.TxLeft", spec := "txLeft", unfollowed := true, recurses := true, apart := false, narrowed := true }
def TxLeftUptoSaid : Prop := txLeftUptoRow.holds Tryz.pinned (OpenSpec.upto txLeftSpec)

/-- 'clathrilaw15.TxDrops', WHERE WHAT IT READS IS OF BULK AT MOST 1048576: true; the input reads as it did. -/
def txDropsUptoRow : OpenClaim := { program := "ytbbnejehglonjaagreat", sum := "202ea0129644f62b4b5003fa513bfbce2f11c4a5ffe04dd74401ac3152f90c8f", func := "clathri/clathrilaw15.TxDrops", spec := "txDrops", unfollowed := true, recurses := true, apart := false, narrowed := true }
def TxDropsUptoSaid : Prop := txDropsUptoRow.holds Tryz.pinned (OpenSpec.upto txDropsSpec)

/-- 'clathrilaw16.FileForms', WHERE WHAT IT READS IS OF BULK AT MOST 1048576: true; the input reads as it did. -/
def fileFormsUptoRow : OpenClaim := { program := "ytbbnejehglonjaagreat", sum := "202ea0129644f62b4b5003fa513bfbce2f11c4a5ffe04dd74401ac3152f90c8f", func := "clathri/clathrilaw16.FileForms", spec := "fileForms", unfollowed := true, recurses := true, apart := false, narrowed := true }
def FileFormsUptoSaid : Prop := fileFormsUptoRow.holds Tryz.pinned (OpenSpec.upto fileFormsSpec)

/-- 'clathrilaw16.FileHoles', WHERE WHAT IT READS IS OF BULK AT MOST 1048576: true; the input reads as it did. -/
def fileHolesUptoRow : OpenClaim := { program := "ytbbnejehglonjaagreat", sum := "202ea0129644f62b4b5003fa513bfbce2f11c4a5ffe04dd74401ac3152f90c8f", func := "clathri/clathrilaw16.FileHoles", spec := "fileHoles", unfollowed := true, recurses := true, apart := false, narrowed := true }
def FileHolesUptoSaid : Prop := fileHolesUptoRow.holds Tryz.pinned (OpenSpec.upto fileHolesSpec)

/-- 'clathrilaw16.FileOrder', WHERE WHAT IT READS IS OF BULK AT MOST 1048576: true; the input reads as it did. -/
def fileOrderUptoRow : OpenClaim := { program := "ytbbnejehglonjaagreat", sum := "202ea0129644f62b4b5003fa513bfbce2f11c4a5ffe04dd74401ac3152f90c8f", func := "clathri/clathrilaw16.FileOrder", spec := "fileOrder", unfollowed := true, recurses := true, apart := false, narrowed := true }
def FileOrderUptoSaid : Prop := fileOrderUptoRow.holds Tryz.pinned (OpenSpec.upto fileOrderSpec)

/-- 'clathrilaw16.FileTape', WHERE WHAT IT READS IS OF BULK AT MOST 1048576: true; the input reads as it did. -/
def fileTapeUptoRow : OpenClaim := { program := "ytbbnejehglonjaagreat", sum := "202ea0129644f62b4b5003fa513bfbce2f11c4a5ffe04dd74401ac3152f90c8f", func := "clathri/clathrilaw16.FileTape", spec := "fileTape", unfollowed := true, recurses := true, apart := false, narrowed := true }
def FileTapeUptoSaid : Prop := fileTapeUptoRow.holds Tryz.pinned (OpenSpec.upto fileTapeSpec)

/-- 'clathrilaw16.FileLong', WHERE WHAT IT READS IS OF BULK AT MOST 1048576: true; the input reads as it did. -/
def fileLongUptoRow : OpenClaim := { program := "ytbbnejehglonjaagreat", sum := "202ea0129644f62b4b5003fa513bfbce2f11c4a5ffe04dd74401ac3152f90c8f", func := "clathri/clathrilaw16.FileLong", spec := "fileLong", unfollowed := true, recurses := true, apart := false, narrowed := true }
def FileLongUptoSaid : Prop := fileLongUptoRow.holds Tryz.pinned (OpenSpec.upto fileLongSpec)

/-- 'clathrilaw16.FileAll', WHERE WHAT IT READS IS OF BULK AT MOST 1048576: true; the input reads as it did. -/
def fileAllUptoRow : OpenClaim := { program := "ytbbnejehglonjaagreat", sum := "202ea0129644f62b4b5003fa513bfbce2f11c4a5ffe04dd74401ac3152f90c8f", func := "clathri/clathrilaw16.FileAll", spec := "fileAll", unfollowed := true, recurses := true, apart := false, narrowed := true }
def FileAllUptoSaid : Prop := fileAllUptoRow.holds Tryz.pinned (OpenSpec.upto fileAllSpec)

/-- 'clathrilaw16.FileRoom', WHERE WHAT IT READS IS OF BULK AT MOST 1048576: true; the input reads as it did. -/
def fileRoomUptoRow : OpenClaim := { program := "ytbbnejehglonjaagreat", sum := "202ea0129644f62b4b5003fa513bfbce2f11c4a5ffe04dd74401ac3152f90c8f", func := "clathri/clathrilaw16.FileRoom", spec := "fileRoom", unfollowed := true, recurses := true, apart := false, narrowed := true }
def FileRoomUptoSaid : Prop := fileRoomUptoRow.holds Tryz.pinned (OpenSpec.upto fileRoomSpec)

/-- 'clathrilaw17.ShardLists', WHERE WHAT IT READS IS OF BULK AT MOST 1048576: true; the input reads as it did. -/
def shardListsUptoRow : OpenClaim := { program := "ytbbnejehglonjaagreat", sum := "202ea0129644f62b4b5003fa513bfbce2f11c4a5ffe04dd74401ac3152f90c8f", func := "clathri/clathrilaw17.ShardLists", spec := "shardLists", unfollowed := true, recurses := true, apart := false, narrowed := true }
def ShardListsUptoSaid : Prop := shardListsUptoRow.holds Tryz.pinned (OpenSpec.upto shardListsSpec)

/-- 'clathrilaw17.ShardOnce', WHERE WHAT IT READS IS OF BULK AT MOST 1048576: true; the input reads as it did. -/
def shardOnceUptoRow : OpenClaim := { program := "ytbbnejehglonjaagreat", sum := "202ea0129644f62b4b5003fa513bfbce2f11c4a5ffe04dd74401ac3152f90c8f", func := "clathri/clathrilaw17.ShardOnce", spec := "shardOnce", unfollowed := true, recurses := true, apart := false, narrowed := true }
def ShardOnceUptoSaid : Prop := shardOnceUptoRow.holds Tryz.pinned (OpenSpec.upto shardOnceSpec)

/-- 'clathrilaw17.ShardAll', WHERE WHAT IT READS IS OF BULK AT MOST 1048576: true; the input reads as it did. -/
def shardAllUptoRow : OpenClaim := { program := "ytbbnejehglonjaagreat", sum := "202ea0129644f62b4b5003fa513bfbce2f11c4a5ffe04dd74401ac3152f90c8f", func := "clathri/clathrilaw17.ShardAll", spec := "shardAll", unfollowed := true, recurses := true, apart := false, narrowed := true }
def ShardAllUptoSaid : Prop := shardAllUptoRow.holds Tryz.pinned (OpenSpec.upto shardAllSpec)

end Rows
end Go.Proofs.YtbbnejehglonjaaGreat
