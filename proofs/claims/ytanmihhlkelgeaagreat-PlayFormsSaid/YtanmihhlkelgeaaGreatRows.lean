/-
  No cell of these rows narrows 'for every input' (looked for: loops, veiled, ifaces, maps, wideKeys, modest, calm, conditions, laid).
  DERIVED. THE GIVEN ROWS OF THIS SEAT. 4 by the template 'for every input the law returns true; each argument reads behind the call as it read before'; 0 by the template 'total and deterministic' (their statements: YtanmihhlkelgeaaGreatTotals.lean).
  GIVEN WITH THE SEED: the statements are not yours to turn. If you find one false, say at which input.
  Laid BY PROGRAM, IN A SANDBOX (cutbox-rows.mjs): the forced cells as the released guide's own fill.sh prints them over the translation 64b19fe0d941ce0f… (all of the seat's roots in one cut). By AI agents, Wed Nov 11 2026. No macro, syntax, notation, axiom, sorry.
-/
import Derived.Test.YtanmihhlkelgeaaGreatChecked
import GoSem.Claim
import GoSem.ClaimJoined
import GoSem.ClaimMapViews
import Derived.JoinedTies
import Derived.KernelRfl
namespace Go.Proofs.YtanmihhlkelgeaaGreat
/- THE CELL 'sum', in the pinned program and in every row, IS THE sha256 OF THE DUMP (.gsa) THAT YtanmihhlkelgeaaGreatProg.lean LOADS. Nothing in Lean hashes anything: it is a label: what it is worth is what the hold of that sum in a sandbox is worth. -/
noncomputable def Tryz.pinned : Pinned := { name := "ytanmihhlkelgeaagreat", sum := "64b19fe0d941ce0f473f68abb1624d62c91e17875420041b4f5459c16640c6fe", checked := Tryz.checked }
namespace Rows
def none {H : Type} : Left H := { results := [], args := [] }

/-- 'clathrilaw28.PlayBack': WHATEVER THE INPUT: true; the input reads as it did. -/
def playBackSpec : ChangeSpec := { name := "playBack", fn := fun _ => fun
  | [d1, d2] => { results := [.lit (.bool true)], args := [d1, d2] }
  | _ => none }
def playBackRow : OpenClaim := { program := "ytanmihhlkelgeaagreat", sum := "64b19fe0d941ce0f473f68abb1624d62c91e17875420041b4f5459c16640c6fe", func := "clathri/clathrilaw28.PlayBack", spec := "playBack", inPlace := ["internal/bytealg.IndexByteString", "internal/bytealg.IndexString"], unfollowed := true, recurses := true, named := ["internal/bytealg.MaxLen"], plainKeys := false, apart := false }
def PlayBackSaid : Prop := playBackRow.holds Tryz.pinned (OpenSpec.ofChange playBackSpec)

/-- ITS FALSE NEIGHBOUR: 'it returns false'. Refute it at one input. -/
def playBackWrong : ChangeSpec := { name := "playBack", fn := fun _ => fun
  | [d1, d2] => { results := [.lit (.bool false)], args := [d1, d2] }
  | _ => none }
def PlayBackWrongFalsely : Prop := playBackRow.holds Tryz.pinned (OpenSpec.ofChange playBackWrong)

/-- 'clathrilaw28.PlayJoins': WHATEVER THE INPUT: true; the input reads as it did. -/
def playJoinsSpec : ChangeSpec := { name := "playJoins", fn := fun _ => fun
  | [d1, d2] => { results := [.lit (.bool true)], args := [d1, d2] }
  | _ => none }
def playJoinsRow : OpenClaim := { program := "ytanmihhlkelgeaagreat", sum := "64b19fe0d941ce0f473f68abb1624d62c91e17875420041b4f5459c16640c6fe", func := "clathri/clathrilaw28.PlayJoins", spec := "playJoins", inPlace := ["internal/bytealg.IndexByteString", "internal/bytealg.IndexString"], unfollowed := true, recurses := true, named := ["internal/bytealg.MaxLen"], plainKeys := false, apart := false }
def PlayJoinsSaid : Prop := playJoinsRow.holds Tryz.pinned (OpenSpec.ofChange playJoinsSpec)

/-- ITS FALSE NEIGHBOUR: 'it returns false'. Refute it at one input. -/
def playJoinsWrong : ChangeSpec := { name := "playJoins", fn := fun _ => fun
  | [d1, d2] => { results := [.lit (.bool false)], args := [d1, d2] }
  | _ => none }
def PlayJoinsWrongFalsely : Prop := playJoinsRow.holds Tryz.pinned (OpenSpec.ofChange playJoinsWrong)

/-- 'clathrilaw28.PlayForms': WHATEVER THE INPUT: true; the input reads as it did. -/
def playFormsSpec : ChangeSpec := { name := "playForms", fn := fun _ => fun
  | [] => { results := [.lit (.bool true)], args := [] }
  | _ => none }
def playFormsRow : OpenClaim := { program := "ytanmihhlkelgeaagreat", sum := "64b19fe0d941ce0f473f68abb1624d62c91e17875420041b4f5459c16640c6fe", func := "clathri/clathrilaw28.PlayForms", spec := "playForms", inPlace := ["internal/bytealg.IndexByteString", "internal/bytealg.IndexString"], unfollowed := true, recurses := true, named := ["internal/bytealg.MaxLen"], plainKeys := false, apart := false }
def PlayFormsSaid : Prop := playFormsRow.holds Tryz.pinned (OpenSpec.ofChange playFormsSpec)

/-- ITS FALSE NEIGHBOUR: 'it returns false'. Refute it at one input. -/
def playFormsWrong : ChangeSpec := { name := "playForms", fn := fun _ => fun
  | [] => { results := [.lit (.bool false)], args := [] }
  | _ => none }
def PlayFormsWrongFalsely : Prop := playFormsRow.holds Tryz.pinned (OpenSpec.ofChange playFormsWrong)

/-- 'clathrilaw28.PlayOne': WHATEVER THE INPUT: true; the input reads as it did. -/
def playOneSpec : ChangeSpec := { name := "playOne", fn := fun _ => fun
  | [d1, d2, d3, d4, d5, d6, d7, d8, d9, d10, d11] => { results := [.lit (.bool true)], args := [d1, d2, d3, d4, d5, d6, d7, d8, d9, d10, d11] }
  | _ => none }
def playOneRow : OpenClaim := { program := "ytanmihhlkelgeaagreat", sum := "64b19fe0d941ce0f473f68abb1624d62c91e17875420041b4f5459c16640c6fe", func := "clathri/clathrilaw28.PlayOne", spec := "playOne", inPlace := ["internal/bytealg.IndexByteString", "internal/bytealg.IndexString"], unfollowed := true, recurses := true, named := ["internal/bytealg.MaxLen"], plainKeys := false, apart := false }
def PlayOneSaid : Prop := playOneRow.holds Tryz.pinned (OpenSpec.ofChange playOneSpec)

/-- ITS FALSE NEIGHBOUR: 'it returns false'. Refute it at one input. -/
def playOneWrong : ChangeSpec := { name := "playOne", fn := fun _ => fun
  | [d1, d2, d3, d4, d5, d6, d7, d8, d9, d10, d11] => { results := [.lit (.bool false)], args := [d1, d2, d3, d4, d5, d6, d7, d8, d9, d10, d11] }
  | _ => none }
def PlayOneWrongFalsely : Prop := playOneRow.holds Tryz.pinned (OpenSpec.ofChange playOneWrong)

/- THE SECOND FORM. 'bulk': how many values and letters a reading holds, each counted each time it is reached (what is shared counts as often as it is met; a slice's spare places count too). A statement '..UptoSaid' is the law's where the arguments, and the package variables that the reading takes, are together of bulk at most 1048576: NARROWER than '..Said'. Prove '..Said' where nothing that the law and all that it calls make is longer than what came in: it says more and counts as full. Else prove '..UptoSaid'. A law counts once. -/
mutual
def uptoBulk {H : Type} : DataW H → Nat
  | .lit (.string bytes) => bytes.length + 1
  | .lit _ => 1
  | .nil => 1
  | .ptr d => uptoBulk d + 1
  | .slice elems spare => uptoBulkAll elems + uptoBulkAll spare + 1
  | .agg parts => uptoBulkAll parts + 1
  | .iface _ d => uptoBulk d + 1
  | .map entries => uptoBulkEntries entries + 1
  | .held _ => 1
def uptoBulkAll {H : Type} : List (DataW H) → Nat
  | [] => 0
  | d :: r => uptoBulk d + uptoBulkAll r
def uptoBulkEntries {H : Type} : List (Lit × DataW H) → Nat
  | [] => 0
  | x :: r => uptoBulkEntry x + uptoBulkEntries r
def uptoBulkEntry {H : Type} : Lit × DataW H → Nat
  | (.string bytes, d) => bytes.length + uptoBulk d + 1
  | (_, d) => uptoBulk d + 1
 end
def uptoSmall : (H : Type) → List (DataW H) → Bool := fun _ ds => decide (uptoBulkAll ds ≤ 1048576)
def OpenSpec.upto (s : _root_.Go.ChangeSpec) : _root_.Go.OpenSpec := { _root_.Go.OpenSpec.ofChange s with cond := some uptoSmall }

/-- 'clathrilaw28.PlayBack', WHERE WHAT IT READS IS OF BULK AT MOST 1048576: true; the input reads as it did. -/
def playBackUptoRow : OpenClaim := { program := "ytanmihhlkelgeaagreat", sum := "64b19fe0d941ce0f473f68abb1624d62c91e17875420041b4f5459c16640c6fe", func := "clathri/clathrilaw28.PlayBack", spec := "playBack", inPlace := ["internal/bytealg.IndexByteString", "internal/bytealg.IndexString"], unfollowed := true, recurses := true, named := ["internal/bytealg.MaxLen"], plainKeys := false, apart := false, narrowed := true }
def PlayBackUptoSaid : Prop := playBackUptoRow.holds Tryz.pinned (OpenSpec.upto playBackSpec)

/-- 'clathrilaw28.PlayJoins', WHERE WHAT IT READS IS OF BULK AT MOST 1048576: true; the input reads as it did. -/
def playJoinsUptoRow : OpenClaim := { program := "ytanmihhlkelgeaagreat", sum := "64b19fe0d941ce0f473f68abb1624d62c91e17875420041b4f5459c16640c6fe", func := "clathri/clathrilaw28.PlayJoins", spec := "playJoins", inPlace := ["internal/bytealg.IndexByteString", "internal/bytealg.IndexString"], unfollowed := true, recurses := true, named := ["internal/bytealg.MaxLen"], plainKeys := false, apart := false, narrowed := true }
def PlayJoinsUptoSaid : Prop := playJoinsUptoRow.holds Tryz.pinned (OpenSpec.upto playJoinsSpec)

/-- 'clathrilaw28.PlayForms', WHERE WHAT IT READS IS OF BULK AT MOST 1048576: true; the input reads as it did. -/
def playFormsUptoRow : OpenClaim := { program := "ytanmihhlkelgeaagreat", sum := "64b19fe0d941ce0f473f68abb1624d62c91e17875420041b4f5459c16640c6fe", func := "clathri/clathrilaw28.PlayForms", spec := "playForms", inPlace := ["internal/bytealg.IndexByteString", "internal/bytealg.IndexString"], unfollowed := true, recurses := true, named := ["internal/bytealg.MaxLen"], plainKeys := false, apart := false, narrowed := true }
def PlayFormsUptoSaid : Prop := playFormsUptoRow.holds Tryz.pinned (OpenSpec.upto playFormsSpec)

/-- 'clathrilaw28.PlayOne', WHERE WHAT IT READS IS OF BULK AT MOST 1048576: true; the input reads as it did. -/
def playOneUptoRow : OpenClaim := { program := "ytanmihhlkelgeaagreat", sum := "64b19fe0d941ce0f473f68abb1624d62c91e17875420041b4f5459c16640c6fe", func := "clathri/clathrilaw28.PlayOne", spec := "playOne", inPlace := ["internal/bytealg.IndexByteString", "internal/bytealg.IndexString"], unfollowed := true, recurses := true, named := ["internal/bytealg.MaxLen"], plainKeys := false, apart := false, narrowed := true }
def PlayOneUptoSaid : Prop := playOneUptoRow.holds Tryz.pinned (OpenSpec.upto playOneSpec)

end Rows
end Go.Proofs.YtanmihhlkelgeaaGreat
