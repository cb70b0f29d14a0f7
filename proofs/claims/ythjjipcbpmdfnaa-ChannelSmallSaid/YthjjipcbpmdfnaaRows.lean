/-
  No cell of these rows narrows 'for every input' (looked for: loops, veiled, ifaces, maps, wideKeys, modest, calm, conditions, laid).
  DERIVED. THE GIVEN ROWS OF THIS SEAT. 8 by the template 'for every input the law returns true; each argument reads behind the call as it read before'; 0 by the template 'total and deterministic' (their statements: YthjjipcbpmdfnaaTotals.lean).
  GIVEN WITH THE SEED: the statements are not yours to turn. If you find one false, say at which input.
  Laid BY PROGRAM, IN A SANDBOX (cutbox-rows.mjs): the forced cells as the released guide's own fill.sh prints them over the translation 161e646e5ed1a53f… (all of the seat's roots in one cut). By AI agents, Wed Nov 11 2026. No macro, syntax, notation, axiom, sorry.
-/
import Derived.Test.YthjjipcbpmdfnaaChecked
import GoSem.Claim
import GoSem.ClaimJoined
import GoSem.ClaimMapViews
import Derived.JoinedTies
import Derived.KernelRfl
namespace Go.Proofs.Ythjjipcbpmdfnaa
/- THE CELL 'sum', in the pinned program and in every row, IS THE sha256 OF THE DUMP (.gsa) THAT YthjjipcbpmdfnaaProg.lean LOADS. Nothing in Lean hashes anything: it is a label: what it is worth is what the hold of that sum in a sandbox is worth. -/
noncomputable def Try.pinned : Pinned := { name := "ythjjipcbpmdfnaa", sum := "161e646e5ed1a53f598feb670542e755cb5f670ccfdaa2ecedf7fc13d4b36ac8", checked := Try.checked }
namespace Rows
def none {H : Type} : Left H := { results := [], args := [] }

/-- 'marcheslaw20.ChannelTells': WHATEVER THE INPUT: true; the input reads as it did. -/
def channelTellsSpec : ChangeSpec := { name := "channelTells", fn := fun _ => fun
  | [d1, d2, d3, d4] => { results := [.lit (.bool true)], args := [d1, d2, d3, d4] }
  | _ => none }
def channelTellsRow : OpenClaim := { program := "ythjjipcbpmdfnaa", sum := "161e646e5ed1a53f598feb670542e755cb5f670ccfdaa2ecedf7fc13d4b36ac8", func := "marches/marcheslaw20.ChannelTells", spec := "channelTells", unfollowed := true, recurses := true, apart := false }
def ChannelTellsSaid : Prop := channelTellsRow.holds Try.pinned (OpenSpec.ofChange channelTellsSpec)

/-- ITS FALSE NEIGHBOUR: 'it returns false'. Refute it at one input. -/
def channelTellsWrong : ChangeSpec := { name := "channelTells", fn := fun _ => fun
  | [d1, d2, d3, d4] => { results := [.lit (.bool false)], args := [d1, d2, d3, d4] }
  | _ => none }
def ChannelTellsWrongFalsely : Prop := channelTellsRow.holds Try.pinned (OpenSpec.ofChange channelTellsWrong)

/-- 'marcheslaw20.ChannelSmall': WHATEVER THE INPUT: true; the input reads as it did. -/
def channelSmallSpec : ChangeSpec := { name := "channelSmall", fn := fun _ => fun
  | [] => { results := [.lit (.bool true)], args := [] }
  | _ => none }
def channelSmallRow : OpenClaim := { program := "ythjjipcbpmdfnaa", sum := "161e646e5ed1a53f598feb670542e755cb5f670ccfdaa2ecedf7fc13d4b36ac8", func := "marches/marcheslaw20.ChannelSmall", spec := "channelSmall", unfollowed := true, recurses := true, apart := false }
def ChannelSmallSaid : Prop := channelSmallRow.holds Try.pinned (OpenSpec.ofChange channelSmallSpec)

/-- ITS FALSE NEIGHBOUR: 'it returns false'. Refute it at one input. -/
def channelSmallWrong : ChangeSpec := { name := "channelSmall", fn := fun _ => fun
  | [] => { results := [.lit (.bool false)], args := [] }
  | _ => none }
def ChannelSmallWrongFalsely : Prop := channelSmallRow.holds Try.pinned (OpenSpec.ofChange channelSmallWrong)

/-- 'marcheslaw20.ChannelOrder': WHATEVER THE INPUT: true; the input reads as it did. -/
def channelOrderSpec : ChangeSpec := { name := "channelOrder", fn := fun _ => fun
  | [d1, d2, d3] => { results := [.lit (.bool true)], args := [d1, d2, d3] }
  | _ => none }
def channelOrderRow : OpenClaim := { program := "ythjjipcbpmdfnaa", sum := "161e646e5ed1a53f598feb670542e755cb5f670ccfdaa2ecedf7fc13d4b36ac8", func := "marches/marcheslaw20.ChannelOrder", spec := "channelOrder", unfollowed := true, recurses := true, apart := false }
def ChannelOrderSaid : Prop := channelOrderRow.holds Try.pinned (OpenSpec.ofChange channelOrderSpec)

/-- ITS FALSE NEIGHBOUR: 'it returns false'. Refute it at one input. -/
def channelOrderWrong : ChangeSpec := { name := "channelOrder", fn := fun _ => fun
  | [d1, d2, d3] => { results := [.lit (.bool false)], args := [d1, d2, d3] }
  | _ => none }
def ChannelOrderWrongFalsely : Prop := channelOrderRow.holds Try.pinned (OpenSpec.ofChange channelOrderWrong)

/-- 'marcheslaw20.ChannelLives': WHATEVER THE INPUT: true; the input reads as it did. -/
def channelLivesSpec : ChangeSpec := { name := "channelLives", fn := fun _ => fun
  | [d1, d2, d3] => { results := [.lit (.bool true)], args := [d1, d2, d3] }
  | _ => none }
def channelLivesRow : OpenClaim := { program := "ythjjipcbpmdfnaa", sum := "161e646e5ed1a53f598feb670542e755cb5f670ccfdaa2ecedf7fc13d4b36ac8", func := "marches/marcheslaw20.ChannelLives", spec := "channelLives", unfollowed := true, recurses := true, apart := false }
def ChannelLivesSaid : Prop := channelLivesRow.holds Try.pinned (OpenSpec.ofChange channelLivesSpec)

/-- ITS FALSE NEIGHBOUR: 'it returns false'. Refute it at one input. -/
def channelLivesWrong : ChangeSpec := { name := "channelLives", fn := fun _ => fun
  | [d1, d2, d3] => { results := [.lit (.bool false)], args := [d1, d2, d3] }
  | _ => none }
def ChannelLivesWrongFalsely : Prop := channelLivesRow.holds Try.pinned (OpenSpec.ofChange channelLivesWrong)

/-- 'marcheslaw20.ChannelWraps': WHATEVER THE INPUT: true; the input reads as it did. -/
def channelWrapsSpec : ChangeSpec := { name := "channelWraps", fn := fun _ => fun
  | [] => { results := [.lit (.bool true)], args := [] }
  | _ => none }
def channelWrapsRow : OpenClaim := { program := "ythjjipcbpmdfnaa", sum := "161e646e5ed1a53f598feb670542e755cb5f670ccfdaa2ecedf7fc13d4b36ac8", func := "marches/marcheslaw20.ChannelWraps", spec := "channelWraps", unfollowed := true, recurses := true, apart := false }
def ChannelWrapsSaid : Prop := channelWrapsRow.holds Try.pinned (OpenSpec.ofChange channelWrapsSpec)

/-- ITS FALSE NEIGHBOUR: 'it returns false'. Refute it at one input. -/
def channelWrapsWrong : ChangeSpec := { name := "channelWraps", fn := fun _ => fun
  | [] => { results := [.lit (.bool false)], args := [] }
  | _ => none }
def ChannelWrapsWrongFalsely : Prop := channelWrapsRow.holds Try.pinned (OpenSpec.ofChange channelWrapsWrong)

/-- 'marcheslaw20.ChannelTwice': WHATEVER THE INPUT: true; the input reads as it did. -/
def channelTwiceSpec : ChangeSpec := { name := "channelTwice", fn := fun _ => fun
  | [d] => { results := [.lit (.bool true)], args := [d] }
  | _ => none }
def channelTwiceRow : OpenClaim := { program := "ythjjipcbpmdfnaa", sum := "161e646e5ed1a53f598feb670542e755cb5f670ccfdaa2ecedf7fc13d4b36ac8", func := "marches/marcheslaw20.ChannelTwice", spec := "channelTwice", unfollowed := true, recurses := true, apart := false }
def ChannelTwiceSaid : Prop := channelTwiceRow.holds Try.pinned (OpenSpec.ofChange channelTwiceSpec)

/-- ITS FALSE NEIGHBOUR: 'it returns false'. Refute it at one input. -/
def channelTwiceWrong : ChangeSpec := { name := "channelTwice", fn := fun _ => fun
  | [d] => { results := [.lit (.bool false)], args := [d] }
  | _ => none }
def ChannelTwiceWrongFalsely : Prop := channelTwiceRow.holds Try.pinned (OpenSpec.ofChange channelTwiceWrong)

/-- 'marcheslaw20.ChannelWrong': WHATEVER THE INPUT: true; the input reads as it did. -/
def channelWrongSpec : ChangeSpec := { name := "channelWrong", fn := fun _ => fun
  | [d1, d2, d3] => { results := [.lit (.bool true)], args := [d1, d2, d3] }
  | _ => none }
def channelWrongRow : OpenClaim := { program := "ythjjipcbpmdfnaa", sum := "161e646e5ed1a53f598feb670542e755cb5f670ccfdaa2ecedf7fc13d4b36ac8", func := "marches/marcheslaw20.ChannelWrong", spec := "channelWrong", unfollowed := true, recurses := true, apart := false }
def ChannelWrongSaid : Prop := channelWrongRow.holds Try.pinned (OpenSpec.ofChange channelWrongSpec)

/-- ITS FALSE NEIGHBOUR: 'it returns false'. Refute it at one input. -/
def channelWrongWrong : ChangeSpec := { name := "channelWrong", fn := fun _ => fun
  | [d1, d2, d3] => { results := [.lit (.bool false)], args := [d1, d2, d3] }
  | _ => none }
def ChannelWrongWrongFalsely : Prop := channelWrongRow.holds Try.pinned (OpenSpec.ofChange channelWrongWrong)

/-- 'marcheslaw20.ChannelNil': WHATEVER THE INPUT: true; the input reads as it did. -/
def channelNilSpec : ChangeSpec := { name := "channelNil", fn := fun _ => fun
  | [d1, d2] => { results := [.lit (.bool true)], args := [d1, d2] }
  | _ => none }
def channelNilRow : OpenClaim := { program := "ythjjipcbpmdfnaa", sum := "161e646e5ed1a53f598feb670542e755cb5f670ccfdaa2ecedf7fc13d4b36ac8", func := "marches/marcheslaw20.ChannelNil", spec := "channelNil", unfollowed := true, recurses := true, apart := false }
def ChannelNilSaid : Prop := channelNilRow.holds Try.pinned (OpenSpec.ofChange channelNilSpec)

/-- ITS FALSE NEIGHBOUR: 'it returns false'. Refute it at one input. -/
def channelNilWrong : ChangeSpec := { name := "channelNil", fn := fun _ => fun
  | [d1, d2] => { results := [.lit (.bool false)], args := [d1, d2] }
  | _ => none }
def ChannelNilWrongFalsely : Prop := channelNilRow.holds Try.pinned (OpenSpec.ofChange channelNilWrong)

/- THE SECOND FORM. 'bulk': how many values and letters a reading holds, each counted each time it is reached (what is shared counts as often as it is met; a slice's spare places count too). A statement '..UptoSaid' is the law's where the arguments, and the package variables that the reading takes, are together of bulk at most 1048576: NARROWER than '..Said'. Prove '..Said' where nothing that the law and all that it calls make is longer than what came in: it says more and counts as full. Else prove '..UptoSaid'. A law counts once. -/
mutual
def uptoBulk {H : Type} : DataW H → Nat
  | .lit (.string bytes) => bytes.length + 1
  | .lit _ => 1
  | .nil => 1
  | .ptr d => uptoBulk d + 1
  | .slice elems spare => uptoBulkAll elems + uptoBulkAll spare + 1
  | .agg parts => uptoBulkAll parts + 1
  | .iface _ d => uptoBulk d + 1
  | .map entries => uptoBulkEntries entries + 1
  | .held _ => 1
def uptoBulkAll {H : Type} : List (DataW H) → Nat
  | [] => 0
  | d :: r => uptoBulk d + uptoBulkAll r
def uptoBulkEntries {H : Type} : List (Lit × DataW H) → Nat
  | [] => 0
  | x :: r => uptoBulkEntry x + uptoBulkEntries r
def uptoBulkEntry {H : Type} : Lit × DataW H → Nat
  | (.string bytes, d) => bytes.length + uptoBulk d + 1
  | (_, d) => uptoBulk d + 1
 end
def uptoSmall : (H : Type) → List (DataW H) → Bool := fun _ ds => decide (uptoBulkAll ds ≤ 1048576)
def OpenSpec.upto (s : _root_.Go.ChangeSpec) : _root_.Go.OpenSpec := { _root_.Go.OpenSpec.ofChange s with cond := some uptoSmall }

/-- 'marcheslaw20.ChannelTells', WHERE WHAT IT READS IS OF BULK AT MOST 1048576: true; the input reads as it did. -/
def channelTellsUptoRow : OpenClaim := { program := "ythjjipcbpmdfnaa", sum := "161e646e5ed1a53f598feb670542e755cb5f670ccfdaa2ecedf7fc13d4b36ac8", func := "marches/marcheslaw20.ChannelTells", spec := "channelTells", unfollowed := true, recurses := true, apart := false, narrowed := true }
def ChannelTellsUptoSaid : Prop := channelTellsUptoRow.holds Try.pinned (OpenSpec.upto channelTellsSpec)

/-- 'marcheslaw20.ChannelSmall', WHERE WHAT IT READS IS OF BULK AT MOST 1048576: true; the input reads as it did. -/
def channelSmallUptoRow : OpenClaim := { program := "ythjjipcbpmdfnaa", sum := "161e646e5ed1a53f598feb670542e755cb5f670ccfdaa2ecedf7fc13d4b36ac8", func := "marches/marcheslaw20.ChannelSmall", spec := "channelSmall", unfollowed := true, recurses := true, apart := false, narrowed := true }
def ChannelSmallUptoSaid : Prop := channelSmallUptoRow.holds Try.pinned (OpenSpec.upto channelSmallSpec)

/-- 'marcheslaw20.ChannelOrder', WHERE WHAT IT READS IS OF BULK AT MOST 1048576: true; the input reads as it did. -/
def channelOrderUptoRow : OpenClaim := { program := "ythjjipcbpmdfnaa", sum := "161e646e5ed1a53f598feb670542e755cb5f670ccfdaa2ecedf7fc13d4b36ac8", func := "marches/marcheslaw20.ChannelOrder", spec := "channelOrder", unfollowed := true, recurses := true, apart := false, narrowed := true }
def ChannelOrderUptoSaid : Prop := channelOrderUptoRow.holds Try.pinned (OpenSpec.upto channelOrderSpec)

/-- 'marcheslaw20.ChannelLives', WHERE WHAT IT READS IS OF BULK AT MOST 1048576: true; the input reads as it did. -/
def channelLivesUptoRow : OpenClaim := { program := "ythjjipcbpmdfnaa", sum := "161e646e5ed1a53f598feb670542e755cb5f670ccfdaa2ecedf7fc13d4b36ac8", func := "marches/marcheslaw20.ChannelLives", spec := "channelLives", unfollowed := true, recurses := true, apart := false, narrowed := true }
def ChannelLivesUptoSaid : Prop := channelLivesUptoRow.holds Try.pinned (OpenSpec.upto channelLivesSpec)

/-- 'marcheslaw20.ChannelWraps', WHERE WHAT IT READS IS OF BULK AT MOST 1048576: true; the input reads as it did. -/
def channelWrapsUptoRow : OpenClaim := { program := "ythjjipcbpmdfnaa", sum := "161e646e5ed1a53f598feb670542e755cb5f670ccfdaa2ecedf7fc13d4b36ac8", func := "marches/marcheslaw20.ChannelWraps", spec := "channelWraps", unfollowed := true, recurses := true, apart := false, narrowed := true }
def ChannelWrapsUptoSaid : Prop := channelWrapsUptoRow.holds Try.pinned (OpenSpec.upto channelWrapsSpec)

/-- 'marcheslaw20.ChannelTwice', WHERE WHAT IT READS IS OF BULK AT MOST 1048576: true; the input reads as it did. -/
def channelTwiceUptoRow : OpenClaim := { program := "ythjjipcbpmdfnaa", sum := "161e646e5ed1a53f598feb670542e755cb5f670ccfdaa2ecedf7fc13d4b36ac8", func := "marches/marcheslaw20.ChannelTwice", spec := "channelTwice", unfollowed := true, recurses := true, apart := false, narrowed := true }
def ChannelTwiceUptoSaid : Prop := channelTwiceUptoRow.holds Try.pinned (OpenSpec.upto channelTwiceSpec)

/-- 'marcheslaw20.ChannelWrong', WHERE WHAT IT READS IS OF BULK AT MOST 1048576: true; the input reads as it did. -/
def channelWrongUptoRow : OpenClaim := { program := "ythjjipcbpmdfnaa", sum := "161e646e5ed1a53f598feb670542e755cb5f670ccfdaa2ecedf7fc13d4b36ac8", func := "marches/marcheslaw20.ChannelWrong", spec := "channelWrong", unfollowed := true, recurses := true, apart := false, narrowed := true }
def ChannelWrongUptoSaid : Prop := channelWrongUptoRow.holds Try.pinned (OpenSpec.upto channelWrongSpec)

/-- 'marcheslaw20.ChannelNil', WHERE WHAT IT READS IS OF BULK AT MOST 1048576: true; the input reads as it did. -/
def channelNilUptoRow : OpenClaim := { program := "ythjjipcbpmdfnaa", sum := "161e646e5ed1a53f598feb670542e755cb5f670ccfdaa2ecedf7fc13d4b36ac8", func := "marches/marcheslaw20.ChannelNil", spec := "channelNil", unfollowed := true, recurses := true, apart := false, narrowed := true }
def ChannelNilUptoSaid : Prop := channelNilUptoRow.holds Try.pinned (OpenSpec.upto channelNilSpec)

end Rows
end Go.Proofs.Ythjjipcbpmdfnaa
