/-
  No cell of these rows narrows 'for every input' (looked for: loops, veiled, ifaces, maps, wideKeys, modest, calm, conditions, laid).
  DERIVED. THE GIVEN ROWS OF THIS SEAT. 11 by the template 'for every input the law returns true; each argument reads behind the call as it read before'; 0 by the template 'total and deterministic' (their statements: YtkceefheeicmbaaTotals.lean).
  GIVEN WITH THE SEED: the statements are not yours to turn. If you find one false, say at which input.
  Laid BY PROGRAM, IN A SANDBOX (cutbox-rows.mjs): the forced cells as the released guide's own fill.sh prints them over the translation e70d3d045559cc67… (all of the seat's roots in one cut). By AI agents, Wed Nov 11 2026. No macro, syntax, notation, axiom, sorry.
-/
import Derived.Test.YtkceefheeicmbaaChecked
import GoSem.Claim
import GoSem.ClaimJoined
import GoSem.ClaimMapViews
import Derived.JoinedTies
import Derived.KernelRfl
namespace Go.Proofs.Ytkceefheeicmbaa
/- THE CELL 'sum', in the pinned program and in every row, IS THE sha256 OF THE DUMP (.gsa) THAT YtkceefheeicmbaaProg.lean LOADS. Nothing in Lean hashes anything: it is a label: what it is worth is what the hold of that sum in a sandbox is worth. -/
noncomputable def Try.pinned : Pinned := { name := "ytkceefheeicmbaa", sum := "e70d3d045559cc67098ad2ab3945c0dcbe2f4ec69206a2658c84e9b25c403c4b", checked := Try.checked }
namespace Rows
def none {H : Type} : Left H := { results := [], args := [] }

/-- 'marcheslaw35.RatingTells': WHATEVER THE INPUT: true; the input reads as it did. -/
def ratingTellsSpec : ChangeSpec := { name := "ratingTells", fn := fun _ => fun
  | [d1, d2, d3, d4] => { results := [.lit (.bool true)], args := [d1, d2, d3, d4] }
  | _ => none }
def ratingTellsRow : OpenClaim := { program := "ytkceefheeicmbaa", sum := "e70d3d045559cc67098ad2ab3945c0dcbe2f4ec69206a2658c84e9b25c403c4b", func := "marches/marcheslaw35.RatingTells", spec := "ratingTells", unfollowed := true, recurses := true, apart := false }
def RatingTellsSaid : Prop := ratingTellsRow.holds Try.pinned (OpenSpec.ofChange ratingTellsSpec)

/-- ITS FALSE NEIGHBOUR: 'it returns false'. Refute it at one input. -/
def ratingTellsWrong : ChangeSpec := { name := "ratingTells", fn := fun _ => fun
  | [d1, d2, d3, d4] => { results := [.lit (.bool false)], args := [d1, d2, d3, d4] }
  | _ => none }
def RatingTellsWrongFalsely : Prop := ratingTellsRow.holds Try.pinned (OpenSpec.ofChange ratingTellsWrong)

/-- 'marcheslaw35.RatingMatches': WHATEVER THE INPUT: true; the input reads as it did. -/
def ratingMatchesSpec : ChangeSpec := { name := "ratingMatches", fn := fun _ => fun
  | [d1, d2, d3, d4] => { results := [.lit (.bool true)], args := [d1, d2, d3, d4] }
  | _ => none }
def ratingMatchesRow : OpenClaim := { program := "ytkceefheeicmbaa", sum := "e70d3d045559cc67098ad2ab3945c0dcbe2f4ec69206a2658c84e9b25c403c4b", func := "marches/marcheslaw35.RatingMatches", spec := "ratingMatches", unfollowed := true, recurses := true, apart := false }
def RatingMatchesSaid : Prop := ratingMatchesRow.holds Try.pinned (OpenSpec.ofChange ratingMatchesSpec)

/-- ITS FALSE NEIGHBOUR: 'it returns false'. Refute it at one input. -/
def ratingMatchesWrong : ChangeSpec := { name := "ratingMatches", fn := fun _ => fun
  | [d1, d2, d3, d4] => { results := [.lit (.bool false)], args := [d1, d2, d3, d4] }
  | _ => none }
def RatingMatchesWrongFalsely : Prop := ratingMatchesRow.holds Try.pinned (OpenSpec.ofChange ratingMatchesWrong)

/-- 'marcheslaw35.RatingPairs': WHATEVER THE INPUT: true; the input reads as it did. -/
def ratingPairsSpec : ChangeSpec := { name := "ratingPairs", fn := fun _ => fun
  | [d1, d2] => { results := [.lit (.bool true)], args := [d1, d2] }
  | _ => none }
def ratingPairsRow : OpenClaim := { program := "ytkceefheeicmbaa", sum := "e70d3d045559cc67098ad2ab3945c0dcbe2f4ec69206a2658c84e9b25c403c4b", func := "marches/marcheslaw35.RatingPairs", spec := "ratingPairs", unfollowed := true, recurses := true, apart := false }
def RatingPairsSaid : Prop := ratingPairsRow.holds Try.pinned (OpenSpec.ofChange ratingPairsSpec)

/-- ITS FALSE NEIGHBOUR: 'it returns false'. Refute it at one input. -/
def ratingPairsWrong : ChangeSpec := { name := "ratingPairs", fn := fun _ => fun
  | [d1, d2] => { results := [.lit (.bool false)], args := [d1, d2] }
  | _ => none }
def RatingPairsWrongFalsely : Prop := ratingPairsRow.holds Try.pinned (OpenSpec.ofChange ratingPairsWrong)

/-- 'marcheslaw35.RatingFair': WHATEVER THE INPUT: true; the input reads as it did. -/
def ratingFairSpec : ChangeSpec := { name := "ratingFair", fn := fun _ => fun
  | [d1, d2, d3, d4] => { results := [.lit (.bool true)], args := [d1, d2, d3, d4] }
  | _ => none }
def ratingFairRow : OpenClaim := { program := "ytkceefheeicmbaa", sum := "e70d3d045559cc67098ad2ab3945c0dcbe2f4ec69206a2658c84e9b25c403c4b", func := "marches/marcheslaw35.RatingFair", spec := "ratingFair", unfollowed := true, recurses := true, apart := false }
def RatingFairSaid : Prop := ratingFairRow.holds Try.pinned (OpenSpec.ofChange ratingFairSpec)

/-- ITS FALSE NEIGHBOUR: 'it returns false'. Refute it at one input. -/
def ratingFairWrong : ChangeSpec := { name := "ratingFair", fn := fun _ => fun
  | [d1, d2, d3, d4] => { results := [.lit (.bool false)], args := [d1, d2, d3, d4] }
  | _ => none }
def RatingFairWrongFalsely : Prop := ratingFairRow.holds Try.pinned (OpenSpec.ofChange ratingFairWrong)

/-- 'marcheslaw35.RatingTeams': WHATEVER THE INPUT: true; the input reads as it did. -/
def ratingTeamsSpec : ChangeSpec := { name := "ratingTeams", fn := fun _ => fun
  | [d1, d2, d3, d4] => { results := [.lit (.bool true)], args := [d1, d2, d3, d4] }
  | _ => none }
def ratingTeamsRow : OpenClaim := { program := "ytkceefheeicmbaa", sum := "e70d3d045559cc67098ad2ab3945c0dcbe2f4ec69206a2658c84e9b25c403c4b", func := "marches/marcheslaw35.RatingTeams", spec := "ratingTeams", unfollowed := true, recurses := true, apart := false }
def RatingTeamsSaid : Prop := ratingTeamsRow.holds Try.pinned (OpenSpec.ofChange ratingTeamsSpec)

/-- ITS FALSE NEIGHBOUR: 'it returns false'. Refute it at one input. -/
def ratingTeamsWrong : ChangeSpec := { name := "ratingTeams", fn := fun _ => fun
  | [d1, d2, d3, d4] => { results := [.lit (.bool false)], args := [d1, d2, d3, d4] }
  | _ => none }
def RatingTeamsWrongFalsely : Prop := ratingTeamsRow.holds Try.pinned (OpenSpec.ofChange ratingTeamsWrong)

/-- 'marcheslaw35.RatingPairing': WHATEVER THE INPUT: true; the input reads as it did. -/
def ratingPairingSpec : ChangeSpec := { name := "ratingPairing", fn := fun _ => fun
  | [d1, d2] => { results := [.lit (.bool true)], args := [d1, d2] }
  | _ => none }
def ratingPairingRow : OpenClaim := { program := "ytkceefheeicmbaa", sum := "e70d3d045559cc67098ad2ab3945c0dcbe2f4ec69206a2658c84e9b25c403c4b", func := "marches/marcheslaw35.RatingPairing", spec := "ratingPairing", unfollowed := true, recurses := true, apart := false }
def RatingPairingSaid : Prop := ratingPairingRow.holds Try.pinned (OpenSpec.ofChange ratingPairingSpec)

/-- ITS FALSE NEIGHBOUR: 'it returns false'. Refute it at one input. -/
def ratingPairingWrong : ChangeSpec := { name := "ratingPairing", fn := fun _ => fun
  | [d1, d2] => { results := [.lit (.bool false)], args := [d1, d2] }
  | _ => none }
def RatingPairingWrongFalsely : Prop := ratingPairingRow.holds Try.pinned (OpenSpec.ofChange ratingPairingWrong)

/-- 'marcheslaw35.RatingOrder': WHATEVER THE INPUT: true; the input reads as it did. -/
def ratingOrderSpec : ChangeSpec := { name := "ratingOrder", fn := fun _ => fun
  | [d1, d2, d3] => { results := [.lit (.bool true)], args := [d1, d2, d3] }
  | _ => none }
def ratingOrderRow : OpenClaim := { program := "ytkceefheeicmbaa", sum := "e70d3d045559cc67098ad2ab3945c0dcbe2f4ec69206a2658c84e9b25c403c4b", func := "marches/marcheslaw35.RatingOrder", spec := "ratingOrder", unfollowed := true, recurses := true, apart := false }
def RatingOrderSaid : Prop := ratingOrderRow.holds Try.pinned (OpenSpec.ofChange ratingOrderSpec)

/-- ITS FALSE NEIGHBOUR: 'it returns false'. Refute it at one input. -/
def ratingOrderWrong : ChangeSpec := { name := "ratingOrder", fn := fun _ => fun
  | [d1, d2, d3] => { results := [.lit (.bool false)], args := [d1, d2, d3] }
  | _ => none }
def RatingOrderWrongFalsely : Prop := ratingOrderRow.holds Try.pinned (OpenSpec.ofChange ratingOrderWrong)

/-- 'marcheslaw35.RatingPlays': WHATEVER THE INPUT: true; the input reads as it did. -/
def ratingPlaysSpec : ChangeSpec := { name := "ratingPlays", fn := fun _ => fun
  | [d1, d2, d3] => { results := [.lit (.bool true)], args := [d1, d2, d3] }
  | _ => none }
def ratingPlaysRow : OpenClaim := { program := "ytkceefheeicmbaa", sum := "e70d3d045559cc67098ad2ab3945c0dcbe2f4ec69206a2658c84e9b25c403c4b", func := "marches/marcheslaw35.RatingPlays", spec := "ratingPlays", unfollowed := true, recurses := true, apart := false }
def RatingPlaysSaid : Prop := ratingPlaysRow.holds Try.pinned (OpenSpec.ofChange ratingPlaysSpec)

/-- ITS FALSE NEIGHBOUR: 'it returns false'. Refute it at one input. -/
def ratingPlaysWrong : ChangeSpec := { name := "ratingPlays", fn := fun _ => fun
  | [d1, d2, d3] => { results := [.lit (.bool false)], args := [d1, d2, d3] }
  | _ => none }
def RatingPlaysWrongFalsely : Prop := ratingPlaysRow.holds Try.pinned (OpenSpec.ofChange ratingPlaysWrong)

/-- 'marcheslaw35.RatingSmall': WHATEVER THE INPUT: true; the input reads as it did. -/
def ratingSmallSpec : ChangeSpec := { name := "ratingSmall", fn := fun _ => fun
  | [] => { results := [.lit (.bool true)], args := [] }
  | _ => none }
def ratingSmallRow : OpenClaim := { program := "ytkceefheeicmbaa", sum := "e70d3d045559cc67098ad2ab3945c0dcbe2f4ec69206a2658c84e9b25c403c4b", func := "marches/marcheslaw35.RatingSmall", spec := "ratingSmall", unfollowed := true, recurses := true, apart := false }
def RatingSmallSaid : Prop := ratingSmallRow.holds Try.pinned (OpenSpec.ofChange ratingSmallSpec)

/-- ITS FALSE NEIGHBOUR: 'it returns false'. Refute it at one input. -/
def ratingSmallWrong : ChangeSpec := { name := "ratingSmall", fn := fun _ => fun
  | [] => { results := [.lit (.bool false)], args := [] }
  | _ => none }
def RatingSmallWrongFalsely : Prop := ratingSmallRow.holds Try.pinned (OpenSpec.ofChange ratingSmallWrong)

/-- 'marcheslaw35.RatingSum': WHATEVER THE INPUT: true; the input reads as it did. -/
def ratingSumSpec : ChangeSpec := { name := "ratingSum", fn := fun _ => fun
  | [d1, d2, d3, d4] => { results := [.lit (.bool true)], args := [d1, d2, d3, d4] }
  | _ => none }
def ratingSumRow : OpenClaim := { program := "ytkceefheeicmbaa", sum := "e70d3d045559cc67098ad2ab3945c0dcbe2f4ec69206a2658c84e9b25c403c4b", func := "marches/marcheslaw35.RatingSum", spec := "ratingSum", unfollowed := true, recurses := true, apart := false }
def RatingSumSaid : Prop := ratingSumRow.holds Try.pinned (OpenSpec.ofChange ratingSumSpec)

/-- ITS FALSE NEIGHBOUR: 'it returns false'. Refute it at one input. -/
def ratingSumWrong : ChangeSpec := { name := "ratingSum", fn := fun _ => fun
  | [d1, d2, d3, d4] => { results := [.lit (.bool false)], args := [d1, d2, d3, d4] }
  | _ => none }
def RatingSumWrongFalsely : Prop := ratingSumRow.holds Try.pinned (OpenSpec.ofChange ratingSumWrong)

/-- 'marcheslaw35.RatingWrong': WHATEVER THE INPUT: true; the input reads as it did. -/
def ratingWrongSpec : ChangeSpec := { name := "ratingWrong", fn := fun _ => fun
  | [d1, d2, d3, d4] => { results := [.lit (.bool true)], args := [d1, d2, d3, d4] }
  | _ => none }
def ratingWrongRow : OpenClaim := { program := "ytkceefheeicmbaa", sum := "e70d3d045559cc67098ad2ab3945c0dcbe2f4ec69206a2658c84e9b25c403c4b", func := "marches/marcheslaw35.RatingWrong", spec := "ratingWrong", unfollowed := true, recurses := true, apart := false }
def RatingWrongSaid : Prop := ratingWrongRow.holds Try.pinned (OpenSpec.ofChange ratingWrongSpec)

/-- ITS FALSE NEIGHBOUR: 'it returns false'. Refute it at one input. -/
def ratingWrongWrong : ChangeSpec := { name := "ratingWrong", fn := fun _ => fun
  | [d1, d2, d3, d4] => { results := [.lit (.bool false)], args := [d1, d2, d3, d4] }
  | _ => none }
def RatingWrongWrongFalsely : Prop := ratingWrongRow.holds Try.pinned (OpenSpec.ofChange ratingWrongWrong)

/- THE SECOND FORM. 'bulk': how many values and letters a reading holds, each counted each time it is reached (what is shared counts as often as it is met; a slice's spare places count too). A statement '..UptoSaid' is the law's where the arguments, and the package variables that the reading takes, are together of bulk at most 1048576: NARROWER than '..Said'. Prove '..Said' where nothing that the law and all that it calls make is longer than what came in: it says more and counts as full. Else prove '..UptoSaid'. A law counts once. -/
mutual
def uptoBulk {H : Type} : DataW H → Nat
  | .lit (.string bytes) => bytes.length + 1
  | .lit _ => 1
  | .nil => 1
  | .ptr d => uptoBulk d + 1
  | .slice elems spare => uptoBulkAll elems + uptoBulkAll spare + 1
  | .agg parts => uptoBulkAll parts + 1
  | .iface _ d => uptoBulk d + 1
  | .map entries => uptoBulkEntries entries + 1
  | .held _ => 1
def uptoBulkAll {H : Type} : List (DataW H) → Nat
  | [] => 0
  | d :: r => uptoBulk d + uptoBulkAll r
def uptoBulkEntries {H : Type} : List (Lit × DataW H) → Nat
  | [] => 0
  | x :: r => uptoBulkEntry x + uptoBulkEntries r
def uptoBulkEntry {H : Type} : Lit × DataW H → Nat
  | (.string bytes, d) => bytes.length + uptoBulk d + 1
  | (_, d) => uptoBulk d + 1
 end
def uptoSmall : (H : Type) → List (DataW H) → Bool := fun _ ds => decide (uptoBulkAll ds ≤ 1048576)
def OpenSpec.upto (s : _root_.Go.ChangeSpec) : _root_.Go.OpenSpec := { _root_.Go.OpenSpec.ofChange s with cond := some uptoSmall }

/-- 'marcheslaw35.RatingTells', WHERE WHAT IT READS IS OF BULK AT MOST 1048576: true; the input reads as it did. -/
def ratingTellsUptoRow : OpenClaim := { program := "ytkceefheeicmbaa", sum := "e70d3d045559cc67098ad2ab3945c0dcbe2f4ec69206a2658c84e9b25c403c4b", func := "marches/marcheslaw35.RatingTells", spec := "ratingTells", unfollowed := true, recurses := true, apart := false, narrowed := true }
def RatingTellsUptoSaid : Prop := ratingTellsUptoRow.holds Try.pinned (OpenSpec.upto ratingTellsSpec)

/-- 'marcheslaw35.RatingMatches', WHERE WHAT IT READS IS OF BULK AT MOST 1048576: true; the input reads as it did. -/
def ratingMatchesUptoRow : OpenClaim := { program := "ytkceefheeicmbaa", sum := "e70d3d045559cc67098ad2ab3945c0dcbe2f4ec69206a2658c84e9b25c403c4b", func := "marches/marcheslaw35.RatingMatches", spec := "ratingMatches", unfollowed := true, recurses := true, apart := false, narrowed := true }
def RatingMatchesUptoSaid : Prop := ratingMatchesUptoRow.holds Try.pinned (OpenSpec.upto ratingMatchesSpec)

/-- 'marcheslaw35.RatingPairs', WHERE WHAT IT READS IS OF BULK AT MOST 1048576: true; the input reads as it did. -/
def ratingPairsUptoRow : OpenClaim := { program := "ytkceefheeicmbaa", sum := "e70d3d045559cc67098ad2ab3945c0dcbe2f4ec69206a2658c84e9b25c403c4b", func := "marches/marcheslaw35.RatingPairs", spec := "ratingPairs", unfollowed := true, recurses := true, apart := false, narrowed := true }
def RatingPairsUptoSaid : Prop := ratingPairsUptoRow.holds Try.pinned (OpenSpec.upto ratingPairsSpec)

/-- 'marcheslaw35.RatingFair', WHERE WHAT IT READS IS OF BULK AT MOST 1048576: true; the input reads as it did. -/
def ratingFairUptoRow : OpenClaim := { program := "ytkceefheeicmbaa", sum := "e70d3d045559cc67098ad2ab3945c0dcbe2f4ec69206a2658c84e9b25c403c4b", func := "marches/marcheslaw35.RatingFair", spec := "ratingFair", unfollowed := true, recurses := true, apart := false, narrowed := true }
def RatingFairUptoSaid : Prop := ratingFairUptoRow.holds Try.pinned (OpenSpec.upto ratingFairSpec)

/-- 'marcheslaw35.RatingTeams', WHERE WHAT IT READS IS OF BULK AT MOST 1048576: true; the input reads as it did. -/
def ratingTeamsUptoRow : OpenClaim := { program := "ytkceefheeicmbaa", sum := "e70d3d045559cc67098ad2ab3945c0dcbe2f4ec69206a2658c84e9b25c403c4b", func := "marches/marcheslaw35.RatingTeams", spec := "ratingTeams", unfollowed := true, recurses := true, apart := false, narrowed := true }
def RatingTeamsUptoSaid : Prop := ratingTeamsUptoRow.holds Try.pinned (OpenSpec.upto ratingTeamsSpec)

/-- 'marcheslaw35.RatingPairing', WHERE WHAT IT READS IS OF BULK AT MOST 1048576: true; the input reads as it did. -/
def ratingPairingUptoRow : OpenClaim := { program := "ytkceefheeicmbaa", sum := "e70d3d045559cc67098ad2ab3945c0dcbe2f4ec69206a2658c84e9b25c403c4b", func := "marches/marcheslaw35.RatingPairing", spec := "ratingPairing", unfollowed := true, recurses := true, apart := false, narrowed := true }
def RatingPairingUptoSaid : Prop := ratingPairingUptoRow.holds Try.pinned (OpenSpec.upto ratingPairingSpec)

/-- 'marcheslaw35.RatingOrder', WHERE WHAT IT READS IS OF BULK AT MOST 1048576: true; the input reads as it did. -/
def ratingOrderUptoRow : OpenClaim := { program := "ytkceefheeicmbaa", sum := "e70d3d045559cc67098ad2ab3945c0dcbe2f4ec69206a2658c84e9b25c403c4b", func := "marches/marcheslaw35.RatingOrder", spec := "ratingOrder", unfollowed := true, recurses := true, apart := false, narrowed := true }
def RatingOrderUptoSaid : Prop := ratingOrderUptoRow.holds Try.pinned (OpenSpec.upto ratingOrderSpec)

/-- 'marcheslaw35.RatingPlays', WHERE WHAT IT READS IS OF BULK AT MOST 1048576: true; the input reads as it did. -/
def ratingPlaysUptoRow : OpenClaim := { program := "ytkceefheeicmbaa", sum := "e70d3d045559cc67098ad2ab3945c0dcbe2f4ec69206a2658c84e9b25c403c4b", func := "marches/marcheslaw35.RatingPlays", spec := "ratingPlays", unfollowed := true, recurses := true, apart := false, narrowed := true }
def RatingPlaysUptoSaid : Prop := ratingPlaysUptoRow.holds Try.pinned (OpenSpec.upto ratingPlaysSpec)

/-- 'marcheslaw35.RatingSmall', WHERE WHAT IT READS IS OF BULK AT MOST 1048576: true; the input reads as it did. -/
def ratingSmallUptoRow : OpenClaim := { program := "ytkceefheeicmbaa", sum := "e70d3d045559cc67098ad2ab3945c0dcbe2f4ec69206a2658c84e9b25c403c4b", func := "marches/marcheslaw35.RatingSmall", spec := "ratingSmall", unfollowed := true, recurses := true, apart := false, narrowed := true }
def RatingSmallUptoSaid : Prop := ratingSmallUptoRow.holds Try.pinned (OpenSpec.upto ratingSmallSpec)

/-- 'marcheslaw35.RatingSum', WHERE WHAT IT READS IS OF BULK AT MOST 1048576: true; the input reads as it did. -/
def ratingSumUptoRow : OpenClaim := { program := "ytkceefheeicmbaa", sum := "e70d3d045559cc67098ad2ab3945c0dcbe2f4ec69206a2658c84e9b25c403c4b", func := "marches/marcheslaw35.RatingSum", spec := "ratingSum", unfollowed := true, recurses := true, apart := false, narrowed := true }
def RatingSumUptoSaid : Prop := ratingSumUptoRow.holds Try.pinned (OpenSpec.upto ratingSumSpec)

/-- 'marcheslaw35.RatingWrong', WHERE WHAT IT READS IS OF BULK AT MOST 1048576: true; the input reads as it did. -/
def ratingWrongUptoRow : OpenClaim := { program := "ytkceefheeicmbaa", sum := "e70d3d045559cc67098ad2ab3945c0dcbe2f4ec69206a2658c84e9b25c403c4b", func := "marches/marcheslaw35.RatingWrong", spec := "ratingWrong", unfollowed := true, recurses := true, apart := false, narrowed := true }
def RatingWrongUptoSaid : Prop := ratingWrongUptoRow.holds Try.pinned (OpenSpec.upto ratingWrongSpec)

end Rows
end Go.Proofs.Ytkceefheeicmbaa
