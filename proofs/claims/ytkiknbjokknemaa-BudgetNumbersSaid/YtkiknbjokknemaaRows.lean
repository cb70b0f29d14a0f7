/-
  No cell of these rows narrows 'for every input' (looked for: loops, veiled, ifaces, maps, wideKeys, modest, calm, conditions, laid).
  DERIVED. THE GIVEN ROWS OF THIS SEAT. 8 by the template 'for every input the law returns true; each argument reads behind the call as it read before'; 0 by the template 'total and deterministic' (their statements: YtkiknbjokknemaaTotals.lean).
  GIVEN WITH THE SEED: the statements are not yours to turn. If you find one false, say at which input.
  Laid BY PROGRAM, IN A SANDBOX (cutbox-rows.mjs): the forced cells as the released guide's own fill.sh prints them over the translation db2a6a07fbab27ac… (all of the seat's roots in one cut). By AI agents, Wed Nov 11 2026. No macro, syntax, notation, axiom, sorry.
-/
import Derived.Test.YtkiknbjokknemaaChecked
import GoSem.Claim
import GoSem.ClaimJoined
import GoSem.ClaimMapViews
import Derived.JoinedTies
import Derived.KernelRfl
namespace Go.Proofs.Ytkiknbjokknemaa
/- THE CELL 'sum', in the pinned program and in every row, IS THE sha256 OF THE DUMP (.gsa) THAT YtkiknbjokknemaaProg.lean LOADS. Nothing in Lean hashes anything: it is a label: what it is worth is what the hold of that sum in a sandbox is worth. -/
noncomputable def Try.pinned : Pinned := { name := "ytkiknbjokknemaa", sum := "db2a6a07fbab27ac49c0ad5a3883990a321d8a56754ac6eba93e5a2ae6b883a0", checked := Try.checked }
namespace Rows
def none {H : Type} : Left H := { results := [], args := [] }

/-- 'marcheslaw25.BudgetNumbers': WHATEVER THE INPUT: true; the input reads as it did. -/
def budgetNumbersSpec : ChangeSpec := { name := "budgetNumbers", fn := fun _ => fun
  | [d1, d2, d3, d4, d5, d6] => { results := [.lit (.bool true)], args := [d1, d2, d3, d4, d5, d6] }
  | _ => none }
def budgetNumbersRow : OpenClaim := { program := "ytkiknbjokknemaa", sum := "db2a6a07fbab27ac49c0ad5a3883990a321d8a56754ac6eba93e5a2ae6b883a0", func := "marches/marcheslaw25.BudgetNumbers", spec := "budgetNumbers", inPlace := ["math/big.addVV", "math/bits.Add64", "math/big.subVV", "math/bits.Sub64"], unfollowed := true, recurses := true, apart := false }
def BudgetNumbersSaid : Prop := budgetNumbersRow.holds Try.pinned (OpenSpec.ofChange budgetNumbersSpec)

/-- ITS FALSE NEIGHBOUR: 'it returns false'. Refute it at one input. -/
def budgetNumbersWrong : ChangeSpec := { name := "budgetNumbers", fn := fun _ => fun
  | [d1, d2, d3, d4, d5, d6] => { results := [.lit (.bool false)], args := [d1, d2, d3, d4, d5, d6] }
  | _ => none }
def BudgetNumbersWrongFalsely : Prop := budgetNumbersRow.holds Try.pinned (OpenSpec.ofChange budgetNumbersWrong)

/-- 'marcheslaw25.BudgetBound': WHATEVER THE INPUT: true; the input reads as it did. -/
def budgetBoundSpec : ChangeSpec := { name := "budgetBound", fn := fun _ => fun
  | [d] => { results := [.lit (.bool true)], args := [d] }
  | _ => none }
def budgetBoundRow : OpenClaim := { program := "ytkiknbjokknemaa", sum := "db2a6a07fbab27ac49c0ad5a3883990a321d8a56754ac6eba93e5a2ae6b883a0", func := "marches/marcheslaw25.BudgetBound", spec := "budgetBound", unfollowed := true, recurses := true, apart := false }
def BudgetBoundSaid : Prop := budgetBoundRow.holds Try.pinned (OpenSpec.ofChange budgetBoundSpec)

/-- ITS FALSE NEIGHBOUR: 'it returns false'. Refute it at one input. -/
def budgetBoundWrong : ChangeSpec := { name := "budgetBound", fn := fun _ => fun
  | [d] => { results := [.lit (.bool false)], args := [d] }
  | _ => none }
def BudgetBoundWrongFalsely : Prop := budgetBoundRow.holds Try.pinned (OpenSpec.ofChange budgetBoundWrong)

/-- 'marcheslaw25.BudgetOrder': WHATEVER THE INPUT: true; the input reads as it did. -/
def budgetOrderSpec : ChangeSpec := { name := "budgetOrder", fn := fun _ => fun
  | [d] => { results := [.lit (.bool true)], args := [d] }
  | _ => none }
def budgetOrderRow : OpenClaim := { program := "ytkiknbjokknemaa", sum := "db2a6a07fbab27ac49c0ad5a3883990a321d8a56754ac6eba93e5a2ae6b883a0", func := "marches/marcheslaw25.BudgetOrder", spec := "budgetOrder", unfollowed := true, recurses := true, apart := false }
def BudgetOrderSaid : Prop := budgetOrderRow.holds Try.pinned (OpenSpec.ofChange budgetOrderSpec)

/-- ITS FALSE NEIGHBOUR: 'it returns false'. Refute it at one input. -/
def budgetOrderWrong : ChangeSpec := { name := "budgetOrder", fn := fun _ => fun
  | [d] => { results := [.lit (.bool false)], args := [d] }
  | _ => none }
def BudgetOrderWrongFalsely : Prop := budgetOrderRow.holds Try.pinned (OpenSpec.ofChange budgetOrderWrong)

/-- 'marcheslaw25.BudgetRuns': WHATEVER THE INPUT: true; the input reads as it did. -/
def budgetRunsSpec : ChangeSpec := { name := "budgetRuns", fn := fun _ => fun
  | [d1, d2, d3, d4] => { results := [.lit (.bool true)], args := [d1, d2, d3, d4] }
  | _ => none }
def budgetRunsRow : OpenClaim := { program := "ytkiknbjokknemaa", sum := "db2a6a07fbab27ac49c0ad5a3883990a321d8a56754ac6eba93e5a2ae6b883a0", func := "marches/marcheslaw25.BudgetRuns", spec := "budgetRuns", unfollowed := true, recurses := true, apart := false }
def BudgetRunsSaid : Prop := budgetRunsRow.holds Try.pinned (OpenSpec.ofChange budgetRunsSpec)

/-- ITS FALSE NEIGHBOUR: 'it returns false'. Refute it at one input. -/
def budgetRunsWrong : ChangeSpec := { name := "budgetRuns", fn := fun _ => fun
  | [d1, d2, d3, d4] => { results := [.lit (.bool false)], args := [d1, d2, d3, d4] }
  | _ => none }
def BudgetRunsWrongFalsely : Prop := budgetRunsRow.holds Try.pinned (OpenSpec.ofChange budgetRunsWrong)

/-- 'marcheslaw25.BudgetTurns': WHATEVER THE INPUT: true; the input reads as it did. -/
def budgetTurnsSpec : ChangeSpec := { name := "budgetTurns", fn := fun _ => fun
  | [d1, d2, d3] => { results := [.lit (.bool true)], args := [d1, d2, d3] }
  | _ => none }
def budgetTurnsRow : OpenClaim := { program := "ytkiknbjokknemaa", sum := "db2a6a07fbab27ac49c0ad5a3883990a321d8a56754ac6eba93e5a2ae6b883a0", func := "marches/marcheslaw25.BudgetTurns", spec := "budgetTurns", unfollowed := true, recurses := true, apart := false }
def BudgetTurnsSaid : Prop := budgetTurnsRow.holds Try.pinned (OpenSpec.ofChange budgetTurnsSpec)

/-- ITS FALSE NEIGHBOUR: 'it returns false'. Refute it at one input. -/
def budgetTurnsWrong : ChangeSpec := { name := "budgetTurns", fn := fun _ => fun
  | [d1, d2, d3] => { results := [.lit (.bool false)], args := [d1, d2, d3] }
  | _ => none }
def BudgetTurnsWrongFalsely : Prop := budgetTurnsRow.holds Try.pinned (OpenSpec.ofChange budgetTurnsWrong)

/-- 'marcheslaw25.BudgetShares': WHATEVER THE INPUT: true; the input reads as it did. -/
def budgetSharesSpec : ChangeSpec := { name := "budgetShares", fn := fun _ => fun
  | [d1, d2] => { results := [.lit (.bool true)], args := [d1, d2] }
  | _ => none }
def budgetSharesRow : OpenClaim := { program := "ytkiknbjokknemaa", sum := "db2a6a07fbab27ac49c0ad5a3883990a321d8a56754ac6eba93e5a2ae6b883a0", func := "marches/marcheslaw25.BudgetShares", spec := "budgetShares", unfollowed := true, recurses := true, apart := false }
def BudgetSharesSaid : Prop := budgetSharesRow.holds Try.pinned (OpenSpec.ofChange budgetSharesSpec)

/-- ITS FALSE NEIGHBOUR: 'it returns false'. Refute it at one input. -/
def budgetSharesWrong : ChangeSpec := { name := "budgetShares", fn := fun _ => fun
  | [d1, d2] => { results := [.lit (.bool false)], args := [d1, d2] }
  | _ => none }
def BudgetSharesWrongFalsely : Prop := budgetSharesRow.holds Try.pinned (OpenSpec.ofChange budgetSharesWrong)

/-- 'marcheslaw25.BudgetWeights': WHATEVER THE INPUT: true; the input reads as it did. -/
def budgetWeightsSpec : ChangeSpec := { name := "budgetWeights", fn := fun _ => fun
  | [d1, d2, d3, d4, d5] => { results := [.lit (.bool true)], args := [d1, d2, d3, d4, d5] }
  | _ => none }
def budgetWeightsRow : OpenClaim := { program := "ytkiknbjokknemaa", sum := "db2a6a07fbab27ac49c0ad5a3883990a321d8a56754ac6eba93e5a2ae6b883a0", func := "marches/marcheslaw25.BudgetWeights", spec := "budgetWeights", unfollowed := true, recurses := true, apart := false }
def BudgetWeightsSaid : Prop := budgetWeightsRow.holds Try.pinned (OpenSpec.ofChange budgetWeightsSpec)

/-- ITS FALSE NEIGHBOUR: 'it returns false'. Refute it at one input. -/
def budgetWeightsWrong : ChangeSpec := { name := "budgetWeights", fn := fun _ => fun
  | [d1, d2, d3, d4, d5] => { results := [.lit (.bool false)], args := [d1, d2, d3, d4, d5] }
  | _ => none }
def BudgetWeightsWrongFalsely : Prop := budgetWeightsRow.holds Try.pinned (OpenSpec.ofChange budgetWeightsWrong)

/-- 'marcheslaw25.BudgetWrong': WHATEVER THE INPUT: true; the input reads as it did. -/
def budgetWrongSpec : ChangeSpec := { name := "budgetWrong", fn := fun _ => fun
  | [d1, d2, d3, d4] => { results := [.lit (.bool true)], args := [d1, d2, d3, d4] }
  | _ => none }
def budgetWrongRow : OpenClaim := { program := "ytkiknbjokknemaa", sum := "db2a6a07fbab27ac49c0ad5a3883990a321d8a56754ac6eba93e5a2ae6b883a0", func := "marches/marcheslaw25.BudgetWrong", spec := "budgetWrong", unfollowed := true, recurses := true, apart := false }
def BudgetWrongSaid : Prop := budgetWrongRow.holds Try.pinned (OpenSpec.ofChange budgetWrongSpec)

/-- ITS FALSE NEIGHBOUR: 'it returns false'. Refute it at one input. -/
def budgetWrongWrong : ChangeSpec := { name := "budgetWrong", fn := fun _ => fun
  | [d1, d2, d3, d4] => { results := [.lit (.bool false)], args := [d1, d2, d3, d4] }
  | _ => none }
def BudgetWrongWrongFalsely : Prop := budgetWrongRow.holds Try.pinned (OpenSpec.ofChange budgetWrongWrong)

/- THE SECOND FORM. 'bulk': how many values and letters a reading holds, each counted each time it is reached (what is shared counts as often as it is met; a slice's spare places count too). A statement '..UptoSaid' is the law's where the arguments, and the package variables that the reading takes, are together of bulk at most 1048576: NARROWER than '..Said'. Prove '..Said' where nothing that the law and all that it calls make is longer than what came in: it says more and counts as full. Else prove '..UptoSaid'. A law counts once. -/
mutual
def uptoBulk {H : Type} : DataW H → Nat
  | .lit (.string bytes) => bytes.length + 1
  | .lit _ => 1
  | .nil => 1
  | .ptr d => uptoBulk d + 1
  | .slice elems spare => uptoBulkAll elems + uptoBulkAll spare + 1
  | .agg parts => uptoBulkAll parts + 1
  | .iface _ d => uptoBulk d + 1
  | .map entries => uptoBulkEntries entries + 1
  | .held _ => 1
def uptoBulkAll {H : Type} : List (DataW H) → Nat
  | [] => 0
  | d :: r => uptoBulk d + uptoBulkAll r
def uptoBulkEntries {H : Type} : List (Lit × DataW H) → Nat
  | [] => 0
  | x :: r => uptoBulkEntry x + uptoBulkEntries r
def uptoBulkEntry {H : Type} : Lit × DataW H → Nat
  | (.string bytes, d) => bytes.length + uptoBulk d + 1
  | (_, d) => uptoBulk d + 1
 end
def uptoSmall : (H : Type) → List (DataW H) → Bool := fun _ ds => decide (uptoBulkAll ds ≤ 1048576)
def OpenSpec.upto (s : _root_.Go.ChangeSpec) : _root_.Go.OpenSpec := { _root_.Go.OpenSpec.ofChange s with cond := some uptoSmall }

/-- 'marcheslaw25.BudgetNumbers', WHERE WHAT IT READS IS OF BULK AT MOST 1048576: true; the input reads as it did. -/
def budgetNumbersUptoRow : OpenClaim := { program := "ytkiknbjokknemaa", sum := "db2a6a07fbab27ac49c0ad5a3883990a321d8a56754ac6eba93e5a2ae6b883a0", func := "marches/marcheslaw25.BudgetNumbers", spec := "budgetNumbers", inPlace := ["math/big.addVV", "math/bits.Add64", "math/big.subVV", "math/bits.Sub64"], unfollowed := true, recurses := true, apart := false, narrowed := true }
def BudgetNumbersUptoSaid : Prop := budgetNumbersUptoRow.holds Try.pinned (OpenSpec.upto budgetNumbersSpec)

/-- 'marcheslaw25.BudgetBound', WHERE WHAT IT READS IS OF BULK AT MOST 1048576: true; the input reads as it did. -/
def budgetBoundUptoRow : OpenClaim := { program := "ytkiknbjokknemaa", sum := "db2a6a07fbab27ac49c0ad5a3883990a321d8a56754ac6eba93e5a2ae6b883a0", func := "marches/marcheslaw25.BudgetBound", spec := "budgetBound", unfollowed := true, recurses := true, apart := false, narrowed := true }
def BudgetBoundUptoSaid : Prop := budgetBoundUptoRow.holds Try.pinned (OpenSpec.upto budgetBoundSpec)

/-- 'marcheslaw25.BudgetOrder', WHERE WHAT IT READS IS OF BULK AT MOST 1048576: true; the input reads as it did. -/
def budgetOrderUptoRow : OpenClaim := { program := "ytkiknbjokknemaa", sum := "db2a6a07fbab27ac49c0ad5a3883990a321d8a56754ac6eba93e5a2ae6b883a0", func := "marches/marcheslaw25.BudgetOrder", spec := "budgetOrder", unfollowed := true, recurses := true, apart := false, narrowed := true }
def BudgetOrderUptoSaid : Prop := budgetOrderUptoRow.holds Try.pinned (OpenSpec.upto budgetOrderSpec)

/-- 'marcheslaw25.BudgetRuns', WHERE WHAT IT READS IS OF BULK AT MOST 1048576: true; the input reads as it did. -/
def budgetRunsUptoRow : OpenClaim := { program := "ytkiknbjokknemaa", sum := "db2a6a07fbab27ac49c0ad5a3883990a321d8a56754ac6eba93e5a2ae6b883a0", func := "marches/marcheslaw25.BudgetRuns", spec := "budgetRuns", unfollowed := true, recurses := true, apart := false, narrowed := true }
def BudgetRunsUptoSaid : Prop := budgetRunsUptoRow.holds Try.pinned (OpenSpec.upto budgetRunsSpec)

/-- 'marcheslaw25.BudgetTurns', WHERE WHAT IT READS IS OF BULK AT MOST 1048576: true; the input reads as it did. -/
def budgetTurnsUptoRow : OpenClaim := { program := "ytkiknbjokknemaa", sum := "db2a6a07fbab27ac49c0ad5a3883990a321d8a56754ac6eba93e5a2ae6b883a0", func := "marches/marcheslaw25.BudgetTurns", spec := "budgetTurns", unfollowed := true, recurses := true, apart := false, narrowed := true }
def BudgetTurnsUptoSaid : Prop := budgetTurnsUptoRow.holds Try.pinned (OpenSpec.upto budgetTurnsSpec)

/-- 'marcheslaw25.BudgetShares', WHERE WHAT IT READS IS OF BULK AT MOST 1048576: true; the input reads as it did. -/
def budgetSharesUptoRow : OpenClaim := { program := "ytkiknbjokknemaa", sum := "db2a6a07fbab27ac49c0ad5a3883990a321d8a56754ac6eba93e5a2ae6b883a0", func := "marches/marcheslaw25.BudgetShares", spec := "budgetShares", unfollowed := true, recurses := true, apart := false, narrowed := true }
def BudgetSharesUptoSaid : Prop := budgetSharesUptoRow.holds Try.pinned (OpenSpec.upto budgetSharesSpec)

/-- 'marcheslaw25.BudgetWeights', WHERE WHAT IT READS IS OF BULK AT MOST 1048576: true; the input reads as it did. -/
def budgetWeightsUptoRow : OpenClaim := { program := "ytkiknbjokknemaa", sum := "db2a6a07fbab27ac49c0ad5a3883990a321d8a56754ac6eba93e5a2ae6b883a0", func := "marches/marcheslaw25.BudgetWeights", spec := "budgetWeights", unfollowed := true, recurses := true, apart := false, narrowed := true }
def BudgetWeightsUptoSaid : Prop := budgetWeightsUptoRow.holds Try.pinned (OpenSpec.upto budgetWeightsSpec)

/-- 'marcheslaw25.BudgetWrong', WHERE WHAT IT READS IS OF BULK AT MOST 1048576: true; the input reads as it did. -/
def budgetWrongUptoRow : OpenClaim := { program := "ytkiknbjokknemaa", sum := "db2a6a07fbab27ac49c0ad5a3883990a321d8a56754ac6eba93e5a2ae6b883a0", func := "marches/marcheslaw25.BudgetWrong", spec := "budgetWrong", unfollowed := true, recurses := true, apart := false, narrowed := true }
def BudgetWrongUptoSaid : Prop := budgetWrongUptoRow.holds Try.pinned (OpenSpec.upto budgetWrongSpec)

end Rows
end Go.Proofs.Ytkiknbjokknemaa
