/-
  No cell of these rows narrows 'for every input' (looked for: loops, veiled, ifaces, maps, wideKeys, modest, calm, conditions, laid).
  DERIVED. THE GIVEN ROWS OF THIS SEAT. 8 by the template 'for every input the law returns true; each argument reads behind the call as it read before'; 0 by the template 'total and deterministic' (their statements: YtpmbfgpfpdenbaaTotals.lean).
  GIVEN WITH THE SEED: the statements are not yours to turn. If you find one false, say at which input.
  Laid BY PROGRAM, IN A SANDBOX (cutbox-rows.mjs): the forced cells as the released guide's own fill.sh prints them over the translation 9afee362c992d613… (all of the seat's roots in one cut). By AI agents, Wed Nov 11 2026. No macro, syntax, notation, axiom, sorry.
-/
import Derived.Test.YtpmbfgpfpdenbaaChecked
import GoSem.Claim
import GoSem.ClaimJoined
import GoSem.ClaimMapViews
import Derived.JoinedTies
import Derived.KernelRfl
namespace Go.Proofs.Ytpmbfgpfpdenbaa
/- THE CELL 'sum', in the pinned program and in every row, IS THE sha256 OF THE DUMP (.gsa) THAT YtpmbfgpfpdenbaaProg.lean LOADS. Nothing in Lean hashes anything: it is a label: what it is worth is what the hold of that sum in a sandbox is worth. -/
noncomputable def Try.pinned : Pinned := { name := "ytpmbfgpfpdenbaa", sum := "9afee362c992d6139d759b274eda001fa378c24a5302aa5b79e5d71f4591f192", checked := Try.checked }
namespace Rows
def none {H : Type} : Left H := { results := [], args := [] }

/-- 'marcheslaw19.PacketHonest': WHATEVER THE INPUT: true; the input reads as it did. -/
def packetHonestSpec : ChangeSpec := { name := "packetHonest", fn := fun _ => fun
  | [d1, d2, d3] => { results := [.lit (.bool true)], args := [d1, d2, d3] }
  | _ => none }
def packetHonestRow : OpenClaim := { program := "ytpmbfgpfpdenbaa", sum := "9afee362c992d6139d759b274eda001fa378c24a5302aa5b79e5d71f4591f192", func := "marches/marcheslaw19.PacketHonest", spec := "packetHonest", unfollowed := true, recurses := true, apart := false }
def PacketHonestSaid : Prop := packetHonestRow.holds Try.pinned (OpenSpec.ofChange packetHonestSpec)

/-- ITS FALSE NEIGHBOUR: 'it returns false'. Refute it at one input. -/
def packetHonestWrong : ChangeSpec := { name := "packetHonest", fn := fun _ => fun
  | [d1, d2, d3] => { results := [.lit (.bool false)], args := [d1, d2, d3] }
  | _ => none }
def PacketHonestWrongFalsely : Prop := packetHonestRow.holds Try.pinned (OpenSpec.ofChange packetHonestWrong)

/-- 'marcheslaw19.PacketArrives': WHATEVER THE INPUT: true; the input reads as it did. -/
def packetArrivesSpec : ChangeSpec := { name := "packetArrives", fn := fun _ => fun
  | [d1, d2, d3, d4, d5] => { results := [.lit (.bool true)], args := [d1, d2, d3, d4, d5] }
  | _ => none }
def packetArrivesRow : OpenClaim := { program := "ytpmbfgpfpdenbaa", sum := "9afee362c992d6139d759b274eda001fa378c24a5302aa5b79e5d71f4591f192", func := "marches/marcheslaw19.PacketArrives", spec := "packetArrives", unfollowed := true, recurses := true, apart := false }
def PacketArrivesSaid : Prop := packetArrivesRow.holds Try.pinned (OpenSpec.ofChange packetArrivesSpec)

/-- ITS FALSE NEIGHBOUR: 'it returns false'. Refute it at one input. -/
def packetArrivesWrong : ChangeSpec := { name := "packetArrives", fn := fun _ => fun
  | [d1, d2, d3, d4, d5] => { results := [.lit (.bool false)], args := [d1, d2, d3, d4, d5] }
  | _ => none }
def PacketArrivesWrongFalsely : Prop := packetArrivesRow.holds Try.pinned (OpenSpec.ofChange packetArrivesWrong)

/-- 'marcheslaw19.PacketTells': WHATEVER THE INPUT: true; the input reads as it did. -/
def packetTellsSpec : ChangeSpec := { name := "packetTells", fn := fun _ => fun
  | [d1, d2, d3] => { results := [.lit (.bool true)], args := [d1, d2, d3] }
  | _ => none }
def packetTellsRow : OpenClaim := { program := "ytpmbfgpfpdenbaa", sum := "9afee362c992d6139d759b274eda001fa378c24a5302aa5b79e5d71f4591f192", func := "marches/marcheslaw19.PacketTells", spec := "packetTells", unfollowed := true, recurses := true, apart := false }
def PacketTellsSaid : Prop := packetTellsRow.holds Try.pinned (OpenSpec.ofChange packetTellsSpec)

/-- ITS FALSE NEIGHBOUR: 'it returns false'. Refute it at one input. -/
def packetTellsWrong : ChangeSpec := { name := "packetTells", fn := fun _ => fun
  | [d1, d2, d3] => { results := [.lit (.bool false)], args := [d1, d2, d3] }
  | _ => none }
def PacketTellsWrongFalsely : Prop := packetTellsRow.holds Try.pinned (OpenSpec.ofChange packetTellsWrong)

/-- 'marcheslaw19.PacketSmall': WHATEVER THE INPUT: true; the input reads as it did. -/
def packetSmallSpec : ChangeSpec := { name := "packetSmall", fn := fun _ => fun
  | [] => { results := [.lit (.bool true)], args := [] }
  | _ => none }
def packetSmallRow : OpenClaim := { program := "ytpmbfgpfpdenbaa", sum := "9afee362c992d6139d759b274eda001fa378c24a5302aa5b79e5d71f4591f192", func := "marches/marcheslaw19.PacketSmall", spec := "packetSmall", unfollowed := true, recurses := true, apart := false }
def PacketSmallSaid : Prop := packetSmallRow.holds Try.pinned (OpenSpec.ofChange packetSmallSpec)

/-- ITS FALSE NEIGHBOUR: 'it returns false'. Refute it at one input. -/
def packetSmallWrong : ChangeSpec := { name := "packetSmall", fn := fun _ => fun
  | [] => { results := [.lit (.bool false)], args := [] }
  | _ => none }
def PacketSmallWrongFalsely : Prop := packetSmallRow.holds Try.pinned (OpenSpec.ofChange packetSmallWrong)

/-- 'marcheslaw19.PacketShifts': WHATEVER THE INPUT: true; the input reads as it did. -/
def packetShiftsSpec : ChangeSpec := { name := "packetShifts", fn := fun _ => fun
  | [d1, d2, d3, d4, d5] => { results := [.lit (.bool true)], args := [d1, d2, d3, d4, d5] }
  | _ => none }
def packetShiftsRow : OpenClaim := { program := "ytpmbfgpfpdenbaa", sum := "9afee362c992d6139d759b274eda001fa378c24a5302aa5b79e5d71f4591f192", func := "marches/marcheslaw19.PacketShifts", spec := "packetShifts", unfollowed := true, recurses := true, apart := false }
def PacketShiftsSaid : Prop := packetShiftsRow.holds Try.pinned (OpenSpec.ofChange packetShiftsSpec)

/-- ITS FALSE NEIGHBOUR: 'it returns false'. Refute it at one input. -/
def packetShiftsWrong : ChangeSpec := { name := "packetShifts", fn := fun _ => fun
  | [d1, d2, d3, d4, d5] => { results := [.lit (.bool false)], args := [d1, d2, d3, d4, d5] }
  | _ => none }
def PacketShiftsWrongFalsely : Prop := packetShiftsRow.holds Try.pinned (OpenSpec.ofChange packetShiftsWrong)

/-- 'marcheslaw19.PacketWindow': WHATEVER THE INPUT: true; the input reads as it did. -/
def packetWindowSpec : ChangeSpec := { name := "packetWindow", fn := fun _ => fun
  | [d1, d2, d3] => { results := [.lit (.bool true)], args := [d1, d2, d3] }
  | _ => none }
def packetWindowRow : OpenClaim := { program := "ytpmbfgpfpdenbaa", sum := "9afee362c992d6139d759b274eda001fa378c24a5302aa5b79e5d71f4591f192", func := "marches/marcheslaw19.PacketWindow", spec := "packetWindow", unfollowed := true, recurses := true, apart := false }
def PacketWindowSaid : Prop := packetWindowRow.holds Try.pinned (OpenSpec.ofChange packetWindowSpec)

/-- ITS FALSE NEIGHBOUR: 'it returns false'. Refute it at one input. -/
def packetWindowWrong : ChangeSpec := { name := "packetWindow", fn := fun _ => fun
  | [d1, d2, d3] => { results := [.lit (.bool false)], args := [d1, d2, d3] }
  | _ => none }
def PacketWindowWrongFalsely : Prop := packetWindowRow.holds Try.pinned (OpenSpec.ofChange packetWindowWrong)

/-- 'marcheslaw19.PacketWrong': WHATEVER THE INPUT: true; the input reads as it did. -/
def packetWrongSpec : ChangeSpec := { name := "packetWrong", fn := fun _ => fun
  | [d1, d2, d3, d4] => { results := [.lit (.bool true)], args := [d1, d2, d3, d4] }
  | _ => none }
def packetWrongRow : OpenClaim := { program := "ytpmbfgpfpdenbaa", sum := "9afee362c992d6139d759b274eda001fa378c24a5302aa5b79e5d71f4591f192", func := "marches/marcheslaw19.PacketWrong", spec := "packetWrong", unfollowed := true, recurses := true, apart := false }
def PacketWrongSaid : Prop := packetWrongRow.holds Try.pinned (OpenSpec.ofChange packetWrongSpec)

/-- ITS FALSE NEIGHBOUR: 'it returns false'. Refute it at one input. -/
def packetWrongWrong : ChangeSpec := { name := "packetWrong", fn := fun _ => fun
  | [d1, d2, d3, d4] => { results := [.lit (.bool false)], args := [d1, d2, d3, d4] }
  | _ => none }
def PacketWrongWrongFalsely : Prop := packetWrongRow.holds Try.pinned (OpenSpec.ofChange packetWrongWrong)

/-- 'marcheslaw19.PacketNil': WHATEVER THE INPUT: true; the input reads as it did. -/
def packetNilSpec : ChangeSpec := { name := "packetNil", fn := fun _ => fun
  | [d1, d2] => { results := [.lit (.bool true)], args := [d1, d2] }
  | _ => none }
def packetNilRow : OpenClaim := { program := "ytpmbfgpfpdenbaa", sum := "9afee362c992d6139d759b274eda001fa378c24a5302aa5b79e5d71f4591f192", func := "marches/marcheslaw19.PacketNil", spec := "packetNil", unfollowed := true, recurses := true, apart := false }
def PacketNilSaid : Prop := packetNilRow.holds Try.pinned (OpenSpec.ofChange packetNilSpec)

/-- ITS FALSE NEIGHBOUR: 'it returns false'. Refute it at one input. -/
def packetNilWrong : ChangeSpec := { name := "packetNil", fn := fun _ => fun
  | [d1, d2] => { results := [.lit (.bool false)], args := [d1, d2] }
  | _ => none }
def PacketNilWrongFalsely : Prop := packetNilRow.holds Try.pinned (OpenSpec.ofChange packetNilWrong)

/- THE SECOND FORM. 'bulk': how many values and letters a reading holds, each counted each time it is reached (what is shared counts as often as it is met; a slice's spare places count too). A statement '..UptoSaid' is the law's where the arguments, and the package variables that the reading takes, are together of bulk at most 1048576: NARROWER than '..Said'. Prove '..Said' where nothing that the law and all that it calls make is longer than what came in: it says more and counts as full. Else prove '..UptoSaid'. A law counts once. -/
mutual
def uptoBulk {H : Type} : DataW H → Nat
  | .lit (.string bytes) => bytes.length + 1
  | .lit _ => 1
  | .nil => 1
  | .ptr d => uptoBulk d + 1
  | .slice elems spare => uptoBulkAll elems + uptoBulkAll spare + 1
  | .agg parts => uptoBulkAll parts + 1
  | .iface _ d => uptoBulk d + 1
  | .map entries => uptoBulkEntries entries + 1
  | .held _ => 1
def uptoBulkAll {H : Type} : List (DataW H) → Nat
  | [] => 0
  | d :: r => uptoBulk d + uptoBulkAll r
def uptoBulkEntries {H : Type} : List (Lit × DataW H) → Nat
  | [] => 0
  | x :: r => uptoBulkEntry x + uptoBulkEntries r
def uptoBulkEntry {H : Type} : Lit × DataW H → Nat
  | (.string bytes, d) => bytes.length + uptoBulk d + 1
  | (_, d) => uptoBulk d + 1
 end
def uptoSmall : (H : Type) → List (DataW H) → Bool := fun _ ds => decide (uptoBulkAll ds ≤ 1048576)
def OpenSpec.upto (s : _root_.Go.ChangeSpec) : _root_.Go.OpenSpec := { _root_.Go.OpenSpec.ofChange s with cond := some uptoSmall }

/-- 'marcheslaw19.PacketHonest', WHERE WHAT IT READS IS OF BULK AT MOST 1048576: true; the input reads as it did. -/
def packetHonestUptoRow : OpenClaim := { program := "ytpmbfgpfpdenbaa", sum := "9afee362c992d6139d759b274eda001fa378c24a5302aa5b79e5d71f4591f192", func := "marches/marcheslaw19.PacketHonest", spec := "packetHonest", unfollowed := true, recurses := true, apart := false, narrowed := true }
def PacketHonestUptoSaid : Prop := packetHonestUptoRow.holds Try.pinned (OpenSpec.upto packetHonestSpec)

/-- 'marcheslaw19.PacketArrives', WHERE WHAT IT READS IS OF BULK AT MOST 1048576: true; the input reads as it did. -/
def packetArrivesUptoRow : OpenClaim := { program := "ytpmbfgpfpdenbaa", sum := "9afee362c992d6139d759b274eda001fa378c24a5302aa5b79e5d71f4591f192", func := "marches/marcheslaw19.PacketArrives", spec := "packetArrives", unfollowed := true, recurses := true, apart := false, narrowed := true }
def PacketArrivesUptoSaid : Prop := packetArrivesUptoRow.holds Try.pinned (OpenSpec.upto packetArrivesSpec)

/-- 'marcheslaw19.PacketTells', WHERE WHAT IT READS IS OF BULK AT MOST 1048576: true; the input reads as it did. -/
def packetTellsUptoRow : OpenClaim := { program := "ytpmbfgpfpdenbaa", sum := "9afee362c992d6139d759b274eda001fa378c24a5302aa5b79e5d71f4591f192", func := "marches/marcheslaw19.PacketTells", spec := "packetTells", unfollowed := true, recurses := true, apart := false, narrowed := true }
def PacketTellsUptoSaid : Prop := packetTellsUptoRow.holds Try.pinned (OpenSpec.upto packetTellsSpec)

/-- 'marcheslaw19.PacketSmall', WHERE WHAT IT READS IS OF BULK AT MOST 1048576: true; the input reads as it did. -/
def packetSmallUptoRow : OpenClaim := { program := "ytpmbfgpfpdenbaa", sum := "9afee362c992d6139d759b274eda001fa378c24a5302aa5b79e5d71f4591f192", func := "marches/marcheslaw19.PacketSmall", spec := "packetSmall", unfollowed := true, recurses := true, apart := false, narrowed := true }
def PacketSmallUptoSaid : Prop := packetSmallUptoRow.holds Try.pinned (OpenSpec.upto packetSmallSpec)

/-- 'marcheslaw19.PacketShifts', WHERE WHAT IT READS IS OF BULK AT MOST 1048576: true; the input reads as it did. -/
def packetShiftsUptoRow : OpenClaim := { program := "ytpmbfgpfpdenbaa", sum := "9afee362c992d6139d759b274eda001fa378c24a5302aa5b79e5d71f4591f192", func := "marches/marcheslaw19.PacketShifts", spec := "packetShifts", unfollowed := true, recurses := true, apart := false, narrowed := true }
def PacketShiftsUptoSaid : Prop := packetShiftsUptoRow.holds Try.pinned (OpenSpec.upto packetShiftsSpec)

/-- 'marcheslaw19.PacketWindow', WHERE WHAT IT READS IS OF BULK AT MOST 1048576: true; the input reads as it did. -/
def packetWindowUptoRow : OpenClaim := { program := "ytpmbfgpfpdenbaa", sum := "9afee362c992d6139d759b274eda001fa378c24a5302aa5b79e5d71f4591f192", func := "marches/marcheslaw19.PacketWindow", spec := "packetWindow", unfollowed := true, recurses := true, apart := false, narrowed := true }
def PacketWindowUptoSaid : Prop := packetWindowUptoRow.holds Try.pinned (OpenSpec.upto packetWindowSpec)

/-- 'marcheslaw19.PacketWrong', WHERE WHAT IT READS IS OF BULK AT MOST 1048576: true; the input reads as it did. -/
def packetWrongUptoRow : OpenClaim := { program := "ytpmbfgpfpdenbaa", sum := "9afee362c992d6139d759b274eda001fa378c24a5302aa5b79e5d71f4591f192", func := "marches/marcheslaw19.PacketWrong", spec := "packetWrong", unfollowed := true, recurses := true, apart := false, narrowed := true }
def PacketWrongUptoSaid : Prop := packetWrongUptoRow.holds Try.pinned (OpenSpec.upto packetWrongSpec)

/-- 'marcheslaw19.PacketNil', WHERE WHAT IT READS IS OF BULK AT MOST 1048576: true; the input reads as it did. -/
def packetNilUptoRow : OpenClaim := { program := "ytpmbfgpfpdenbaa", sum := "9afee362c992d6139d759b274eda001fa378c24a5302aa5b79e5d71f4591f192", func := "marches/marcheslaw19.PacketNil", spec := "packetNil", unfollowed := true, recurses := true, apart := false, narrowed := true }
def PacketNilUptoSaid : Prop := packetNilUptoRow.holds Try.pinned (OpenSpec.upto packetNilSpec)

end Rows
end Go.Proofs.Ytpmbfgpfpdenbaa
