/-
  THE REFERENCE's Receive in plain Lean.
-/
import Derived.Test.YthjjipcbpmdfnaaRefA
namespace Go.Proofs.Ythjjipcbpmdfnaa

/-! The plain model. -/
def byteR (p : List UInt8) (i : Nat) : Nat := (p.getD i 0).toNat
def numR (p : List UInt8) (i : Nat) : Int := (byteR p i : Int) * 256 + (byteR p (i + 1) : Int)
def mskR (p : List UInt8) (i : Nat) : Nat := byteR p i * 16777216 + byteR p (i + 1) * 65536 + byteR p (i + 2) * 256 + byteR p (i + 3)
theorem mskR_lt (p : List UInt8) (i : Nat) : mskR p i < 4294967296 := by
  have h0 : byteR p i < 256 := UInt8.toNat_lt _
  have h1 : byteR p (i + 1) < 256 := UInt8.toNat_lt _
  have h2 : byteR p (i + 2) < 256 := UInt8.toNat_lt _
  have h3 : byteR p (i + 3) < 256 := UInt8.toNat_lt _
  unfold mskR; omega
theorem byteR_lt (p : List UInt8) (i : Nat) : byteR p i < 256 := UInt8.toNat_lt _
/-- What an acknowledgement names, the first k bits. -/
def namedR (ack : Int) (mask : Nat) : Nat → List Int
  | 0 => [ack]
  | k + 1 => namedR ack mask k ++ if mask.testBit k then [ack - 1 - (k : Int)] else []
def repR (nm : List Int) (ha : Bool) (ack : Int) : List Int → List (Int × Bool)
  | [] => []
  | n :: l => if nm.contains n = true then (n, true) :: repR nm ha ack l else if ha = true ∧ n < ack - 32 then (n, false) :: repR nm ha ack l else repR nm ha ack l
def leftR (nm : List Int) (ha : Bool) (ack : Int) : List Int → List Int
  | [] => []
  | n :: l => if nm.contains n = true then leftR nm ha ack l else if ha = true ∧ n < ack - 32 then leftR nm ha ack l else n :: leftR nm ha ack l
def nmR (ha : Bool) (ack : Int) (mask : Nat) : List Int := if ha = true then namedR ack mask 32 else []
def badR (r : RefS) (hb : Bool) (number : Int) (body : List UInt8) : Bool := (hb != decide (0 < body.length)) || decide (1191 < body.length) || (hb && decide (number < r.other))
theorem namedR_len (ack : Int) (mask k : Nat) : (namedR ack mask k).length ≤ k + 1 := by
  induction k with
  | zero => simp [namedR]
  | succ k ih => simp only [namedR, List.length_append]; split <;> simp <;> omega
theorem repR_snoc (nm : List Int) (ha : Bool) (ack : Int) (l : List Int) (n : Int) : repR nm ha ack (l ++ [n]) = repR nm ha ack l ++ (if nm.contains n = true then [(n, true)] else if ha = true ∧ n < ack - 32 then [(n, false)] else []) := by
  induction l with
  | nil => simp only [List.nil_append, repR]
  | cons x l ih => simp only [List.cons_append, repR, ih]; split; rfl; split <;> rfl
theorem leftR_snoc (nm : List Int) (ha : Bool) (ack : Int) (l : List Int) (n : Int) : leftR nm ha ack (l ++ [n]) = leftR nm ha ack l ++ (if nm.contains n = true then [] else if ha = true ∧ n < ack - 32 then [] else [n]) := by
  induction l with
  | nil => simp only [List.nil_append, leftR]
  | cons x l ih => simp only [List.cons_append, leftR, ih]; split; rfl; split <;> rfl
def outR (r : RefS) (nm : List Int) : Bool := nm.any fun x => decide (x < r.own) || decide (r.next ≤ x)
def refTail (r : RefS) (hb ha : Bool) (number ack : Int) (mask : Nat) (body : List UInt8) : RefS × List UInt8 × List (Int × Bool) × Int :=
  if badR r hb number body = true then (r, [], [], 190)
  else if outR r (nmR ha ack mask) = true then (r, [], [], 190)
  else if hb = false then ({ r with pend := leftR (nmR ha ack mask) ha ack r.pend }, [], repR (nmR ha ack mask) ha ack r.pend, 0)
  else if number < newestR r.other r.got - 32 then ({ r with pend := leftR (nmR ha ack mask) ha ack r.pend }, [], repR (nmR ha ack mask) ha ack r.pend, 191)
  else if r.got.contains number = true then ({ r with pend := leftR (nmR ha ack mask) ha ack r.pend }, [], repR (nmR ha ack mask) ha ack r.pend, 192)
  else ({ r with pend := leftR (nmR ha ack mask) ha ack r.pend, got := r.got ++ [number] }, body, repR (nmR ha ack mask) ha ack r.pend, 0)
def hbR (p : List UInt8) : Bool := decide (byteR p 0 % 2 = 1)
def haR (p : List UInt8) : Bool := decide (2 ≤ byteR p 0)
def at1R (p : List UInt8) : Nat := if hbR p = true then 3 else 1
def at2R (p : List UInt8) : Nat := if haR p = true then at1R p + 6 else at1R p
def refRecv2 (r : RefS) (p : List UInt8) : RefS × List UInt8 × List (Int × Bool) × Int :=
  if haR p = true ∧ p.length < at1R p + 6 then (r, [], [], 190)
  else refTail r (hbR p) (haR p) (if hbR p = true then near (newestR r.other r.got) (numR p 1) else 0) (if haR p = true then near (r.next - 1) (numR p (at1R p)) else 0) (if haR p = true then mskR p (at1R p + 2) else 0) (p.drop (at2R p))
def refRecv1 (r : RefS) (p : List UInt8) : RefS × List UInt8 × List (Int × Bool) × Int := if hbR p = true ∧ p.length < 3 then (r, [], [], 190) else refRecv2 r p
def refRecv (r : RefS) (p : List UInt8) : RefS × List UInt8 × List (Int × Bool) × Int := if p.length = 0 ∨ byteR p 0 < 1 ∨ 3 < byteR p 0 then (r, [], [], 190) else refRecv1 r p

end Go.Proofs.Ythjjipcbpmdfnaa
