/-
  THE PLAIN MODEL of packet.End: what the code of packet computes, in plain Lean; no program in sight.
-/
namespace Go.Proofs.Ythjjipcbpmdfnaa

/-- The state of an End that New returned. -/
structure EndS where
  own : Int
  next : Int
  other : Int
  newest : Int
  mask : Nat
  pend : List Int
  deriving DecidableEq

/-- 'near': the number with the remainder 'rest' modulo 2^16 that is nearest to the base. -/
def near (base rest : Int) : Int := base + ((rest - base + 32768) % 65536 - 32768)

/-- Does an acknowledgement (ack, mask) name the number n? -/
def named (ack : Int) (mask : Nat) (n : Int) : Bool := n == ack || (n < ack && ack - 32 ≤ n && mask.testBit (ack - 1 - n).toNat)

/-- 'accept' at a distance d from the newest one. -/
def accept (s : EndS) (d : Int) : EndS × Int :=
  if d < -32 then (s, 191)
  else if d = 0 then (s, 192)
  else if d < 0 then
    if s.mask.testBit (-d - 1).toNat then (s, 192) else ({ s with mask := s.mask ||| 2 ^ (-d - 1).toNat }, 0)
  else ({ s with mask := s.mask * 2 ^ min d.toNat 32 % 4294967296 ||| (if s.other ≤ s.newest then 2 ^ min (d - 1).toNat 32 % 4294967296 else 0), newest := s.newest + d }, 0)

/-- What Make does to the End. -/
def makeS (s : EndS) : EndS := { s with next := s.next + 1, pend := if s.pend.length < 256 then s.pend ++ [s.next] else (s.pend ++ [s.next]).tail }
/-- The reports of Make. -/
def lostP (s : EndS) : List (Int × Bool) := if s.pend.length < 256 then [] else [((s.pend ++ [s.next]).headD 0, false)]

/-- 'acknowledged': the reports, and what is left. -/
def ackR (ack : Int) (mask : Nat) : List Int → List (Int × Bool)
  | [] => []
  | n :: l => if named ack mask n then (n, true) :: ackR ack mask l else if n < ack - 32 then (n, false) :: ackR ack mask l else ackR ack mask l
def ackL (ack : Int) (mask : Nat) : List Int → List Int
  | [] => []
  | n :: l => if named ack mask n then ackL ack mask l else if n < ack - 32 then ackL ack mask l else n :: ackL ack mask l

end Go.Proofs.Ythjjipcbpmdfnaa
