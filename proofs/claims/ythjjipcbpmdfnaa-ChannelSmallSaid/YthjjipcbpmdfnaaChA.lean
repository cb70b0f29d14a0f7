/-
  THE PLAIN MODEL of channel.Channel: what the code of channel computes, in plain Lean; no program in sight.
-/
import Derived.Test.YthjjipcbpmdfnaaPackJ
namespace Go.Proofs.Ythjjipcbpmdfnaa

/-- A message that is not done. -/
structure OutM where
  b : List UInt8
  packet : Int
  tick : Int

/-- The state of a Channel that New returned. -/
structure ChS where
  e : EndS
  first : Nat
  sent : Nat
  next : Nat
  tick : Int
  owes : Bool
  out : Nat → Option OutM
  early : Nat → Option (List UInt8)
  packets : Int → Option (List Nat)

def updN {α : Type} (f : Nat → Option α) (n : Nat) (v : Option α) : Nat → Option α := fun i => if i = n then v else f i
def updI {α : Type} (f : Int → Option α) (n : Int) (v : Option α) : Int → Option α := fun i => if i = n then v else f i

/-- How many keys below N. -/
def cntN {α : Type} (f : Nat → Option α) (N : Nat) : Nat := ((List.range N).filter fun n => (f n).isSome).length

def waitS (s : ChS) : Nat := cntN s.out s.sent

/-- 'Send'. -/
def sendS (s : ChS) (b : List UInt8) : ChS × Int :=
  if 1024 < b.length then (s, 3)
  else if 256 ≤ waitS s then (s, 4)
  else ({ s with out := updN s.out s.sent (some ⟨b, -1, 0⟩), sent := s.sent + 1 }, 0)

/-- 'due'. -/
def dueS (s : ChS) (n : Nat) : Bool :=
  match s.out n with
  | none => false
  | some m => decide (m.packet < 0) || decide (8 ≤ s.tick - m.tick)

/-- What stands before a message. -/
def hdrB (n len : Nat) : List UInt8 := [UInt8.ofNat (n / 256), UInt8.ofNat n, UInt8.ofNat (len / 256), UInt8.ofNat len]

/-- One candidate of 'body'. -/
def bodyStep (s : ChS) (n : Nat) (a : List UInt8 × List Nat) : List UInt8 × List Nat :=
  match s.out n with
  | none => a
  | some m => if dueS s n = true ∧ a.1.length + 4 + m.b.length ≤ 1191 then (a.1 ++ hdrB n m.b.length ++ m.b, a.2 ++ [n]) else a
def bodyG (s : ChS) : Nat → List UInt8 × List Nat
  | 0 => ([], [])
  | k + 1 => bodyStep s (s.first + k) (bodyG s k)
/-- 'body'. -/
def bodyS (s : ChS) : List UInt8 × List Nat := bodyG s (min s.sent (s.first + 64) - s.first)

/-- What a report does to a message of its packet. -/
def dec1 (r : Int × Bool) (out : Nat → Option OutM) (n : Nat) : Nat → Option OutM :=
  match out n with
  | none => out
  | some m => if r.2 = true then updN out n none else if m.packet = r.1 then updN out n (some { m with packet := -1 }) else out
def decR (s : ChS) (r : Int × Bool) : ChS :=
  { s with out := ((s.packets r.1).getD []).foldl (dec1 r) s.out, packets := updI s.packets r.1 none }
/-- The first message that is not done, from f on. -/
def adv (out : Nat → Option OutM) (sent : Nat) : Nat → Nat → Nat
  | 0, f => f
  | k + 1, f => if f < sent ∧ out f = none then adv out sent k (f + 1) else f
/-- 'decide'. -/
def decS (s : ChS) (rs : List (Int × Bool)) : ChS :=
  let s1 := rs.foldl decR s
  { s1 with first := adv s1.out s1.sent (s1.sent - s1.first) s1.first }

/-- 'c.out[n].packet, c.out[n].tick = number, tick' for each message of a packet. -/
def markS (out : Nat → Option OutM) (number tick : Int) (l : List Nat) : Nat → Option OutM :=
  l.foldl (fun o n => updN o n ((o n).map fun m => { m with packet := number, tick := tick })) out

/-- 'Flush': the Channel behind it, the packet, the error. -/
def flushS (s : ChS) (tick : Int) : ChS × List UInt8 × Int :=
  if tick < s.tick then (s, [], 2)
  else
    let s1 := { s with tick := tick }
    let b := (bodyS s1).1
    let l := (bodyS s1).2
    if 0 < l.length then
      let s2 := { s1 with e := makeS s1.e, out := markS s1.out s1.e.next tick l, packets := updI s1.packets s1.e.next (some l) }
      ({ decS s2 (lostP s1.e) with owes := false }, packP (makeS s1.e) s1.e.next b, 0)
    else if s.owes = true then
      if s.e.other ≤ s.e.newest then ({ s1 with owes := false }, ackP s1.e, 0) else ({ s1 with owes := false }, [], 6)
    else (s1, [], 0)

/-- 'parse', from a body on. -/
def parseC (next : Nat) : Nat → List UInt8 → Option (List (Nat × List UInt8))
  | 0, _ => some []
  | k + 1, xs =>
    if xs = [] then some []
    else if xs.length < 4 then none
    else
      let n := near next (beNum (xs.take 2))
      let size := beNum ((xs.drop 2).take 2)
      if 1024 < size ∨ xs.length < 4 + size ∨ n < 0 ∨ (next : Int) + 64 ≤ n ∨ n + 30000 < (next : Int) then none
      else (parseC next k (xs.drop (4 + size))).map fun l => (n.toNat, (xs.drop 4).take size) :: l

/-- The messages of a packet that are kept. -/
def keep1 (next : Nat) (early : Nat → Option (List UInt8)) (m : Nat × List UInt8) : Nat → Option (List UInt8) :=
  if next ≤ m.1 ∧ early m.1 = none then updN early m.1 (some m.2) else early
def keepS (next : Nat) (early : Nat → Option (List UInt8)) (l : List (Nat × List UInt8)) : Nat → Option (List UInt8) := l.foldl (keep1 next) early
/-- What can be delivered. -/
def dlv (early : Nat → Option (List UInt8)) : Nat → Nat → List (List UInt8)
  | 0, _ => []
  | k + 1, n => match early n with
    | none => []
    | some b => b :: dlv early k (n + 1)
def dropN (early : Nat → Option (List UInt8)) (n k : Nat) : Nat → Option (List UInt8) := fun i => if n ≤ i ∧ i < n + k then none else early i

/-- 'Receive': the Channel behind it, the messages, the error. -/
def recvS (s : ChS) (xs : List UInt8) : ChS × List (List UInt8) × Int :=
  let R := recvP s.e xs
  if R.2.2.2 = 190 then (s, [], 190)
  else
    let s1 := decS { s with e := R.1 } R.2.2.1
    if R.2.2.2 = 0 ∧ R.2.1 = [] then (s1, [], 0)
    else
      let s2 := { s1 with owes := true }
      if R.2.2.2 ≠ 0 then (s2, [], R.2.2.2)
      else match parseC s.next R.2.1.length R.2.1 with
        | none => (s2, [], 200)
        | some l =>
          let early := keepS s.next s.early l
          let out := dlv early 64 s.next
          ({ s2 with early := dropN early s.next out.length, next := s.next + out.length }, out, 0)

def chNew (own other : Int) : ChS := ⟨⟨own, own, other, other - 1, 0, []⟩, 0, 0, 0, 0, false, fun _ => none, fun _ => none, fun _ => none⟩
end Go.Proofs.Ythjjipcbpmdfnaa
