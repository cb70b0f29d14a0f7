/-
  What the reference's End says of the End (as RefE has it for packet).
-/
import Derived.Test.YthjjipcbpmdfnaaRefM
import Derived.Test.YthjjipcbpmdfnaaPackJ
namespace Go.Proofs.Ythjjipcbpmdfnaa

/-- What the reference's End says of the End. -/
structure RefRel (s : EndS) (r : RefS) : Prop where
  own : s.own = r.own
  next : s.next = r.next
  other : s.other = r.other
  pend : s.pend = r.pend
  newest : s.newest = newestR r.other r.got
  some : s.other ≤ s.newest ↔ r.got ≠ []
  mask : s.mask = if r.got = [] then 0 else maskR (newestR r.other r.got) r.got 32

end Go.Proofs.Ythjjipcbpmdfnaa
