/-
  math/big: Int.Sub of numbers of one limb.
-/
import Derived.Test.YtkiknbjokknemaaBudTOB
import Derived.Test.YtkiknbjokknemaaBudTOC
namespace Go.Proofs.Ytkiknbjokknemaa
open Go.RowKit

theorem IntSub_any (w : World) (bz bx by_ : Nat) (x y : Int) (hz : Blk w bz 119 #[.bool false, .slice none 0 0]) (hX : BigIs w bx x) (hY : BigIs w by_ y) (hm : (x - y).natAbs ≤ 18446744073709551615) :
    Calls Try.prog 74 #[.pointer (some ⟨bz, 0, none⟩), .pointer (some ⟨bx, 0, none⟩), .pointer (some ⟨by_, 0, none⟩)] w (SubTo w bz (x - y)) := by
  rcases Int.lt_or_le x 0 with h1 | h1 <;> rcases Int.lt_or_le y 0 with h2 | h2
  · rcases Nat.lt_or_ge x.natAbs y.natAbs with h | h
    · exact IntSub_nn_lt w bz bx by_ x y hz hX hY h1 h2 h
    · exact IntSub_nn_ge w bz bx by_ x y hz hX hY h1 h2 h
  · exact IntSub_np w bz bx by_ x y hz hX hY h1 h2 (by omega)
  · exact IntSub_pn w bz bx by_ x y hz hX hY h1 h2 (by omega)
  · rcases Nat.lt_or_ge x.natAbs y.natAbs with h | h
    · exact IntSub_pp_lt w bz bx by_ x y hz hX hY h1 h2 h
    · exact IntSub_pp_ge w bz bx by_ x y hz hX hY h1 h2 h
end Go.Proofs.Ytkiknbjokknemaa
