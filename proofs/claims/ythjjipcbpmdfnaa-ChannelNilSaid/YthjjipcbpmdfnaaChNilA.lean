/-
  PLAIN: an empty Channel's flushes.
-/
import Derived.Test.YthjjipcbpmdfnaaChQ
namespace Go.Proofs.Ythjjipcbpmdfnaa

/-- A fresh Channel at a tick. -/
def chZ (t : Int) : ChS := { chNew 0 0 with tick := t }
theorem chZ_zero : chZ 0 = chNew 0 0 := rfl
theorem bodyS_chZ (t : Int) : bodyS (chZ t) = ([], []) := rfl
theorem flushS_chZ {t u : Int} (h : t ≤ u) : flushS (chZ t) u = (chZ u, [], 0) := by
  have h1 : ¬ u < (chZ t).tick := by show ¬ u < t; omega
  unfold flushS
  rw [if_neg h1]
  rfl
theorem flushS_back {t u : Int} (h : u < t) : flushS (chZ t) u = (chZ t, [], 2) := by
  unfold flushS
  rw [if_pos (show u < (chZ t).tick from h)]
theorem waitS_chZ (t : Int) : waitS (chZ t) = 0 := rfl
theorem chZ_fit {t : Int} (h0 : 0 ≤ t) (h : t ≤ 9223372036854775807) : (chZ t).Fit := by
  have := (flushS_keep (chNew_fit (own := 0) (other := 0) (by decide) (by decide) (by decide) (by decide)) (t := t) h (by decide)).1
  rwa [← chZ_zero, flushS_chZ h0] at this
theorem sendS_long (t : Int) {b : List UInt8} (h : 1024 < b.length) : sendS (chZ t) b = (chZ t, 3) := by
  unfold sendS
  rw [if_pos h]
end Go.Proofs.Ythjjipcbpmdfnaa
