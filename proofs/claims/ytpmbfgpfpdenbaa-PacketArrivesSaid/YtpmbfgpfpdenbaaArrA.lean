/-
  WHAT ARRIVES IS ACKNOWLEDGED, in the plain model of a link.
-/
import Derived.Test.YtpmbfgpfpdenbaaWinA
namespace Go.Proofs.Ytpmbfgpfpdenbaa

section
variable {X Y : ASide}

/-- The packet that X makes next. -/
def nextP (X : ASide) : APkt := ⟨some (X.e.n, markB X.bodies.length []), X.e.note⟩

theorem next_made (_hm : X.made.length = X.made.length) : (X.make (markB X.bodies.length [])).made[X.made.length]? = some (nextP X) := by
  obtain ⟨-, e2, -⟩ := make_parts X (markB X.bodies.length [])
  rw [e2, List.getElem?_append_right (Nat.le_refl _), Nat.sub_self]; rfl

/-- Whoever takes it accepts it. -/
theorem next_code (hI : LinkInv X Y) (hI' : LinkInv Y X) : (recvA Y.e (nextP X)).2.2.2 = 0 ∧ (recvA Y.e (nextP X)).1.heard = X.bodies.length + 1 := by
  have hh : Y.e.heard ≤ X.e.n := by rw [hI.n]; exact hI'.heard
  rw [recvA_eq]
  simp only [nextP]
  obtain ⟨a1, a2⟩ := accept_newA (a := Y.e) (k := X.e.n) hh
  exact ⟨a1, by rw [a2, hI.n]⟩

theorem next_given (hI : LinkInv X Y) (hI' : LinkInv Y X) : (X.make (markB X.bodies.length [])).given Y.e (nextP X) = { X.make (markB X.bodies.length []) with bodies := (X.bodies ++ [0]).set X.bodies.length 1 } := by
  have h := (next_code hI hI').1
  have : (X.make (markB X.bodies.length [])).given Y.e (nextP X) = if (recvA Y.e (nextP X)).2.2.2 = 0 then { X.make (markB X.bodies.length []) with bodies := (X.make (markB X.bodies.length [])).bodies.set X.e.n 1 } else X.make (markB X.bodies.length []) := rfl
  rw [this, if_pos h, hI.n]
  rfl

/-- Behind a packet that arrived. -/
structure Arr (X Y : ASide) : Prop where
  pos : 0 < X.bodies.length
  heard : Y.e.heard = X.bodies.length
  pend : X.e.pend ≠ []

theorem arr_round (hI : LinkInv X Y) (hI' : LinkInv Y X) : Arr ((X.make (markB X.bodies.length [])).given Y.e (nextP X)) (Y.take (nextP X)) ∧ ((X.make (markB X.bodies.length [])).given Y.e (nextP X)).bodies.getD X.bodies.length 0 = 1 ∧ ((X.make (markB X.bodies.length [])).given Y.e (nextP X)).bodies.length = X.bodies.length + 1 := by
  have hg := next_given hI hI'
  have hl : ((X.make (markB X.bodies.length [])).given Y.e (nextP X)).bodies.length = X.bodies.length + 1 := by rw [hg]; simp
  refine ⟨⟨by rw [hl]; omega, ?_, ?_⟩, ?_, hl⟩
  · rw [hl]
    have : (Y.take (nextP X)).e = (recvA Y.e (nextP X)).1 := rfl
    rw [this, (next_code hI hI').2]
  · rw [hg]
    have : (X.make (markB X.bodies.length [])).e = X.e.make := rfl
    simp only [this]
    unfold AEnd.make
    simp only
    split
    · simp
    · rename_i h
      intro h0
      have h1 : ((X.e.pend ++ [X.e.n]).tail).length = X.e.pend.length := by simp
      rw [h0] at h1
      simp only [List.length_nil] at h1
      omega
  · rw [hg, getD_set _ _ _ _ (by simp)]; simp

/-- What the acknowledgement names. -/
theorem arr_named (hI : LinkInv X Y) (hI' : LinkInv Y X) (h : Arr X Y) {k : Nat} (hk : k ∈ X.e.pend) :
    namedA (X.bodies.length - 1) Y.e.mask k = (decide (X.bodies.length ≤ k + 33) && decide (X.bodies.getD k 0 = 1)) := by
  have hp := h.pos
  have hkl := (hI.pmem k hk).1
  have hh := h.heard
  unfold namedA
  by_cases c : k + 1 = X.bodies.length
  · have ht := hI'.top k (by rw [hh]; exact c)
    rw [ht, show (k == X.bodies.length - 1) = true by simp; omega, show decide (X.bodies.length ≤ k + 33) = true by simp; omega]
    rfl
  · rw [show (k == X.bodies.length - 1) = false by simp; omega, show decide (k < X.bodies.length - 1) = true by simp; omega]
    simp only [Bool.false_or, Bool.true_and]
    by_cases c2 : X.bodies.length ≤ k + 33
    · have hm := hI'.mid k (by rw [hh]; omega) (by rw [hh]; exact c2)
      rw [hh] at hm
      rw [show decide (X.bodies.length - 1 ≤ k + 32) = true by simp; omega, show decide (X.bodies.length ≤ k + 33) = true by simpa using c2, show X.bodies.length - 1 - 1 - k = X.bodies.length - 2 - k by omega, hm]
      cases Y.e.mask.testBit (X.bodies.length - 2 - k) <;> simp
    · rw [show decide (X.bodies.length - 1 ≤ k + 32) = false by simp; omega, show decide (X.bodies.length ≤ k + 33) = false by simpa using c2]
      rfl

/-- The reports, one pending number after the other. -/
def repW (X : ASide) : List Nat → List (Nat × Bool)
  | [] => []
  | k :: l => if X.bodies.length ≤ k + 33 ∧ X.bodies.getD k 0 ≠ 1 then repW X l else (k, decide (X.bodies.length ≤ k + 33)) :: repW X l

theorem arr_reports (hI : LinkInv X Y) (hI' : LinkInv Y X) (h : Arr X Y) (l : List Nat) (hl : ∀ k ∈ l, k ∈ X.e.pend) : ackRA (X.bodies.length - 1) Y.e.mask l = repW X l := by
  induction l with
  | nil => rfl
  | cons k l ih =>
    have ih := ih fun x hx => hl x (by simp [hx])
    have hn := arr_named hI hI' h (hl k (by simp))
    have hp := h.pos
    simp only [ackRA, repW]
    by_cases c : X.bodies.length ≤ k + 33
    · by_cases g : X.bodies.getD k 0 = 1
      · rw [hn, if_pos (by rw [decide_eq_true c, decide_eq_true g]; rfl), if_neg (fun h => h.2 g), ih, show decide (X.bodies.length ≤ k + 33) = true by simpa using c]
      · rw [hn, if_neg (by rw [decide_eq_false g]; simp), if_neg (by omega), if_pos ⟨c, g⟩, ih]
    · rw [hn, if_neg (by simp; omega), if_pos (by omega), if_neg (by omega), ih, show decide (X.bodies.length ≤ k + 33) = false by simpa using c]
end
end Go.Proofs.Ytpmbfgpfpdenbaa
