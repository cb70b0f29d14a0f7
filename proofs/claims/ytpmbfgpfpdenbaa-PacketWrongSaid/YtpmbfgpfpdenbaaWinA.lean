/-
  THE WINDOW, in the plain model of a link: one side makes packets, the other one takes those that bits tell, and the last one.
-/
import Derived.Test.YtpmbfgpfpdenbaaWalkL
namespace Go.Proofs.Ytpmbfgpfpdenbaa

def gotB (got : List UInt8) (k : Nat) : Bool := decide ((got.getD (k / 8) 0).toNat / 2 ^ (k % 8) % 2 = 1)
def takenB (got : List UInt8) (n k : Nat) : Bool := gotB got k || decide (k + 1 = n)
def pktW (k : Nat) : APkt := ⟨some (k, markB k []), none⟩

structure Win (got : List UInt8) (n i : Nat) (X Y : ASide) : Prop where
  bl : X.bodies.length = i
  ml : X.made.length = i
  h0 : X.e.heard = 0
  made : ∀ j, j < i → X.made[j]? = some (pktW j)
  cnt : ∀ k, k < i → X.bodies.getD k 0 = if takenB got n k then 1 else 0
  last : 0 < n → i = n → Y.e.heard = n
  yb : Y.bodies = []
  ym : Y.made = []

theorem win_zero (got : List UInt8) (n : Nat) : Win got n 0 side0 side0 :=
  ⟨rfl, rfl, rfl, fun j h => absurd h (Nat.not_lt_zero _), fun j h => absurd h (Nat.not_lt_zero _), fun h h' => by omega, rfl, rfl⟩

theorem make_parts (X : ASide) (xs : List UInt8) : (X.make xs).e = X.e.make ∧ (X.make xs).made = X.made ++ [⟨some (X.e.n, xs), X.e.note⟩] ∧ (X.make xs).bodies = X.bodies ++ [0] := ⟨rfl, rfl, rfl⟩

section
variable {got : List UInt8} {n i : Nat} {X Y : ASide}
theorem win_made (h : Win got n i X Y) (hI : LinkInv X Y) : (X.make (markB X.bodies.length [])).made[i]? = some (pktW i) := by
  obtain ⟨-, e2, -⟩ := make_parts X (markB X.bodies.length [])
  have hn : X.e.note = none := by unfold AEnd.note; rw [if_neg (by rw [h.h0]; omega)]
  rw [e2, List.getElem?_append_right (by rw [h.ml]; exact Nat.le_refl _), h.ml, Nat.sub_self, hn, hI.n, h.bl]
  rfl

theorem win_skip (h : Win got n i X Y) (hI : LinkInv X Y) (ht : takenB got n i = false) : Win got n (i + 1) (X.make (markB X.bodies.length [])) Y := by
  obtain ⟨e1, e2, e3⟩ := make_parts X (markB X.bodies.length [])
  refine ⟨by rw [e3]; simp [h.bl], by rw [e2]; simp [h.ml], by rw [e1]; exact h.h0, fun j hj => ?_, fun k hk => ?_, fun hn hi => ?_, h.yb, h.ym⟩
  · rcases Nat.lt_or_ge j i with c | c
    · rw [e2, List.getElem?_append_left (by rw [h.ml]; exact c)]; exact h.made j c
    · obtain rfl : j = i := by omega
      exact win_made h hI
  · rw [e3, getD_snoc]
    rcases Nat.lt_or_ge k i with c | c
    · exact h.cnt k c
    · obtain rfl : k = i := by omega
      rw [ht, List.getD_eq_getElem?_getD, List.getElem?_eq_none (by rw [h.bl]; exact Nat.le_refl _)]; rfl
  · unfold takenB at ht
    simp only [Bool.or_eq_false_iff, decide_eq_false_iff_not] at ht
    omega

theorem accept_newA {a : AEnd} {k : Nat} (h : a.heard ≤ k) : (acceptA a k).2 = 0 ∧ (acceptA a k).1.heard = k + 1 := by
  unfold acceptA
  rw [if_neg (by omega), if_neg (by omega), if_neg (by omega)]
  exact ⟨rfl, rfl⟩

theorem win_take (h : Win got n i X Y) (hI : LinkInv X Y) (hI' : LinkInv Y X) (hin : i < n) (ht : takenB got n i = true) : Win got n (i + 1) ((X.make (markB X.bodies.length [])).given Y.e (pktW i)) (Y.take (pktW i)) := by
  obtain ⟨e1, e2, e3⟩ := make_parts X (markB X.bodies.length [])
  have hh : Y.e.heard ≤ i := by have := hI'.heard; rw [h.bl] at this; exact this
  obtain ⟨a1, a2⟩ := accept_newA hh
  have hr : recvA Y.e (pktW i) = ((acceptA Y.e i).1, markB i [], [], 0) := by
    simp only [recvA, pktW, a1, if_true]
  have hg : (X.make (markB X.bodies.length [])).given Y.e (pktW i) = { X.make (markB X.bodies.length []) with bodies := (X.make (markB X.bodies.length [])).bodies.set i 1 } := by
    have : (recvA Y.e (pktW i)).2.2.2 = 0 := by rw [hr]
    exact if_pos this
  have ht1 : (Y.take (pktW i)).e = (acceptA Y.e i).1 := by
    unfold ASide.take
    rw [hr]; rfl
  rw [hg]
  refine ⟨by simp only [List.length_set]; rw [e3]; simp [h.bl], by simp only; rw [e2]; simp [h.ml], by simp only; rw [e1]; exact h.h0, fun j hj => ?_, fun k hk => ?_, fun hn hi => ?_, h.yb, h.ym⟩
  · simp only
    rcases Nat.lt_or_ge j i with c | c
    · rw [e2, List.getElem?_append_left (by rw [h.ml]; exact c)]; exact h.made j c
    · obtain rfl : j = i := by omega
      exact win_made h hI
  · simp only
    rw [getD_set _ _ _ _ (by rw [e3]; simp [h.bl])]
    by_cases c : k = i
    · subst c; rw [if_pos rfl, ht]; rfl
    · rw [if_neg c, e3, getD_snoc]; exact h.cnt k (by omega)
  · rw [ht1, a2]; omega

/-- The mask, bit for bit. -/
theorem win_mask (h : Win got n n X Y) (hI' : LinkInv Y X) (hn : 0 < n) (b : Nat) (hb : b < 32) : Y.e.mask.testBit b = (decide (b + 2 ≤ n) && gotB got (n - 2 - b)) := by
  have hh := h.last hn rfl
  by_cases c : b + 2 ≤ n
  · have hm := hI'.mid (n - 2 - b) (by omega) (by omega)
    have hc := h.cnt (n - 2 - b) (by omega)
    rw [hc, hh, show n - 2 - (n - 2 - b) = b by omega] at hm
    have : takenB got n (n - 2 - b) = gotB got (n - 2 - b) := by
      unfold takenB
      rw [show decide (n - 2 - b + 1 = n) = false by simp; omega, Bool.or_false]
    rw [this] at hm
    rw [show decide (b + 2 ≤ n) = true by simpa using c, Bool.true_and]
    cases h1 : Y.e.mask.testBit b <;> cases h2 : gotB got (n - 2 - b) <;> simp [h1, h2] at hm ⊢
  · rw [show decide (b + 2 ≤ n) = false by simpa using c, Bool.false_and]
    cases h1 : Y.e.mask.testBit b with
    | false => rfl
    | true => have := hI'.maskb b h1; omega

/-- What accept says of packet k, the first and the second time. -/
def wantW (n k was : Nat) : Int := if k + 33 < n then 191 else if was = 0 then 0 else 192

theorem win_first (h : Win got n n X Y) (hI' : LinkInv Y X) (k : Nat) (hk : k < n) : (acceptA Y.e k).2 = wantW n k (X.bodies.getD k 0) := by
  have hh := h.last (by omega) rfl
  unfold acceptA wantW
  rw [hh]
  by_cases c1 : k + 33 < n
  · rw [if_pos c1, if_pos c1]
  · rw [if_neg c1, if_neg c1]
    by_cases c2 : k + 1 = n
    · rw [if_pos c2, if_neg (by rw [hI'.top k (by omega)]; decide)]
    · rw [if_neg c2, if_pos (by omega)]
      have hm := hI'.mid k (by omega) (by omega)
      rw [hh] at hm
      by_cases c4 : Y.e.mask.testBit (n - 2 - k) = true
      · rw [if_pos c4] at hm ⊢; rw [if_neg (by rw [hm]; decide)]
      · rw [if_neg c4] at hm ⊢; rw [if_pos hm]

theorem win_second (h : Win got n n X Y) (k : Nat) (hk : k < n) : (acceptA (acceptA Y.e k).1 k).2 = wantW n k 1 := by
  have hh := h.last (by omega) rfl
  have e : wantW n k 1 = if k + 33 < n then 191 else 192 := by unfold wantW; simp
  rw [e]
  by_cases c1 : k + 33 < n
  · have a1 : acceptA Y.e k = (Y.e, 191) := by unfold acceptA; rw [hh, if_pos c1]
    rw [a1, if_pos c1]
    simp only
    rw [a1]
  · rw [if_neg c1]
    by_cases c2 : k + 1 = n
    · have a1 : acceptA Y.e k = (Y.e, 192) := by unfold acceptA; rw [hh, if_neg c1, if_pos c2]
      rw [a1]
      simp only
      rw [a1]
    · by_cases c4 : Y.e.mask.testBit (n - 2 - k) = true
      · have a1 : acceptA Y.e k = (Y.e, 192) := by unfold acceptA; rw [hh, if_neg c1, if_neg c2, if_pos (by omega), if_pos c4]
        rw [a1]
        simp only
        rw [a1]
      · have a1 : acceptA Y.e k = ({ Y.e with mask := Y.e.mask ||| 2 ^ (n - 2 - k) }, 0) := by unfold acceptA; rw [hh, if_neg c1, if_neg c2, if_pos (by omega), if_neg c4]; simp only [hh]
        rw [a1]
        simp only
        unfold acceptA
        simp only [hh]
        rw [if_neg c1, if_neg c2, if_pos (by omega), if_pos (by rw [Nat.testBit_or, Nat.testBit_two_pow_self]; simp)]

theorem accept_more (a : AEnd) (k : Nat) : ∃ h m, (acceptA a k).1 = ⟨a.n, h, m, a.pend⟩ := by
  unfold acceptA
  (repeat' split) <;> exact ⟨_, _, rfl⟩
end
end Go.Proofs.Ytpmbfgpfpdenbaa
