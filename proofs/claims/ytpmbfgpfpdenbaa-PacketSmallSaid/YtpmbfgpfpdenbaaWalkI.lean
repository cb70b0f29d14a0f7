/-
  'takes' at a link, for a packet that the other side has made.
-/
import Derived.Test.YtpmbfgpfpdenbaaWalkH
namespace Go.Proofs.Ytpmbfgpfpdenbaa
open Go.RowKit

theorem PktOk.fits {X Y : ASide} {p : APkt} (h : PktOk Y X p) (hI : LinkInv X Y) (hn : Y.bodies.length ≤ 30000) : p.Fits X.e := by
  refine ⟨h.any, fun k xs hb => ?_, fun m mk ha => ?_⟩
  · have := h.body k xs hb; omega
  · have := h.ack m mk ha
    exact ⟨by rw [hI.n]; exact this.1, this.2.1, this.2.2.1⟩

theorem rep_len (a : Option (Nat × Nat)) (l : List Nat) : (repA a l).length ≤ l.length := by
  cases a with
  | none => simp [repA]
  | some q =>
    obtain ⟨m, mk⟩ := q
    have := congrArg List.length (ackRA_fst m mk l)
    rw [List.length_map] at this
    simp only [repA, this]
    exact List.length_filter_le _ _

theorem LinkS.takes {w w' : World} {o : Own} {l s s' : Nat} {own other : Int} {X Y X' Y' : ASide} {v u : SideV} {cells : Array Value} {e : Ending} (hL : LinkS w o l s s' own other X Y v u cells) (hs : s < 2) (hs' : s' = 1 - s) (h : TakesTo w o s s' v u own other X' Y' e w') : StepTo w o l s s' own other (X', Y') e w' := by
  obtain ⟨he, o', hst, hx, hy⟩ := h
  exact ⟨he, o', v, u, cells, hst.mono (by intro t ht; simp at ht ⊢; omega), hL.b.step hst (by rw [hL.ol]; simp; omega), (hst.own l hL.b.lt).trans hL.ol, hL.size, hL.cx, hL.cy, hx, hy⟩

theorem takes_link (w : World) (o : Own) (l s s' τ2 : Nat) (hs : s < 2) (hs' : s' = 1 - s) (own other : Int) (X Y : ASide) (v u : SideV) (cells : Array Value) (hL : LinkS w o l s s' own other X Y v u cells) (hI : LinkInv X Y) (hI' : LinkInv Y X)
    (hown : 0 ≤ own) (hown' : own ≤ 1099511627776) (hot : 0 ≤ other) (hot' : other ≤ 1099511627776) (hz : Sized X Y 900) (p : APkt) (hp : PktOk Y X p)
    (A : Option Addr) (n c : Nat) (hS : Sl w o τ2 1 A n c (byts (p.enc other own))) (hnn : n ≤ 140737488355328) (ht : τ2 = 10 ∨ τ2 = 11) :
    Calls Try.prog 16 #[.pointer (some ⟨l, 0, none⟩), .int .i64 s, .slice A n c] w (StepTo w o l s s' own other (X.take p, Y.given X.e p)) := by
  have z1 := hz.bx; have z2 := hz.bY
  have hrec := recv_enc own other hown hot X.e (by rw [hI.n]; omega) (by have := hI.heard; omega) p (hp.fits hI (by omega))
  obtain ⟨-, -, hok⟩ := take_inv hI hI' hp
  have hrs : (recvA X.e p).2.2.1.length ≤ 1000 := by
    have : (recvA X.e p).2.2.1 = repA p.ack X.e.pend := by rw [recvA_eq]; split <;> rfl
    rw [this]
    have := rep_len p.ack X.e.pend
    have := hI.plen
    omega
  have quiet : ∀ code, (recvA X.e p).2.1 = [] → (recvA X.e p).2.2.2 = code → (code = 0 ∨ code = 191 ∨ code = 192) → Y.given X.e p = Y →
      Calls Try.prog 16 #[.pointer (some ⟨l, 0, none⟩), .int .i64 s, .slice A n c] w (StepTo w o l s s' own other (X.take p, Y.given X.e p)) := by
    intro code hb hc hcode hY
    rw [hb, hc] at hrec
    rw [hY]
    exact (takes_quiet w o l s s' τ2 hs hs' own other X Y v u cells hL.b hL.ol hL.cx.c0 hL.cx.c2 hL.cx.c3 hL.cx.c4 hL.x hL.y hI hown hown' hot hot' (by omega) (by omega) A n c _ hS hnn ht (recvA X.e p).1 (recvA X.e p).2.2.1 code hrec hcode hok hrs).mono fun e w' h => hL.takes hs hs' h
  cases hb : p.body with
  | none =>
    have e1 : recvA X.e p = ({ X.e with pend := pendA p.ack X.e.pend }, [], repA p.ack X.e.pend, 0) := by rw [recvA_eq, hb]
    exact quiet 0 (by rw [e1]) (by rw [e1]) (.inl rfl) (by simp only [ASide.given, hb])
  | some q =>
    obtain ⟨k, xs⟩ := q
    have e1 : recvA X.e p = ({ (acceptA X.e k).1 with pend := pendA p.ack X.e.pend }, if (acceptA X.e k).2 = 0 then xs else [], repA p.ack X.e.pend, (acceptA X.e k).2) := by rw [recvA_eq, hb]
    rcases accept_seen hI.seen k with ⟨d1, d2, -⟩ | ⟨d1, d2⟩
    · have hbd := hp.body k xs hb
      have e2 : (recvA X.e p).2.1 = xs := by rw [e1]; simp only [d1, if_true]
      have e3 : (recvA X.e p).2.2.2 = 0 := by rw [e1]; exact d1
      rw [e2, e3] at hrec
      have hY : Y.given X.e p = { Y with bodies := Y.bodies.set k 1 } := by simp only [ASide.given, hb, e3, if_true]
      rw [hY]
      exact (takes_body w o l s s' τ2 hs hs' own other X Y v u cells hL.b hL.ol hL.cx.c0 hL.cx.c2 hL.cx.c3 hL.cx.c4 hL.cy.c2 hL.x hL.y hI hown hown' hot hot' (by omega) (by omega) A n c _ hS hnn ht (recvA X.e p).1 (recvA X.e p).2.2.1 k xs hrec hok hrs ⟨hbd.2.1, hbd.2.2.1, hbd.2.2.2⟩ hbd.1 d2).mono fun e w' h => hL.takes hs hs' h
    · have d0 : ¬ (acceptA X.e k).2 = 0 := by rcases d1 with d1 | d1 <;> rw [d1] <;> decide
      refine quiet (acceptA X.e k).2 (by rw [e1]; simp only [if_neg d0]) (by rw [e1]) (.inr d1) ?_
      have e3 : (recvA X.e p).2.2.2 = (acceptA X.e k).2 := by rw [e1]
      simp only [ASide.given, hb, e3, if_neg d0]
end Go.Proofs.Ytpmbfgpfpdenbaa
