/-
  CONTRACTS of packet's exported methods, whatever the case.
-/
import Derived.Test.YthjjipcbpmdfnaaPackI
namespace Go.Proofs.Ythjjipcbpmdfnaa
open Go.RowKit

/-- 'Receive', whatever the bytes. -/
theorem Receive_any (w : World) (o : Own) (τ τ2 σ b : Nat) (s : EndS) (hE : EndAt w o τ b s) (hs : s.Fit) (ht : τ2 ≠ τ) (hσ : σ ≠ τ) (A : Option Addr) (c n : Nat) (xs : List UInt8) (hS : Sl w o τ2 1 A n c (byts xs)) (hn : n ≤ 140737488355328) :
    Calls Try.prog 53 #[.pointer (some ⟨b, 0, none⟩), .slice A n c] w (RecvTo w o τ σ b (recvP s xs)) := by
  have hl : n = xs.length := by have := hS.1; simp at this; omega
  subst hl
  cases hp : parseP xs with
  | none =>
    have : recvP s xs = (s, [], [], 190) := by simp [recvP, hp]
    rw [this]
    exact recv_none w o τ τ2 σ b s hE A c xs hS hn hp
  | some q =>
    obtain ⟨f, nu, ak, mk, body⟩ := q
    have hb := parse_bd hp
    have h3 : f = 1 ∨ f = 2 ∨ f = 3 := by omega
    rcases h3 with rfl | rfl | rfl
    · exact recv_one w o τ τ2 σ b s hE hs ht hσ A c xs hS hn nu ak mk body hp
    · exact recv_two w o τ τ2 σ b s hE hs ht hσ A c xs hS hn nu ak mk body hp
    · exact recv_three w o τ τ2 σ b s hE hs ht hσ A c xs hS hn nu ak mk body hp

/-- 'Make', whatever is pending. -/
theorem Make_any (w : World) (o : Own) (τ τ2 σ b : Nat) (s : EndS) (hE : EndAt w o τ b s) (hs : s.Fit) (ht : τ2 ≠ τ) (hσ : σ ≠ τ) (ad : Addr) (n c : Nat) (xs : List UInt8) (hS : Sl w o τ2 1 (some ad) n c (byts xs)) (hn0 : 1 ≤ n) (hn1 : n ≤ 1191) (hnx : s.next ≤ 1999999999999) :
    Calls Try.prog 46 #[.pointer (some ⟨b, 0, none⟩), .slice (some ad) n c] w fun e w' => ∃ A c o' LA lc, e = .returned (.tuple #[.slice A (packP (makeS s) s.next xs).length c, .int .i64 s.next, .slice LA (lostP s).length lc, .int .i64 0]) ∧
      Step [τ] w o w' o' ∧ EndAt w' o' τ b (makeS s) ∧ Row w' o' σ 5 1 A (packP (makeS s) s.next xs).length c (byts (packP (makeS s) s.next xs)) ∧ Sl w' o' σ 2 LA (lostP s).length lc (reps (lostP s)) := by
  by_cases h : s.pend.length < 256
  · refine (Make_room w o τ τ2 σ b s hE hs ht h ad n c xs hS hn0 hn1 hnx).mono ?_
    rintro e w' ⟨A, c', o', rfl, h1, h2, h3⟩
    have hl : lostP s = [] := by rw [lostP, if_pos h]
    exact ⟨A, c', o', none, 0, by rw [hl]; rfl, h1, h2, h3, by rw [hl]; exact Sl.nil_ _ _ _ _ _ _ (Nat.zero_le _)⟩
  · have h' : s.pend.length = 256 := by have := hs.len; omega
    refine (Make_full w o τ τ2 σ b s hE hs ht hσ h' ad n c xs hS hn0 hn1 hnx).mono ?_
    rintro e w' ⟨A, c', o', LA, rfl, h1, h2, h3, h4⟩
    have hl : (lostP s).length = 1 := by rw [lostP, if_neg h]; rfl
    exact ⟨A, c', o', LA, 1, by rw [hl], h1, h2, h3, by rw [hl]; exact h4⟩
end Go.Proofs.Ythjjipcbpmdfnaa
