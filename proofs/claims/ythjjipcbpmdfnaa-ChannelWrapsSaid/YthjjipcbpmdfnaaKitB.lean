/-
  CONTRACTS of Make, Receive, Only at given data: what a script with known packets steps through.
-/
import Derived.Test.YthjjipcbpmdfnaaKitA
import Derived.Lib.SlBytesConst
namespace Go.Proofs.Ythjjipcbpmdfnaa
open Go.RowKit

def fitB (s : EndS) : Bool := decide (0 ≤ s.own) && decide (s.own ≤ s.next) && decide (s.next ≤ 2000000000000) && decide (0 ≤ s.other) && decide (s.other - 1 ≤ s.newest) && decide (s.newest ≤ 2000000000000) && decide (s.mask < 4294967296) && decide (s.pend.length ≤ 256) &&
  s.pend.all fun n => decide (s.own ≤ n) && decide (n < s.next)
theorem fit_of {s : EndS} (h : fitB s = true) : s.Fit := by
  simp only [fitB, Bool.and_eq_true, decide_eq_true_eq, List.all_eq_true] at h
  obtain ⟨⟨⟨⟨⟨⟨⟨⟨h1, h2⟩, h3⟩, h4⟩, h5⟩, h6⟩, h7⟩, h8⟩, h9⟩ := h
  exact ⟨h1, h2, h3, h4, h5, h6, h7, h8, h9⟩

/-- A block just made, as a slice that is read. -/
theorem Sl.lit (w : World) (o : Own) (τ : Nat) (C : Array Value) (t : TypeId) (fr : Nat × Nat) (n : Nat) (hn : C.size = n) (hm : n ≤ maxLen) : Sl (w.alloc (.cells C t fr)) (ext o w.heap.size τ) τ 1 (some ⟨w.heap.size, 0, none⟩) n n C.toList := by
  refine ⟨by simpa using hn, Nat.le_refl _, hm, fun _ => ⟨w.heap.size, 0, rfl, ext_ge (Nat.le_refl _), by simp, fun j u hu => ?_⟩⟩
  rw [Nat.zero_add, cell_of_row (w.alloc (.cells C t fr)) w.heap.size j C t fr (heap_alloc_new w _)]
  simpa using hu

/-- Make of one byte that lies in a block just made. -/
def MadeTo (w : World) (o : Own) (τ σ b : Nat) (s : EndS) (P : List UInt8) (n : Nat) (e : Ending) (w' : World) : Prop :=
  ∃ A c o' LA lc, e = .returned (.tuple #[.slice A n c, .int .i64 s.next, .slice LA (lostP s).length lc, .int .i64 0]) ∧ Step [τ] w o w' o' ∧ EndAt w' o' τ b (makeS s) ∧ Row w' o' σ 5 1 A n c (byts P) ∧ Sl w' o' σ 2 LA (lostP s).length lc (reps (lostP s))

theorem Make_lit (w : World) (o : Own) (τ σ b : Nat) (s : EndS) (hE : EndAt w o τ b s) (hs : s.Fit) (ht : τ ≠ 11) (hσ : σ ≠ τ) (hnx : s.next ≤ 1999999999999) (x : UInt8) (xi : Int) (hx : (x.toNat : Int) = xi) (P : List UInt8) (n : Nat) (hP : packP (makeS s) s.next [x] = P) (hn : P.length = n) (g : Nat) (hg : g = w.heap.size) :
    Calls Try.prog 46 #[.pointer (some ⟨b, 0, none⟩), .slice (some ⟨g, 0, none⟩) 1 1] (w.alloc (.cells #[.int .u8 xi] 5 (1, 2))) (MadeTo w o τ σ b s P n) := by
  subst hx; subst hg
  have hS := Sl.lit w o 11 #[.int .u8 (x.toNat : Int)] 5 (1, 2) 1 rfl (by decide)
  have st := (Step.refl [] w o).alloc (.cells #[.int .u8 (x.toNat : Int)] 5 (1, 2)) 11
  refine (Make_any _ (ext o w.heap.size 11) τ 11 σ b s (hE.step st (by simp)) hs (Ne.symm ht) hσ _ 1 1 [x] hS (Nat.le_refl _) (by omega) hnx).mono ?_
  rintro e w' ⟨A, c, o', LA, lc, rfl, h1, h2, h3, h4⟩
  rw [hP, hn] at h3 ⊢
  exact ⟨A, c, o', LA, lc, rfl, st.nil.trans h1, h2, h3, h4⟩

/-- Receive of known bytes. -/
theorem Recv_lit (w : World) (o : Own) (τ τ2 σ b : Nat) (s : EndS) (hE : EndAt w o τ b s) (hs : s.Fit) (ht : τ2 ≠ τ) (hσ : σ ≠ τ) (A : Option Addr) (n c : Nat) (xs : List UInt8) (hS : Sl w o τ2 1 A n c (byts xs)) (hn : n ≤ 140737488355328)
    (s' : EndS) (bd : List UInt8) (rs : List (Int × Bool)) (code : Int) (hR : recvP s xs = (s', bd, rs, code)) (n1 n2 : Nat) (h1 : bd.length = n1) (h2 : rs.length = n2) :
    Calls Try.prog 53 #[.pointer (some ⟨b, 0, none⟩), .slice A n c] w fun e w' => ∃ BA bc RA rc o', e = .returned (.tuple #[.slice BA n1 bc, .slice RA n2 rc, .int .i64 code]) ∧ Step [τ] w o w' o' ∧ EndAt w' o' τ b s' ∧ Row w' o' σ 5 1 BA n1 bc (byts bd) ∧ Sl w' o' σ 2 RA n2 rc (reps rs) := by
  refine (Receive_any w o τ τ2 σ b s hE hs ht hσ A c n xs hS hn).mono ?_
  rw [hR]
  rintro e w' ⟨BA, bc, RA, rc, o', rfl, g1, g2, g3, g4⟩
  simp only [h1, h2] at g3 g4 ⊢
  exact ⟨BA, bc, RA, rc, o', rfl, g1, g2, g3, g4⟩

/-- Only, at known data. -/
theorem Only_lit (w : World) (o : Own) (τ σ b : Nat) (s : EndS) (hE : EndAt w o τ b s) (hs : s.Fit) (hh : s.other ≤ s.newest) (P : List UInt8) (n : Nat) (hP : ackP s = P) (hn : P.length = n) :
    Calls Try.prog 48 #[.pointer (some ⟨b, 0, none⟩)] w fun e w' => ∃ A c o', e = .returned (.tuple #[.slice A n c, .int .i64 0]) ∧ Step [] w o w' o' ∧ Row w' o' σ 5 1 A n c (byts P) := by
  refine (Only_ok w o τ σ b s hE hs hh).mono ?_
  rw [hP, hn]
  exact fun _ _ h => h

theorem Sl.rep {w : World} {o : Own} {τ n c : Nat} {A : Option Addr} {rs : List (Int × Bool)} (h : Sl w o τ 2 A n c (reps rs)) (hn : 0 < n) : ∃ g off, A = some ⟨g, off, none⟩ ∧ o g = τ ∧ g < w.heap.size ∧ ∀ j u, (reps rs)[j]? = some u → w.cell? ⟨g, off + j, none⟩ = some u := h.2.2.2 hn

theorem Step.old {ts : List Nat} {w w' : World} {o' : Own} (h : Step ts w (fun _ => 0) w' o') (h0 : 0 ∉ ts) : Below w.heap.size w w' := h.to_below (fun _ _ => h0)
end Go.Proofs.Ythjjipcbpmdfnaa
