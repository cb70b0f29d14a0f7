/-
  WALK of mark.
-/
import Derived.Test.YtpmbfgpfpdenbaaWalkA
namespace Go.Proofs.Ytpmbfgpfpdenbaa
open Go.RowKit

def markB (k : Nat) (xs : List UInt8) : List UInt8 := [UInt8.ofNat (k / 256), UInt8.ofNat k] ++ xs.take 20

theorem markB_ok (k : Nat) (xs : List UInt8) : MarkOk k (markB k xs) := by
  refine ⟨by simp [markB], by simp [markB]; omega, by simp [markB]⟩

theorem markB_vals (k : Nat) (hk : k < 65536) (xs : List UInt8) : byts (markB k xs) = [.int .u8 ((k : Int) / 256), .int .u8 ((k : Int) % 256)] ++ byts (xs.take 20) := by
  have e1 : ((UInt8.ofNat (k / 256)).toNat : Int) = (k : Int) / 256 := by simp; omega
  have e2 : ((UInt8.ofNat k).toNat : Int) = (k : Int) % 256 := by simp
  simp only [markB, byts, List.map_append, List.map_cons, List.map_nil, e1, e2]

/-- What 'mark' comes to. -/
def MarkTo (w : World) (o : Own) (ρ k : Nat) (xs : List UInt8) (e : Ending) (w' : World) : Prop :=
  ∃ g c' o', e = .returned (.slice (some ⟨g, 0, none⟩) (markB k xs).length c') ∧ Step [] w o w' o' ∧ Row w' o' ρ 5 1 (some ⟨g, 0, none⟩) (markB k xs).length c' (byts (markB k xs))

theorem MarkTo.of {w w1 : World} {o : Own} {ρ k m c' : Nat} {xs : List UInt8} {A' : Option Addr} {ob : Obj} (hk : k < 65536) (hm : m = (xs.take 20).length)
    (hR : Row w1 (ext (ext o w.heap.size ρ) (w.alloc ob).heap.size ρ) ρ 5 1 A' (2 + m) c' ([.int .u8 ((k : Int) / 256), .int .u8 ((k : Int) % 256)] ++ byts (xs.take 20))) (hg : (w.alloc ob).grownBy w1 (Value.slice (some ⟨w.heap.size, 0, none⟩) 2 2).ownBlock) :
    MarkTo w o ρ k xs (.returned (.slice A' (2 + m) c')) w1 := by
  have hl : 2 + m = (markB k xs).length := by simp only [markB, List.length_append, hm]; rfl
  obtain ⟨g, cur, rfl, -⟩ := hR.form (by omega)
  rw [hl] at hR ⊢
  rw [← markB_vals k hk] at hR
  exact ⟨g, c', _, rfl, ((Step.refl [] w o).alloc ob ρ).grown hg (fun k hk => .inl (by simp [Value.ownBlock] at hk; omega)) ρ, hR⟩

set_option maxHeartbeats 1000000 in
theorem mark_any (w : World) (o : Own) (τ2 ρ : Nat) (k : Nat) (hk : k < 65536) (A : Option Addr) (n c : Nat) (xs : List UInt8) (hS : Sl w o τ2 1 A n c (byts xs)) (hn : n ≤ 9223372036854775807) :
    Calls Try.prog 39 #[.int .i64 k, .slice A n c] w (MarkTo w o ρ k xs) := by
  have hxl : n = xs.length := by have := hS.1; simp at this; omega
  have hnc := hS.2.1
  have hr0 := (Row.made (w := w) o ρ 5 1 #[.int .u8 ((k : Int) / 256), .int .u8 ((k : Int) % 256)] 2 rfl (by decide) 2 (Nat.le_refl _))
  have hS1 := hS.step ((Step.refl [] w o).alloc (.cells #[.int .u8 ((k : Int) / 256), .int .u8 ((k : Int) % 256)] 5) ρ) (by simp)
  cases A with
  | none =>
    have hn0 : n = 0 := by
      rcases Nat.eq_zero_or_pos n with h | h
      · exact h
      · obtain ⟨_, _, h, _⟩ := hS.2.2.2 h; cases h
    subst hn0
    have hx0 : xs = [] := List.length_eq_zero_iff.1 hxl.symm
    subst hx0
    have HR := Lib.hid hr0; have HS := Lib.hid hS1; clear hS hr0 hS1 hxl
    go_enter Try.func39, Try.ntmps39
    go_wp2_with (at_builtin; refine wpList_append_row _ rfl (.tmp 10) (.tmp 15) _ rfl el_byte _ ρ _ 2 2 _ rfl HR.out _ τ2 _ 0 _ [] rfl HS.out (by simp) (by omega) (by simp only [maxLen]; omega) ?_; intro A' c' w1 hR1 hg hat; have HR1 := Lib.hid hR1; have HG := Lib.hid hg; clear hR1 hg hat)
    go_ret
    exact MarkTo.of hk rfl HR1.out HG.out
  | some ad =>
    by_cases h20 : 20 < n
    · have hc1 := hS1.cut (i := 0) (j := 20) (by omega) (by omega) (some ad) (fun g off h _ => by simpa using h)
      have hxt : 20 = (xs.take 20).length := by simp; omega
      have hcut : ((byts xs).drop (0 * 1)).take ((20 - 0) * 1) = byts (xs.take 20) := by simp [byts, List.map_take]
      rw [hcut] at hc1
      have HR := Lib.hid hr0; have HS := Lib.hid hc1; have HX := Lib.hid hxt; clear hS hr0 hS1 hxl hc1 hcut hxt
      go_enter Try.func39, Try.ntmps39
      go_wp2_with (at_builtin; refine wpList_append_row _ rfl (.tmp 10) (.tmp 15) _ rfl el_byte _ ρ _ 2 2 _ rfl HR.out _ τ2 _ 20 _ (byts (xs.take 20)) rfl HS.out (one_byts _) (by omega) (by simp only [maxLen]; omega) ?_; intro A' c' w1 hR1 hg hat; have HR1 := Lib.hid hR1; have HG := Lib.hid hg; clear hR1 hg hat)
      go_ret
      exact MarkTo.of hk HX.out HR1.out HG.out
    · have hxt : xs.take 20 = xs := List.take_of_length_le (by omega)
      have hS2 : Sl (w.alloc (.cells #[.int .u8 ((k : Int) / 256), .int .u8 ((k : Int) % 256)] 5)) (ext o w.heap.size ρ) τ2 1 (some ad) n c (byts (xs.take 20)) := by rw [hxt]; exact hS1
      have hxt2 : n = (xs.take 20).length := by rw [hxt]; exact hxl
      have HR := Lib.hid hr0; have HS := Lib.hid hS2; have HX := Lib.hid hxt2; clear hS hr0 hS1 hxl hS2 hxt hxt2
      go_enter Try.func39, Try.ntmps39
      go_wp2_with (at_builtin; refine wpList_append_row _ rfl (.tmp 10) (.tmp 15) _ rfl el_byte _ ρ _ 2 2 _ rfl HR.out _ τ2 _ n _ (byts (xs.take 20)) rfl HS.out (one_byts _) (by omega) (by simp only [maxLen]; omega) ?_; intro A' c' w1 hR1 hg hat; have HR1 := Lib.hid hR1; have HG := Lib.hid hg; clear hR1 hg hat)
      go_ret
      exact MarkTo.of hk HX.out HR1.out HG.out
end Go.Proofs.Ytpmbfgpfpdenbaa
