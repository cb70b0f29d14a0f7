/-
  slices.Clone of items.
-/
import Derived.Test.YtkiknbjokknemaaGreatBudL
namespace Go.Proofs.YtkiknbjokknemaaGreat
open Go.RowKit Go.Maps

theorem el_item : Elem Tryz.prog 24 28 3 24 (.agg #[.int .i64 0, .int .i64 0, .int .i64 0]) := ⟨Tryz.underlying24, by kernel_rfl, rfl, by decide⟩

set_option maxHeartbeats 400000 in
theorem clone3 (w : World) (o : Own) (τ ρ : Nat) (A : Option Addr) (n c : Nat) (xs : List Value) (hS : Sl w o τ 3 A n c xs) (h1 : ∀ u ∈ xs, u.oneCell' = true) (hn : n ≤ 64) :
    Calls Tryz.prog 27 #[.slice A n c] w fun e w' => ∃ A' c', e = .returned (.slice A' n c') ∧ Row w' (ext o w.heap.size ρ) ρ 28 3 A' n c' xs ∧ Below w.heap.size w w' ∧ ∀ ad, A' = some ad → w.heap.size ≤ ad.block := by
  cases A with
  | none =>
    have hn0 : n = 0 := by
      rcases Nat.eq_zero_or_pos n with h | h
      · exact h
      · obtain ⟨_, _, h, _⟩ := hS.2.2.2 h; cases h
    subst hn0
    have hx : xs = [] := List.eq_nil_of_length_eq_zero (by simpa using hS.1)
    subst hx
    clear hS
    have hnil := Lib.run_eql_slice_nil (P := Tryz.prog) w 24 28 none 0 c 0 0 Tryz.underlying24
    go_enter Tryz.func27, Tryz.ntmps27
    go_wp2_with fail
    go_ret
    exact ⟨none, 0, rfl, Row.nil_ _ _ _ _ _, Below.refl _ _, fun _ h => by cases h⟩
  | some ad =>
    have hnil := Lib.run_eql_slice_nil (P := Tryz.prog) w 24 28 (some ad) n c 0 0 Tryz.underlying24
    have H := Lib.hid hS; clear hS
    go_enter Tryz.func27, Tryz.ntmps27
    go_wp2_with (at_builtin; refine wpList_append_row _ rfl (.tmp 5) (.tmp 6) _ rfl el_item (ext o w.heap.size ρ) ρ _ 0 0 [] rfl (Row.made (w := w) o ρ 28 3 #[] 0 rfl (Nat.zero_le _) 0 (Nat.le_refl _)) (ext o w.heap.size 0) τ _ n c xs rfl (H.out.step ((Step.refl [] _ _).alloc _ _) (by simp)) h1 (by omega) (by simp only [maxLen]; omega) ?_; intro A' c' w' hR hg hat)
    go_ret
    rw [World.size_alloc, ext_ext (by omega), Nat.zero_add] at hR
    refine ⟨A', c', rfl, by simpa using hR, ?_, fun ad0 h0 => ?_⟩
    rotate_left
    · rcases hat ad0 h0 with ⟨ad1, h1, h2⟩ | h2
      · injection h1 with h1; subst h1; rw [h2]; exact Nat.le_refl _
      · rw [h2]; simp
    exact ((Below.refl _ _).alloc (Nat.le_refl _) _).grown hg (by simp) (fun k hk => by simp [Value.ownBlock] at hk; omega)

end Go.Proofs.YtkiknbjokknemaaGreat
