/-
  WALK of chosen, for an op that does not spoil.
-/
import Derived.Test.YtpmbfgpfpdenbaaWalkC
namespace Go.Proofs.Ytpmbfgpfpdenbaa
open Go.RowKit

/-- What 'chosen' comes to. -/
def ChosenTo (w : World) (o : Own) (T : Nat) (ps : List (List UInt8)) (e : Ending) (w' : World) : Prop :=
  ∃ o', Step [] w o w' o' ∧ ((ps = [] ∧ e = .returned (.tuple #[.slice none 0 0, .bool false])) ∨
    ∃ p A' c', ps[ps.length - 1 - T % ps.length]? = some p ∧ e = .returned (.tuple #[.slice A' p.length c', .bool true]) ∧ Row w' o' 11 5 1 A' p.length c' (byts p))

set_option maxRecDepth 100000 in
set_option maxHeartbeats 2000000 in
theorem chosen_any (w : World) (o : Own) (τ K S T : Nat) (hK : K < 256) (hT : T < 256) (hk5 : K % 6 ≠ 5) (BA MA : Option Addr) (bn bc mn mc : Nat) (ps : List (List UInt8)) (hM : MadeRow w o τ MA mn mc ps) (hpl : ∀ p ∈ ps, p.length ≤ 100000) (hps : ps.length ≤ 100000) :
    Calls Try.prog 31 #[.agg #[.int .u8 K, .int .u8 S, .int .u8 T, .slice BA bn bc], .slice MA mn mc] w (ChosenTo w o T ps) := by
  obtain ⟨vs, hr, hl, hp⟩ := hM
  have hmn : mn = ps.length := by have := hr.len; omega
  have t1 : (((K : Int) % 6) == 5) = false := by simp; omega
  by_cases h0 : mn = 0
  · have hps0 : ps = [] := List.length_eq_zero_iff.1 (by omega)
    subst h0
    have HPS := Lib.hid hps0; clear hr hp hmn hl hps0
    go_enter Try.func31, Try.ntmps31
    go_wp2_with fail
    go_ret2
    exact ⟨_, (Step.refl [] w o).alloc _ 0, .inl ⟨HPS.out, rfl⟩⟩
  · obtain ⟨j, hj⟩ : ∃ j, j = mn - 1 - T % mn := ⟨_, rfl⟩
    have hjl : j < mn := by omega
    have hji : (mn : Int) - 1 - (T : Int) % (mn : Int) = (j : Int) := by
      have : T % mn < mn := Nat.mod_lt _ (by omega)
      have e : (T : Int) % (mn : Int) = ((T % mn : Nat) : Int) := by simp
      rw [e]; omega
    obtain ⟨p, hpj⟩ : ∃ p, ps[j]? = some p := ⟨ps[j]'(by omega), List.getElem?_eq_getElem _⟩
    obtain ⟨A', n', c', hv, hsl⟩ := hp j p hpj
    have hnp : n' = p.length := by have := hsl.1; simp at this; omega
    have hpb : p.length ≤ 100000 := hpl p (List.mem_of_getElem? hpj)
    obtain ⟨g, hMA, hog, hc, -⟩ := hr.at_ hjl
    subst hMA
    have d0 := hc.trans hv
    have hglt : g < w.heap.size := hr.lt rfl
    have hst := (((Step.refl [] w o).alloc (.cells #[.int .u8 K, .int .u8 S, .int .u8 T, .slice BA bn bc] 29) 0))
    have hst2 := hst.alloc (.cells #[] 5) 11
    have hr0 := Row.made (w := w.alloc (.cells #[.int .u8 K, .int .u8 S, .int .u8 T, .slice BA bn bc] 29)) (ext o w.heap.size 0) 11 5 1 #[] 0 rfl (by decide) 0 (Nat.le_refl _)
    rw [World.size_alloc] at hr0 hst2
    have hs1 := hsl.step hst2 (by simp)
    have hpp : ps[ps.length - 1 - T % ps.length]? = some p := by rw [← hmn, ← hj]; exact hpj
    have HST := Lib.hid hst2; have HR := Lib.hid hr0; have HS := Lib.hid hs1; have HPP := Lib.hid hpp; have HNP := Lib.hid hnp
    have hnb : n' ≤ 100000 := by omega
    have hmb : mn ≤ 100000 := by omega
    have hm0 : (mn : Int) ≠ 0 := by omega
    clear hst hst2 hr0 hs1 hpp hr hp hl hc hv hsl hpj hj hnp hmn
    go_enter Try.func31, Try.ntmps31
    go_wp2_with (at_builtin; refine wpList_append_row _ rfl (.tmp 22) (.tmp 35) _ rfl el_byte _ 11 _ 0 0 _ rfl HR.out _ 10 _ n' _ (byts p) rfl HS.out (one_byts _) (by omega) (by simp only [maxLen]; omega) ?_; intro A' c' w1 hR1 hg hat; have q0 := (((Blk.new w 29 #[.int .u8 K, .int .u8 S, .int .u8 T, .slice BA bn bc]).alloc (.cells #[] 5)).grown hg (by simp [Value.ownBlock])).cell 0; simp only [List.getElem?_toArray, List.getElem?_cons_zero] at q0; have HR1 := Lib.hid hR1; have HG := Lib.hid hg; clear hR1 hg hat)
    go_ret2
    have hR2 := HR1.out
    have hst3 := HST.out.grown HG.out (fun k hk => .inl (by simp [Value.ownBlock] at hk; omega)) 11
    refine ⟨_, hst3, .inr ⟨p, A', c', HPP.out, ?_, ?_⟩⟩
    · rw [HNP.out]; rfl
    · have := hR2
      rw [HNP.out, Nat.zero_add] at this
      simpa using this
end Go.Proofs.Ytpmbfgpfpdenbaa
