/-
  Of ChWM, what ChannelTells needs.
-/
import Derived.Test.YthjjipcbpmdfnaaChR
import Derived.Test.YthjjipcbpmdfnaaOrdF
namespace Go.Proofs.Ythjjipcbpmdfnaa
open Go.RowKit

/-- The row of the packets that a side has returned. -/
def MadeC (w : World) (o : Own) (τ π : Nat) (A : Option Addr) (n c : Nat) (ps : List (List UInt8)) : Prop :=
  ∃ vs, Row w o τ 41 1 A n c vs ∧ vs.length = ps.length ∧ ∀ (i : Nat) (p : List UInt8), ps[i]? = some p → ∃ A' c', vs[i]? = some (.slice A' p.length c') ∧ Sl w o π 1 A' p.length c' (byts p)
theorem MadeC.step {w w' : World} {o o' : Own} {τ π n c : Nat} {A : Option Addr} {ps : List (List UInt8)} {ts : List Nat} (h : MadeC w o τ π A n c ps) (hs : Step ts w o w' o') (h1 : τ ∉ ts) (h2 : π ∉ ts) : MadeC w' o' τ π A n c ps := by
  obtain ⟨vs, hr, hl, hp⟩ := h
  refine ⟨vs, hr.step hs h1, hl, fun i p hi => ?_⟩
  obtain ⟨A', c', hv, hsl⟩ := hp i p hi
  exact ⟨A', c', hv, hsl.step hs h2⟩
theorem MadeC.nil_ (w : World) (o : Own) (τ π : Nat) : MadeC w o τ π none 0 0 [] := ⟨[], Row.nil_ _ _ _ _ _, rfl, fun i p h => by simp at h⟩
/-- An op of a script. -/
structure OpV where
  K : Nat
  S : Nat
  T : Nat
  B : List UInt8
abbrev opCells (K S T : Nat) (BA : Option Addr) (bn bc : Nat) : Array Value := #[.int .u8 K, .int .u8 S, .int .u8 T, .slice BA bn bc]
theorem run_headA (P : Program) (t e : TypeId) (z : Value) (sz b : Nat) (hu : P.underlying t = some (.slice e)) (hs : (P.info? e).map (fun i => (i.zero, i.size, i.bytes)) = some (some z, sz, b)) (A : Option Addr) (n c k : Nat) (hk : k ≤ c) (W : World) :
    (Instr.slice t (.slice A n c) none (some (.int .i64 (k : Int))) none).run P W = .ok (.slice A k c) W := run_headC P t e z sz b hu hs A n c k hk W
set_option maxHeartbeats 1000000 in
theorem opbody_any (w : World) (o : Own) (τ : Nat) (K S T : Nat) (BA : Option Addr) (bn bc : Nat) (B : List UInt8) (hB : Sl w o τ 1 BA bn bc (byts B)) :
    Calls Try.prog 15 #[.agg (opCells K S T BA bn bc)] w fun e w' => e = .returned (.slice BA (B.take 1100).length bc) ∧ Below w.heap.size w w' := by
  have hl : B.length = bn := by have := hB.1; simpa using this
  have hc := hB.2.1
  obtain ⟨m, hm⟩ : ∃ m, m = (B.take 1100).length := ⟨_, rfl⟩
  have hm2 : m = min bn 1100 := by rw [hm, List.length_take]; omega
  have hmn : ∀ W : World, (Builtin.min_ #[3, 3] 3 #[.int .i64 (bn : Int), .int .i64 1100]).run Try.prog W = .ok (.int .i64 (m : Int)) W := fun W => run_minI (P := Try.prog) W #[3, 3] 3 (bn : Int) 1100 (m : Int) (by omega)
  have hmb : m ≤ bn := by omega
  have hA1 := run_headA Try.prog 41 5 (.int .u8 0) 1 1 Try.underlying41 (by kernel_rfl) BA bn bc m (by omega)
  rw [← hm]
  have hbx := Blk.new w 43 (opCells K S T BA bn bc)
  have q3 := hbx.cell 3
  simp only [opCells, List.getElem?_toArray, List.getElem?_cons_zero, List.getElem?_cons_succ] at q3
  clear hm hB hm2 hl hbx
  go_enter Try.func15, Try.ntmps15
  go_wp2_with fail
  go_ret
  exact ⟨rfl, (Below.refl _ _).alloc (Nat.le_refl _) _⟩
/-- What 'chosen' comes to. -/
def ChosenTo (w : World) (o : Own) (T : Nat) (ps : List (List UInt8)) (e : Ending) (w' : World) : Prop :=
  ∃ o', Step [] w o w' o' ∧ ((ps = [] ∧ e = .returned (.tuple #[.slice none 0 0, .bool false])) ∨
    ∃ p A' c', ps[ps.length - 1 - T % ps.length]? = some p ∧ e = .returned (.tuple #[.slice A' p.length c', .bool true]) ∧ Sl w' o' 38 1 A' p.length c' (byts p))
set_option maxRecDepth 100000 in
set_option maxHeartbeats 2000000 in
theorem chosen_any (w : World) (o : Own) (τ π K S T : Nat) (hK : K < 256) (hT : T < 256) (hk5 : K % 6 ≠ 5) (BA MA : Option Addr) (bn bc mn mc : Nat) (ps : List (List UInt8)) (hM : MadeC w o τ π MA mn mc ps) (hpl : ∀ p ∈ ps, p.length ≤ 100000) (hps : ps.length ≤ 100000) :
    Calls Try.prog 23 #[.agg #[.int .u8 K, .int .u8 S, .int .u8 T, .slice BA bn bc], .slice MA mn mc] w (ChosenTo w o T ps) := by
  obtain ⟨vs, hr, hl, hp⟩ := hM
  have hmn : mn = ps.length := by have := hr.len; omega
  have t1 : (((K : Int) % 6) == 5) = false := by simp; omega
  by_cases h0 : mn = 0
  · have hps0 : ps = [] := List.length_eq_zero_iff.1 (by omega)
    subst h0
    have HPS := Lib.hid hps0; clear hr hp hmn hl hps0
    go_enter Try.func23, Try.ntmps23
    go_wp2_with fail
    go_ret2
    exact ⟨_, (Step.refl [] w o).alloc _ 0, .inl ⟨HPS.out, rfl⟩⟩
  · obtain ⟨j, hj⟩ : ∃ j, j = mn - 1 - T % mn := ⟨_, rfl⟩
    have hjl : j < mn := by omega
    have hji : (mn : Int) - 1 - (T : Int) % (mn : Int) = (j : Int) := by
      have : T % mn < mn := Nat.mod_lt _ (by omega)
      have e : (T : Int) % (mn : Int) = ((T % mn : Nat) : Int) := by simp
      rw [e]; omega
    obtain ⟨p, hpj⟩ : ∃ p, ps[j]? = some p := ⟨ps[j]'(by omega), List.getElem?_eq_getElem _⟩
    obtain ⟨A', c', hv, hsl⟩ := hp j p hpj
    obtain ⟨n', hnp⟩ : ∃ n', n' = p.length := ⟨_, rfl⟩
    rw [← hnp] at hv hsl
    have hpb : p.length ≤ 100000 := hpl p (List.mem_of_getElem? hpj)
    obtain ⟨g, hMA, hog, hc, -⟩ := hr.at_ hjl
    subst hMA
    have d0 := hc.trans hv
    have hglt : g < w.heap.size := hr.lt rfl
    have hst := (((Step.refl [] w o).alloc (.cells #[.int .u8 K, .int .u8 S, .int .u8 T, .slice BA bn bc] 43) 0))
    have hst2 := hst.alloc (.cells #[] 5) 38
    have hr0 := Row.made (w := w.alloc (.cells #[.int .u8 K, .int .u8 S, .int .u8 T, .slice BA bn bc] 43)) (ext o w.heap.size 0) 38 5 1 #[] 0 rfl (by decide) 0 (Nat.le_refl _)
    rw [World.size_alloc] at hr0 hst2
    have hs1 := hsl.step hst2 (by simp)
    have hpp : ps[ps.length - 1 - T % ps.length]? = some p := by rw [← hmn, ← hj]; exact hpj
    have HST := Lib.hid hst2; have HR := Lib.hid hr0; have HS := Lib.hid hs1; have HPP := Lib.hid hpp; have HNP := Lib.hid hnp
    have hnb : n' ≤ 100000 := by omega
    have hmb : mn ≤ 100000 := by omega
    have hm0 : (mn : Int) ≠ 0 := by omega
    clear hst hst2 hr0 hs1 hpp hr hp hl hc hv hsl hpj hj hnp hmn
    go_enter Try.func23, Try.ntmps23
    go_wp2_with (at_builtin; refine wpList_append_row _ rfl (.tmp 22) (.tmp 35) _ rfl el_byte _ 38 _ 0 0 _ rfl HR.out _ π _ n' _ (byts p) rfl HS.out (one_byts _) (by omega) (by simp only [maxLen]; omega) ?_; intro A' c' w1 hR1 hg hat; have q0 := (((Blk.new w 43 #[.int .u8 K, .int .u8 S, .int .u8 T, .slice BA bn bc]).alloc (.cells #[] 5)).grown hg (by simp [Value.ownBlock])).cell 0; simp only [List.getElem?_toArray, List.getElem?_cons_zero] at q0; have HR1 := Lib.hid hR1; have HG := Lib.hid hg; clear hR1 hg hat)
    go_ret2
    have hR2 := HR1.out
    have hst3 := HST.out.grown HG.out (fun k hk => .inl (by simp [Value.ownBlock] at hk; omega)) 38
    refine ⟨_, hst3, .inr ⟨p, A', c', HPP.out, ?_, ?_⟩⟩
    · rw [HNP.out]; rfl
    · have := hR2.sl
      rw [HNP.out, Nat.zero_add] at this
      simpa using this
/-- A script as it came in. -/
def OpsAt (w : World) (o : Own) (τ : Nat) (A : Option Addr) (n c : Nat) (ps : List OpV) : Prop :=
  ps.length = n ∧ n ≤ c ∧ c ≤ maxLen ∧ (0 < n → ∃ g off, A = some ⟨g, off, none⟩ ∧ o g = τ ∧ g < w.heap.size ∧ ∀ (i : Nat) (p : OpV), ps[i]? = some p → p.K < 256 ∧ p.S < 256 ∧ p.T < 256 ∧ ∃ BA bn bc,
    w.cell? ⟨g, off + i * 4, none⟩ = some (.int .u8 p.K) ∧ w.cell? ⟨g, off + i * 4 + 1, none⟩ = some (.int .u8 p.S) ∧ w.cell? ⟨g, off + i * 4 + 2, none⟩ = some (.int .u8 p.T) ∧ w.cell? ⟨g, off + i * 4 + 3, none⟩ = some (.slice BA bn bc) ∧ Sl w o τ 1 BA bn bc (byts p.B) ∧ bn ≤ 9223372036854775807)
theorem OpsAt.step {w w' : World} {o o' : Own} {τ : Nat} {A : Option Addr} {n c : Nat} {ps : List OpV} {ts : List Nat} (h : OpsAt w o τ A n c ps) (hs : Step ts w o w' o') (hτ : τ ∉ ts) : OpsAt w' o' τ A n c ps := by
  obtain ⟨h1, h2, h3, h4⟩ := h
  refine ⟨h1, h2, h3, fun hn => ?_⟩
  obtain ⟨g, off, hA, ho, hg, hp⟩ := h4 hn
  have hb := hs.block g hg (by rw [ho]; exact hτ)
  refine ⟨g, off, hA, (hs.own g hg).trans ho, Nat.lt_of_lt_of_le hg hs.size, fun i p hi => ?_⟩
  obtain ⟨a1, a2, a3, BA, bn, bc, b0, b1, b2, b3, b4, b5⟩ := hp i p hi
  have up : ∀ (k : Nat) (x : Value), w.cell? ⟨g, k, none⟩ = some x → w'.cell? ⟨g, k, none⟩ = some x := fun k x hx => (World.cell?_of_block (a := ⟨g, k, none⟩) hb).trans hx
  exact ⟨a1, a2, a3, BA, bn, bc, up _ _ b0, up _ _ b1, up _ _ b2, up _ _ b3, b4.step hs hτ, b5⟩
end Go.Proofs.Ythjjipcbpmdfnaa
