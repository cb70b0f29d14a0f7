/-
  Joined: Orders, KitF.
-/
import Derived.Deep.RegionHeld
import Derived.Test.YthjjipcbpmdfnaaBase

/- A LAW ON REGIONS THAT DRAW THEIR ORDER: a load may be taken first under a condition S0 that is asked for only as long as the operation 'st' (a store that waits for the load) has not come up. In the manner of the kit's law on held conditions. -/
namespace Go.Proofs.Ythjjipcbpmdfnaa
open Go

section
variable {P : Program} {ops : Array Oper} {Q : Exit → Act → World → Prop} {md : Region.Mode} {S0 : World → Prop} {st : Nat}

/-- S0 as long as 'st' has not come up. -/
def Till (S0 : World → Prop) (st : Nat) (listed : Array Bool) (w : World) : Prop := listed.getD st false = true ∨ S0 w

def wpAnyG (P : Program) (md : Region.Mode) (ops : Array Oper) (Q : Exit → Act → World → Prop) (S0 : World → Prop) (st : Nat) : Nat → Array Bool → Act → World → Prop
  | 0, listed, a, w => Region.ready md ops listed = [] ∧ Q .normal a w
  | fuel + 1, listed, a, w =>
    (Region.ready md ops listed = [] → Q .normal a w) ∧
    ∀ i ∈ Region.ready md ops listed, wpOp P ops Q i (fun a' w' => Till S0 st (listed.setIfInBounds i true) w' ∧ wpAnyG P md ops Q S0 st fuel (listed.setIfInBounds i true) a' w') a w

theorem wpAny_of_till : ∀ (fuel : Nat) (listed : Array Bool) (a : Act) (w : World), wpAnyG P md ops Q S0 st fuel listed a w → wpAny P md ops Q fuel listed a w
  | 0, _, _, _, h => h
  | fuel + 1, _, _, _, h => ⟨h.1, fun i hi => wpOp_mono (fun a' w' h' => wpAny_of_till fuel _ a' w' h'.2) (h.2 i hi)⟩

theorem getD_set_far {l : Array Bool} {i j : Nat} (h : i ≠ j) (d : Bool) : (l.setIfInBounds i true).getD j d = l.getD j d := getD_set_ne d h

theorem wpAnyG_first {i : Nat} {oi os : Oper} {v : Value} (hi : ops[i]? = some oi) (hos : ops[st]? = some os) (hwait : ∃ e ∈ os.after, Region.binds md e = true ∧ e.on = i) (hist : i ≠ st) (hsel : ∀ (j : Nat) (o : Oper) cs b, ops[j]? = some o → o.op ≠ .select cs b)
    (hQ : ∀ c a w, Q (.panic c) (a.put oi.dst v) w → Q (.panic c) a w) :
    ∀ (fuel : Nat) (listed : Array Bool) (a : Act) (w : World),
      (∀ j oj, ops[j]? = some oj → j ≠ i → listed.getD j true = false → (∀ e ∈ oj.after, Region.binds md e = true → e.on ≠ i) → oi.apart ops oj = true) →
      listed.getD st false = false →
      i ∈ Region.ready md ops listed → YieldsIf P ops S0 oi v a → S0 w →
      wpAnyG P md ops Q S0 st fuel (listed.setIfInBounds i true) (a.put oi.dst v) w → wpAnyG P md ops Q S0 st (fuel + 1) listed a w := by
  intro fuel
  induction fuel with
  | zero =>
    intro listed a w _ hst hr hy hS H
    refine ⟨fun h => (by rw [h] at hr; cases hr), fun j hj => ?_⟩
    by_cases hji : j = i
    · subst hji; exact hy.wpOp hi hS ⟨.inr hS, H⟩
    · have := ready_mono hj hji
      rw [H.1] at this
      cases this
  | succ fuel ih =>
    intro listed a w hfree hst hr hy hS H
    refine ⟨fun h => (by rw [h] at hr; cases hr), fun j hj => ?_⟩
    by_cases hji : j = i
    · subst hji; exact hy.wpOp hi hS ⟨.inr hS, H⟩
    · have h1 := H.2 j (ready_mono hj hji)
      obtain ⟨hjun, oj, hoj, hall⟩ := mem_ready.1 hj
      have hnot : ∀ e ∈ oj.after, Region.binds md e = true → e.on ≠ i := fun e he hb heq => by
        have h1 := hall e he hb
        have h0 := (mem_ready.1 hr).1
        rw [heq] at h1
        rcases Nat.lt_or_ge i listed.size with h' | h'
        · simp [h'] at h0 h1; rw [h0] at h1; cases h1
        · simp [Array.getElem?_eq_none h'] at h1
      have hjst : j ≠ st := by
        rintro rfl
        rw [hos] at hoj; injection hoj with hoj; subst hoj
        obtain ⟨e, he, hb, heq⟩ := hwait
        exact hnot e he hb heq
      have h2 := wpOp_putIf hoj (hfree j oj hoj hji hjun hnot) (fun cs b => hsel i oi cs b hi) (fun cs b => hsel j oj cs b hoj) hQ hy h1
      have hfree' : ∀ k ok, ops[k]? = some ok → k ≠ i → (listed.setIfInBounds j true).getD k true = false →
          (∀ e ∈ ok.after, Region.binds md e = true → e.on ≠ i) → oi.apart ops ok = true := fun k ok hk hki hun hno => by
        refine hfree k ok hk hki ?_ hno
        by_cases hjk : j = k
        · subst hjk; exact hjun
        · rw [getD_set_ne true hjk] at hun; exact hun
      have hst' : (listed.setIfInBounds j true).getD st false = false := by rw [getD_set_far hjst]; exact hst
      have hS' : ∀ w', Till S0 st ((listed.setIfInBounds i true).setIfInBounds j true) w' → S0 w' := fun w' h => by
        rcases h with h | h
        · rw [getD_set_far hjst, getD_set_far hist, hst] at h; cases h
        · exact h
      refine wpOp_mono (fun a' w' h3 => ⟨.inr (hS' w' h3.2.1), ih (listed.setIfInBounds j true) a' w' hfree' hst' (ready_mono hr (Ne.symm hji)) h3.1 (hS' w' h3.2.1) ?_⟩) h2
      rw [Array.setIfInBounds_comm _ _ hji]
      exact h3.2.2

theorem Till.back {i : Nat} {listed : Array Bool} {w : World} (h : i ≠ st) (hT : Till S0 st (listed.setIfInBounds i true) w) : Till S0 st listed w := by
  unfold Till at *
  rwa [getD_set_far h] at hT

/-- What yields in whatever world may be taken first, as ever. -/
theorem wpAnyG_firstY {i : Nat} {oi : Oper} {v : Value} (hi : ops[i]? = some oi) (hist : i ≠ st) (hsel : ∀ (j : Nat) (o : Oper) cs b, ops[j]? = some o → o.op ≠ .select cs b)
    (hQ : ∀ c a w, Q (.panic c) (a.put oi.dst v) w → Q (.panic c) a w) :
    ∀ (fuel : Nat) (listed : Array Bool) (a : Act) (w : World),
      (∀ j oj, ops[j]? = some oj → j ≠ i → listed.getD j true = false → (∀ e ∈ oj.after, Region.binds md e = true → e.on ≠ i) → oi.apart ops oj = true) →
      Till S0 st listed w →
      i ∈ Region.ready md ops listed → YieldsIf P ops (fun _ => True) oi v a →
      wpAnyG P md ops Q S0 st fuel (listed.setIfInBounds i true) (a.put oi.dst v) w → wpAnyG P md ops Q S0 st (fuel + 1) listed a w := by
  intro fuel
  induction fuel with
  | zero =>
    intro listed a w _ hT hr hy H
    refine ⟨fun h => (by rw [h] at hr; cases hr), fun j hj => ?_⟩
    by_cases hji : j = i
    · subst hji; exact hy.wpOp hi trivial ⟨by unfold Till at *; rwa [getD_set_far hist], H⟩
    · have := ready_mono hj hji
      rw [H.1] at this
      cases this
  | succ fuel ih =>
    intro listed a w hfree hT hr hy H
    refine ⟨fun h => (by rw [h] at hr; cases hr), fun j hj => ?_⟩
    by_cases hji : j = i
    · subst hji; exact hy.wpOp hi trivial ⟨by unfold Till at *; rwa [getD_set_far hist], H⟩
    · have h1 := H.2 j (ready_mono hj hji)
      obtain ⟨hjun, oj, hoj, hall⟩ := mem_ready.1 hj
      have hnot : ∀ e ∈ oj.after, Region.binds md e = true → e.on ≠ i := fun e he hb heq => by
        have h1 := hall e he hb
        have h0 := (mem_ready.1 hr).1
        rw [heq] at h1
        rcases Nat.lt_or_ge i listed.size with h' | h'
        · simp [h'] at h0 h1; rw [h0] at h1; cases h1
        · simp [Array.getElem?_eq_none h'] at h1
      have h2 := wpOp_putIf hoj (hfree j oj hoj hji hjun hnot) (fun cs b => hsel i oi cs b hi) (fun cs b => hsel j oj cs b hoj) hQ hy h1
      have hfree' : ∀ k ok, ops[k]? = some ok → k ≠ i → (listed.setIfInBounds j true).getD k true = false →
          (∀ e ∈ ok.after, Region.binds md e = true → e.on ≠ i) → oi.apart ops ok = true := fun k ok hk hki hun hno => by
        refine hfree k ok hk hki ?_ hno
        by_cases hjk : j = k
        · subst hjk; exact hjun
        · rw [getD_set_ne true hjk] at hun; exact hun
      have hT' : ∀ w', Till S0 st ((listed.setIfInBounds i true).setIfInBounds j true) w' → Till S0 st (listed.setIfInBounds j true) w' := fun w' h => by
        rw [Array.setIfInBounds_comm _ _ (Ne.symm hji)] at h
        exact h.back hist
      refine wpOp_mono (fun a' w' h3 => ⟨hT' w' h3.2.1, ih (listed.setIfInBounds j true) a' w' hfree' (hT' w' h3.2.1) (ready_mono hr (Ne.symm hji)) h3.1 ?_⟩) h2
      rw [Array.setIfInBounds_comm _ _ hji]
      exact h3.2.2

/-- Take number 'i' first: a load. -/
theorem wpAnyG_load {i : Nat} {oi os : Oper} {v : Value} {fuel : Nat} {listed : Array Bool} {a : Act} {w : World} (hi : ops[i]? = some oi) (hos : ops[st]? = some os) (hwait : (os.after.any fun e => Region.binds md e && e.on == i) = true) (hist : (i != st) = true)
    (hs : Region.noSelect ops = true) (hf : Region.free md ops listed i = true) (hr : (Region.ready md ops listed).contains i = true) (hun : listed.getD st false = false)
    (hQ : ∀ c a w, Q (.panic c) (a.put oi.dst v) w → Q (.panic c) a w) (hy : YieldsIf P ops S0 oi v a) (hS : S0 w)
    (h : wpAnyG P md ops Q S0 st fuel (listed.setIfInBounds i true) (a.put oi.dst v) w) : wpAnyG P md ops Q S0 st (fuel + 1) listed a w :=
  wpAnyG_first hi hos (by
    obtain ⟨e, he, h2⟩ := Array.any_eq_true'.1 hwait
    simp only [Bool.and_eq_true, beq_iff_eq] at h2
    exact ⟨e, he, h2⟩) (by simpa using hist) (Region.noSelect_spec hs) hQ fuel listed a w (Region.free_spec hi hf) hun (by simpa using hr) hy hS h

/-- Take number 'i' first: what yields in whatever world. -/
theorem wpAnyG_take {i : Nat} {oi : Oper} {v : Value} {fuel : Nat} {listed : Array Bool} {a : Act} {w : World} (hi : ops[i]? = some oi) (hist : (i != st) = true)
    (hs : Region.noSelect ops = true) (hf : Region.free md ops listed i = true) (hr : (Region.ready md ops listed).contains i = true)
    (hQ : ∀ c a w, Q (.panic c) (a.put oi.dst v) w → Q (.panic c) a w) (hy : YieldsIf P ops (fun _ => True) oi v a) (hT : Till S0 st listed w)
    (h : wpAnyG P md ops Q S0 st fuel (listed.setIfInBounds i true) (a.put oi.dst v) w) : wpAnyG P md ops Q S0 st (fuel + 1) listed a w :=
  wpAnyG_firstY hi (by simpa using hist) (Region.noSelect_spec hs) hQ fuel listed a w (Region.free_spec hi hf) hT (by simpa using hr) hy h

theorem wpAnyG_all {rs : List Nat} {fuel : Nat} {listed : Array Bool} {a : Act} {w : World} (hr : Region.ready md ops listed = rs) (hne : rs ≠ [])
    (h : ∀ i ∈ rs, wpOp P ops Q i (fun a' w' => Till S0 st (listed.setIfInBounds i true) w' ∧ wpAnyG P md ops Q S0 st fuel (listed.setIfInBounds i true) a' w') a w) : wpAnyG P md ops Q S0 st (fuel + 1) listed a w :=
  ⟨fun h0 => absurd (hr ▸ h0) hne, hr ▸ h⟩

/-- Each of the operations 'rs' comes up next. -/
def AllReadyG (P : Program) (md : Region.Mode) (ops : Array Oper) (Q : Exit → Act → World → Prop) (S0 : World → Prop) (st : Nat) (fuel : Nat) (listed : Array Bool) (a : Act) (w : World) (rs : List Nat) : Prop :=
  ∀ i ∈ rs, wpOp P ops Q i (fun a' w' => Till S0 st (listed.setIfInBounds i true) w' ∧ wpAnyG P md ops Q S0 st fuel (listed.setIfInBounds i true) a' w') a w

theorem AllReadyG.nil {fuel : Nat} {listed : Array Bool} {a : Act} {w : World} : AllReadyG P md ops Q S0 st fuel listed a w [] := fun _ h => by cases h

theorem AllReadyG.cons {fuel : Nat} {listed : Array Bool} {a : Act} {w : World} {i : Nat} {o : Oper} {rs : List Nat} (ho : ops[i]? = some o)
    (h : ∀ K' : Act → World → Prop, Shut (∀ a w, Till S0 st (listed.setIfInBounds i true) w → wpAnyG P md ops Q S0 st fuel (listed.setIfInBounds i true) a w → K' a w) → if Region.wanted o (yielded ops a.tmps) = true then Oper.wp P o a w K' Q else K' (a.put o.dst undef) w)
    (hs : AllReadyG P md ops Q S0 st fuel listed a w rs) : AllReadyG P md ops Q S0 st fuel listed a w (i :: rs) := fun j hj => by
  rcases List.mem_cons.1 hj with rfl | hj
  · exact wpOp_step ho (fun K' hK => h K' (fun a w hS hW => hK a w ⟨hS, hW⟩))
  · exact hs j hj

theorem wpAnyG_ready {rs : List Nat} {fuel : Nat} {listed : Array Bool} {a : Act} {w : World} (hr : Region.ready md ops listed = rs) (hne : rs ≠ [])
    (h : AllReadyG P md ops Q S0 st fuel listed a w rs) : wpAnyG P md ops Q S0 st (fuel + 1) listed a w := wpAnyG_all hr hne h

theorem wpAnyG_done {listed : Array Bool} {a : Act} {w : World} (hr : Region.ready md ops listed = []) (h : Q .normal a w) : ∀ fuel, wpAnyG P md ops Q S0 st fuel listed a w
  | 0 => ⟨hr, h⟩
  | _ + 1 => ⟨fun _ => h, by rw [hr]; simp⟩

theorem wp_region_till {id : Nat} {a : Act} {w : World} (hm : P.follows .mixedOrders = true)
    (h : wpAnyG P .any ops Q S0 st ops.size (Array.replicate ops.size false) a { w with drawn := w.drawn + 1 }) : (Code.region id ops true).wp P Q a w :=
  wp_region_any hm (wpAny_of_till _ _ _ _ h)
end
end Go.Proofs.Ythjjipcbpmdfnaa

/- The append, as one step inside a region that draws its order. -/
namespace Go.Proofs.Ythjjipcbpmdfnaa
open Go.RowKit

theorem step_append_row {P : Program} {w : World} {ops : Array Oper} {o : Oper} {a : Act} {K : Act → World → Prop} {Q : Exit → Act → World → Prop} {E : Prop} (hgd : o.guard = none) (s x : Operand) (t : TypeId)
    (ho : o.op = .call { callee := .builtin .append, args := #[s, x], argTypes := #[t, t] })
    {e : TypeId} {sz bytes : Nat} {z : Value} (he : Elem P t e sz bytes z) (ow : Own) (τ : Nat)
    (A : Option Addr) (n c : Nat) (xs : List Value) (hs : a.eval s = .slice A n c) (hR : Row w ow τ e sz A n c xs) (o2 : Own) (τ2 : Nat) (B : Option Addr) (m d : Nat) (news : List Value) (hx : a.eval x = .slice B m d) (hS : Sl w o2 τ2 sz B m d news)
    (h1 : ∀ u ∈ news, u.oneCell' = true) (hbytes : (n + m) * bytes ≤ 140737488355328) (h63 : n + m ≤ maxLen)
    (h : ∀ A' c' w', Row w' (ext ow w.heap.size τ) τ e sz A' (n + m) c' (xs ++ news) → w.grownBy w' (Value.slice A n c).ownBlock → (∀ ad, A' = some ad → (∃ ad0, A = some ad0 ∧ ad.block = ad0.block) ∨ ad.block = w.heap.size) →
      K (a.put o.dst (.slice A' (n + m) c')) w') : if Region.wanted o (yielded ops a.tmps) = true then Oper.wp P o a w K Q else E := by
  have hw : Region.wanted o (yielded ops a.tmps) = true := by simp [Region.wanted, hgd]
  rw [if_pos hw]
  obtain ⟨A', c', w', hrun, h2, h3, h4⟩ := run_append_row (P := P) w o.type he ow τ hR hS h1 hbytes h63
  unfold Oper.wp execOp
  simp only [ho, resolve, invoke, builtin, Sem.run_bind, Sem.run_pure, Result.andThen_ok, List.map_toArray, List.map_cons, List.map_nil, hs, hx, hrun]
  exact h A' c' w' h2 h3 h4
end Go.Proofs.Ythjjipcbpmdfnaa
