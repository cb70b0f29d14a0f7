/-
  Joined: Mono, MonoC, MonoB, SmA, SmO.
-/
import Derived.Test.YtpmbfgpfpdenbaaOrders
import Derived.Test.YtpmbfgpfpdenbaaBase
import Derived.Test.YtpmbfgpfpdenbaaNew
import Derived.Maps.AppendAt
import Derived.Great.BuildSlice
import Derived.Test.YtpmbfgpfpdenbaaHonestA
import Derived.Test.YtpmbfgpfpdenbaaKitB
import Derived.Test.YtpmbfgpfpdenbaaTelX

/- A LAW ON REGIONS THAT DRAW THEIR ORDER: operations that read what lies there and make new memory: each yields a value of which something is known that stays true; whatever the order, all of it is known at the end. -/
namespace Go.Proofs.Ytpmbfgpfpdenbaa
open Go

theorem ev {a : Act} {t : Tmp} {v : Value} (h : a.eval (.tmp t) = v) : a.tmps[t]?.getD undef = v := by
  rw [← h]; simp [Act.eval, Array.getD_eq_getD_getElem?]
/-- Values put at the destinations of those operations that have come up. -/
def puts : List (Option Tmp) → Nat → (Nat → Bool) → (Nat → Value) → Act → Act
  | [], _, _, _, a => a
  | d :: ds, k, on, vs, a => puts ds (k + 1) on vs (if on k then a.put d (vs k) else a)

theorem puts_congr : ∀ (ds : List (Option Tmp)) (k : Nat) (on on' : Nat → Bool) (vs vs' : Nat → Value) (a : Act), (∀ i, k ≤ i → on i = on' i) → (∀ i, k ≤ i → vs i = vs' i) → puts ds k on vs a = puts ds k on' vs' a
  | [], _, _, _, _, _, _, _, _ => rfl
  | d :: ds, k, on, on', vs, vs', a, h1, h2 => by
    unfold puts
    rw [h1 k (Nat.le_refl _), h2 k (Nat.le_refl _)]
    exact puts_congr ds (k + 1) on on' vs vs' _ (fun i hi => h1 i (by omega)) (fun i hi => h2 i (by omega))

theorem puts_comm : ∀ (ds : List (Option Tmp)) (k : Nat) (on : Nat → Bool) (vs : Nat → Value) (a : Act) (d : Option Tmp) (v : Value), (∀ x ∈ ds, ∀ e, x = some e → d ≠ some e) → (puts ds k on vs a).put d v = puts ds k on vs (a.put d v)
  | [], _, _, _, _, _, _, _ => rfl
  | x :: ds, k, on, vs, a, d, v, h => by
    unfold puts
    rw [puts_comm ds (k + 1) on vs _ d v (fun y hy => h y (List.mem_cons_of_mem _ hy))]
    congr 1
    split
    · exact Act.put_comm a _ _ (h x List.mem_cons_self)
    · rfl

theorem puts_set : ∀ (ds : List (Option Tmp)) (k : Nat) (on : Nat → Bool) (vs : Nat → Value) (a : Act) (i : Nat) (d : Option Tmp) (v : Value), ds[i]? = some d → on (k + i) = false → ds.Pairwise (fun x y => ∀ e, x = some e → y ≠ some e) →
    (puts ds k on vs a).put d v = puts ds k (fun j => if j = k + i then true else on j) (fun j => if j = k + i then v else vs j) a
  | [], _, _, _, _, _, _, _, hi, _, _ => by simp at hi
  | x :: ds, k, on, vs, a, i, d, v, hi, hon, hp => by
    obtain ⟨hp1, hp2⟩ := List.pairwise_cons.1 hp
    cases i with
    | zero =>
      simp only [List.getElem?_cons_zero, Option.some.injEq] at hi
      subst hi
      unfold puts
      simp only [Nat.add_zero] at hon ⊢
      simp only [hon, Bool.false_eq_true, if_false, if_true]
      rw [puts_comm ds (k + 1) on vs a x v (fun y hy e he hx => hp1 y hy e hx he)]
      exact puts_congr ds (k + 1) _ _ _ _ _ (fun j hj => by rw [if_neg (by omega)]) (fun j hj => by rw [if_neg (by omega)])
    | succ i =>
      simp only [List.getElem?_cons_succ] at hi
      unfold puts
      rw [puts_set ds (k + 1) on vs _ i d v hi (by rw [← hon]; congr 1; omega) hp2]
      have hk : ¬ k = k + (i + 1) := by omega
      simp only [if_neg hk]
      exact puts_congr ds (k + 1) _ _ _ _ _ (fun j _ => by congr 1; exact propext ⟨fun h => by omega, fun h => by omega⟩) (fun j _ => by congr 1; exact propext ⟨fun h => by omega, fun h => by omega⟩)

theorem eval_puts_far : ∀ (ds : List (Option Tmp)) (k : Nat) (on : Nat → Bool) (vs : Nat → Value) (a : Act) (x : Operand), (∀ t, x = .tmp t → some t ∉ ds) → (puts ds k on vs a).eval x = a.eval x
  | [], _, _, _, _, _, _ => rfl
  | d :: ds, k, on, vs, a, x, h => by
    unfold puts
    rw [eval_puts_far ds (k + 1) on vs _ x (fun t ht hm => h t ht (List.mem_cons_of_mem _ hm))]
    split
    · exact Act.eval_put (fun e he hx => h e hx (by rw [he]; exact List.mem_cons_self))
    · rfl

theorem size_put (a : Act) (d : Option Tmp) (v : Value) : (a.put d v).tmps.size = a.tmps.size := by
  cases d <;> simp [Act.put]

theorem eval_puts_at : ∀ (ds : List (Option Tmp)) (k : Nat) (on : Nat → Bool) (vs : Nat → Value) (a : Act) (i : Nat) (t : Tmp), ds[i]? = some (some t) → on (k + i) = true → t < a.tmps.size → ds.Pairwise (fun x y => ∀ e, x = some e → y ≠ some e) → (puts ds k on vs a).eval (.tmp t) = vs (k + i)
  | [], _, _, _, _, _, _, hi, _, _, _ => by simp at hi
  | x :: ds, k, on, vs, a, i, t, hi, hon, hs, hp => by
    obtain ⟨hp1, hp2⟩ := List.pairwise_cons.1 hp
    cases i with
    | zero =>
      simp only [List.getElem?_cons_zero, Option.some.injEq] at hi
      subst hi
      unfold puts
      rw [Nat.add_zero] at hon ⊢
      rw [hon, if_pos rfl]
      rw [eval_puts_far ds (k + 1) on vs _ (.tmp t) (fun t' ht hm => by cases ht; exact hp1 _ hm t rfl rfl)]
      simp [Act.eval, Act.put, hs]
    | succ i =>
      simp only [List.getElem?_cons_succ] at hi
      unfold puts
      have e : k + (i + 1) = k + 1 + i := by omega
      rw [e] at hon ⊢
      refine eval_puts_at ds (k + 1) on vs _ i t hi hon ?_ hp2
      split
      · rw [size_put]; exact hs
      · exact hs

section
variable {P : Program} {ops : Array Oper} {Q : Exit → Act → World → Prop} {md : Region.Mode}

/-- What is owed of one operation: 'needs i' tells of whose values it knows something, 'eats i' of which values nobody needs to know anything behind it; γ is a ghost beside the world. -/
def MonoOb {Γ : Type} (P : Program) (Q : Exit → Act → World → Prop) (Base : World → Γ → Prop) (V : Nat → Value → World → Γ → Prop) (a0 : Act) (ds : List (Option Tmp)) (needs eats : List (List Nat)) (i : Nat) (o : Oper) : Prop :=
  ∀ (a : Act) (w : World) (γ : Γ), Base w γ → (∀ t, some t ∉ ds → a.eval (.tmp t) = a0.eval (.tmp t)) → (∀ j ∈ needs.getD i [], ∀ d, ds[j]? = some (some d) → V j (a.eval (.tmp d)) w γ) →
    o.wp P a w (fun a' w' => ∃ v γ', a' = a.put o.dst v ∧ Base w' γ' ∧ (∀ j u, j ∉ eats.getD i [] → V j u w γ → V j u w' γ') ∧ V i v w' γ') Q

def MonoObs {Γ : Type} (P : Program) (Q : Exit → Act → World → Prop) (Base : World → Γ → Prop) (V : Nat → Value → World → Γ → Prop) (a0 : Act) (ds : List (Option Tmp)) (needs eats : List (List Nat)) : Nat → List Oper → Prop
  | _, [] => True
  | i, o :: l => MonoOb P Q Base V a0 ds needs eats i o ∧ MonoObs P Q Base V a0 ds needs eats (i + 1) l

theorem MonoObs.at_ {Γ : Type} {Base : World → Γ → Prop} {V : Nat → Value → World → Γ → Prop} {a0 : Act} {ds : List (Option Tmp)} {needs eats : List (List Nat)} : ∀ (l : List Oper) (k : Nat), MonoObs P Q Base V a0 ds needs eats k l → ∀ (i : Nat) (o : Oper), l[i]? = some o → MonoOb P Q Base V a0 ds needs eats (k + i) o
  | [], _, _, i, o, h => by simp at h
  | x :: l, k, ⟨h1, h2⟩, i, o, h => by
    cases i with
    | zero => simp only [List.getElem?_cons_zero, Option.some.injEq] at h; subst h; exact h1
    | succ i =>
      have := MonoObs.at_ l (k + 1) h2 i o (by simpa using h)
      rwa [show k + (i + 1) = k + 1 + i by omega]

/-- The form of the region: no guard; edges point backwards; the destinations are apart and lie in the frame; what is needed is waited for; what is eaten is needed by nobody else. -/
def monoForm (md : Region.Mode) (ops : Array Oper) (ds : List (Option Tmp)) (needs eats : List (List Nat)) (n : Nat) : Bool :=
  ops.toList.all (fun o => o.guard.isNone) && (List.range ops.size).all (fun i => (ops[i]?).all fun o => o.after.all fun e => decide (e.on < i)) &&
  ops.toList.map (·.dst) == ds && (List.range ds.length).all (fun i => (List.range i).all fun j => (ds[i]? == some none) || (ds[j]? == some none) || ds[i]? != ds[j]?) && ds.all (fun d => d.all fun t => decide (t < n)) &&
  (List.range ops.size).all (fun i => (needs.getD i []).all fun j => (ops[i]?).all fun o => o.after.any fun e => e.on == j && Region.binds md e) &&
  (List.range ops.size).all (fun i => (eats.getD i []).all fun j => (List.range ops.size).all fun k => k == i || !(needs.getD k []).contains j)

theorem pairwise_of {ds : List (Option Tmp)} (h : ∀ i j, j < i → i < ds.length → ds[i]? = some none ∨ ds[j]? = some none ∨ ds[i]? ≠ ds[j]?) : ds.Pairwise (fun x y => ∀ e, x = some e → y ≠ some e) := by
  rw [List.pairwise_iff_getElem]
  intro j i hj hi hji e hx hy
  rcases h i j hji hi with h | h | h
  · rw [List.getElem?_eq_getElem hi, hy] at h; simp at h
  · rw [List.getElem?_eq_getElem hj, hx] at h; simp at h
  · rw [List.getElem?_eq_getElem hi, List.getElem?_eq_getElem hj, hx, hy] at h; exact h rfl

theorem wpAny_mono {Γ : Type} {Base : World → Γ → Prop} {V : Nat → Value → World → Γ → Prop} {a0 : Act} {ds : List (Option Tmp)} {needs eats : List (List Nat)} (hf : monoForm md ops ds needs eats a0.tmps.size = true) (hob : MonoObs P Q Base V a0 ds needs eats 0 ops.toList)
    (hQ : ∀ (vs : Nat → Value) (w : World) (γ : Γ), Base w γ → (∀ i, i < ops.size → (∀ k, k < ops.size → i ∉ eats.getD k []) → V i (vs i) w γ) → Q .normal (puts ds 0 (fun _ => true) vs a0) w) :
    ∀ (fuel : Nat) (listed : Array Bool) (vs : Nat → Value) (w : World) (γ : Γ), listed.size = ops.size → listed.toList.count false ≤ fuel → Base w γ → (∀ i, listed[i]? = some true → (∀ k, listed[k]? = some true → i ∉ eats.getD k []) → V i (vs i) w γ) →
      wpAny P md ops Q fuel listed (puts ds 0 (fun i => listed.getD i false) vs a0) w := by
  simp only [monoForm, Bool.and_eq_true] at hf
  obtain ⟨⟨⟨⟨⟨⟨hf1, hf2⟩, hf3⟩, hf4⟩, hf5⟩, hf6⟩, hf7⟩ := hf
  have hneed : ∀ (i : Nat) (o : Oper), ops[i]? = some o → ∀ j ∈ needs.getD i [], ∃ e ∈ o.after, e.on = j ∧ Region.binds md e = true := fun i o h j hj => by
    have hi : i < ops.size := by
      rcases Nat.lt_or_ge i ops.size with h' | h'
      · exact h'
      · rw [Array.getElem?_eq_none h'] at h; cases h
    have := List.all_eq_true.1 (List.all_eq_true.1 hf6 i (List.mem_range.2 hi)) j hj
    rw [h] at this
    simp only [Option.all_some] at this
    obtain ⟨e, he, h2⟩ := Array.any_eq_true'.1 this
    simp only [Bool.and_eq_true, beq_iff_eq] at h2
    exact ⟨e, he, h2⟩
  have heat : ∀ (i k j : Nat), i < ops.size → k < ops.size → j ∈ eats.getD i [] → j ∈ needs.getD k [] → k = i := fun i k j hi hk hj hn => by
    have := List.all_eq_true.1 (List.all_eq_true.1 (List.all_eq_true.1 hf7 i (List.mem_range.2 hi)) j hj) k (List.mem_range.2 hk)
    simp only [Bool.or_eq_true, beq_iff_eq, Bool.not_eq_true', List.contains_eq_mem, decide_eq_false_iff_not] at this
    rcases this with h | h
    · exact h
    · exact absurd hn h
  have hgd : ∀ (i : Nat) (o : Oper), ops[i]? = some o → o.guard = none := fun i o h => by
    have := List.all_eq_true.1 hf1 o (by rw [Array.mem_toList_iff]; exact Array.mem_of_getElem? h)
    simpa using this
  have hbk : ∀ (i : Nat) (o : Oper), ops[i]? = some o → ∀ e ∈ o.after, e.on < i := fun i o h e he => by
    have hi : i < ops.size := by
      rcases Nat.lt_or_ge i ops.size with h' | h'
      · exact h'
      · rw [Array.getElem?_eq_none h'] at h; cases h
    have := List.all_eq_true.1 hf2 i (List.mem_range.2 hi)
    rw [h] at this
    simp only [Option.all_some] at this
    simpa using Array.all_eq_true'.1 this e he
  have hds : ops.toList.map (·.dst) = ds := by simpa using hf3
  have hlen : ds.length = ops.size := by rw [← hds]; simp
  have hdst : ∀ (i : Nat) (o : Oper), ops[i]? = some o → ds[i]? = some o.dst := fun i o h => by
    rw [← hds, List.getElem?_map, Array.getElem?_toList, h]; rfl
  have hpw : ds.Pairwise (fun x y => ∀ e, x = some e → y ≠ some e) := pairwise_of fun i j hj hi => by
    have h1 := List.all_eq_true.1 (List.all_eq_true.1 hf4 i (List.mem_range.2 hi)) j (List.mem_range.2 hj)
    simp only [Bool.or_eq_true, beq_iff_eq, bne_iff_ne] at h1
    rcases h1 with (h1 | h1) | h1
    · exact .inl h1
    · exact .inr (.inl h1)
    · exact .inr (.inr h1)
  have hsz : ∀ t, some t ∈ ds → t < a0.tmps.size := fun t ht => by
    have := List.all_eq_true.1 hf5 _ ht
    simpa using this
  -- all have come up, if none is ready
  have hall : ∀ listed : Array Bool, listed.size = ops.size → Region.ready md ops listed = [] → ∀ i, i < ops.size → listed[i]? = some true := by
    intro listed hls hr i
    induction i using Nat.strongRecOn with
    | ind i ih =>
      intro hi
      obtain ⟨b, hb⟩ : ∃ b, listed[i]? = some b := ⟨_, Array.getElem?_eq_getElem (by omega)⟩
      cases b with
      | true => exact hb
      | false =>
        exfalso
        have hmem : i ∈ Region.ready md ops listed := by
          refine mem_ready.2 ⟨by simp [Array.getD_eq_getD_getElem?, hb], ops[i], Array.getElem?_eq_getElem hi, fun e he _ => ?_⟩
          have hlt := hbk i _ (Array.getElem?_eq_getElem hi) e he
          have := ih e.on hlt (by omega)
          simp [Array.getD_eq_getD_getElem?, this]
        rw [hr] at hmem
        cases hmem
  have hfin : ∀ (listed : Array Bool) (vs : Nat → Value) (w : World) (γ : Γ), listed.size = ops.size → Base w γ → (∀ i, listed[i]? = some true → (∀ k, listed[k]? = some true → i ∉ eats.getD k []) → V i (vs i) w γ) → Region.ready md ops listed = [] → Q .normal (puts ds 0 (fun i => listed.getD i false) vs a0) w := by
    intro listed vs w γ hls hb hv hr
    have h := hall listed hls hr
    have := hQ vs w γ hb (fun i hi he => hv i (h i hi) (fun k hk => he k (by
      rcases Nat.lt_or_ge k ops.size with h' | h'
      · exact h'
      · rw [Array.getElem?_eq_none (by omega)] at hk; cases hk)))
    have e : puts ds 0 (fun i => listed.getD i false) vs a0 = puts ds 0 (fun _ => true) vs a0 := by
      clear hQ hob hf5 hf4 hsz this
      -- beyond the list nothing is asked
      have key : ∀ (l : List (Option Tmp)) (k : Nat) (a : Act), (∀ i, k ≤ i → i < k + l.length → listed.getD i false = true) → puts l k (fun i => listed.getD i false) vs a = puts l k (fun _ => true) vs a := by
        intro l
        induction l with
        | nil => intro k a _; rfl
        | cons d l ih =>
          intro k a hk
          unfold puts
          simp only [hk k (Nat.le_refl _) (by simp), if_true]
          exact ih (k + 1) _ (fun i h1 h2 => hk i (by omega) (by simp only [List.length_cons]; omega))
      exact key ds 0 a0 (fun i _ hi => by simp [Array.getD_eq_getD_getElem?, h i (by omega)])
    rw [e]
    exact this
  intro fuel
  induction fuel with
  | zero =>
    intro listed vs w γ hls hc hb hv
    have hr : Region.ready md ops listed = [] := by
      refine List.eq_nil_iff_forall_not_mem.2 fun i hi => ?_
      obtain ⟨h1, o, ho, -⟩ := mem_ready.1 hi
      have hil : i < listed.size := by
        rcases Nat.lt_or_ge i ops.size with h' | h'
        · omega
        · rw [Array.getElem?_eq_none h'] at ho; cases ho
      have hfm : false ∈ listed.toList := by
        have : listed[i] = false := by simpa [Array.getD_eq_getD_getElem?, Array.getElem?_eq_getElem hil] using h1
        rw [← this]; simp
      have := List.count_pos_iff.2 hfm
      omega
    exact ⟨hr, hfin listed vs w γ hls hb hv hr⟩
  | succ fuel ih =>
    intro listed vs w γ hls hc hb hv
    refine ⟨hfin listed vs w γ hls hb hv, fun i hi => ?_⟩
    obtain ⟨h1, o, ho, hall'⟩ := mem_ready.1 hi
    have hil : i < listed.size := by
      rcases Nat.lt_or_ge i ops.size with h' | h'
      · omega
      · rw [Array.getElem?_eq_none h'] at ho; cases ho
    have hif : listed[i]? = some false := by
      rw [Array.getElem?_eq_getElem hil]
      simpa [Array.getD_eq_getD_getElem?, Array.getElem?_eq_getElem hil] using h1
    unfold wpOp
    rw [ho]
    have hw : Region.wanted o (yielded ops (puts ds 0 (fun i => listed.getD i false) vs a0).tmps) = true := by simp [Region.wanted, hgd i o ho]
    simp only [hw, if_true]
    refine .inl ?_
    have hobi := MonoObs.at_ ops.toList 0 hob i o (by rw [Array.getElem?_toList]; exact ho)
    rw [Nat.zero_add] at hobi
    refine Oper.wp_mono ?_ (hobi _ w γ hb (fun t ht => eval_puts_far ds 0 _ vs a0 (.tmp t) (fun t' h => by cases h; exact ht)) (fun j hj d hd => ?_))
    · rintro a' w' ⟨v, γ', rfl, hb', hst, hv'⟩
      rw [puts_set ds 0 _ vs a0 i o.dst v (hdst i o ho) (by simp [Array.getD_eq_getD_getElem?, hif]) hpw]
      have := ih (listed.setIfInBounds i true) (fun j => if j = 0 + i then v else vs j) w' γ' (by simp [hls]) ?_ hb' (fun j hj hje => ?_)
      · refine (congrArg (fun a => wpAny P md ops Q fuel (listed.setIfInBounds i true) a w') (puts_congr ds 0 _ _ _ _ a0 (fun j _ => ?_) (fun j _ => rfl))).mpr this
        simp only [Nat.zero_add]
        by_cases hji : j = i
        · subst hji; simp [Array.getD_eq_getD_getElem?, hil]
        · rw [if_neg hji]; simp [Array.getD_eq_getD_getElem?, Array.getElem?_setIfInBounds_ne (Ne.symm hji)]
      · rw [Array.toList_setIfInBounds, List.count_set (by simpa using hil)]
        have hx : listed.toList[i]'(by simpa using hil) = false := by
          rw [Array.getElem?_eq_getElem hil] at hif
          simpa using hif
        simp only [hx, beq_self_eq_true, if_true]
        have e0 : (true == false) = false := rfl
        simp only [e0, Bool.false_eq_true, if_false]
        omega
      · simp only [Nat.zero_add]
        by_cases hji : j = i
        · subst hji; rw [if_pos rfl]; exact hv'
        · rw [if_neg hji]
          rw [Array.getElem?_setIfInBounds_ne (Ne.symm hji)] at hj
          refine hst j _ (hje i (by simp [hil])) (hv j hj fun k hk => hje k ?_)
          by_cases hki : k = i
          · subst hki; simp [hil]
          · rw [Array.getElem?_setIfInBounds_ne (Ne.symm hki)]; exact hk
    · obtain ⟨e, he, hej, hbind⟩ := hneed i o ho j hj
      subst hej
      have hon := hall' e he hbind
      have hlt := hbk i o ho e he
      have hont : listed[e.on]? = some true := by
        rw [Array.getElem?_eq_getElem (by omega)]
        simpa [Array.getD_eq_getD_getElem?, Array.getElem?_eq_getElem (show e.on < listed.size by omega)] using hon
      have hev := eval_puts_at ds 0 (fun i => listed.getD i false) vs a0 e.on d hd (by simpa using hon) (hsz d (List.mem_of_getElem? hd)) hpw
      rw [hev, Nat.zero_add]
      refine hv _ hont fun k hk hm => ?_
      have hks : k < ops.size := by
        rcases Nat.lt_or_ge k ops.size with h' | h'
        · exact h'
        · rw [Array.getElem?_eq_none (by omega)] at hk; cases hk
      have := heat k i e.on hks (by omega) hm hj
      subst this
      rw [hif] at hk
      cases hk

theorem wp_region_mono {Γ : Type} {Base : World → Γ → Prop} {V : Nat → Value → World → Γ → Prop} {id : Nat} {a0 : Act} {w : World} (γ : Γ) (ds : List (Option Tmp)) (needs eats : List (List Nat)) (hm : P.follows .mixedOrders = true) (hf : monoForm .any ops ds needs eats a0.tmps.size = true) (hb : Base w.drew γ) (hob : MonoObs P Q Base V a0 ds needs eats 0 ops.toList)
    (hQ : ∀ (vs : Nat → Value) (w : World) (γ : Γ), Base w γ → (∀ i, i < ops.size → (∀ k, k < ops.size → i ∉ eats.getD k []) → V i (vs i) w γ) → Q .normal (puts ds 0 (fun _ => true) vs a0) w) : (Code.region id ops true).wp P Q a0 w := by
  refine wp_region_any hm ?_
  have := wpAny_mono hf hob hQ ops.size (Array.replicate ops.size false) (fun _ => undef) w.drew γ (by simp) (by simp) hb (fun i hi => by
    exfalso
    rcases Nat.lt_or_ge i ops.size with h | h
    · rw [Array.getElem?_eq_getElem (by simpa using h)] at hi; simp at hi
    · rw [Array.getElem?_eq_none (by simpa using h)] at hi; cases hi)
  have e : puts ds 0 (fun i => (Array.replicate ops.size false).getD i false) (fun _ => undef) a0 = a0 := by
    have key : ∀ (l : List (Option Tmp)) (k : Nat) (a : Act), puts l k (fun i => (Array.replicate ops.size false).getD i false) (fun _ => undef) a = a := by
      intro l
      induction l with
      | nil => intro k a; rfl
      | cons d l ih =>
        intro k a
        unfold puts
        have : (Array.replicate ops.size false).getD k false = false := by
          rw [Array.getD_eq_getD_getElem?]
          rcases Nat.lt_or_ge k ops.size with h | h
          · rw [Array.getElem?_eq_getElem (by simpa using h)]; simp
          · rw [Array.getElem?_eq_none (by simpa using h)]; rfl
        simp only [this, Bool.false_eq_true, if_false]
        exact ih (k + 1) a
    exact key ds 0 a0
  rw [e] at this
  exact this

/-- The same; the obligations are shown for whatever frame reads as this one. -/
theorem wp_region_monoA {Γ : Type} {Base : World → Γ → Prop} {V : Nat → Value → World → Γ → Prop} {id : Nat} {a0 : Act} {w : World} (γ : Γ) (ds : List (Option Tmp)) (needs eats : List (List Nat)) (hm : P.follows .mixedOrders = true) (hf : monoForm .any ops ds needs eats a0.tmps.size = true) (hb : Base w.drew γ)
    (hob : ∀ a1 : Act, (∀ t, a1.eval (.tmp t) = a0.eval (.tmp t)) → ∀ Q1 : Exit → Act → World → Prop, MonoObs P Q1 Base V a1 ds needs eats 0 ops.toList)
    (hQ : ∀ (vs : Nat → Value) (w : World) (γ : Γ), Base w γ → (∀ i, i < ops.size → (∀ k, k < ops.size → i ∉ eats.getD k []) → V i (vs i) w γ) → Q .normal (puts ds 0 (fun _ => true) vs a0) w) : (Code.region id ops true).wp P Q a0 w :=
  wp_region_mono γ ds needs eats hm hf hb (hob a0 (fun _ => rfl) Q) hQ

/-- An operation that yields a value and leaves the world alone. -/
theorem ob_value {Γ : Type} {Base : World → Γ → Prop} {V : Nat → Value → World → Γ → Prop} {a : Act} {w : World} {γ : Γ} {i : Nat} {o : Oper} {v : Value} {E : List Nat} (hb : Base w γ) (h : (execOp a.eval o).run P w = .ok (.value v) w) (hV : V i v w γ) :
    o.wp P a w (fun a' w' => ∃ v γ', a' = a.put o.dst v ∧ Base w' γ' ∧ (∀ j u, j ∉ E → V j u w γ → V j u w' γ') ∧ V i v w' γ') Q := by
  unfold Oper.wp
  rw [h]
  exact ⟨v, γ, rfl, hb, fun _ _ _ h => h, hV⟩
end
end Go.Proofs.Ytpmbfgpfpdenbaa

/- The law of Mono in its plainest use: every operation makes new memory at most, and what is known of its value stays true as memory grows. -/
namespace Go.Proofs.Ytpmbfgpfpdenbaa
open Go.RowKit

/-- What stays true as memory grows. -/
def Grows (V : Value → World → Prop) : Prop := ∀ u w w', Below w.heap.size w w' → V u w → V u w'
theorem grows_eq (v : Value) : Grows (fun u _ => u = v) := fun _ _ _ _ h => h
theorem grows_true : Grows (fun _ _ => True) := fun _ _ _ _ h => h
def atV (Vs : List (Value → World → Prop)) (i : Nat) : Value → World → Prop := Vs.getD i (fun _ _ => True)
def AllGrow : List (Value → World → Prop) → Prop
  | [] => True
  | V :: Vs => Grows V ∧ AllGrow Vs
theorem AllGrow.at_ : ∀ {Vs : List (Value → World → Prop)}, AllGrow Vs → ∀ i, Grows (atV Vs i)
  | [], _, i => by unfold atV; simp only [List.getD_nil]; exact grows_true
  | V :: Vs, ⟨h1, h2⟩, 0 => h1
  | V :: Vs, ⟨h1, h2⟩, i + 1 => AllGrow.at_ h2 i

section
variable {P : Program} {ops : Array Oper} {Q : Exit → Act → World → Prop}
/-- What an operation owes. -/
abbrev ObB (Vs : List (Value → World → Prop)) (a : Act) (w : World) (i : Nat) (op : Oper) (a' : Act) (w' : World) : Prop := ∃ v, a' = a.put op.dst v ∧ Below w.heap.size w w' ∧ atV Vs i v w'
def ObsB (P : Program) (Q : Exit → Act → World → Prop) (W0 : World) (Vs : List (Value → World → Prop)) (a0 : Act) (ds : List (Option Tmp)) (needs : List (List Nat)) : Nat → List Oper → Prop
  | _, [] => True
  | i, o :: l => (∀ (a : Act) (w : World), Below W0.heap.size W0 w → (∀ t, some t ∉ ds → a.eval (.tmp t) = a0.eval (.tmp t)) → (∀ j ∈ needs.getD i [], ∀ d, ds[j]? = some (some d) → atV Vs j (a.eval (.tmp d)) w) → o.wp P a w (ObB Vs a w i o) Q) ∧ ObsB P Q W0 Vs a0 ds needs (i + 1) l

theorem ObsB.mono {W0 : World} {Vs : List (Value → World → Prop)} {a0 : Act} {ds : List (Option Tmp)} {needs : List (List Nat)} (hg : AllGrow Vs) : ∀ (l : List Oper) (i : Nat), ObsB P Q W0 Vs a0 ds needs i l →
    MonoObs (Γ := Unit) P Q (fun w _ => Below W0.heap.size W0 w) (fun i u w _ => atV Vs i u w) a0 ds needs [] i l
  | [], _, _ => trivial
  | o :: l, i, ⟨h1, h2⟩ => by
    refine ⟨fun a w γ hb far need => Oper.wp_mono ?_ (h1 a w hb far need), ObsB.mono hg l (i + 1) h2⟩
    rintro a' w' ⟨v, rfl, hbl, hv⟩
    exact ⟨v, (), rfl, hb.trans (hbl.mono hb.size), fun j u _ h => hg.at_ j u w w' hbl h, hv⟩

/-- THE LAW. -/
theorem wp_region_B {id : Nat} {a0 : Act} {w : World} (Vs : List (Value → World → Prop)) (hg : AllGrow Vs) (ds : List (Option Tmp)) (needs : List (List Nat)) (hm : P.follows .mixedOrders = true) (hf : monoForm .any ops ds needs [] a0.tmps.size = true)
    (hob : ∀ a1 : Act, (∀ t, a1.eval (.tmp t) = a0.eval (.tmp t)) → ∀ Q1 : Exit → Act → World → Prop, ObsB P Q1 w.drew Vs a1 ds needs 0 ops.toList)
    (hQ : ∀ (vs : Nat → Value) (w' : World), Below w.drew.heap.size w.drew w' → (∀ i, i < ops.size → atV Vs i (vs i) w') → Q .normal (puts ds 0 (fun _ => true) vs a0) w') : (Code.region id ops true).wp P Q a0 w :=
  wp_region_monoA (Γ := Unit) (Base := fun w' _ => Below w.drew.heap.size w.drew w') (V := fun i u w _ => atV Vs i u w) () ds needs [] hm hf (Below.refl _ _) (fun a1 ha Q1 => ObsB.mono hg _ _ (hob a1 ha Q1))
    (fun vs w' _ hb hv => hQ vs w' hb (fun i hi => hv i hi (fun k _ => by simp)))

theorem obB_K {Vs : List (Value → World → Prop)} {a : Act} {w : World} {i : Nat} {op : Oper} (h : ∀ K : Act → World → Prop, Hid (∀ a' w', ObB Vs a w i op a' w' → K a' w') → op.wp P a w K Q) : op.wp P a w (ObB Vs a w i op) Q := h _ (Lib.hid fun _ _ h => h)
theorem ObB.pure_ {Vs : List (Value → World → Prop)} {a : Act} {w : World} {i : Nat} {op : Oper} {v : Value} (hv : atV Vs i v w) : ObB Vs a w i op (a.put op.dst v) w := ⟨v, rfl, Below.refl _ _, hv⟩
theorem ObB.grown_ {Vs : List (Value → World → Prop)} {a : Act} {w w' : World} {i : Nat} {op : Oper} {v : Value} (hb : Below w.heap.size w w') (hv : atV Vs i v w') : ObB Vs a w i op (a.put op.dst v) w' := ⟨v, rfl, hb, hv⟩
end
end Go.Proofs.Ytpmbfgpfpdenbaa

/- Obligations for regions whose operations make new memory: rows that are open to one append, slices that are closed. -/
namespace Go.Proofs.Ytpmbfgpfpdenbaa
open Go.RowKit

/-- As Step, but that blocks with a tag of ts may be tagged anew. -/
structure Keep (ts : List Nat) (w : World) (o : Own) (w' : World) (o' : Own) : Prop where
  os : w'.os = w.os
  tape : w'.tape = w.tape
  output : w'.output = w.output
  size : w.heap.size ≤ w'.heap.size
  own : ∀ k, k < w.heap.size → o k ∉ ts → o' k = o k
  block : ∀ k, k < w.heap.size → o k ∉ ts → w'.heap[k]? = w.heap[k]?

theorem Step.keep {ts : List Nat} {w w' : World} {o o' : Own} (h : Step ts w o w' o') : Keep ts w o w' o' := ⟨h.os, h.tape, h.output, h.size, fun k hk _ => h.own k hk, h.block⟩
theorem Keep.refl (ts : List Nat) (w : World) (o : Own) : Keep ts w o w o := (Step.refl ts w o).keep
/-- The step that is as the Keep, but for the tags. -/
theorem Keep.step {ts : List Nat} {w w' : World} {o o' : Own} (h : Keep ts w o w' o') : Step ts w o w' (fun k => if k < w.heap.size then o k else o' k) :=
  ⟨h.os, h.tape, h.output, h.size, fun k hk => by simp [hk], h.block⟩
section
variable {ts : List Nat} {w w' : World} {o o' : Own} {τ : Nat} {e : TypeId} {sz n c : Nat} {A : Option Addr} {xs : List Value}
theorem Sl.keep (h : Sl w o τ sz A n c xs) (hk : Keep ts w o w' o') (hτ : τ ∉ ts) : Sl w' o' τ sz A n c xs := by
  have h2 := h.step hk.step hτ
  refine ⟨h2.1, h2.2.1, h2.2.2.1, fun hn => ?_⟩
  obtain ⟨g, off, hA, ho, hg, hc⟩ := h.2.2.2 hn
  obtain ⟨g', off', hA', -, hg', hc'⟩ := h2.2.2.2 hn
  rw [hA] at hA'; injection hA' with e1; injection e1 with e1 e2; subst e1; subst e2
  exact ⟨g, off, hA, (hk.own g hg (by rw [ho]; exact hτ)).trans ho, hg', hc'⟩
theorem Row.keep (h : Row w o τ e sz A n c xs) (hk : Keep ts w o w' o') (hτ : τ ∉ ts) : Row w' o' τ e sz A n c xs :=
  ⟨(h.step hk.step hτ).1, fun ad ha => (hk.own _ (h.lt ha) (by rw [h.2 ad ha]; exact hτ)).trans (h.2 ad ha)⟩
end

/-- Tags of open rows. -/
def OpenTag (τ : Nat) : Prop := 51 ≤ τ ∧ τ ≤ 59
/-- Tags of closed slices. -/
def ShutTag (t : Nat) : Prop := t = 10 ∨ t = 13 ∨ t = 60
theorem ShutTag.not {t : Nat} (h : ShutTag t) : ¬ OpenTag t := by unfold ShutTag OpenTag at *; omega
/-- What was there is there, with its tags, which are small. -/
def BaseO (W0 : World) (o0 : Own) (w : World) (o : Own) : Prop := Step [] W0 o0 w o ∧ ∀ k, k < W0.heap.size → o0 k ≤ 50
theorem BaseO.keep {W0 w w' : World} {o0 o o' : Own} {ts : List Nat} (h : BaseO W0 o0 w o) (hk : Keep ts w o w' o') (ho : ∀ t ∈ ts, OpenTag t) : BaseO W0 o0 w' o' := by
  have n : ∀ k, k < W0.heap.size → o k ∉ ts := fun k hk' hm => by
    have h1 := (ho _ hm).1
    have h2 := h.2 k hk'
    rw [h.1.own k hk'] at h1
    omega
  exact ⟨⟨hk.os.trans h.1.os, hk.tape.trans h.1.tape, hk.output.trans h.1.output, Nat.le_trans h.1.size hk.size, fun k hk' => (hk.own k (Nat.lt_of_lt_of_le hk' h.1.size) (n k hk')).trans (h.1.own k hk'), fun k hk' h0 => (hk.block k (Nat.lt_of_lt_of_le hk' h.1.size) (n k hk')).trans (h.1.block k hk' h0)⟩, h.2⟩
theorem BaseO.below {W0 w : World} {o0 o : Own} (h : BaseO W0 o0 w o) : Below W0.heap.size W0 w := h.1.to_below (by simp)
theorem Sl.base {W0 w : World} {o o0 : Own} {τ0 sz n c : Nat} {A : Option Addr} {xs : List Value} (h : Sl W0 o0 τ0 sz A n c xs) (hb : BaseO W0 o0 w o) : Sl w o τ0 sz A n c xs := h.step hb.1 (by simp)

/-- What is known of a value. -/
inductive Kind where
  | any
  | known (v : Value)
  | row (τ : Nat) (xs : List UInt8)
  | closed (xs : List UInt8)
  | many (ls : List (List UInt8))

def Kind.tag : Kind → Nat
  | .row τ _ => τ
  | _ => 0
def Kind.says : Kind → Value → World → Own → Prop
  | .any, _, _, _ => True
  | .known v, u, _, _ => u = v
  | .row τ xs, u, w, o => ∃ A c, u = .slice A xs.length c ∧ Row w o τ 5 1 A xs.length c (byts xs)
  | .closed xs, u, w, o => ∃ A c t, u = .slice A xs.length c ∧ ShutTag t ∧ Sl w o t 1 A xs.length c (byts xs)
  | .many ls, u, w, o => ∃ A c vs, u = .slice A ls.length c ∧ Row w o 70 27 1 A ls.length c vs ∧ ∀ (i : Nat) (p : List UInt8), ls[i]? = some p → ∃ A' c' t, vs[i]? = some (.slice A' p.length c') ∧ ShutTag t ∧ Sl w o t 1 A' p.length c' (byts p)
theorem Kind.keep {k : Kind} {u : Value} {w w' : World} {o o' : Own} {ts : List Nat} (h : k.says u w o) (hk : Keep ts w o w' o') (ho : ∀ t ∈ ts, OpenTag t) (ht : k.tag ∉ ts) : k.says u w' o' := by
  have n70 : 70 ∉ ts := fun h => absurd (ho 70 h).2 (by decide)
  have nn : ∀ t, ShutTag t → t ∉ ts := fun t h hm => h.not (ho t hm)
  cases k with
  | any => trivial
  | known v => exact h
  | row τ xs => obtain ⟨A, c, h1, h2⟩ := h; exact ⟨A, c, h1, h2.keep hk ht⟩
  | closed xs => obtain ⟨A, c, t, h1, h2, h3⟩ := h; exact ⟨A, c, t, h1, h2, h3.keep hk (nn t h2)⟩
  | many ls =>
    obtain ⟨A, c, vs, h1, h2, h3⟩ := h
    refine ⟨A, c, vs, h1, h2.keep hk n70, fun i p hi => ?_⟩
    obtain ⟨A', c', t, h4, h5, h6⟩ := h3 i p hi
    exact ⟨A', c', t, h4, h5, h6.keep hk (nn t h5)⟩

def All2 (R : Value → List UInt8 → Prop) : List Value → List (List UInt8) → Prop
  | [], [] => True
  | u :: us, l :: ls => R u l ∧ All2 R us ls
  | _, _ => False
theorem All2.at_ {R : Value → List UInt8 → Prop} : ∀ {us : List Value} {ls : List (List UInt8)}, All2 R us ls → ∀ (j : Nat) (p : List UInt8), ls[j]? = some p → ∃ u, us.toArray[j]? = some u ∧ R u p
  | [], [], _, j, p, hp => by simp at hp
  | u :: us, l :: ls, ⟨h1, h2⟩, 0, p, hp => by
    simp only [List.getElem?_cons_zero, Option.some.injEq] at hp
    subst hp
    exact ⟨u, by simp, h1⟩
  | u :: us, l :: ls, ⟨h1, h2⟩, j + 1, p, hp => by
    obtain ⟨v, hv, hr⟩ := All2.at_ h2 j p (by simpa using hp)
    exact ⟨v, by simpa using hv, hr⟩
theorem says_slice {xs : List UInt8} {u : Value} {w : World} {o : Own} (h : (Kind.closed xs).says u w o) : ∃ A c n, u = .slice A n c := by
  obtain ⟨A, c, t, h, -⟩ := h; exact ⟨A, c, _, h⟩
theorem closed_nil (w : World) (o : Own) : (Kind.closed []).says (.slice none 0 0) w o := ⟨none, 0, 10, rfl, .inl rfl, Sl.nil_ _ _ _ _ _ _ (Nat.zero_le _)⟩
theorem closed_of {xs : List UInt8} {A : Option Addr} {n c t : Nat} {w : World} {o : Own} (hn : xs.length = n) (ht : ShutTag t) (hs : Sl w o t 1 A n c (byts xs)) : (Kind.closed xs).says (.slice A n c) w o := by
  subst hn; exact ⟨A, c, t, rfl, ht, hs⟩
/-- The predicates of a region by a list of kinds. -/
def kindsV (ks : List Kind) (i : Nat) (u : Value) (w : World) (o : Own) : Prop := (ks.getD i .any).says u w o
theorem kindsV.keep {ks : List Kind} {j : Nat} {u : Value} {w w' : World} {o o' : Own} {ts : List Nat} (h : kindsV ks j u w o) (hk : Keep ts w o w' o') (ho : ∀ t ∈ ts, OpenTag t) (ht : (ks.getD j .any).tag ∉ ts) : kindsV ks j u w' o' := Kind.keep h hk ho ht
/-- Which kinds bear a tag: those that are eaten. -/
def tagsOk (ks : List Kind) (τ : Nat) (E : List Nat) : Bool := (List.range ks.length).all fun j => E.contains j || (ks.getD j .any).tag != τ
theorem tagsOk.at_ {ks : List Kind} {τ : Nat} {E : List Nat} (h : tagsOk ks τ E = true) (hτ : OpenTag τ) {j : Nat} (hj : j ∉ E) : (ks.getD j .any).tag ∉ [τ] := by
  rw [List.mem_singleton]
  rcases Nat.lt_or_ge j ks.length with hl | hl
  · have := List.all_eq_true.1 h j (List.mem_range.2 hl)
    simp only [Bool.or_eq_true, List.contains_eq_mem, decide_eq_true_eq, bne_iff_ne] at this
    rcases this with h' | h'
    · exact absurd h' hj
    · exact h'
  · rw [List.getD_eq_getElem?_getD, List.getElem?_eq_none hl]
    have := hτ.1
    show 0 ≠ τ
    omega

section
variable {P : Program} {Q : Exit → Act → World → Prop} {W0 : World} {o0 : Own} {ks : List Kind} {a : Act} {w : World} {o : Own} {i : Nat} {op : Oper} {E : List Nat}

/-- The post of an obligation. -/
abbrev ObPost (W0 : World) (o0 : Own) (ks : List Kind) (a : Act) (w : World) (o : Own) (i : Nat) (op : Oper) (E : List Nat) (a' : Act) (w' : World) : Prop :=
  ∃ v γ', a' = a.put op.dst v ∧ BaseO W0 o0 w' γ' ∧ (∀ j u, j ∉ E → kindsV ks j u w o → kindsV ks j u w' γ') ∧ kindsV ks i v w' γ'

theorem ObPost.mk_ {w' : World} {o' : Own} {v : Value} {ts : List Nat} (hb : BaseO W0 o0 w o) (hk : Keep ts w o w' o') (ho : ∀ t ∈ ts, OpenTag t) (ht : ∀ j, j ∉ E → (ks.getD j .any).tag ∉ ts) (hV : kindsV ks i v w' o') : ObPost W0 o0 ks a w o i op E (a.put op.dst v) w' :=
  ⟨v, o', rfl, hb.keep hk ho, fun j _ hj h => h.keep hk ho (ht j hj), hV⟩

theorem ob_known {v : Value} (hk : ks.getD i .any = .known v) (hb : BaseO W0 o0 w o) (h : (execOp a.eval op).run P w = .ok (.value v) w) : op.wp P a w (ObPost W0 o0 ks a w o i op E) Q := by
  unfold Oper.wp
  rw [h]
  exact ObPost.mk_ hb (Keep.refl [] w o) (by simp) (by simp) (by unfold kindsV; rw [hk]; exact rfl)

/-- A call that makes new bytes. -/
theorem ob_new {f : FuncId} {args : Array Value} {xs : List UInt8} (hk : ks.getD i .any = .closed xs) (hb : BaseO W0 o0 w o) (h : (execOp a.eval op).run P w = .ok (.enter f args) w) (hc : Calls P f args w (NewTo w 1 xs.length (byts xs))) : op.wp P a w (ObPost W0 o0 ks a w o i op E) Q := by
  unfold Oper.wp
  rw [h]
  refine hc.mono ?_
  rintro e w' ⟨A, c, rfl, hbl, hs, hf⟩
  have hst := (Step.refl [] w o).below hbl 60
  exact ObPost.mk_ hb hst.keep (by simp) (by simp) (by unfold kindsV; rw [hk]; exact ⟨A, c, 60, rfl, .inr (.inr rfl), hs.tag hf o 60⟩)

/-- An append to an open row: it stays open, or is closed. -/
theorem ob_append {s x : Operand} {t : TypeId} (ho : op.op = .call { callee := .builtin .append, args := #[s, x], argTypes := #[t, t] }) {bytes : Nat} {z : Value} (he : Elem P t 5 1 1 z) {τ : Nat} (hτ : OpenTag τ) {xs ys : List UInt8} (hb : BaseO W0 o0 w o)
    (hs : (Kind.row τ xs).says (a.eval s) w o) {B : Option Addr} {d m : Nat} {o2 : Own} {τ2 : Nat} (hx : a.eval x = .slice B m d) (hS : Sl w o2 τ2 1 B m d (byts ys)) (hbytes : xs.length + m ≤ 140737488355328) (htags : tagsOk ks τ E = true)
    (hk : (∃ σ, ks.getD i .any = .row σ (xs ++ ys)) ∨ ks.getD i .any = .closed (xs ++ ys)) (_hz : bytes = 1) : op.wp P a w (ObPost W0 o0 ks a w o i op E) Q := by
  obtain ⟨A, c, hv, hR⟩ := hs
  have hm : m = ys.length := by have := hS.1; simpa using this.symm
  obtain ⟨A', c', w', hrun, h2, h3, h4⟩ := run_append_row (P := P) w op.type he o τ hR hS (one_byts _) (by omega) (by simp only [maxLen]; omega)
  have hl : xs.length + m = (xs ++ ys).length := by rw [List.length_append, hm]
  have hbb : byts xs ++ byts ys = byts (xs ++ ys) := by simp [byts]
  rw [hl, hbb] at h2
  rw [hl] at hrun
  have hst := Step.append hR h3 τ
  unfold Oper.wp execOp
  simp only [ho, resolve, invoke, builtin, Sem.run_bind, Sem.run_pure, Result.andThen_ok, List.map_toArray, List.map_cons, List.map_nil, hv, hx, hrun]
  show ObPost W0 o0 ks a w o i op E (a.put op.dst _) w'
  -- the result's block is tagged anew
  have hkp : ∀ σ, Keep [τ] w o w' (fun k => if A'.any (fun ad => ad.block == k) = true then σ else ext o w.heap.size τ k) := fun σ => by
    refine ⟨hst.os, hst.tape, hst.output, hst.size, fun k hk hn => ?_, hst.block⟩
    have : ¬ (A'.any (fun ad => ad.block == k) = true) := by
      intro h
      cases hA : A' with
      | none => rw [hA] at h; simp at h
      | some ad =>
        rw [hA] at h
        simp only [Option.any_some, beq_iff_eq] at h
        rcases h4 ad hA with ⟨ad0, h5, h6⟩ | h6
        · have := hR.2 ad0 h5
          rw [← h6, h] at this
          rw [this] at hn
          exact hn (by simp)
        · omega
    simp only [this, Bool.false_eq_true, if_false]
    exact ext_lt hk
  have hrow : ∀ σ, Row w' (fun k => if A'.any (fun ad => ad.block == k) = true then σ else ext o w.heap.size τ k) σ 5 1 A' (xs ++ ys).length c' (byts (xs ++ ys)) := fun σ => ⟨h2.1, fun ad ha => by subst ha; simp⟩
  rcases hk with ⟨σ, hk⟩ | hk
  · exact ObPost.mk_ hb (hkp σ) (by simpa using hτ) (fun j hj => tagsOk.at_ htags hτ hj) (by unfold kindsV; rw [hk]; exact ⟨A', c', rfl, hrow σ⟩)
  · exact ObPost.mk_ hb (hkp 60) (by simpa using hτ) (fun j hj => tagsOk.at_ htags hτ hj) (by unfold kindsV; rw [hk]; exact ⟨A', c', 60, rfl, .inr (.inr rfl), (hrow 60).sl⟩)

end

theorem zero_bytes (m : Nat) : Builtin.zeroCells #[Value.int .u8 0] m = Array.replicate m (Value.int .u8 0) := by
  apply Array.ext
  · simp [Builtin.zeroCells]
  · intro i h1 h2
    simp [Builtin.zeroCells, Nat.mod_one]

/-- append(s, make([]byte, m)...), in one operation. -/
theorem run_append_zeros_row {P : Program} (w : World) {t tn e : TypeId} (ty : TypeId) (he : Elem P t e 1 1 (.int .u8 0)) (hu : P.underlying tn = some (.int .i64)) (o : Own) (τ : Nat) {A : Option Addr} {n c m : Nat} {xs : List Value} (hR : Row w o τ e 1 A n c xs) (hn : 0 < n) (hm : 0 < m) (hb : n + m ≤ 1000000) :
    ∃ A' c' w', (Builtin.append_ #[t, tn] ty #[.slice A n c, .int .i64 (m : Int)]).run P w = .ok (.slice A' (n + m) c') w' ∧ Row w' (ext o w.heap.size τ) τ e 1 A' (n + m) c' (xs ++ List.replicate m (.int .u8 0)) ∧
      w.grownBy w' (Value.slice A n c).ownBlock ∧ (∀ ad, A' = some ad → (∃ ad0, A = some ad0 ∧ ad.block = ad0.block) ∨ ad.block = w.heap.size) := by
  obtain ⟨i, hi, hz0, hz1, hz2⟩ := info_parts he.info
  obtain ⟨g, cur, rfl, hog, hB, hnc, hcm, hcs, htk⟩ := hR.form hn
  have hw : IntKind.i64.wrap (m : Int) = (m : Int) := IntWalk.i64_in _ (by omega)
  have hxl : xs.length = n := by have := hR.len; omega
  have hlen : (xs ++ List.replicate m (Value.int .u8 0)).length = (n + m) * 1 := by simp [hxl]
  have hneg : ¬ (m : Int) < 0 := by omega
  have hbig : ¬ (281474976710656 : Int) < (m : Int) := by omega
  have hm0 : ¬ m = 0 := by omega
  rcases Nat.lt_or_ge c (n + m) with hroom | hroom
  · have holds : ∀ j u, xs[j]? = some u → w.drew.cell? ((⟨g, 0, none⟩ : Addr).add j) = some u := fun j u hu => by
      rw [Addr.add_lit, Nat.zero_add]
      show w.cell? ⟨g, j, none⟩ = some u
      rw [hB.cell, ← Array.getElem?_toList]
      rw [← htk] at hu
      rw [List.getElem?_take] at hu
      split at hu
      · exact hu
      · cases hu
    have hf := run_firstCells_some (P := P) w.drew 1 n ⟨g, 0, none⟩ n c xs (by omega) holds
    have hn' : ¬ (n + m ≤ c) := by omega
    have h63' : ¬ (9223372036854775807 < ((n : Int) + (m : Int))) := by omega
    have hcap := nextslicecap_le hroom
    have h48' : ¬ (281474976710656 < Builtin.nextslicecap (n + m) c) := by omega
    have hrun : (Builtin.append_ #[t, tn] ty #[.slice (some ⟨g, 0, none⟩) n c, .int .i64 (m : Int)]).run P w = .ok (.slice (some ⟨w.heap.size, 0, none⟩) (n + m) (grownCap w (n + m) c e)) (w.drew.alloc (.cells (xs.toArray ++ Array.replicate m (Value.int .u8 0) ++ Array.replicate (grownCap w (n + m) c e - (n + m)) (Value.int .u8 0)) e)) := by
      simp [Builtin.append_, run_underlying he.under, run_underlying hu, sizeOf, typeInfo, zeroValue, hi, hz0, hz1, hz2, asInt, asIntOf, hw, hneg, hbig, hm0, hn', h63', h48', Question.forced, hf, newRow, grownCap, Value.cells, zero_bytes]
    have hge := grownCap_ge w (n + m) c e
    refine ⟨_, _, _, hrun, ⟨⟨hlen, .inr ⟨w.heap.size, _, _, rfl, Nat.zero_le _, heap_alloc_new w.drew _, hge, grownCap_le_maxLen w (n + m) c e (by simp only [maxLen]; omega), ?_, ?_⟩⟩, fun ad ha => ?_⟩, ⟨rfl, rfl, rfl, by simp, fun k hk _ => heap_alloc_old w.drew _ (by simpa using hk)⟩, fun ad ha => .inr ?_⟩
    · simp [hxl]; omega
    · rw [← hlen]
      simp only [Array.toList_append, Array.toList_replicate]
      exact List.take_left
    · injection ha with ha; subst ha; exact ext_ge (Nat.le_refl _)
    · injection ha with ha; subst ha; rfl
  · have hst := run_storeCells_at P g n e (List.replicate m (Value.int .u8 0)) 0 cur w hB (by simp; omega) (fun v hv => by rw [List.eq_of_mem_replicate hv]; rfl)
    simp only [Nat.add_zero] at hst
    have hrun : (Builtin.append_ #[t, tn] ty #[.slice (some ⟨g, 0, none⟩) n c, .int .i64 (m : Int)]).run P w = .ok (.slice (some ⟨g, 0, none⟩) (n + m) c) (w.setRow g (cur.toList.take n ++ List.replicate m (Value.int .u8 0) ++ cur.toList.drop (n + (List.replicate m (Value.int IntKind.u8 0)).length)).toArray) := by
      simp [Builtin.append_, run_underlying he.under, run_underlying hu, sizeOf, typeInfo, zeroValue, hi, hz0, hz1, hz2, asInt, asIntOf, hw, hneg, hbig, hm0, hroom, Value.cells, zero_bytes, Addr.add_lit, hst]
    refine ⟨_, _, _, hrun, ⟨⟨hlen, .inr ⟨g, c, _, rfl, Nat.zero_le _, setRow_heap w g cur _ e _ hB, hroom, hcm, ?_, ?_⟩⟩, fun ad ha => ?_⟩, ⟨rfl, rfl, rfl, by simp, fun k hk hk' => setRow_other w g k _ (fun e => hk' (by simp [Value.ownBlock, e]))⟩, fun ad ha => .inl ⟨⟨g, 0, none⟩, rfl, ?_⟩⟩
    · simp; omega
    · rw [← hlen]
      rw [Nat.mul_one] at htk
      simp only [htk]
      exact List.take_left
    · injection ha with ha; subst ha
      exact (ext_lt hB.lt).trans hog
    · injection ha with ha; subst ha; rfl

section
variable {P : Program} {Q : Exit → Act → World → Prop} {W0 : World} {o0 : Own} {ks : List Kind} {a : Act} {w : World} {o : Own} {i : Nat} {op : Oper} {E : List Nat}
/-- An append of zeros to an open row: it is closed. -/
theorem ob_zeros {s x : Operand} {t tn : TypeId} (ho : op.op = .call { callee := .builtin .append, args := #[s, x], argTypes := #[t, tn] }) (he : Elem P t 5 1 1 (.int .u8 0)) (hu : P.underlying tn = some (.int .i64)) {τ : Nat} (hτ : OpenTag τ) {xs : List UInt8} (hb : BaseO W0 o0 w o)
    (hs : (Kind.row τ xs).says (a.eval s) w o) (hn : 0 < xs.length) {m : Nat} (hx : a.eval x = .int .i64 (m : Int)) (hm : 0 < m) (hbytes : xs.length + m ≤ 1000000) (htags : tagsOk ks τ E = true)
    (hk : ks.getD i .any = .closed (xs ++ List.replicate m 0)) : op.wp P a w (ObPost W0 o0 ks a w o i op E) Q := by
  obtain ⟨A, c, hv, hR⟩ := hs
  obtain ⟨A', c', w', hrun, h2, h3, h4⟩ := run_append_zeros_row (P := P) w op.type he hu o τ hR hn hm hbytes
  have hl : xs.length + m = (xs ++ List.replicate m (0 : UInt8)).length := by simp
  have hbb : byts xs ++ List.replicate m (Value.int .u8 0) = byts (xs ++ List.replicate m (0 : UInt8)) := by simp [byts]
  rw [hl, hbb] at h2
  rw [hl] at hrun
  have hst := Step.append hR h3 τ
  unfold Oper.wp execOp
  simp only [ho, resolve, invoke, builtin, Sem.run_bind, Sem.run_pure, Result.andThen_ok, List.map_toArray, List.map_cons, List.map_nil, hv, hx, hrun]
  show ObPost W0 o0 ks a w o i op E (a.put op.dst _) w'
  have hkp : Keep [τ] w o w' (fun k => if A'.any (fun ad => ad.block == k) = true then 60 else ext o w.heap.size τ k) := by
    refine ⟨hst.os, hst.tape, hst.output, hst.size, fun k hk hn => ?_, hst.block⟩
    have : ¬ (A'.any (fun ad => ad.block == k) = true) := by
      intro h
      cases hA : A' with
      | none => rw [hA] at h; simp at h
      | some ad =>
        rw [hA] at h
        simp only [Option.any_some, beq_iff_eq] at h
        rcases h4 ad hA with ⟨ad0, h5, h6⟩ | h6
        · have := hR.2 ad0 h5
          rw [← h6, h] at this
          rw [this] at hn
          exact hn (by simp)
        · omega
    simp only [this, Bool.false_eq_true, if_false]
    exact ext_lt hk
  have hsl := h2.sl
  have hcl : Sl w' (fun k => if A'.any (fun ad => ad.block == k) = true then 60 else ext o w.heap.size τ k) 60 1 A' (xs ++ List.replicate m (0 : UInt8)).length c' (byts (xs ++ List.replicate m (0 : UInt8))) := by
    refine ⟨hsl.1, hsl.2.1, hsl.2.2.1, fun hn => ?_⟩
    obtain ⟨g, off, hA, -, hg, hc⟩ := hsl.2.2.2 hn
    exact ⟨g, off, hA, by subst hA; simp, hg, hc⟩
  exact ObPost.mk_ hb hkp (by simpa using hτ) (fun j hj => tagsOk.at_ htags hτ hj) (by unfold kindsV; rw [hk]; exact ⟨A', c', 60, rfl, .inr (.inr rfl), hcl⟩)


/-- The post behind a letter: for the walk. -/
theorem ob_K (h : ∀ K : Act → World → Prop, Hid (∀ a' w', ObPost W0 o0 ks a w o i op E a' w' → K a' w') → op.wp P a w K Q) : op.wp P a w (ObPost W0 o0 ks a w o i op E) Q := h _ (Lib.hid fun _ _ h => h)
theorem ObPost.pure_ {v : Value} (hb : BaseO W0 o0 w o) (hk : ks.getD i .any = .known v) : ObPost W0 o0 ks a w o i op E (a.put op.dst v) w :=
  ObPost.mk_ hb (Keep.refl [] w o) (by simp) (by simp) (by unfold kindsV; rw [hk]; exact rfl)
theorem ObPost.same_ {v : Value} (hb : BaseO W0 o0 w o) (hv : kindsV ks i v w o) : ObPost W0 o0 ks a w o i op E (a.put op.dst v) w :=
  ObPost.mk_ hb (Keep.refl [] w o) (by simp) (by simp) hv
theorem ObPost.open_ {cs : Array Value} {n τ : Nat} {xs : List UInt8} (hb : BaseO W0 o0 w o) (hk : ks.getD i .any = .row τ xs) (hcs : cs.toList = byts xs) (hn : n = xs.length) (hm : xs.length ≤ maxLen) :
    ObPost W0 o0 ks a w o i op E (a.put op.dst (.slice (some ⟨w.heap.size, 0, none⟩) n n)) (w.alloc (.cells cs 5)) := by
  subst hn
  have hlen : cs.size = xs.length * 1 := by rw [← Array.length_toList, hcs]; simp [byts]
  have htk : cs.toList.take (xs.length * 1) = byts xs := by rw [hcs]; exact List.take_of_length_le (by simp [byts])
  have hr := Row.made (w := w) o τ 5 1 cs xs.length hlen hm xs.length (Nat.le_refl _)
  rw [htk] at hr
  exact ObPost.mk_ hb ((Step.refl [] w o).alloc (.cells cs 5) τ).keep (by simp) (by simp) (by unfold kindsV; rw [hk]; exact ⟨_, _, rfl, hr⟩)
theorem ObPost.shut_ {cs : Array Value} {n : Nat} {xs : List UInt8} (hb : BaseO W0 o0 w o) (hk : ks.getD i .any = .closed xs) (hcs : cs.toList = byts xs) (hn : n = xs.length) (hm : xs.length ≤ maxLen) :
    ObPost W0 o0 ks a w o i op E (a.put op.dst (.slice (some ⟨w.heap.size, 0, none⟩) n n)) (w.alloc (.cells cs 5)) := by
  subst hn
  have hlen : cs.size = xs.length * 1 := by rw [← Array.length_toList, hcs]; simp [byts]
  have htk : cs.toList.take (xs.length * 1) = byts xs := by rw [hcs]; exact List.take_of_length_le (by simp [byts])
  have hr := (Row.made (w := w) o 60 5 1 cs xs.length hlen hm xs.length (Nat.le_refl _)).sl
  rw [htk] at hr
  exact ObPost.mk_ hb ((Step.refl [] w o).alloc (.cells cs 5) 60).keep (by simp) (by simp) (by unfold kindsV; rw [hk]; exact ⟨_, _, 60, rfl, .inr (.inr rfl), hr⟩)
theorem ObPost.new_ {w' : World} {A : Option Addr} {n c : Nat} {xs : List UInt8} (hb : BaseO W0 o0 w o) (hk : ks.getD i .any = .closed xs) (hn : n = xs.length) (hbl : Below w.heap.size w w') (hs : Sl w' (fun _ => 0) 0 1 A n c (byts xs)) (hf : ∀ ad, A = some ad → w.heap.size ≤ ad.block) :
    ObPost W0 o0 ks a w o i op E (a.put op.dst (.slice A n c)) w' := by
  subst hn
  exact ObPost.mk_ hb ((Step.refl [] w o).below hbl 60).keep (by simp) (by simp) (by unfold kindsV; rw [hk]; exact ⟨A, c, 60, rfl, .inr (.inr rfl), hs.tag hf o 60⟩)
theorem ObPost.many_ {cs : Array Value} {n : Nat} {ls : List (List UInt8)} (hb : BaseO W0 o0 w o) (hk : ks.getD i .any = .many ls) (hcs : cs.size = ls.length) (hn : n = ls.length) (hm : ls.length ≤ maxLen)
    (hel : ∀ (j : Nat) (p : List UInt8), ls[j]? = some p → ∃ u, cs[j]? = some u ∧ (Kind.closed p).says u w o) : ObPost W0 o0 ks a w o i op E (a.put op.dst (.slice (some ⟨w.heap.size, 0, none⟩) n n)) (w.alloc (.cells cs 27)) := by
  subst hn
  have hst := (Step.refl [] w o).alloc (.cells cs 27) 70
  have hr := Row.made (w := w) o 70 27 1 cs ls.length (by omega) hm ls.length (Nat.le_refl _)
  refine ObPost.mk_ hb hst.keep (by simp) (by simp) ?_
  unfold kindsV
  rw [hk]
  refine ⟨_, _, _, rfl, hr, fun j p hp => ?_⟩
  obtain ⟨u, hu, A, c, t, rfl, ht, hs⟩ := hel j p hp
  refine ⟨A, c, t, ?_, ht, hs.step hst (by simp)⟩
  rw [Nat.mul_one, List.getElem?_take_of_lt (List.getElem?_eq_some_iff.1 hp).1, Array.getElem?_toList]
  exact hu
/-- A literal of slices. -/
theorem ob_many {t : TypeId} {len bytes : Nat} {z : Value} {parts : Array (Nat × Operand)} (ho : op.op = .buildSlice t len parts) (he : Elem P t 27 1 bytes z) {us : List Value} {ls : List (List UInt8)} (hb : BaseO W0 o0 w o)
    (hparts : (parts.map fun (i, x) => (i, a.eval x)).toList = (us.zipIdx 0).map fun x => (x.2, x.1)) (hlen : us.length = len) (hl2 : ls.length = len) (h0 : 0 < len) (hm : len ≤ 100000) (hall : All2 (fun u p => (Kind.closed p).says u w o) us ls) (hk : ks.getD i .any = .many ls) :
    op.wp P a w (ObPost W0 o0 ks a w o i op E) Q := by
  obtain ⟨ie, hi, hz0, hz1, hz2⟩ := info_parts he.info
  have hsl : ∀ v ∈ us, v.cells = #[v] := by
    intro v hv
    obtain ⟨j, hj, rfl⟩ := List.getElem_of_mem hv
    obtain ⟨p, hp⟩ : ∃ p, ls[j]? = some p := ⟨_, List.getElem?_eq_getElem (by omega)⟩
    obtain ⟨u, hu, A, c, t, hu2, -⟩ := hall.at_ j p hp
    have : u = us[j] := by
      rw [List.getElem?_toArray, List.getElem?_eq_getElem hj] at hu
      injection hu with hu; exact hu.symm
    rw [← this, hu2]; rfl
  refine wp_buildSlice t _ len parts ho us.toArray ie z he.under hi hz0 (by rw [hz1]; omega) (by rw [hz1]; omega) ?_ (ObPost.many_ hb hk (by simp; omega) (by omega) (by simp only [maxLen]; omega) hall.at_)
  rw [hparts, hz1]
  exact Great.fill_flat _ _ hsl (by simp [hlen])
end
end Go.Proofs.Ytpmbfgpfpdenbaa

/- Scripts in memory, out of literals; an append to a slice that is full. -/
namespace Go.Proofs.Ytpmbfgpfpdenbaa
open Go.RowKit

theorem OpsAt.plain {w : World} {o : Own} {τ : Nat} {A : Option Addr} {n c : Nat} {ps : List OpV} (h : OpsAt w o τ A n c ps) : OpsAt w (fun _ => 0) 0 A n c ps := by
  obtain ⟨h1, h2, h3, h4⟩ := h
  refine ⟨h1, h2, h3, fun hn => ?_⟩
  obtain ⟨g, off, hA, -, hg, hp⟩ := h4 hn
  refine ⟨g, off, hA, rfl, hg, fun i p hi => ?_⟩
  obtain ⟨a1, a2, a3, BA, bn, bc, b0, b1, b2, b3, b4, b5⟩ := hp i p hi
  exact ⟨a1, a2, a3, BA, bn, bc, b0, b1, b2, b3, b4.plain, b5⟩
theorem OpsAt.below {w w' : World} {o : Own} {τ : Nat} {A : Option Addr} {n c : Nat} {ps : List OpV} (h : OpsAt w o τ A n c ps) (hb : Below w.heap.size w w') : OpsAt w' o τ A n c ps := by
  obtain ⟨h1, h2, h3, h4⟩ := h
  refine ⟨h1, h2, h3, fun hn => ?_⟩
  obtain ⟨g, off, hA, ho, hg, hp⟩ := h4 hn
  refine ⟨g, off, hA, ho, Nat.lt_of_lt_of_le hg hb.size, fun i p hi => ?_⟩
  obtain ⟨a1, a2, a3, BA, bn, bc, b0, b1, b2, b3, b4, b5⟩ := hp i p hi
  exact ⟨a1, a2, a3, BA, bn, bc, (hb.cell (p := ⟨g, _, none⟩) hg).trans b0, (hb.cell (p := ⟨g, _, none⟩) hg).trans b1, (hb.cell (p := ⟨g, _, none⟩) hg).trans b2, (hb.cell (p := ⟨g, _, none⟩) hg).trans b3, b4.below hb, b5⟩

/-- An op as it lies in a literal. -/
structure OpL where
  K : Nat
  S : Nat
  T : Nat
  A : Option Addr
  n : Nat
  c : Nat
def OpL.cells (u : OpL) : List Value := [.int .u8 u.K, .int .u8 u.S, .int .u8 u.T, .slice u.A u.n u.c]
def OpL.Ok (W : World) (u : OpL) : Prop := u.K < 256 ∧ u.S < 256 ∧ u.T < 256 ∧ u.n ≤ 9223372036854775807 ∧ ∃ B, Sl W (fun _ => 0) 0 1 u.A u.n u.c (byts B)
theorem OpL.Ok.below {W W' : World} {u : OpL} (h : u.Ok W) (hb : Below W.heap.size W W') : u.Ok W' := by
  obtain ⟨h1, h2, h3, h4, B, h5⟩ := h
  exact ⟨h1, h2, h3, h4, B, h5.below hb⟩
abbrev opsCells (us : List OpL) : List Value := us.flatMap OpL.cells
theorem opsCells_len (us : List OpL) : (opsCells us).length = us.length * 4 := by
  induction us with
  | nil => rfl
  | cons u us ih => simp only [opsCells, List.flatMap_cons, List.length_append] at ih ⊢; rw [ih]; simp only [OpL.cells, List.length_cons, List.length_nil]; omega
theorem opsCells_get : ∀ (us : List OpL) (i j : Nat) (u : OpL), us[i]? = some u → j < 4 → (opsCells us)[i * 4 + j]? = u.cells[j]?
  | [], i, j, u, h, _ => by simp at h
  | x :: us, 0, j, u, h, hj => by
    simp only [List.getElem?_cons_zero, Option.some.injEq] at h
    subst h
    rw [opsCells, List.flatMap_cons, Nat.zero_mul, Nat.zero_add, List.getElem?_append_left (by simpa [OpL.cells] using hj)]
  | x :: us, i + 1, j, u, h, hj => by
    have ih := opsCells_get us i j u (by simpa using h) hj
    rw [opsCells, List.flatMap_cons, List.getElem?_append_right (by simp [OpL.cells]; omega)]
    rw [← ih]
    congr 1
    simp only [OpL.cells, List.length_cons, List.length_nil]
    omega
theorem one_ops (us : List OpL) : ∀ v ∈ opsCells us, v.oneCell' = true := by
  intro v hv
  obtain ⟨u, -, hu⟩ := List.mem_flatMap.1 hv
  simp only [OpL.cells, List.mem_cons, List.not_mem_nil, or_false] at hu
  rcases hu with rfl | rfl | rfl | rfl <;> rfl

/-- A slice of ops is a script. -/
theorem ops_of {W : World} {A : Option Addr} {n c : Nat} {us : List OpL} (h : Sl W (fun _ => 0) 0 4 A n c (opsCells us)) (hu : ∀ u ∈ us, u.Ok W) : ∃ ps, OpsAt W (fun _ => 0) 0 A n c ps := by
  have hb : ∀ u : OpL, ∃ B : List UInt8, u ∈ us → Sl W (fun _ => 0) 0 1 u.A u.n u.c (byts B) := fun u => by
    rcases Classical.em (u ∈ us) with hm | hm
    · obtain ⟨-, -, -, -, B, h5⟩ := hu u hm; exact ⟨B, fun _ => h5⟩
    · exact ⟨[], fun h => absurd h hm⟩
  obtain ⟨f, hf⟩ := Classical.axiomOfChoice hb
  refine ⟨us.map fun u => ⟨u.K, u.S, u.T, f u⟩, ?_, h.2.1, h.2.2.1, fun hn => ?_⟩
  · have := h.1; rw [opsCells_len] at this; simp; omega
  · obtain ⟨g, off, hA, -, hg, hc⟩ := h.2.2.2 hn
    refine ⟨g, off, hA, rfl, hg, fun i p hi => ?_⟩
    rw [List.getElem?_map] at hi
    obtain ⟨u, hui, rfl⟩ := Option.map_eq_some_iff.1 hi
    have hm := List.mem_of_getElem? hui
    obtain ⟨k1, k2, k3, k4, -⟩ := hu u hm
    have q : ∀ j v, j < 4 → u.cells[j]? = some v → W.cell? ⟨g, off + i * 4 + j, none⟩ = some v := fun j v hj hv => by
      rw [Nat.add_assoc]; exact hc _ v ((opsCells_get us i j u hui hj).trans hv)
    exact ⟨k1, k2, k3, u.A, u.n, u.c, q 0 _ (by omega) rfl, q 1 _ (by omega) rfl, q 2 _ (by omega) rfl, q 3 _ (by omega) rfl, hf u hm, k4⟩

/-- An append to a slice that is full: a new row, nothing else changes. -/
theorem run_append_full {P : Program} (w : World) {t e : TypeId} {sz bytes : Nat} {z : Value} (ty : TypeId) (he : Elem P t e sz bytes z) {o o2 : Own} {τ τ2 : Nat} {A : Option Addr} {n : Nat} {xs : List Value} (hR : Sl w o τ sz A n n xs) (hn : 0 < n) {B : Option Addr} {m d : Nat} {news : List Value} (hS : Sl w o2 τ2 sz B m d news) (hm : 0 < m)
    (hbytes : (n + m) * bytes ≤ 140737488355328) (h63 : n + m ≤ maxLen) :
    ∃ c' w', (Builtin.append_ #[t, t] ty #[.slice A n n, .slice B m d]).run P w = .ok (.slice (some ⟨w.heap.size, 0, none⟩) (n + m) c') w' ∧ Below w.heap.size w w' ∧ Sl w' (fun _ => 0) 0 sz (some ⟨w.heap.size, 0, none⟩) (n + m) c' (xs ++ news) := by
  obtain ⟨i, hi, hz0, hz1, hz2⟩ := info_parts he.info
  obtain ⟨ga, offa, hA, -, hga, hca⟩ := hR.2.2.2 hn
  obtain ⟨gb, offb, hB, -, hgb, hcb⟩ := hS.2.2.2 hm
  subst hA; subst hB
  have hsmall : n + m ≤ 9223372036854775807 := by simp only [maxLen] at h63; omega
  have hrun := run_append_grow (P := P) w t ty e i z he.under hi hz0 ⟨ga, offa, none⟩ n n xs (by rw [hz1]; exact hR.1) (fun j v hj => by rw [Addr.add_lit]; exact hca j v hj) ⟨gb, offb, none⟩ m d news (by rw [hz1]; exact hS.1) (fun j v hj => by rw [Addr.add_lit]; exact hcb j v hj) (by omega) (by omega) (growslice_fits (by omega) (by rw [hz2]; exact hbytes))
  have hge := grownCap_ge w (n + m) n e
  refine ⟨_, _, hrun, (Below.refl _ _).drew.alloc (Nat.le_refl _) _, ?_, hge, grownCap_le_maxLen w (n + m) n e h63, fun _ => ⟨w.heap.size, 0, rfl, rfl, by simp, fun j u hj => ?_⟩⟩
  · rw [List.length_append, hR.1, hS.1, Nat.add_mul]
  · rw [(show Blk (w.drew.alloc _) w.heap.size e _ from Blk.new w.drew e _).cell, Nat.zero_add, ← Array.getElem?_toList]
    simp only [Array.toList_append]
    rw [List.getElem?_append_left (List.getElem?_eq_some_iff.1 hj).1]
    exact hj
theorem wpList_append_full {P : Program} (w : World) {ops : Array Oper} {rest : List Oper} {o : Oper} {a : Act} {Q : Exit → Act → World → Prop} (hgd : o.guard = none) (s x : Operand) (t : TypeId)
    (ho : o.op = .call { callee := .builtin .append, args := #[s, x], argTypes := #[t, t] })
    {e : TypeId} {sz bytes : Nat} {z : Value} (he : Elem P t e sz bytes z) {o1 o2 : Own} {τ τ2 : Nat} (A : Option Addr) (n : Nat) (xs : List Value) (hs : a.eval s = .slice A n n) (hR : Sl w o1 τ sz A n n xs) (hn : 0 < n) (B : Option Addr) (m d : Nat) (news : List Value) (hx : a.eval x = .slice B m d) (hS : Sl w o2 τ2 sz B m d news) (hm : 0 < m)
    (hbytes : (n + m) * bytes ≤ 140737488355328) (h63 : n + m ≤ maxLen)
    (h : ∀ c' w', Below w.heap.size w w' → Sl w' (fun _ => 0) 0 sz (some ⟨w.heap.size, 0, none⟩) (n + m) c' (xs ++ news) → wpList P ops Q rest (a.put o.dst (.slice (some ⟨w.heap.size, 0, none⟩) (n + m) c')) w') : wpList P ops Q (o :: rest) a w := by
  refine wpList_plain hgd fun K hK => ?_
  obtain ⟨c', w', hrun, h2, h3⟩ := run_append_full (P := P) w o.type he hR hn hS hm hbytes h63
  unfold Oper.wp execOp
  simp only [ho, resolve, invoke, builtin, Sem.run_bind, Sem.run_pure, Result.andThen_ok, List.map_toArray, List.map_cons, List.map_nil, hs, hx, hrun]
  exact hK _ _ (h c' w' h2 h3)

theorem step_append_full {P : Program} {w : World} {ops : Array Oper} {o : Oper} {a : Act} {K : Act → World → Prop} {Q : Exit → Act → World → Prop} {E : Prop} (hgd : o.guard = none) (s x : Operand) (t : TypeId)
    (ho : o.op = .call { callee := .builtin .append, args := #[s, x], argTypes := #[t, t] })
    {e : TypeId} {sz bytes : Nat} {z : Value} (he : Elem P t e sz bytes z) {o1 o2 : Own} {τ τ2 : Nat} (A : Option Addr) (n : Nat) (xs : List Value) (hs : a.eval s = .slice A n n) (hR : Sl w o1 τ sz A n n xs) (hn : 0 < n) (B : Option Addr) (m d : Nat) (news : List Value) (hx : a.eval x = .slice B m d) (hS : Sl w o2 τ2 sz B m d news) (hm : 0 < m)
    (hbytes : (n + m) * bytes ≤ 140737488355328) (h63 : n + m ≤ maxLen)
    (h : ∀ c' w', Below w.heap.size w w' → Sl w' (fun _ => 0) 0 sz (some ⟨w.heap.size, 0, none⟩) (n + m) c' (xs ++ news) → K (a.put o.dst (.slice (some ⟨w.heap.size, 0, none⟩) (n + m) c')) w') : if Region.wanted o (yielded ops a.tmps) = true then Oper.wp P o a w K Q else E := by
  have hw : Region.wanted o (yielded ops a.tmps) = true := by simp [Region.wanted, hgd]
  rw [if_pos hw]
  obtain ⟨c', w', hrun, h2, h3⟩ := run_append_full (P := P) w o.type he hR hn hS hm hbytes h63
  unfold Oper.wp execOp
  simp only [ho, resolve, invoke, builtin, Sem.run_bind, Sem.run_pure, Result.andThen_ok, List.map_toArray, List.map_cons, List.map_nil, hs, hx, hrun]
  exact h c' w' h2 h3

theorem obB_append_full {P : Program} {Vs : List (Value → World → Prop)} {w : World} {i : Nat} {o : Oper} {a : Act} {Q : Exit → Act → World → Prop} (s x : Operand) (t : TypeId)
    (ho : o.op = .call { callee := .builtin .append, args := #[s, x], argTypes := #[t, t] })
    {e : TypeId} {sz bytes : Nat} {z : Value} (he : Elem P t e sz bytes z) {o1 o2 : Own} {τ τ2 : Nat} (A : Option Addr) (n : Nat) (xs : List Value) (hs : a.eval s = .slice A n n) (hR : Sl w o1 τ sz A n n xs) (hn : 0 < n) (B : Option Addr) (m d : Nat) (news : List Value) (hx : a.eval x = .slice B m d) (hS : Sl w o2 τ2 sz B m d news) (hm : 0 < m)
    (hbytes : (n + m) * bytes ≤ 140737488355328) (h63 : n + m ≤ maxLen)
    (h : ∀ c' w', Below w.heap.size w w' → Sl w' (fun _ => 0) 0 sz (some ⟨w.heap.size, 0, none⟩) (n + m) c' (xs ++ news) → atV Vs i (.slice (some ⟨w.heap.size, 0, none⟩) (n + m) c') w') : o.wp P a w (ObB Vs a w i o) Q := by
  obtain ⟨c', w', hrun, h2, h3⟩ := run_append_full (P := P) w o.type he hR hn hS hm hbytes h63
  unfold Oper.wp execOp
  simp only [ho, resolve, invoke, builtin, Sem.run_bind, Sem.run_pure, Result.andThen_ok, List.map_toArray, List.map_cons, List.map_nil, hs, hx, hrun]
  exact ObB.grown_ h2 (h c' w' h2 h3)
/-- A script that a value is. -/
def IsScript (m : Nat) (u : Value) (W : World) : Prop := ∃ A c ps, u = .slice A m c ∧ OpsAt W (fun _ => 0) 0 A m c ps
theorem grows_script (m : Nat) : Grows (IsScript m) := fun _ _ _ hb ⟨A, c, ps, h1, h2⟩ => ⟨A, c, ps, h1, h2.below hb⟩
/-- A slice of ops that a value is. -/
def IsOps (us : List OpL) (u : Value) (W : World) : Prop := ∃ g, u = .slice (some ⟨g, 0, none⟩) us.length us.length ∧ Sl W (fun _ => 0) 0 4 (some ⟨g, 0, none⟩) us.length us.length (opsCells us)
theorem grows_ops (us : List OpL) : Grows (IsOps us) := fun _ _ _ hb ⟨g, h1, h2⟩ => ⟨g, h1, h2.below hb⟩
theorem isOps_new (w : World) (us : List OpL) (n : Nat) (cs : Array Value) (hcs : cs = (opsCells us).toArray) (hn : us.length = n) (hm : us.length ≤ maxLen) : IsOps us (.slice (some ⟨w.heap.size, 0, none⟩) n n) (w.alloc (.cells cs 29)) := by
  subst hn; subst hcs
  exact ⟨_, rfl, Sl.fresh w 29 4 us.length (opsCells us) (opsCells_len us) hm⟩

theorem el_op : Elem Try.prog 23 29 4 32 (.agg #[.int .u8 0, .int .u8 0, .int .u8 0, .slice none 0 0]) := ⟨Try.underlying23, by kernel_rfl, rfl, by decide⟩

/-- A literal's bytes, frozen, as an op's body. -/
theorem lit_body (w : World) (b : UInt8) (v : Int) (hv : (b.toNat : Int) = v) (K S T N : Nat) (hN : w.heap.size = N) (hK : K < 256) (hS : S < 256) (hT : T < 256) : OpL.Ok (w.alloc (.cells #[.int .u8 v] 5 (1, 2))) ⟨K, S, T, some ⟨N, 0, none⟩, 1, 1⟩ := by
  subst hv; subst hN
  exact ⟨hK, hS, hT, by show 1 ≤ _; omega, [b], (Sl.lit w (fun _ => 0) 12 #[.int .u8 (b.toNat : Int)] 5 (1, 2) 1 rfl (by decide)).plain⟩
theorem nil_body (W : World) (K S T : Nat) (hK : K < 256) (hS : S < 256) (hT : T < 256) : OpL.Ok W ⟨K, S, T, none, 0, 0⟩ := ⟨hK, hS, hT, by show 0 ≤ _; omega, [], Sl.nil_ _ _ _ _ _ _ (Nat.zero_le _)⟩

theorem small_head (w : World) : ∃ (W : World) (us : List OpL), (((((w.alloc (.cells #[.int .u8 97] 5 (1, 2))).alloc (.cells #[.int .u8 98] 5 (1, 2))).alloc (.cells #[.int .u8 99] 5 (1, 2))).alloc (.cells #[.int .u8 100] 5 (1, 2))).alloc
      (.cells #[.int .u8 0, .int .u8 1, .int .u8 0, .slice (some ⟨w.heap.size, 0, none⟩) 1 1, .int .u8 0, .int .u8 1, .int .u8 0, .slice (some ⟨w.heap.size + 1, 0, none⟩) 1 1, .int .u8 0, .int .u8 0, .int .u8 0, .slice (some ⟨w.heap.size + 1 + 1, 0, none⟩) 1 1, .int .u8 3, .int .u8 0, .int .u8 0, .slice none 0 0, .int .u8 0, .int .u8 0, .int .u8 0, .slice (some ⟨w.heap.size + 1 + 1 + 1, 0, none⟩) 1 1] 29)) = W ∧
    us.length = 5 ∧ Below w.heap.size w W ∧ Sl W (fun _ => 0) 0 4 (some ⟨w.heap.size + 1 + 1 + 1 + 1, 0, none⟩) 5 5 (opsCells us) ∧ ∀ u ∈ us, u.Ok W := by
  obtain ⟨w1, h1⟩ : ∃ w1, w1 = w.alloc (.cells #[.int .u8 97] 5 (1, 2)) := ⟨_, rfl⟩
  obtain ⟨w2, h2⟩ : ∃ w2, w2 = w1.alloc (.cells #[.int .u8 98] 5 (1, 2)) := ⟨_, rfl⟩
  obtain ⟨w3, h3⟩ : ∃ w3, w3 = w2.alloc (.cells #[.int .u8 99] 5 (1, 2)) := ⟨_, rfl⟩
  obtain ⟨w4, h4⟩ : ∃ w4, w4 = w3.alloc (.cells #[.int .u8 100] 5 (1, 2)) := ⟨_, rfl⟩
  have z1 : w1.heap.size = w.heap.size + 1 := by rw [h1, World.size_alloc]
  have z2 : w2.heap.size = w.heap.size + 1 + 1 := by rw [h2, World.size_alloc, z1]
  have z3 : w3.heap.size = w.heap.size + 1 + 1 + 1 := by rw [h3, World.size_alloc, z2]
  have z4 : w4.heap.size = w.heap.size + 1 + 1 + 1 + 1 := by rw [h4, World.size_alloc, z3]
  have k1 : OpL.Ok w1 ⟨0, 1, 0, some ⟨w.heap.size, 0, none⟩, 1, 1⟩ := by rw [h1]; exact lit_body w 97 97 rfl 0 1 0 _ rfl (by omega) (by omega) (by omega)
  have k2 : OpL.Ok w2 ⟨0, 1, 0, some ⟨w.heap.size + 1, 0, none⟩, 1, 1⟩ := by rw [h2]; exact lit_body w1 98 98 rfl 0 1 0 _ z1 (by omega) (by omega) (by omega)
  have k3 : OpL.Ok w3 ⟨0, 0, 0, some ⟨w.heap.size + 1 + 1, 0, none⟩, 1, 1⟩ := by rw [h3]; exact lit_body w2 99 99 rfl 0 0 0 _ z2 (by omega) (by omega) (by omega)
  have k4 : OpL.Ok w4 ⟨0, 0, 0, some ⟨w.heap.size + 1 + 1 + 1, 0, none⟩, 1, 1⟩ := by rw [h4]; exact lit_body w3 100 100 rfl 0 0 0 _ z3 (by omega) (by omega) (by omega)
  have b12 : Below w1.heap.size w1 w2 := by rw [h2]; exact (Below.refl _ _).alloc (Nat.le_refl _) _
  have b23 : Below w2.heap.size w2 w3 := by rw [h3]; exact (Below.refl _ _).alloc (Nat.le_refl _) _
  have b34 : Below w3.heap.size w3 w4 := by rw [h4]; exact (Below.refl _ _).alloc (Nat.le_refl _) _
  have b01 : Below w.heap.size w w1 := by rw [h1]; exact (Below.refl _ _).alloc (Nat.le_refl _) _
  have q1 := ((k1.below b12).below b23).below b34
  have q2 := (k2.below b23).below b34
  have q3 := k3.below b34
  rw [← h1, ← h2, ← h3, ← h4]
  have b45 := fun ob => (Below.refl w4.heap.size w4).alloc (Nat.le_refl _) ob
  refine ⟨_, [⟨0, 1, 0, some ⟨w.heap.size, 0, none⟩, 1, 1⟩, ⟨0, 1, 0, some ⟨w.heap.size + 1, 0, none⟩, 1, 1⟩, ⟨0, 0, 0, some ⟨w.heap.size + 1 + 1, 0, none⟩, 1, 1⟩, ⟨3, 0, 0, none, 0, 0⟩, ⟨0, 0, 0, some ⟨w.heap.size + 1 + 1 + 1, 0, none⟩, 1, 1⟩], rfl, rfl, ?_, ?_, ?_⟩
  · exact (((b01.trans (b12.mono b01.size)).trans (b23.mono (by omega))).trans (b34.mono (by omega))).trans ((b45 _).mono (by omega))
  · rw [← z4]
    exact Sl.fresh w4 29 4 5 (opsCells [⟨0, 1, 0, some ⟨w.heap.size, 0, none⟩, 1, 1⟩, ⟨0, 1, 0, some ⟨w.heap.size + 1, 0, none⟩, 1, 1⟩, ⟨0, 0, 0, some ⟨w.heap.size + 1 + 1, 0, none⟩, 1, 1⟩, ⟨3, 0, 0, none, 0, 0⟩, ⟨0, 0, 0, some ⟨w.heap.size + 1 + 1 + 1, 0, none⟩, 1, 1⟩]) rfl (by decide)
  · intro u hu
    simp only [List.mem_cons, List.not_mem_nil, or_false] at hu
    rcases hu with rfl | rfl | rfl | rfl | rfl
    · exact q1.below (b45 _)
    · exact q2.below (b45 _)
    · exact q3.below (b45 _)
    · exact nil_body _ _ _ _ (by omega) (by omega) (by omega)
    · exact k4.below (b45 _)

/-- append(s, make([]byte, m)...), at a row of one's own. -/
theorem run_append_zeros_new {P : Program} {w0 : World} {B : Nat} (w : World) {t tn e : TypeId} (ty : TypeId) (he : Elem P t e 1 1 (.int .u8 0)) (hu : P.underlying tn = some (.int .i64)) (hw : NS B w0 w) {A : Option Addr} {n c : Nat} {xs : List Value} (hR : NRow B w e 1 A n c xs) (hn : 0 < n) (m : Nat) (hb : n + m ≤ 1000000) :
    ∃ A' c' w', (Builtin.append_ #[t, tn] ty #[.slice A n c, .int .i64 (m : Int)]).run P w = .ok (.slice A' (n + m) c') w' ∧ NS B w0 w' ∧ NRow B w' e 1 A' (n + m) c' (xs ++ List.replicate m (.int .u8 0)) := by
  rcases Nat.eq_zero_or_pos m with hm | hm
  · subst hm
    obtain ⟨i, hi, hz0, hz1, hz2⟩ := info_parts he.info
    obtain ⟨g, cur, rfl, hog, hB, hnc, hcm, hcs, htk⟩ := hR.form hn
    refine ⟨_, _, w, ?_, hw, by simpa using hR⟩
    have hw0 : IntKind.i64.wrap 0 = 0 := by decide
    simp [Builtin.append_, run_underlying he.under, run_underlying hu, sizeOf, typeInfo, hi, hz2, asInt, asIntOf, hw0, hnc, storeCells]
  · obtain ⟨A', c', w', hrun, h2, h3, -⟩ := run_append_zeros_row (P := P) w ty he hu (Nw B) 1 hR hn hm hb
    rw [Nw_ext hw.le'] at h2
    exact ⟨A', c', w', hrun, hw.app hR h3, h2⟩
theorem wpList_append_zeros {P : Program} {w0 : World} {B : Nat} (w : World) {ops : Array Oper} {rest : List Oper} {o : Oper} {a : Act} {Q : Exit → Act → World → Prop} (hgd : o.guard = none) (s x : Operand) (t tn : TypeId)
    (ho : o.op = .call { callee := .builtin .append, args := #[s, x], argTypes := #[t, tn] }) {e : TypeId} (he : Elem P t e 1 1 (.int .u8 0)) (hu : P.underlying tn = some (.int .i64)) (hw : NS B w0 w) (A : Option Addr) (n c : Nat) (xs : List Value) (hs : a.eval s = .slice A n c) (hR : NRow B w e 1 A n c xs) (hn : 0 < n) (m : Nat) (hx : a.eval x = .int .i64 (m : Int)) (hb : n + m ≤ 1000000)
    (h : ∀ A' c' w', NS B w0 w' → NRow B w' e 1 A' (n + m) c' (xs ++ List.replicate m (.int .u8 0)) → wpList P ops Q rest (a.put o.dst (.slice A' (n + m) c')) w') : wpList P ops Q (o :: rest) a w := by
  refine wpList_plain hgd fun K hK => ?_
  obtain ⟨A', c', w', hrun, h2, h3⟩ := run_append_zeros_new (P := P) w o.type he hu hw hR hn m hb
  unfold Oper.wp execOp
  simp only [ho, resolve, invoke, builtin, Sem.run_bind, Sem.run_pure, Result.andThen_ok, List.map_toArray, List.map_cons, List.map_nil, hs, hx, hrun]
  exact hK _ _ (h A' c' w' h2 h3)
theorem u8_some (v : Int) (h0 : 0 ≤ v) (h1 : v < 256) : ∃ x : UInt8, v = (x.toNat : Int) := ⟨UInt8.ofNat v.toNat, by simp; omega⟩
end Go.Proofs.Ytpmbfgpfpdenbaa

/- The obligations of region 14 of PacketSmall. -/
namespace Go.Proofs.Ytpmbfgpfpdenbaa
open Go.RowKit Go.Sort

def regionIn (n : Nat) : Code → Option (Array Oper)
  | .region id ops _ => if id = n then some ops else none
  | .seq a b => match regionIn n a with
    | some c => some c
    | none => regionIn n b
  | .block _ c => regionIn n c
  | .loop c => regionIn n c
  | .cond _ a b => match regionIn n a with
    | some c => some c
    | none => regionIn n b
  | _ => none
noncomputable def ops14 : Array Oper := ((Try.f6.body.bind (regionIn 14)).getD #[])
def Vs14 (gh gb j c1 : Nat) : List (Value → World → Prop) := [fun u _ => u = .slice (some ⟨gh, 0, none⟩) 5 5, fun u _ => u = .slice (some ⟨gh, 0, none⟩) 5 5, fun u _ => u = .slice (some ⟨gb, 0, none⟩) (1 + j) c1, fun u _ => u = .agg #[.int .u8 5, .int .u8 0, .int .u8 0, .slice (some ⟨gb, 0, none⟩) (1 + j) c1], fun u _ => u = .slice (some ⟨gb, 0, none⟩) (1 + j) c1, fun u _ => u = .int .i64 j, fun u _ => u = .slice (some ⟨gb, 0, none⟩) j c1, fun u _ => u = .agg #[.int .u8 5, .int .u8 0, .int .u8 0, .slice (some ⟨gb, 0, none⟩) j c1], fun u _ => u = .agg #[.int .u8 2, .int .u8 0, .int .u8 0, .slice none 0 0],
                 IsOps [⟨5, 0, 0, some ⟨gb, 0, none⟩, 1 + j, c1⟩, ⟨5, 0, 0, some ⟨gb, 0, none⟩, j, c1⟩, ⟨2, 0, 0, none, 0, 0⟩], IsScript 8, fun u _ => u = .bool true, fun u _ => u = .bool false]

set_option maxRecDepth 100000 in
set_option maxHeartbeats 4000000 in
theorem obs14 {gh gb j c1 : Nat} {us : List OpL} {W4 : World} (hc1 : 1 + j ≤ c1)
    (HHD : Hid (∀ W, Below W4.drew.heap.size W4.drew W → Sl W (fun _ => 0) 0 4 (some ⟨gh, 0, none⟩) 5 5 (opsCells us))) (HHU : Hid (∀ W, Below W4.drew.heap.size W4.drew W → ∀ u ∈ us, u.Ok W))
    (HOK : Hid (∀ u ∈ ([⟨5, 0, 0, some ⟨gb, 0, none⟩, 1 + j, c1⟩, ⟨5, 0, 0, some ⟨gb, 0, none⟩, j, c1⟩, ⟨2, 0, 0, none, 0, 0⟩] : List OpL), u.Ok W4.drew)) (a1 : Act) (e1 : a1.eval (.tmp 1) = .slice (some ⟨gh, 0, none⟩) 5 5) (e3 : a1.eval (.tmp 3) = .int .i64 j) (e4 : a1.eval (.tmp 4) = .slice (some ⟨gb, 0, none⟩) (1 + j) c1) (Q1 : Exit → Act → World → Prop) :
    ObsB Try.prog Q1 W4.drew (Vs14 gh gb j c1) a1 [some 72, some 73, some 74, some 75, some 76, some 77, some 78, some 79, some 80, some 81, some 82, some 83, some 84] [[], [0], [], [2], [], [], [4, 5], [6], [], [3, 7, 8], [1, 9], [10], [11]] 0 ops14.toList := by
  have hs5 : ∀ W, (Instr.slice 23 (.slice (some ⟨gh, 0, none⟩) 5 5) none (some (.int .i64 5)) (some (.int .i64 5))).run Try.prog W = .ok (.slice (some ⟨gh, 0, none⟩) 5 5) W := fun W => by
    have hi : (Try.prog.info? 29).map (fun i => (i.zero, i.size, i.bytes)) = some (some (.agg #[.int .u8 0, .int .u8 0, .int .u8 0, .slice none 0 0]), 4, 32) := by kernel_rfl
    obtain ⟨i, h1, h2, h3, h4⟩ := info_parts hi
    simp [Instr.slice, Instr.sliceBounds, Instr.sliceBound, asIntOf, run_underlying Try.underlying23, sizeOf, typeInfo, h1, Addr.add]
  have hsn := run_headA Try.prog 27 5 (.int .u8 0) 1 1 Try.underlying27 (by kernel_rfl) (some ⟨gb, 0, none⟩) (1 + j) c1 j (by omega)
  refine ⟨fun a w hb far need => ?_, ?_⟩
  · have x := ev ((far 1 (by decide)).trans e1)
    refine obB_K fun K hK => ?_
    go_simp
    exact hK.out _ _ (ObB.pure_ rfl)
  refine ⟨fun a w hb far need => ?_, ?_⟩
  · have x := ev (show a.eval (.tmp 72) = .slice (some ⟨gh, 0, none⟩) 5 5 from need 0 (by decide) 72 rfl)
    refine obB_K fun K hK => ?_
    go_simp
    exact hK.out _ _ (ObB.pure_ rfl)
  refine ⟨fun a w hb far need => ?_, ?_⟩
  · have x := ev ((far 4 (by decide)).trans e4)
    refine obB_K fun K hK => ?_
    go_simp
    exact hK.out _ _ (ObB.pure_ rfl)
  refine ⟨fun a w hb far need => ?_, ?_⟩
  · have x := ev (show a.eval (.tmp 74) = .slice (some ⟨gb, 0, none⟩) (1 + j) c1 from need 2 (by decide) 74 rfl)
    refine obB_K fun K hK => ?_
    go_simp
    exact hK.out _ _ (ObB.pure_ rfl)
  refine ⟨fun a w hb far need => ?_, ?_⟩
  · have x := ev ((far 4 (by decide)).trans e4)
    refine obB_K fun K hK => ?_
    go_simp
    exact hK.out _ _ (ObB.pure_ rfl)
  refine ⟨fun a w hb far need => ?_, ?_⟩
  · have x := ev ((far 3 (by decide)).trans e3)
    refine obB_K fun K hK => ?_
    go_simp
    exact hK.out _ _ (ObB.pure_ rfl)
  refine ⟨fun a w hb far need => ?_, ?_⟩
  · have x := ev (show a.eval (.tmp 76) = .slice (some ⟨gb, 0, none⟩) (1 + j) c1 from need 4 (by decide) 76 rfl)
    have y := ev (show a.eval (.tmp 77) = .int .i64 j from need 5 (by decide) 77 rfl)
    refine obB_K fun K hK => ?_
    go_simp
    exact hK.out _ _ (ObB.pure_ rfl)
  refine ⟨fun a w hb far need => ?_, ?_⟩
  · have x := ev (show a.eval (.tmp 78) = .slice (some ⟨gb, 0, none⟩) j c1 from need 6 (by decide) 78 rfl)
    refine obB_K fun K hK => ?_
    go_simp
    exact hK.out _ _ (ObB.pure_ rfl)
  refine ⟨fun a w hb far need => ?_, ?_⟩
  · refine obB_K fun K hK => ?_
    go_simp
    exact hK.out _ _ (ObB.pure_ rfl)
  refine ⟨fun a w hb far need => ?_, ?_⟩
  · have x := ev (show a.eval (.tmp 75) = .agg #[.int .u8 5, .int .u8 0, .int .u8 0, .slice (some ⟨gb, 0, none⟩) (1 + j) c1] from need 3 (by decide) 75 rfl)
    have y := ev (show a.eval (.tmp 79) = .agg #[.int .u8 5, .int .u8 0, .int .u8 0, .slice (some ⟨gb, 0, none⟩) j c1] from need 7 (by decide) 79 rfl)
    have z := ev (show a.eval (.tmp 80) = .agg #[.int .u8 2, .int .u8 0, .int .u8 0, .slice none 0 0] from need 8 (by decide) 80 rfl)
    refine obB_K fun K hK => ?_
    go_simp
    exact hK.out _ _ (ObB.grown_ ((Below.refl _ _).alloc (Nat.le_refl _) _) (isOps_new _ [⟨5, 0, 0, some ⟨gb, 0, none⟩, 1 + j, c1⟩, ⟨5, 0, 0, some ⟨gb, 0, none⟩, j, c1⟩, ⟨2, 0, 0, none, 0, 0⟩] _ _ rfl rfl (by show 3 ≤ maxLen; decide)))
  refine ⟨fun a w hb far need => ?_, ?_⟩
  · have y : a.eval (.tmp 73) = .slice (some ⟨gh, 0, none⟩) 5 5 := need 1 (by decide) 73 rfl
    obtain ⟨g9, h9, s9⟩ : IsOps [⟨5, 0, 0, some ⟨gb, 0, none⟩, 1 + j, c1⟩, ⟨5, 0, 0, some ⟨gb, 0, none⟩, j, c1⟩, ⟨2, 0, 0, none, 0, 0⟩] (a.eval (.tmp 81)) w := need 9 (by decide) 81 rfl
    refine obB_append_full (.tmp 73) (.tmp 81) _ rfl el_op _ 5 (opsCells us) y (HHD.out w hb) (by omega) _ 3 3 _ h9 s9 (by omega) (by decide) (by decide) (fun c' w' hb' hs' => ?_)
    obtain ⟨ps, hP⟩ := ops_of (us := us ++ [⟨5, 0, 0, some ⟨gb, 0, none⟩, 1 + j, c1⟩, ⟨5, 0, 0, some ⟨gb, 0, none⟩, j, c1⟩, ⟨2, 0, 0, none, 0, 0⟩]) (by rw [opsCells, List.flatMap_append]; exact hs') (fun u hu => (List.mem_append.1 hu).elim (fun h => (HHU.out w hb u h).below hb') (fun h => ((HOK.out u h).below hb).below hb'))
    exact ⟨_, c', ps, rfl, hP⟩
  refine ⟨fun a w hb far need => ?_, ?_⟩
  · obtain ⟨A10, c10, ps, h10, hP⟩ : IsScript 8 (a.eval (.tmp 82)) w := need 10 (by decide) 82 rfl
    have x := ev h10
    have HP := Lib.hid hP
    clear hP h10
    refine obB_K fun K hK => ?_
    go_simp
    refine (PacketTells_walk w 65534 3 A10 8 c10 ps HP.out).mono ?_
    rintro e w' ⟨rfl, hb'⟩
    try go_simp
    exact hK.out _ _ (ObB.grown_ hb' rfl)
  refine ⟨fun a w hb far need => ?_, ?_⟩
  · have x := ev (show a.eval (.tmp 83) = .bool true from need 11 (by decide) 83 rfl)
    refine obB_K fun K hK => ?_
    go_simp
    exact hK.out _ _ (ObB.pure_ rfl)
  trivial
end Go.Proofs.Ytpmbfgpfpdenbaa
