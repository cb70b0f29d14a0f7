/-
  Joined: Mono, MonoB, PWrA, PWrB, PWrC.
-/
import Derived.Test.YtpmbfgpfpdenbaaOrders
import Derived.Test.YtpmbfgpfpdenbaaNew
import Derived.Maps.AppendAt
import Derived.Great.BuildSlice
import Derived.Test.YtpmbfgpfpdenbaaWinA
import Derived.Test.YtpmbfgpfpdenbaaRefN
import Derived.Test.YtpmbfgpfpdenbaaBytB
import Derived.Test.YtpmbfgpfpdenbaaBytA

/- A LAW ON REGIONS THAT DRAW THEIR ORDER: operations that read what lies there and make new memory: each yields a value of which something is known that stays true; whatever the order, all of it is known at the end. -/
namespace Go.Proofs.Ytpmbfgpfpdenbaa
open Go

theorem ev {a : Act} {t : Tmp} {v : Value} (h : a.eval (.tmp t) = v) : a.tmps[t]?.getD undef = v := by
  rw [← h]; simp [Act.eval, Array.getD_eq_getD_getElem?]
/-- Values put at the destinations of those operations that have come up. -/
def puts : List (Option Tmp) → Nat → (Nat → Bool) → (Nat → Value) → Act → Act
  | [], _, _, _, a => a
  | d :: ds, k, on, vs, a => puts ds (k + 1) on vs (if on k then a.put d (vs k) else a)

theorem puts_congr : ∀ (ds : List (Option Tmp)) (k : Nat) (on on' : Nat → Bool) (vs vs' : Nat → Value) (a : Act), (∀ i, k ≤ i → on i = on' i) → (∀ i, k ≤ i → vs i = vs' i) → puts ds k on vs a = puts ds k on' vs' a
  | [], _, _, _, _, _, _, _, _ => rfl
  | d :: ds, k, on, on', vs, vs', a, h1, h2 => by
    unfold puts
    rw [h1 k (Nat.le_refl _), h2 k (Nat.le_refl _)]
    exact puts_congr ds (k + 1) on on' vs vs' _ (fun i hi => h1 i (by omega)) (fun i hi => h2 i (by omega))

theorem puts_comm : ∀ (ds : List (Option Tmp)) (k : Nat) (on : Nat → Bool) (vs : Nat → Value) (a : Act) (d : Option Tmp) (v : Value), (∀ x ∈ ds, ∀ e, x = some e → d ≠ some e) → (puts ds k on vs a).put d v = puts ds k on vs (a.put d v)
  | [], _, _, _, _, _, _, _ => rfl
  | x :: ds, k, on, vs, a, d, v, h => by
    unfold puts
    rw [puts_comm ds (k + 1) on vs _ d v (fun y hy => h y (List.mem_cons_of_mem _ hy))]
    congr 1
    split
    · exact Act.put_comm a _ _ (h x List.mem_cons_self)
    · rfl

theorem puts_set : ∀ (ds : List (Option Tmp)) (k : Nat) (on : Nat → Bool) (vs : Nat → Value) (a : Act) (i : Nat) (d : Option Tmp) (v : Value), ds[i]? = some d → on (k + i) = false → ds.Pairwise (fun x y => ∀ e, x = some e → y ≠ some e) →
    (puts ds k on vs a).put d v = puts ds k (fun j => if j = k + i then true else on j) (fun j => if j = k + i then v else vs j) a
  | [], _, _, _, _, _, _, _, hi, _, _ => by simp at hi
  | x :: ds, k, on, vs, a, i, d, v, hi, hon, hp => by
    obtain ⟨hp1, hp2⟩ := List.pairwise_cons.1 hp
    cases i with
    | zero =>
      simp only [List.getElem?_cons_zero, Option.some.injEq] at hi
      subst hi
      unfold puts
      simp only [Nat.add_zero] at hon ⊢
      simp only [hon, Bool.false_eq_true, if_false, if_true]
      rw [puts_comm ds (k + 1) on vs a x v (fun y hy e he hx => hp1 y hy e hx he)]
      exact puts_congr ds (k + 1) _ _ _ _ _ (fun j hj => by rw [if_neg (by omega)]) (fun j hj => by rw [if_neg (by omega)])
    | succ i =>
      simp only [List.getElem?_cons_succ] at hi
      unfold puts
      rw [puts_set ds (k + 1) on vs _ i d v hi (by rw [← hon]; congr 1; omega) hp2]
      have hk : ¬ k = k + (i + 1) := by omega
      simp only [if_neg hk]
      exact puts_congr ds (k + 1) _ _ _ _ _ (fun j _ => by congr 1; exact propext ⟨fun h => by omega, fun h => by omega⟩) (fun j _ => by congr 1; exact propext ⟨fun h => by omega, fun h => by omega⟩)

theorem eval_puts_far : ∀ (ds : List (Option Tmp)) (k : Nat) (on : Nat → Bool) (vs : Nat → Value) (a : Act) (x : Operand), (∀ t, x = .tmp t → some t ∉ ds) → (puts ds k on vs a).eval x = a.eval x
  | [], _, _, _, _, _, _ => rfl
  | d :: ds, k, on, vs, a, x, h => by
    unfold puts
    rw [eval_puts_far ds (k + 1) on vs _ x (fun t ht hm => h t ht (List.mem_cons_of_mem _ hm))]
    split
    · exact Act.eval_put (fun e he hx => h e hx (by rw [he]; exact List.mem_cons_self))
    · rfl

theorem size_put (a : Act) (d : Option Tmp) (v : Value) : (a.put d v).tmps.size = a.tmps.size := by
  cases d <;> simp [Act.put]

theorem eval_puts_at : ∀ (ds : List (Option Tmp)) (k : Nat) (on : Nat → Bool) (vs : Nat → Value) (a : Act) (i : Nat) (t : Tmp), ds[i]? = some (some t) → on (k + i) = true → t < a.tmps.size → ds.Pairwise (fun x y => ∀ e, x = some e → y ≠ some e) → (puts ds k on vs a).eval (.tmp t) = vs (k + i)
  | [], _, _, _, _, _, _, hi, _, _, _ => by simp at hi
  | x :: ds, k, on, vs, a, i, t, hi, hon, hs, hp => by
    obtain ⟨hp1, hp2⟩ := List.pairwise_cons.1 hp
    cases i with
    | zero =>
      simp only [List.getElem?_cons_zero, Option.some.injEq] at hi
      subst hi
      unfold puts
      rw [Nat.add_zero] at hon ⊢
      rw [hon, if_pos rfl]
      rw [eval_puts_far ds (k + 1) on vs _ (.tmp t) (fun t' ht hm => by cases ht; exact hp1 _ hm t rfl rfl)]
      simp [Act.eval, Act.put, hs]
    | succ i =>
      simp only [List.getElem?_cons_succ] at hi
      unfold puts
      have e : k + (i + 1) = k + 1 + i := by omega
      rw [e] at hon ⊢
      refine eval_puts_at ds (k + 1) on vs _ i t hi hon ?_ hp2
      split
      · rw [size_put]; exact hs
      · exact hs

section
variable {P : Program} {ops : Array Oper} {Q : Exit → Act → World → Prop} {md : Region.Mode}

/-- What is owed of one operation: 'needs i' tells of whose values it knows something, 'eats i' of which values nobody needs to know anything behind it; γ is a ghost beside the world. -/
def MonoOb {Γ : Type} (P : Program) (Q : Exit → Act → World → Prop) (Base : World → Γ → Prop) (V : Nat → Value → World → Γ → Prop) (a0 : Act) (ds : List (Option Tmp)) (needs eats : List (List Nat)) (i : Nat) (o : Oper) : Prop :=
  ∀ (a : Act) (w : World) (γ : Γ), Base w γ → (∀ t, some t ∉ ds → a.eval (.tmp t) = a0.eval (.tmp t)) → (∀ j ∈ needs.getD i [], ∀ d, ds[j]? = some (some d) → V j (a.eval (.tmp d)) w γ) →
    o.wp P a w (fun a' w' => ∃ v γ', a' = a.put o.dst v ∧ Base w' γ' ∧ (∀ j u, j ∉ eats.getD i [] → V j u w γ → V j u w' γ') ∧ V i v w' γ') Q

def MonoObs {Γ : Type} (P : Program) (Q : Exit → Act → World → Prop) (Base : World → Γ → Prop) (V : Nat → Value → World → Γ → Prop) (a0 : Act) (ds : List (Option Tmp)) (needs eats : List (List Nat)) : Nat → List Oper → Prop
  | _, [] => True
  | i, o :: l => MonoOb P Q Base V a0 ds needs eats i o ∧ MonoObs P Q Base V a0 ds needs eats (i + 1) l

theorem MonoObs.at_ {Γ : Type} {Base : World → Γ → Prop} {V : Nat → Value → World → Γ → Prop} {a0 : Act} {ds : List (Option Tmp)} {needs eats : List (List Nat)} : ∀ (l : List Oper) (k : Nat), MonoObs P Q Base V a0 ds needs eats k l → ∀ (i : Nat) (o : Oper), l[i]? = some o → MonoOb P Q Base V a0 ds needs eats (k + i) o
  | [], _, _, i, o, h => by simp at h
  | x :: l, k, ⟨h1, h2⟩, i, o, h => by
    cases i with
    | zero => simp only [List.getElem?_cons_zero, Option.some.injEq] at h; subst h; exact h1
    | succ i =>
      have := MonoObs.at_ l (k + 1) h2 i o (by simpa using h)
      rwa [show k + (i + 1) = k + 1 + i by omega]

/-- The form of the region: no guard; edges point backwards; the destinations are apart and lie in the frame; what is needed is waited for; what is eaten is needed by nobody else. -/
def monoForm (md : Region.Mode) (ops : Array Oper) (ds : List (Option Tmp)) (needs eats : List (List Nat)) (n : Nat) : Bool :=
  ops.toList.all (fun o => o.guard.isNone) && (List.range ops.size).all (fun i => (ops[i]?).all fun o => o.after.all fun e => decide (e.on < i)) &&
  ops.toList.map (·.dst) == ds && (List.range ds.length).all (fun i => (List.range i).all fun j => (ds[i]? == some none) || (ds[j]? == some none) || ds[i]? != ds[j]?) && ds.all (fun d => d.all fun t => decide (t < n)) &&
  (List.range ops.size).all (fun i => (needs.getD i []).all fun j => (ops[i]?).all fun o => o.after.any fun e => e.on == j && Region.binds md e) &&
  (List.range ops.size).all (fun i => (eats.getD i []).all fun j => (List.range ops.size).all fun k => k == i || !(needs.getD k []).contains j)

theorem pairwise_of {ds : List (Option Tmp)} (h : ∀ i j, j < i → i < ds.length → ds[i]? = some none ∨ ds[j]? = some none ∨ ds[i]? ≠ ds[j]?) : ds.Pairwise (fun x y => ∀ e, x = some e → y ≠ some e) := by
  rw [List.pairwise_iff_getElem]
  intro j i hj hi hji e hx hy
  rcases h i j hji hi with h | h | h
  · rw [List.getElem?_eq_getElem hi, hy] at h; simp at h
  · rw [List.getElem?_eq_getElem hj, hx] at h; simp at h
  · rw [List.getElem?_eq_getElem hi, List.getElem?_eq_getElem hj, hx, hy] at h; exact h rfl

theorem wpAny_mono {Γ : Type} {Base : World → Γ → Prop} {V : Nat → Value → World → Γ → Prop} {a0 : Act} {ds : List (Option Tmp)} {needs eats : List (List Nat)} (hf : monoForm md ops ds needs eats a0.tmps.size = true) (hob : MonoObs P Q Base V a0 ds needs eats 0 ops.toList)
    (hQ : ∀ (vs : Nat → Value) (w : World) (γ : Γ), Base w γ → (∀ i, i < ops.size → (∀ k, k < ops.size → i ∉ eats.getD k []) → V i (vs i) w γ) → Q .normal (puts ds 0 (fun _ => true) vs a0) w) :
    ∀ (fuel : Nat) (listed : Array Bool) (vs : Nat → Value) (w : World) (γ : Γ), listed.size = ops.size → listed.toList.count false ≤ fuel → Base w γ → (∀ i, listed[i]? = some true → (∀ k, listed[k]? = some true → i ∉ eats.getD k []) → V i (vs i) w γ) →
      wpAny P md ops Q fuel listed (puts ds 0 (fun i => listed.getD i false) vs a0) w := by
  simp only [monoForm, Bool.and_eq_true] at hf
  obtain ⟨⟨⟨⟨⟨⟨hf1, hf2⟩, hf3⟩, hf4⟩, hf5⟩, hf6⟩, hf7⟩ := hf
  have hneed : ∀ (i : Nat) (o : Oper), ops[i]? = some o → ∀ j ∈ needs.getD i [], ∃ e ∈ o.after, e.on = j ∧ Region.binds md e = true := fun i o h j hj => by
    have hi : i < ops.size := by
      rcases Nat.lt_or_ge i ops.size with h' | h'
      · exact h'
      · rw [Array.getElem?_eq_none h'] at h; cases h
    have := List.all_eq_true.1 (List.all_eq_true.1 hf6 i (List.mem_range.2 hi)) j hj
    rw [h] at this
    simp only [Option.all_some] at this
    obtain ⟨e, he, h2⟩ := Array.any_eq_true'.1 this
    simp only [Bool.and_eq_true, beq_iff_eq] at h2
    exact ⟨e, he, h2⟩
  have heat : ∀ (i k j : Nat), i < ops.size → k < ops.size → j ∈ eats.getD i [] → j ∈ needs.getD k [] → k = i := fun i k j hi hk hj hn => by
    have := List.all_eq_true.1 (List.all_eq_true.1 (List.all_eq_true.1 hf7 i (List.mem_range.2 hi)) j hj) k (List.mem_range.2 hk)
    simp only [Bool.or_eq_true, beq_iff_eq, Bool.not_eq_true', List.contains_eq_mem, decide_eq_false_iff_not] at this
    rcases this with h | h
    · exact h
    · exact absurd hn h
  have hgd : ∀ (i : Nat) (o : Oper), ops[i]? = some o → o.guard = none := fun i o h => by
    have := List.all_eq_true.1 hf1 o (by rw [Array.mem_toList_iff]; exact Array.mem_of_getElem? h)
    simpa using this
  have hbk : ∀ (i : Nat) (o : Oper), ops[i]? = some o → ∀ e ∈ o.after, e.on < i := fun i o h e he => by
    have hi : i < ops.size := by
      rcases Nat.lt_or_ge i ops.size with h' | h'
      · exact h'
      · rw [Array.getElem?_eq_none h'] at h; cases h
    have := List.all_eq_true.1 hf2 i (List.mem_range.2 hi)
    rw [h] at this
    simp only [Option.all_some] at this
    simpa using Array.all_eq_true'.1 this e he
  have hds : ops.toList.map (·.dst) = ds := by simpa using hf3
  have hlen : ds.length = ops.size := by rw [← hds]; simp
  have hdst : ∀ (i : Nat) (o : Oper), ops[i]? = some o → ds[i]? = some o.dst := fun i o h => by
    rw [← hds, List.getElem?_map, Array.getElem?_toList, h]; rfl
  have hpw : ds.Pairwise (fun x y => ∀ e, x = some e → y ≠ some e) := pairwise_of fun i j hj hi => by
    have h1 := List.all_eq_true.1 (List.all_eq_true.1 hf4 i (List.mem_range.2 hi)) j (List.mem_range.2 hj)
    simp only [Bool.or_eq_true, beq_iff_eq, bne_iff_ne] at h1
    rcases h1 with (h1 | h1) | h1
    · exact .inl h1
    · exact .inr (.inl h1)
    · exact .inr (.inr h1)
  have hsz : ∀ t, some t ∈ ds → t < a0.tmps.size := fun t ht => by
    have := List.all_eq_true.1 hf5 _ ht
    simpa using this
  -- all have come up, if none is ready
  have hall : ∀ listed : Array Bool, listed.size = ops.size → Region.ready md ops listed = [] → ∀ i, i < ops.size → listed[i]? = some true := by
    intro listed hls hr i
    induction i using Nat.strongRecOn with
    | ind i ih =>
      intro hi
      obtain ⟨b, hb⟩ : ∃ b, listed[i]? = some b := ⟨_, Array.getElem?_eq_getElem (by omega)⟩
      cases b with
      | true => exact hb
      | false =>
        exfalso
        have hmem : i ∈ Region.ready md ops listed := by
          refine mem_ready.2 ⟨by simp [Array.getD_eq_getD_getElem?, hb], ops[i], Array.getElem?_eq_getElem hi, fun e he _ => ?_⟩
          have hlt := hbk i _ (Array.getElem?_eq_getElem hi) e he
          have := ih e.on hlt (by omega)
          simp [Array.getD_eq_getD_getElem?, this]
        rw [hr] at hmem
        cases hmem
  have hfin : ∀ (listed : Array Bool) (vs : Nat → Value) (w : World) (γ : Γ), listed.size = ops.size → Base w γ → (∀ i, listed[i]? = some true → (∀ k, listed[k]? = some true → i ∉ eats.getD k []) → V i (vs i) w γ) → Region.ready md ops listed = [] → Q .normal (puts ds 0 (fun i => listed.getD i false) vs a0) w := by
    intro listed vs w γ hls hb hv hr
    have h := hall listed hls hr
    have := hQ vs w γ hb (fun i hi he => hv i (h i hi) (fun k hk => he k (by
      rcases Nat.lt_or_ge k ops.size with h' | h'
      · exact h'
      · rw [Array.getElem?_eq_none (by omega)] at hk; cases hk)))
    have e : puts ds 0 (fun i => listed.getD i false) vs a0 = puts ds 0 (fun _ => true) vs a0 := by
      clear hQ hob hf5 hf4 hsz this
      -- beyond the list nothing is asked
      have key : ∀ (l : List (Option Tmp)) (k : Nat) (a : Act), (∀ i, k ≤ i → i < k + l.length → listed.getD i false = true) → puts l k (fun i => listed.getD i false) vs a = puts l k (fun _ => true) vs a := by
        intro l
        induction l with
        | nil => intro k a _; rfl
        | cons d l ih =>
          intro k a hk
          unfold puts
          simp only [hk k (Nat.le_refl _) (by simp), if_true]
          exact ih (k + 1) _ (fun i h1 h2 => hk i (by omega) (by simp only [List.length_cons]; omega))
      exact key ds 0 a0 (fun i _ hi => by simp [Array.getD_eq_getD_getElem?, h i (by omega)])
    rw [e]
    exact this
  intro fuel
  induction fuel with
  | zero =>
    intro listed vs w γ hls hc hb hv
    have hr : Region.ready md ops listed = [] := by
      refine List.eq_nil_iff_forall_not_mem.2 fun i hi => ?_
      obtain ⟨h1, o, ho, -⟩ := mem_ready.1 hi
      have hil : i < listed.size := by
        rcases Nat.lt_or_ge i ops.size with h' | h'
        · omega
        · rw [Array.getElem?_eq_none h'] at ho; cases ho
      have hfm : false ∈ listed.toList := by
        have : listed[i] = false := by simpa [Array.getD_eq_getD_getElem?, Array.getElem?_eq_getElem hil] using h1
        rw [← this]; simp
      have := List.count_pos_iff.2 hfm
      omega
    exact ⟨hr, hfin listed vs w γ hls hb hv hr⟩
  | succ fuel ih =>
    intro listed vs w γ hls hc hb hv
    refine ⟨hfin listed vs w γ hls hb hv, fun i hi => ?_⟩
    obtain ⟨h1, o, ho, hall'⟩ := mem_ready.1 hi
    have hil : i < listed.size := by
      rcases Nat.lt_or_ge i ops.size with h' | h'
      · omega
      · rw [Array.getElem?_eq_none h'] at ho; cases ho
    have hif : listed[i]? = some false := by
      rw [Array.getElem?_eq_getElem hil]
      simpa [Array.getD_eq_getD_getElem?, Array.getElem?_eq_getElem hil] using h1
    unfold wpOp
    rw [ho]
    have hw : Region.wanted o (yielded ops (puts ds 0 (fun i => listed.getD i false) vs a0).tmps) = true := by simp [Region.wanted, hgd i o ho]
    simp only [hw, if_true]
    refine .inl ?_
    have hobi := MonoObs.at_ ops.toList 0 hob i o (by rw [Array.getElem?_toList]; exact ho)
    rw [Nat.zero_add] at hobi
    refine Oper.wp_mono ?_ (hobi _ w γ hb (fun t ht => eval_puts_far ds 0 _ vs a0 (.tmp t) (fun t' h => by cases h; exact ht)) (fun j hj d hd => ?_))
    · rintro a' w' ⟨v, γ', rfl, hb', hst, hv'⟩
      rw [puts_set ds 0 _ vs a0 i o.dst v (hdst i o ho) (by simp [Array.getD_eq_getD_getElem?, hif]) hpw]
      have := ih (listed.setIfInBounds i true) (fun j => if j = 0 + i then v else vs j) w' γ' (by simp [hls]) ?_ hb' (fun j hj hje => ?_)
      · refine (congrArg (fun a => wpAny P md ops Q fuel (listed.setIfInBounds i true) a w') (puts_congr ds 0 _ _ _ _ a0 (fun j _ => ?_) (fun j _ => rfl))).mpr this
        simp only [Nat.zero_add]
        by_cases hji : j = i
        · subst hji; simp [Array.getD_eq_getD_getElem?, hil]
        · rw [if_neg hji]; simp [Array.getD_eq_getD_getElem?, Array.getElem?_setIfInBounds_ne (Ne.symm hji)]
      · rw [Array.toList_setIfInBounds, List.count_set (by simpa using hil)]
        have hx : listed.toList[i]'(by simpa using hil) = false := by
          rw [Array.getElem?_eq_getElem hil] at hif
          simpa using hif
        simp only [hx, beq_self_eq_true, if_true]
        have e0 : (true == false) = false := rfl
        simp only [e0, Bool.false_eq_true, if_false]
        omega
      · simp only [Nat.zero_add]
        by_cases hji : j = i
        · subst hji; rw [if_pos rfl]; exact hv'
        · rw [if_neg hji]
          rw [Array.getElem?_setIfInBounds_ne (Ne.symm hji)] at hj
          refine hst j _ (hje i (by simp [hil])) (hv j hj fun k hk => hje k ?_)
          by_cases hki : k = i
          · subst hki; simp [hil]
          · rw [Array.getElem?_setIfInBounds_ne (Ne.symm hki)]; exact hk
    · obtain ⟨e, he, hej, hbind⟩ := hneed i o ho j hj
      subst hej
      have hon := hall' e he hbind
      have hlt := hbk i o ho e he
      have hont : listed[e.on]? = some true := by
        rw [Array.getElem?_eq_getElem (by omega)]
        simpa [Array.getD_eq_getD_getElem?, Array.getElem?_eq_getElem (show e.on < listed.size by omega)] using hon
      have hev := eval_puts_at ds 0 (fun i => listed.getD i false) vs a0 e.on d hd (by simpa using hon) (hsz d (List.mem_of_getElem? hd)) hpw
      rw [hev, Nat.zero_add]
      refine hv _ hont fun k hk hm => ?_
      have hks : k < ops.size := by
        rcases Nat.lt_or_ge k ops.size with h' | h'
        · exact h'
        · rw [Array.getElem?_eq_none (by omega)] at hk; cases hk
      have := heat k i e.on hks (by omega) hm hj
      subst this
      rw [hif] at hk
      cases hk

theorem wp_region_mono {Γ : Type} {Base : World → Γ → Prop} {V : Nat → Value → World → Γ → Prop} {id : Nat} {a0 : Act} {w : World} (γ : Γ) (ds : List (Option Tmp)) (needs eats : List (List Nat)) (hm : P.follows .mixedOrders = true) (hf : monoForm .any ops ds needs eats a0.tmps.size = true) (hb : Base w.drew γ) (hob : MonoObs P Q Base V a0 ds needs eats 0 ops.toList)
    (hQ : ∀ (vs : Nat → Value) (w : World) (γ : Γ), Base w γ → (∀ i, i < ops.size → (∀ k, k < ops.size → i ∉ eats.getD k []) → V i (vs i) w γ) → Q .normal (puts ds 0 (fun _ => true) vs a0) w) : (Code.region id ops true).wp P Q a0 w := by
  refine wp_region_any hm ?_
  have := wpAny_mono hf hob hQ ops.size (Array.replicate ops.size false) (fun _ => undef) w.drew γ (by simp) (by simp) hb (fun i hi => by
    exfalso
    rcases Nat.lt_or_ge i ops.size with h | h
    · rw [Array.getElem?_eq_getElem (by simpa using h)] at hi; simp at hi
    · rw [Array.getElem?_eq_none (by simpa using h)] at hi; cases hi)
  have e : puts ds 0 (fun i => (Array.replicate ops.size false).getD i false) (fun _ => undef) a0 = a0 := by
    have key : ∀ (l : List (Option Tmp)) (k : Nat) (a : Act), puts l k (fun i => (Array.replicate ops.size false).getD i false) (fun _ => undef) a = a := by
      intro l
      induction l with
      | nil => intro k a; rfl
      | cons d l ih =>
        intro k a
        unfold puts
        have : (Array.replicate ops.size false).getD k false = false := by
          rw [Array.getD_eq_getD_getElem?]
          rcases Nat.lt_or_ge k ops.size with h | h
          · rw [Array.getElem?_eq_getElem (by simpa using h)]; simp
          · rw [Array.getElem?_eq_none (by simpa using h)]; rfl
        simp only [this, Bool.false_eq_true, if_false]
        exact ih (k + 1) a
    exact key ds 0 a0
  rw [e] at this
  exact this

/-- The same; the obligations are shown for whatever frame reads as this one. -/
theorem wp_region_monoA {Γ : Type} {Base : World → Γ → Prop} {V : Nat → Value → World → Γ → Prop} {id : Nat} {a0 : Act} {w : World} (γ : Γ) (ds : List (Option Tmp)) (needs eats : List (List Nat)) (hm : P.follows .mixedOrders = true) (hf : monoForm .any ops ds needs eats a0.tmps.size = true) (hb : Base w.drew γ)
    (hob : ∀ a1 : Act, (∀ t, a1.eval (.tmp t) = a0.eval (.tmp t)) → ∀ Q1 : Exit → Act → World → Prop, MonoObs P Q1 Base V a1 ds needs eats 0 ops.toList)
    (hQ : ∀ (vs : Nat → Value) (w : World) (γ : Γ), Base w γ → (∀ i, i < ops.size → (∀ k, k < ops.size → i ∉ eats.getD k []) → V i (vs i) w γ) → Q .normal (puts ds 0 (fun _ => true) vs a0) w) : (Code.region id ops true).wp P Q a0 w :=
  wp_region_mono γ ds needs eats hm hf hb (hob a0 (fun _ => rfl) Q) hQ

/-- An operation that yields a value and leaves the world alone. -/
theorem ob_value {Γ : Type} {Base : World → Γ → Prop} {V : Nat → Value → World → Γ → Prop} {a : Act} {w : World} {γ : Γ} {i : Nat} {o : Oper} {v : Value} {E : List Nat} (hb : Base w γ) (h : (execOp a.eval o).run P w = .ok (.value v) w) (hV : V i v w γ) :
    o.wp P a w (fun a' w' => ∃ v γ', a' = a.put o.dst v ∧ Base w' γ' ∧ (∀ j u, j ∉ E → V j u w γ → V j u w' γ') ∧ V i v w' γ') Q := by
  unfold Oper.wp
  rw [h]
  exact ⟨v, γ, rfl, hb, fun _ _ _ h => h, hV⟩
end
end Go.Proofs.Ytpmbfgpfpdenbaa

/- Obligations for regions whose operations make new memory: rows that are open to one append, slices that are closed. -/
namespace Go.Proofs.Ytpmbfgpfpdenbaa
open Go.RowKit

/-- As Step, but that blocks with a tag of ts may be tagged anew. -/
structure Keep (ts : List Nat) (w : World) (o : Own) (w' : World) (o' : Own) : Prop where
  os : w'.os = w.os
  tape : w'.tape = w.tape
  output : w'.output = w.output
  size : w.heap.size ≤ w'.heap.size
  own : ∀ k, k < w.heap.size → o k ∉ ts → o' k = o k
  block : ∀ k, k < w.heap.size → o k ∉ ts → w'.heap[k]? = w.heap[k]?

theorem Step.keep {ts : List Nat} {w w' : World} {o o' : Own} (h : Step ts w o w' o') : Keep ts w o w' o' := ⟨h.os, h.tape, h.output, h.size, fun k hk _ => h.own k hk, h.block⟩
theorem Keep.refl (ts : List Nat) (w : World) (o : Own) : Keep ts w o w o := (Step.refl ts w o).keep
/-- The step that is as the Keep, but for the tags. -/
theorem Keep.step {ts : List Nat} {w w' : World} {o o' : Own} (h : Keep ts w o w' o') : Step ts w o w' (fun k => if k < w.heap.size then o k else o' k) :=
  ⟨h.os, h.tape, h.output, h.size, fun k hk => by simp [hk], h.block⟩
section
variable {ts : List Nat} {w w' : World} {o o' : Own} {τ : Nat} {e : TypeId} {sz n c : Nat} {A : Option Addr} {xs : List Value}
theorem Sl.keep (h : Sl w o τ sz A n c xs) (hk : Keep ts w o w' o') (hτ : τ ∉ ts) : Sl w' o' τ sz A n c xs := by
  have h2 := h.step hk.step hτ
  refine ⟨h2.1, h2.2.1, h2.2.2.1, fun hn => ?_⟩
  obtain ⟨g, off, hA, ho, hg, hc⟩ := h.2.2.2 hn
  obtain ⟨g', off', hA', -, hg', hc'⟩ := h2.2.2.2 hn
  rw [hA] at hA'; injection hA' with e1; injection e1 with e1 e2; subst e1; subst e2
  exact ⟨g, off, hA, (hk.own g hg (by rw [ho]; exact hτ)).trans ho, hg', hc'⟩
theorem Row.keep (h : Row w o τ e sz A n c xs) (hk : Keep ts w o w' o') (hτ : τ ∉ ts) : Row w' o' τ e sz A n c xs :=
  ⟨(h.step hk.step hτ).1, fun ad ha => (hk.own _ (h.lt ha) (by rw [h.2 ad ha]; exact hτ)).trans (h.2 ad ha)⟩
end

/-- Tags of open rows. -/
def OpenTag (τ : Nat) : Prop := 51 ≤ τ ∧ τ ≤ 59
/-- Tags of closed slices. -/
def ShutTag (t : Nat) : Prop := t = 10 ∨ t = 13 ∨ t = 60
theorem ShutTag.not {t : Nat} (h : ShutTag t) : ¬ OpenTag t := by unfold ShutTag OpenTag at *; omega
/-- What was there is there, with its tags, which are small. -/
def BaseO (W0 : World) (o0 : Own) (w : World) (o : Own) : Prop := Step [] W0 o0 w o ∧ ∀ k, k < W0.heap.size → o0 k ≤ 50
theorem BaseO.keep {W0 w w' : World} {o0 o o' : Own} {ts : List Nat} (h : BaseO W0 o0 w o) (hk : Keep ts w o w' o') (ho : ∀ t ∈ ts, OpenTag t) : BaseO W0 o0 w' o' := by
  have n : ∀ k, k < W0.heap.size → o k ∉ ts := fun k hk' hm => by
    have h1 := (ho _ hm).1
    have h2 := h.2 k hk'
    rw [h.1.own k hk'] at h1
    omega
  exact ⟨⟨hk.os.trans h.1.os, hk.tape.trans h.1.tape, hk.output.trans h.1.output, Nat.le_trans h.1.size hk.size, fun k hk' => (hk.own k (Nat.lt_of_lt_of_le hk' h.1.size) (n k hk')).trans (h.1.own k hk'), fun k hk' h0 => (hk.block k (Nat.lt_of_lt_of_le hk' h.1.size) (n k hk')).trans (h.1.block k hk' h0)⟩, h.2⟩
theorem BaseO.below {W0 w : World} {o0 o : Own} (h : BaseO W0 o0 w o) : Below W0.heap.size W0 w := h.1.to_below (by simp)
theorem Sl.base {W0 w : World} {o o0 : Own} {τ0 sz n c : Nat} {A : Option Addr} {xs : List Value} (h : Sl W0 o0 τ0 sz A n c xs) (hb : BaseO W0 o0 w o) : Sl w o τ0 sz A n c xs := h.step hb.1 (by simp)

/-- What is known of a value. -/
inductive Kind where
  | any
  | known (v : Value)
  | row (τ : Nat) (xs : List UInt8)
  | closed (xs : List UInt8)
  | many (ls : List (List UInt8))

def Kind.tag : Kind → Nat
  | .row τ _ => τ
  | _ => 0
def Kind.says : Kind → Value → World → Own → Prop
  | .any, _, _, _ => True
  | .known v, u, _, _ => u = v
  | .row τ xs, u, w, o => ∃ A c, u = .slice A xs.length c ∧ Row w o τ 5 1 A xs.length c (byts xs)
  | .closed xs, u, w, o => ∃ A c t, u = .slice A xs.length c ∧ ShutTag t ∧ Sl w o t 1 A xs.length c (byts xs)
  | .many ls, u, w, o => ∃ A c vs, u = .slice A ls.length c ∧ Row w o 70 27 1 A ls.length c vs ∧ ∀ (i : Nat) (p : List UInt8), ls[i]? = some p → ∃ A' c' t, vs[i]? = some (.slice A' p.length c') ∧ ShutTag t ∧ Sl w o t 1 A' p.length c' (byts p)
theorem Kind.keep {k : Kind} {u : Value} {w w' : World} {o o' : Own} {ts : List Nat} (h : k.says u w o) (hk : Keep ts w o w' o') (ho : ∀ t ∈ ts, OpenTag t) (ht : k.tag ∉ ts) : k.says u w' o' := by
  have n70 : 70 ∉ ts := fun h => absurd (ho 70 h).2 (by decide)
  have nn : ∀ t, ShutTag t → t ∉ ts := fun t h hm => h.not (ho t hm)
  cases k with
  | any => trivial
  | known v => exact h
  | row τ xs => obtain ⟨A, c, h1, h2⟩ := h; exact ⟨A, c, h1, h2.keep hk ht⟩
  | closed xs => obtain ⟨A, c, t, h1, h2, h3⟩ := h; exact ⟨A, c, t, h1, h2, h3.keep hk (nn t h2)⟩
  | many ls =>
    obtain ⟨A, c, vs, h1, h2, h3⟩ := h
    refine ⟨A, c, vs, h1, h2.keep hk n70, fun i p hi => ?_⟩
    obtain ⟨A', c', t, h4, h5, h6⟩ := h3 i p hi
    exact ⟨A', c', t, h4, h5, h6.keep hk (nn t h5)⟩

def All2 (R : Value → List UInt8 → Prop) : List Value → List (List UInt8) → Prop
  | [], [] => True
  | u :: us, l :: ls => R u l ∧ All2 R us ls
  | _, _ => False
theorem All2.at_ {R : Value → List UInt8 → Prop} : ∀ {us : List Value} {ls : List (List UInt8)}, All2 R us ls → ∀ (j : Nat) (p : List UInt8), ls[j]? = some p → ∃ u, us.toArray[j]? = some u ∧ R u p
  | [], [], _, j, p, hp => by simp at hp
  | u :: us, l :: ls, ⟨h1, h2⟩, 0, p, hp => by
    simp only [List.getElem?_cons_zero, Option.some.injEq] at hp
    subst hp
    exact ⟨u, by simp, h1⟩
  | u :: us, l :: ls, ⟨h1, h2⟩, j + 1, p, hp => by
    obtain ⟨v, hv, hr⟩ := All2.at_ h2 j p (by simpa using hp)
    exact ⟨v, by simpa using hv, hr⟩
theorem says_slice {xs : List UInt8} {u : Value} {w : World} {o : Own} (h : (Kind.closed xs).says u w o) : ∃ A c n, u = .slice A n c := by
  obtain ⟨A, c, t, h, -⟩ := h; exact ⟨A, c, _, h⟩
theorem closed_nil (w : World) (o : Own) : (Kind.closed []).says (.slice none 0 0) w o := ⟨none, 0, 10, rfl, .inl rfl, Sl.nil_ _ _ _ _ _ _ (Nat.zero_le _)⟩
theorem closed_of {xs : List UInt8} {A : Option Addr} {n c t : Nat} {w : World} {o : Own} (hn : xs.length = n) (ht : ShutTag t) (hs : Sl w o t 1 A n c (byts xs)) : (Kind.closed xs).says (.slice A n c) w o := by
  subst hn; exact ⟨A, c, t, rfl, ht, hs⟩
/-- The predicates of a region by a list of kinds. -/
def kindsV (ks : List Kind) (i : Nat) (u : Value) (w : World) (o : Own) : Prop := (ks.getD i .any).says u w o
theorem kindsV.keep {ks : List Kind} {j : Nat} {u : Value} {w w' : World} {o o' : Own} {ts : List Nat} (h : kindsV ks j u w o) (hk : Keep ts w o w' o') (ho : ∀ t ∈ ts, OpenTag t) (ht : (ks.getD j .any).tag ∉ ts) : kindsV ks j u w' o' := Kind.keep h hk ho ht
/-- Which kinds bear a tag: those that are eaten. -/
def tagsOk (ks : List Kind) (τ : Nat) (E : List Nat) : Bool := (List.range ks.length).all fun j => E.contains j || (ks.getD j .any).tag != τ
theorem tagsOk.at_ {ks : List Kind} {τ : Nat} {E : List Nat} (h : tagsOk ks τ E = true) (hτ : OpenTag τ) {j : Nat} (hj : j ∉ E) : (ks.getD j .any).tag ∉ [τ] := by
  rw [List.mem_singleton]
  rcases Nat.lt_or_ge j ks.length with hl | hl
  · have := List.all_eq_true.1 h j (List.mem_range.2 hl)
    simp only [Bool.or_eq_true, List.contains_eq_mem, decide_eq_true_eq, bne_iff_ne] at this
    rcases this with h' | h'
    · exact absurd h' hj
    · exact h'
  · rw [List.getD_eq_getElem?_getD, List.getElem?_eq_none hl]
    have := hτ.1
    show 0 ≠ τ
    omega

section
variable {P : Program} {Q : Exit → Act → World → Prop} {W0 : World} {o0 : Own} {ks : List Kind} {a : Act} {w : World} {o : Own} {i : Nat} {op : Oper} {E : List Nat}

/-- The post of an obligation. -/
abbrev ObPost (W0 : World) (o0 : Own) (ks : List Kind) (a : Act) (w : World) (o : Own) (i : Nat) (op : Oper) (E : List Nat) (a' : Act) (w' : World) : Prop :=
  ∃ v γ', a' = a.put op.dst v ∧ BaseO W0 o0 w' γ' ∧ (∀ j u, j ∉ E → kindsV ks j u w o → kindsV ks j u w' γ') ∧ kindsV ks i v w' γ'

theorem ObPost.mk_ {w' : World} {o' : Own} {v : Value} {ts : List Nat} (hb : BaseO W0 o0 w o) (hk : Keep ts w o w' o') (ho : ∀ t ∈ ts, OpenTag t) (ht : ∀ j, j ∉ E → (ks.getD j .any).tag ∉ ts) (hV : kindsV ks i v w' o') : ObPost W0 o0 ks a w o i op E (a.put op.dst v) w' :=
  ⟨v, o', rfl, hb.keep hk ho, fun j _ hj h => h.keep hk ho (ht j hj), hV⟩

theorem ob_known {v : Value} (hk : ks.getD i .any = .known v) (hb : BaseO W0 o0 w o) (h : (execOp a.eval op).run P w = .ok (.value v) w) : op.wp P a w (ObPost W0 o0 ks a w o i op E) Q := by
  unfold Oper.wp
  rw [h]
  exact ObPost.mk_ hb (Keep.refl [] w o) (by simp) (by simp) (by unfold kindsV; rw [hk]; exact rfl)

/-- A call that makes new bytes. -/
theorem ob_new {f : FuncId} {args : Array Value} {xs : List UInt8} (hk : ks.getD i .any = .closed xs) (hb : BaseO W0 o0 w o) (h : (execOp a.eval op).run P w = .ok (.enter f args) w) (hc : Calls P f args w (NewTo w 1 xs.length (byts xs))) : op.wp P a w (ObPost W0 o0 ks a w o i op E) Q := by
  unfold Oper.wp
  rw [h]
  refine hc.mono ?_
  rintro e w' ⟨A, c, rfl, hbl, hs, hf⟩
  have hst := (Step.refl [] w o).below hbl 60
  exact ObPost.mk_ hb hst.keep (by simp) (by simp) (by unfold kindsV; rw [hk]; exact ⟨A, c, 60, rfl, .inr (.inr rfl), hs.tag hf o 60⟩)

/-- An append to an open row: it stays open, or is closed. -/
theorem ob_append {s x : Operand} {t : TypeId} (ho : op.op = .call { callee := .builtin .append, args := #[s, x], argTypes := #[t, t] }) {bytes : Nat} {z : Value} (he : Elem P t 5 1 1 z) {τ : Nat} (hτ : OpenTag τ) {xs ys : List UInt8} (hb : BaseO W0 o0 w o)
    (hs : (Kind.row τ xs).says (a.eval s) w o) {B : Option Addr} {d m : Nat} {o2 : Own} {τ2 : Nat} (hx : a.eval x = .slice B m d) (hS : Sl w o2 τ2 1 B m d (byts ys)) (hbytes : xs.length + m ≤ 140737488355328) (htags : tagsOk ks τ E = true)
    (hk : (∃ σ, ks.getD i .any = .row σ (xs ++ ys)) ∨ ks.getD i .any = .closed (xs ++ ys)) (_hz : bytes = 1) : op.wp P a w (ObPost W0 o0 ks a w o i op E) Q := by
  obtain ⟨A, c, hv, hR⟩ := hs
  have hm : m = ys.length := by have := hS.1; simpa using this.symm
  obtain ⟨A', c', w', hrun, h2, h3, h4⟩ := run_append_row (P := P) w op.type he o τ hR hS (one_byts _) (by omega) (by simp only [maxLen]; omega)
  have hl : xs.length + m = (xs ++ ys).length := by rw [List.length_append, hm]
  have hbb : byts xs ++ byts ys = byts (xs ++ ys) := by simp [byts]
  rw [hl, hbb] at h2
  rw [hl] at hrun
  have hst := Step.append hR h3 τ
  unfold Oper.wp execOp
  simp only [ho, resolve, invoke, builtin, Sem.run_bind, Sem.run_pure, Result.andThen_ok, List.map_toArray, List.map_cons, List.map_nil, hv, hx, hrun]
  show ObPost W0 o0 ks a w o i op E (a.put op.dst _) w'
  -- the result's block is tagged anew
  have hkp : ∀ σ, Keep [τ] w o w' (fun k => if A'.any (fun ad => ad.block == k) = true then σ else ext o w.heap.size τ k) := fun σ => by
    refine ⟨hst.os, hst.tape, hst.output, hst.size, fun k hk hn => ?_, hst.block⟩
    have : ¬ (A'.any (fun ad => ad.block == k) = true) := by
      intro h
      cases hA : A' with
      | none => rw [hA] at h; simp at h
      | some ad =>
        rw [hA] at h
        simp only [Option.any_some, beq_iff_eq] at h
        rcases h4 ad hA with ⟨ad0, h5, h6⟩ | h6
        · have := hR.2 ad0 h5
          rw [← h6, h] at this
          rw [this] at hn
          exact hn (by simp)
        · omega
    simp only [this, Bool.false_eq_true, if_false]
    exact ext_lt hk
  have hrow : ∀ σ, Row w' (fun k => if A'.any (fun ad => ad.block == k) = true then σ else ext o w.heap.size τ k) σ 5 1 A' (xs ++ ys).length c' (byts (xs ++ ys)) := fun σ => ⟨h2.1, fun ad ha => by subst ha; simp⟩
  rcases hk with ⟨σ, hk⟩ | hk
  · exact ObPost.mk_ hb (hkp σ) (by simpa using hτ) (fun j hj => tagsOk.at_ htags hτ hj) (by unfold kindsV; rw [hk]; exact ⟨A', c', rfl, hrow σ⟩)
  · exact ObPost.mk_ hb (hkp 60) (by simpa using hτ) (fun j hj => tagsOk.at_ htags hτ hj) (by unfold kindsV; rw [hk]; exact ⟨A', c', 60, rfl, .inr (.inr rfl), (hrow 60).sl⟩)

end

theorem zero_bytes (m : Nat) : Builtin.zeroCells #[Value.int .u8 0] m = Array.replicate m (Value.int .u8 0) := by
  apply Array.ext
  · simp [Builtin.zeroCells]
  · intro i h1 h2
    simp [Builtin.zeroCells, Nat.mod_one]

/-- append(s, make([]byte, m)...), in one operation. -/
theorem run_append_zeros_row {P : Program} (w : World) {t tn e : TypeId} (ty : TypeId) (he : Elem P t e 1 1 (.int .u8 0)) (hu : P.underlying tn = some (.int .i64)) (o : Own) (τ : Nat) {A : Option Addr} {n c m : Nat} {xs : List Value} (hR : Row w o τ e 1 A n c xs) (hn : 0 < n) (hm : 0 < m) (hb : n + m ≤ 1000000) :
    ∃ A' c' w', (Builtin.append_ #[t, tn] ty #[.slice A n c, .int .i64 (m : Int)]).run P w = .ok (.slice A' (n + m) c') w' ∧ Row w' (ext o w.heap.size τ) τ e 1 A' (n + m) c' (xs ++ List.replicate m (.int .u8 0)) ∧
      w.grownBy w' (Value.slice A n c).ownBlock ∧ (∀ ad, A' = some ad → (∃ ad0, A = some ad0 ∧ ad.block = ad0.block) ∨ ad.block = w.heap.size) := by
  obtain ⟨i, hi, hz0, hz1, hz2⟩ := info_parts he.info
  obtain ⟨g, cur, rfl, hog, hB, hnc, hcm, hcs, htk⟩ := hR.form hn
  have hw : IntKind.i64.wrap (m : Int) = (m : Int) := IntWalk.i64_in _ (by omega)
  have hxl : xs.length = n := by have := hR.len; omega
  have hlen : (xs ++ List.replicate m (Value.int .u8 0)).length = (n + m) * 1 := by simp [hxl]
  have hneg : ¬ (m : Int) < 0 := by omega
  have hbig : ¬ (281474976710656 : Int) < (m : Int) := by omega
  have hm0 : ¬ m = 0 := by omega
  rcases Nat.lt_or_ge c (n + m) with hroom | hroom
  · have holds : ∀ j u, xs[j]? = some u → w.drew.cell? ((⟨g, 0, none⟩ : Addr).add j) = some u := fun j u hu => by
      rw [Addr.add_lit, Nat.zero_add]
      show w.cell? ⟨g, j, none⟩ = some u
      rw [hB.cell, ← Array.getElem?_toList]
      rw [← htk] at hu
      rw [List.getElem?_take] at hu
      split at hu
      · exact hu
      · cases hu
    have hf := run_firstCells_some (P := P) w.drew 1 n ⟨g, 0, none⟩ n c xs (by omega) holds
    have hn' : ¬ (n + m ≤ c) := by omega
    have h63' : ¬ (9223372036854775807 < ((n : Int) + (m : Int))) := by omega
    have hcap := nextslicecap_le hroom
    have h48' : ¬ (281474976710656 < Builtin.nextslicecap (n + m) c) := by omega
    have hrun : (Builtin.append_ #[t, tn] ty #[.slice (some ⟨g, 0, none⟩) n c, .int .i64 (m : Int)]).run P w = .ok (.slice (some ⟨w.heap.size, 0, none⟩) (n + m) (grownCap w (n + m) c e)) (w.drew.alloc (.cells (xs.toArray ++ Array.replicate m (Value.int .u8 0) ++ Array.replicate (grownCap w (n + m) c e - (n + m)) (Value.int .u8 0)) e)) := by
      simp [Builtin.append_, run_underlying he.under, run_underlying hu, sizeOf, typeInfo, zeroValue, hi, hz0, hz1, hz2, asInt, asIntOf, hw, hneg, hbig, hm0, hn', h63', h48', Question.forced, hf, newRow, grownCap, Value.cells, zero_bytes]
    have hge := grownCap_ge w (n + m) c e
    refine ⟨_, _, _, hrun, ⟨⟨hlen, .inr ⟨w.heap.size, _, _, rfl, Nat.zero_le _, heap_alloc_new w.drew _, hge, grownCap_le_maxLen w (n + m) c e (by simp only [maxLen]; omega), ?_, ?_⟩⟩, fun ad ha => ?_⟩, ⟨rfl, rfl, rfl, by simp, fun k hk _ => heap_alloc_old w.drew _ (by simpa using hk)⟩, fun ad ha => .inr ?_⟩
    · simp [hxl]; omega
    · rw [← hlen]
      simp only [Array.toList_append, Array.toList_replicate]
      exact List.take_left
    · injection ha with ha; subst ha; exact ext_ge (Nat.le_refl _)
    · injection ha with ha; subst ha; rfl
  · have hst := run_storeCells_at P g n e (List.replicate m (Value.int .u8 0)) 0 cur w hB (by simp; omega) (fun v hv => by rw [List.eq_of_mem_replicate hv]; rfl)
    simp only [Nat.add_zero] at hst
    have hrun : (Builtin.append_ #[t, tn] ty #[.slice (some ⟨g, 0, none⟩) n c, .int .i64 (m : Int)]).run P w = .ok (.slice (some ⟨g, 0, none⟩) (n + m) c) (w.setRow g (cur.toList.take n ++ List.replicate m (Value.int .u8 0) ++ cur.toList.drop (n + (List.replicate m (Value.int IntKind.u8 0)).length)).toArray) := by
      simp [Builtin.append_, run_underlying he.under, run_underlying hu, sizeOf, typeInfo, zeroValue, hi, hz0, hz1, hz2, asInt, asIntOf, hw, hneg, hbig, hm0, hroom, Value.cells, zero_bytes, Addr.add_lit, hst]
    refine ⟨_, _, _, hrun, ⟨⟨hlen, .inr ⟨g, c, _, rfl, Nat.zero_le _, setRow_heap w g cur _ e _ hB, hroom, hcm, ?_, ?_⟩⟩, fun ad ha => ?_⟩, ⟨rfl, rfl, rfl, by simp, fun k hk hk' => setRow_other w g k _ (fun e => hk' (by simp [Value.ownBlock, e]))⟩, fun ad ha => .inl ⟨⟨g, 0, none⟩, rfl, ?_⟩⟩
    · simp; omega
    · rw [← hlen]
      rw [Nat.mul_one] at htk
      simp only [htk]
      exact List.take_left
    · injection ha with ha; subst ha
      exact (ext_lt hB.lt).trans hog
    · injection ha with ha; subst ha; rfl

section
variable {P : Program} {Q : Exit → Act → World → Prop} {W0 : World} {o0 : Own} {ks : List Kind} {a : Act} {w : World} {o : Own} {i : Nat} {op : Oper} {E : List Nat}
/-- An append of zeros to an open row: it is closed. -/
theorem ob_zeros {s x : Operand} {t tn : TypeId} (ho : op.op = .call { callee := .builtin .append, args := #[s, x], argTypes := #[t, tn] }) (he : Elem P t 5 1 1 (.int .u8 0)) (hu : P.underlying tn = some (.int .i64)) {τ : Nat} (hτ : OpenTag τ) {xs : List UInt8} (hb : BaseO W0 o0 w o)
    (hs : (Kind.row τ xs).says (a.eval s) w o) (hn : 0 < xs.length) {m : Nat} (hx : a.eval x = .int .i64 (m : Int)) (hm : 0 < m) (hbytes : xs.length + m ≤ 1000000) (htags : tagsOk ks τ E = true)
    (hk : ks.getD i .any = .closed (xs ++ List.replicate m 0)) : op.wp P a w (ObPost W0 o0 ks a w o i op E) Q := by
  obtain ⟨A, c, hv, hR⟩ := hs
  obtain ⟨A', c', w', hrun, h2, h3, h4⟩ := run_append_zeros_row (P := P) w op.type he hu o τ hR hn hm hbytes
  have hl : xs.length + m = (xs ++ List.replicate m (0 : UInt8)).length := by simp
  have hbb : byts xs ++ List.replicate m (Value.int .u8 0) = byts (xs ++ List.replicate m (0 : UInt8)) := by simp [byts]
  rw [hl, hbb] at h2
  rw [hl] at hrun
  have hst := Step.append hR h3 τ
  unfold Oper.wp execOp
  simp only [ho, resolve, invoke, builtin, Sem.run_bind, Sem.run_pure, Result.andThen_ok, List.map_toArray, List.map_cons, List.map_nil, hv, hx, hrun]
  show ObPost W0 o0 ks a w o i op E (a.put op.dst _) w'
  have hkp : Keep [τ] w o w' (fun k => if A'.any (fun ad => ad.block == k) = true then 60 else ext o w.heap.size τ k) := by
    refine ⟨hst.os, hst.tape, hst.output, hst.size, fun k hk hn => ?_, hst.block⟩
    have : ¬ (A'.any (fun ad => ad.block == k) = true) := by
      intro h
      cases hA : A' with
      | none => rw [hA] at h; simp at h
      | some ad =>
        rw [hA] at h
        simp only [Option.any_some, beq_iff_eq] at h
        rcases h4 ad hA with ⟨ad0, h5, h6⟩ | h6
        · have := hR.2 ad0 h5
          rw [← h6, h] at this
          rw [this] at hn
          exact hn (by simp)
        · omega
    simp only [this, Bool.false_eq_true, if_false]
    exact ext_lt hk
  have hsl := h2.sl
  have hcl : Sl w' (fun k => if A'.any (fun ad => ad.block == k) = true then 60 else ext o w.heap.size τ k) 60 1 A' (xs ++ List.replicate m (0 : UInt8)).length c' (byts (xs ++ List.replicate m (0 : UInt8))) := by
    refine ⟨hsl.1, hsl.2.1, hsl.2.2.1, fun hn => ?_⟩
    obtain ⟨g, off, hA, -, hg, hc⟩ := hsl.2.2.2 hn
    exact ⟨g, off, hA, by subst hA; simp, hg, hc⟩
  exact ObPost.mk_ hb hkp (by simpa using hτ) (fun j hj => tagsOk.at_ htags hτ hj) (by unfold kindsV; rw [hk]; exact ⟨A', c', 60, rfl, .inr (.inr rfl), hcl⟩)


/-- The post behind a letter: for the walk. -/
theorem ob_K (h : ∀ K : Act → World → Prop, Hid (∀ a' w', ObPost W0 o0 ks a w o i op E a' w' → K a' w') → op.wp P a w K Q) : op.wp P a w (ObPost W0 o0 ks a w o i op E) Q := h _ (Lib.hid fun _ _ h => h)
theorem ObPost.pure_ {v : Value} (hb : BaseO W0 o0 w o) (hk : ks.getD i .any = .known v) : ObPost W0 o0 ks a w o i op E (a.put op.dst v) w :=
  ObPost.mk_ hb (Keep.refl [] w o) (by simp) (by simp) (by unfold kindsV; rw [hk]; exact rfl)
theorem ObPost.same_ {v : Value} (hb : BaseO W0 o0 w o) (hv : kindsV ks i v w o) : ObPost W0 o0 ks a w o i op E (a.put op.dst v) w :=
  ObPost.mk_ hb (Keep.refl [] w o) (by simp) (by simp) hv
theorem ObPost.open_ {cs : Array Value} {n τ : Nat} {xs : List UInt8} (hb : BaseO W0 o0 w o) (hk : ks.getD i .any = .row τ xs) (hcs : cs.toList = byts xs) (hn : n = xs.length) (hm : xs.length ≤ maxLen) :
    ObPost W0 o0 ks a w o i op E (a.put op.dst (.slice (some ⟨w.heap.size, 0, none⟩) n n)) (w.alloc (.cells cs 5)) := by
  subst hn
  have hlen : cs.size = xs.length * 1 := by rw [← Array.length_toList, hcs]; simp [byts]
  have htk : cs.toList.take (xs.length * 1) = byts xs := by rw [hcs]; exact List.take_of_length_le (by simp [byts])
  have hr := Row.made (w := w) o τ 5 1 cs xs.length hlen hm xs.length (Nat.le_refl _)
  rw [htk] at hr
  exact ObPost.mk_ hb ((Step.refl [] w o).alloc (.cells cs 5) τ).keep (by simp) (by simp) (by unfold kindsV; rw [hk]; exact ⟨_, _, rfl, hr⟩)
theorem ObPost.shut_ {cs : Array Value} {n : Nat} {xs : List UInt8} (hb : BaseO W0 o0 w o) (hk : ks.getD i .any = .closed xs) (hcs : cs.toList = byts xs) (hn : n = xs.length) (hm : xs.length ≤ maxLen) :
    ObPost W0 o0 ks a w o i op E (a.put op.dst (.slice (some ⟨w.heap.size, 0, none⟩) n n)) (w.alloc (.cells cs 5)) := by
  subst hn
  have hlen : cs.size = xs.length * 1 := by rw [← Array.length_toList, hcs]; simp [byts]
  have htk : cs.toList.take (xs.length * 1) = byts xs := by rw [hcs]; exact List.take_of_length_le (by simp [byts])
  have hr := (Row.made (w := w) o 60 5 1 cs xs.length hlen hm xs.length (Nat.le_refl _)).sl
  rw [htk] at hr
  exact ObPost.mk_ hb ((Step.refl [] w o).alloc (.cells cs 5) 60).keep (by simp) (by simp) (by unfold kindsV; rw [hk]; exact ⟨_, _, 60, rfl, .inr (.inr rfl), hr⟩)
theorem ObPost.new_ {w' : World} {A : Option Addr} {n c : Nat} {xs : List UInt8} (hb : BaseO W0 o0 w o) (hk : ks.getD i .any = .closed xs) (hn : n = xs.length) (hbl : Below w.heap.size w w') (hs : Sl w' (fun _ => 0) 0 1 A n c (byts xs)) (hf : ∀ ad, A = some ad → w.heap.size ≤ ad.block) :
    ObPost W0 o0 ks a w o i op E (a.put op.dst (.slice A n c)) w' := by
  subst hn
  exact ObPost.mk_ hb ((Step.refl [] w o).below hbl 60).keep (by simp) (by simp) (by unfold kindsV; rw [hk]; exact ⟨A, c, 60, rfl, .inr (.inr rfl), hs.tag hf o 60⟩)
theorem ObPost.many_ {cs : Array Value} {n : Nat} {ls : List (List UInt8)} (hb : BaseO W0 o0 w o) (hk : ks.getD i .any = .many ls) (hcs : cs.size = ls.length) (hn : n = ls.length) (hm : ls.length ≤ maxLen)
    (hel : ∀ (j : Nat) (p : List UInt8), ls[j]? = some p → ∃ u, cs[j]? = some u ∧ (Kind.closed p).says u w o) : ObPost W0 o0 ks a w o i op E (a.put op.dst (.slice (some ⟨w.heap.size, 0, none⟩) n n)) (w.alloc (.cells cs 27)) := by
  subst hn
  have hst := (Step.refl [] w o).alloc (.cells cs 27) 70
  have hr := Row.made (w := w) o 70 27 1 cs ls.length (by omega) hm ls.length (Nat.le_refl _)
  refine ObPost.mk_ hb hst.keep (by simp) (by simp) ?_
  unfold kindsV
  rw [hk]
  refine ⟨_, _, _, rfl, hr, fun j p hp => ?_⟩
  obtain ⟨u, hu, A, c, t, rfl, ht, hs⟩ := hel j p hp
  refine ⟨A, c, t, ?_, ht, hs.step hst (by simp)⟩
  rw [Nat.mul_one, List.getElem?_take_of_lt (List.getElem?_eq_some_iff.1 hp).1, Array.getElem?_toList]
  exact hu
/-- A literal of slices. -/
theorem ob_many {t : TypeId} {len bytes : Nat} {z : Value} {parts : Array (Nat × Operand)} (ho : op.op = .buildSlice t len parts) (he : Elem P t 27 1 bytes z) {us : List Value} {ls : List (List UInt8)} (hb : BaseO W0 o0 w o)
    (hparts : (parts.map fun (i, x) => (i, a.eval x)).toList = (us.zipIdx 0).map fun x => (x.2, x.1)) (hlen : us.length = len) (hl2 : ls.length = len) (h0 : 0 < len) (hm : len ≤ 100000) (hall : All2 (fun u p => (Kind.closed p).says u w o) us ls) (hk : ks.getD i .any = .many ls) :
    op.wp P a w (ObPost W0 o0 ks a w o i op E) Q := by
  obtain ⟨ie, hi, hz0, hz1, hz2⟩ := info_parts he.info
  have hsl : ∀ v ∈ us, v.cells = #[v] := by
    intro v hv
    obtain ⟨j, hj, rfl⟩ := List.getElem_of_mem hv
    obtain ⟨p, hp⟩ : ∃ p, ls[j]? = some p := ⟨_, List.getElem?_eq_getElem (by omega)⟩
    obtain ⟨u, hu, A, c, t, hu2, -⟩ := hall.at_ j p hp
    have : u = us[j] := by
      rw [List.getElem?_toArray, List.getElem?_eq_getElem hj] at hu
      injection hu with hu; exact hu.symm
    rw [← this, hu2]; rfl
  refine wp_buildSlice t _ len parts ho us.toArray ie z he.under hi hz0 (by rw [hz1]; omega) (by rw [hz1]; omega) ?_ (ObPost.many_ hb hk (by simp; omega) (by omega) (by simp only [maxLen]; omega) hall.at_)
  rw [hparts, hz1]
  exact Great.fill_flat _ _ hsl (by simp [hlen])
end
end Go.Proofs.Ytpmbfgpfpdenbaa

/- PLAIN LAWS for PacketWrong: fifteen rows of bytes that are no packet. -/
namespace Go.Proofs.Ytpmbfgpfpdenbaa

/-- The End that receives. -/
def wrS (own theirs : Int) : EndS := ⟨own, own + 2, theirs, theirs, 0, [own, own + 1]⟩
def two16 (x : Int) : List UInt8 := bytesOf (x % 65536).toNat 2
def wrFull (n a : Int) : List UInt8 := bytesOf 3 1 ++ two16 n ++ two16 a ++ bytesOf 0 4 ++ [0, 1, 100]
def wrOnly (a : Int) (m : Nat) : List UInt8 := bytesOf 2 1 ++ two16 a ++ bytesOf m 4
theorem two16_len (x : Int) : (two16 x).length = 2 := bytesOf_len _ _
theorem wrFull_len (n a : Int) : (wrFull n a).length = 12 := by simp [wrFull, two16_len, bytesOf_len]
theorem wrOnly_len (a : Int) (m : Nat) : (wrOnly a m).length = 7 := by simp [wrOnly, two16_len, bytesOf_len]

theorem recv_no {S : EndS} {p : List UInt8} (h : parseP p = none) : recvP S p = (S, [], [], 190) := by unfold recvP; rw [h]
theorem parse_flags {f : UInt8} {r : List UInt8} (h : f.toNat < 1 ∨ 3 < f.toNat) : parseP (f :: r) = none := by
  simp only [parseP]
  rw [if_pos (by omega)]
theorem parse_short {f : UInt8} {r : List UInt8} (h : r.length < (if f.toNat % 2 = 1 then 2 else 0) + (if f.toNat / 2 % 2 = 1 then 6 else 0)) : parseP (f :: r) = none := by
  simp only [parseP]
  rw [if_pos (.inl h)]
theorem parse_body {f : UInt8} {r : List UInt8} (h : ¬ (0 < r.length - ((if f.toNat % 2 = 1 then 2 else 0) + (if f.toNat / 2 % 2 = 1 then 6 else 0)) ↔ f.toNat % 2 = 1)) : parseP (f :: r) = none := by
  simp only [parseP]
  rw [if_pos (.inr (.inr (.inr (.inr (by simpa using h)))))]
theorem parse_big {f : UInt8} {r : List UInt8} (h : 1191 < r.length - ((if f.toNat % 2 = 1 then 2 else 0) + (if f.toNat / 2 % 2 = 1 then 6 else 0))) : parseP (f :: r) = none := by
  simp only [parseP]
  rw [if_pos (.inr (.inr (.inr (.inl h))))]

theorem one_cons (k : Nat) (l : List UInt8) : bytesOf k 1 ++ l = UInt8.ofNat k :: l := by rw [bytesOf_one]; rfl
theorem wrFull_cons (n a : Int) : wrFull n a = UInt8.ofNat 3 :: (two16 n ++ (two16 a ++ (bytesOf 0 4 ++ [0, 1, 100]))) := by
  unfold wrFull; simp only [List.append_assoc]; exact one_cons _ _
theorem wrOnly_cons (a : Int) (m : Nat) : wrOnly a m = UInt8.ofNat 2 :: (two16 a ++ bytesOf m 4) := by
  unfold wrOnly; simp only [List.append_assoc]; exact one_cons _ _

theorem full_take (n a : Int) (k : Nat) (hk : k ≤ 9) : parseP ((wrFull n a).take k) = none := by
  rw [wrFull_cons]
  cases k with
  | zero => rfl
  | succ k =>
    rw [List.take_succ_cons]
    have hl : ((two16 n ++ (two16 a ++ (bytesOf 0 4 ++ [0, 1, 100]))).take k).length = k := by
      rw [List.length_take]; simp [two16_len, bytesOf_len]; omega
    have e3 : (UInt8.ofNat 3).toNat = 3 := rfl
    rcases Nat.lt_or_ge k 8 with h | h
    · exact parse_short (by rw [hl, e3]; simp; omega)
    · exact parse_body (by rw [hl, e3]; simp; omega)
theorem only_take (a : Int) (m k : Nat) (hk : k < 7) : parseP ((wrOnly a m).take k) = none := by
  rw [wrOnly_cons]
  cases k with
  | zero => rfl
  | succ k =>
    rw [List.take_succ_cons]
    have hl : ((two16 a ++ bytesOf m 4).take k).length = k := by
      rw [List.length_take]; simp [two16_len, bytesOf_len]; omega
    have e3 : (UInt8.ofNat 2).toNat = 2 := rfl
    exact parse_short (by rw [hl, e3]; simp; omega)
theorem only_more (a : Int) (m : Nat) : parseP (wrOnly a m ++ [0]) = none := by
  rw [wrOnly_cons, List.cons_append]
  have e3 : (UInt8.ofNat 2).toNat = 2 := rfl
  exact parse_body (by rw [e3]; simp [two16_len, bytesOf_len])
theorem full_more (n a : Int) : parseP (wrFull n a ++ List.replicate 1191 0) = none := by
  rw [wrFull_cons, List.cons_append]
  have e3 : (UInt8.ofNat 3).toNat = 3 := rfl
  exact parse_big (by rw [e3]; simp only [List.length_append, two16_len, bytesOf_len, List.length_replicate]; simp)

theorem mod16_lt (x : Int) : (x % 65536).toNat < 65536 := by omega
theorem recv_only (own theirs a : Int) (m : Nat) (hm : m < 4294967296) (h : ∃ a', near (own + 1) ((a % 65536).toNat : Int) = a' ∧ (a' < own ∨ own + 2 ≤ a' ∨ earlyB a' own m = true)) : recvP (wrS own theirs) (wrOnly a m) = (wrS own theirs, [], [], 190) := by
  obtain ⟨a', ha, h⟩ := h
  unfold recvP wrOnly two16
  rw [parse_two _ _ (mod16_lt a) hm]
  simp only [wrS]
  rw [if_neg (by omega), show own + 2 - 1 = own + 1 by omega, ha, if_pos ⟨by decide, h⟩]
theorem recv_full (own theirs n a : Int) (h : near theirs ((n % 65536).toNat : Int) < theirs ∨ (∃ a', near (own + 1) ((a % 65536).toNat : Int) = a' ∧ (a' < own ∨ own + 2 ≤ a'))) : recvP (wrS own theirs) (wrFull n a) = (wrS own theirs, [], [], 190) := by
  unfold recvP wrFull two16
  rw [parse_three _ _ _ _ (mod16_lt n) (mod16_lt a) (by decide) (by simp) (by simp)]
  simp only [wrS]
  rcases h with h | ⟨a', ha, h⟩
  · rw [if_pos ⟨by decide, h⟩]
  · by_cases h1 : near theirs ((n % 65536).toNat : Int) < theirs
    · rw [if_pos ⟨by decide, h1⟩]
    · rw [if_neg (fun h' => h1 h'.2), show own + 2 - 1 = own + 1 by omega, ha, if_pos ⟨by decide, by rcases h with h | h; exact .inl h; exact .inr (.inl h)⟩]

/-- The fifteen. -/
def badL (own theirs : Int) (b : List UInt8) (cut : Nat) (fl : UInt8) : List (List UInt8) :=
  [[], [0], 4 :: b, fl :: b, (wrFull (theirs + 1) (own + 1)).take (cut % 9), (wrFull (theirs + 1) (own + 1)).take 9, (wrOnly (own + 1) 0).take (cut % 7), wrOnly (own + 1) 0 ++ [0], wrFull (theirs + 1) (own + 1) ++ List.replicate 1191 0,
    wrOnly (own + 2) 0, wrFull (theirs + 1) (own + 2), wrOnly (own - 1) 0, wrFull (theirs - 1) (own + 1), wrFull (theirs - 50) (own + 1), wrOnly (own + 1) 2]

theorem bad_form (own theirs : Int) (ho : 100 ≤ own) (ht : 100 ≤ theirs) (b : List UInt8) (cut : Nat) (fl : UInt8) (hfl : 3 < fl.toNat) : ∀ p ∈ badL own theirs b cut fl, recvP (wrS own theirs) p = (wrS own theirs, [], [], 190) := by
  intro p hp
  simp only [badL, List.mem_cons, List.not_mem_nil, or_false] at hp
  rcases hp with rfl | rfl | rfl | rfl | rfl | rfl | rfl | rfl | rfl | rfl | rfl | rfl | rfl | rfl | rfl
  · exact recv_no rfl
  · exact recv_no (parse_flags (.inl (by decide)))
  · exact recv_no (parse_flags (.inr (by decide)))
  · exact recv_no (parse_flags (.inr hfl))
  · exact recv_no (full_take _ _ _ (by omega))
  · exact recv_no (full_take _ _ _ (by omega))
  · exact recv_no (only_take _ _ _ (by omega))
  · exact recv_no (only_more _ _)
  · exact recv_no (full_more _ _)
  · exact recv_only own theirs _ 0 (by decide) ⟨own + 2, near_mod _ _ (by omega) (by omega) (by omega), .inr (.inl (by omega))⟩
  · exact recv_full own theirs _ _ (.inr ⟨own + 2, near_mod _ _ (by omega) (by omega) (by omega), .inr (by omega)⟩)
  · exact recv_only own theirs _ 0 (by decide) ⟨own - 1, near_mod _ _ (by omega) (by omega) (by omega), .inl (by omega)⟩
  · exact recv_full own theirs _ _ (.inl (by rw [near_mod _ _ (by omega) (by omega) (by omega)]; omega))
  · exact recv_full own theirs _ _ (.inl (by rw [near_mod _ _ (by omega) (by omega) (by omega)]; omega))
  · refine recv_only own theirs _ 2 (by decide) ⟨own + 1, near_mod _ _ (by omega) (by omega) (by omega), .inr (.inr ?_)⟩
    rw [early_iff _ _ _ (by omega)]
    refine ⟨own - 1, by omega, by omega, ?_⟩
    unfold named
    have e : (own + 1 - 1 - (own - 1)).toNat = 1 := by omega
    rw [e]
    simp only [Bool.or_eq_true, Bool.and_eq_true, decide_eq_true_eq]
    exact .inr ⟨⟨by omega, by omega⟩, by decide⟩

/-- The link behind the six first calls. -/
def wrX1 : ASide := side0.make (markB 0 [97])
def wrY1 : ASide := side0.make (markB 0 [98])
def wrPb : APkt := ⟨some (0, markB 0 [98]), none⟩
def wrX2 : ASide := wrX1.take wrPb
def wrY2 : ASide := wrY1.given wrX1.e wrPb
def wrX3 : ASide := wrX2.make (markB 1 [99])
def wrPc : APkt := ⟨some (1, markB 1 [99]), some (0, 0)⟩
def wrY3 : ASide := wrY2.take wrPc
def wrX4 : ASide := wrX3.given wrY2.e wrPc
def wrY4 : ASide := wrY3.make (markB 1 [100])
def wrPd : APkt := ⟨some (1, markB 1 [100]), some (1, 0)⟩
theorem wr_made0 : wrY1.made[0]? = some wrPb := by decide
theorem wr_made1 : wrX3.made[1]? = some wrPc := by decide
theorem wr_made2 : wrY4.made[1]? = some wrPd := by decide
theorem wr_e0 : wrX4.e = ⟨2, 1, 0, [0, 1]⟩ := by decide
theorem wr_e1 : wrY4.e = ⟨2, 2, 0, [1]⟩ := by decide
theorem wr_conc (own theirs : Int) : wrX4.e.conc own theirs = wrS own theirs := by
  rw [wr_e0]; simp [AEnd.conc, wrS]
theorem wr_full (own theirs : Int) : wrPd.enc theirs own = wrFull (theirs + 1) (own + 1) := rfl
end Go.Proofs.Ytpmbfgpfpdenbaa

/- WALK of PacketWrong's 'number'. -/
namespace Go.Proofs.Ytpmbfgpfpdenbaa
open Go.RowKit

def putNum (b : Nat) (i : Nat) (p : List UInt8) : List UInt8 := (p.set i (UInt8.ofNat (b / 256))).set (i + 1) (UInt8.ofNat b)

set_option maxRecDepth 100000 in
set_option maxHeartbeats 1000000 in
theorem number_any (w : World) (o : Own) (τ : Nat) (b i : Nat) (_hb : b ≤ 4000000000000) (A : Option Addr) (n c : Nat) (xs : List UInt8) (hS : Sl w o τ 1 A n c (byts xs)) (hn : n ≤ 2000) (hi : i + 1 < n) :
    Calls Try.prog 35 #[.int .i64 b, .slice A n c, .int .i64 i] w (NewTo w 1 n (byts (putNum b i xs))) := by
  have H0 := Lib.hid ((NS.refl w).alloc (.cells #[] 5))
  have r0 := NRow.made (w := w) (B := w.heap.size) (Nat.le_refl _) 5 1 0 (cs := #[]) rfl (by decide) 0 (Nat.le_refl _)
  have R0 := Lib.hid r0
  have S0 := Lib.hid (hS.below H0.out.fin)
  have hxl : xs.length = n := by have := hS.1; simpa using this
  have HXL := Lib.hid hxl
  have hwi : IntKind.i64.wrap ((i : Int) + 1) = (i : Int) + 1 := IntWalk.i64_in _ (by omega)
  clear r0 hS hxl
  go_enter Try.func35, Try.ntmps35
  go_upto_region 2 with (at_builtin; refine wpList_append_new _ rfl (.tmp 8) (.tmp 9) _ rfl el_byte H0.out _ 0 0 _ rfl R0.out _ n _ (byts xs) rfl S0.out (one_byts _) (by omega) (by simp only [maxLen]; omega) ?_; intro A1 c1 w1 hr1 hk1 hl1 hb1; rw [Nat.zero_add] at hr1; have R1 := Lib.hid hr1; have H1 := Lib.hid hk1; clear hr1 hk1 hl1 hb1)
  have R1' : Hid (NRow w.heap.size w1 5 1 A1 n c1 (byts xs)) := Lib.hid (by have := R1.out; simpa using this)
  obtain ⟨gp, cur, hA1, -, hbp, -, -, -, -⟩ := R1'.out.form (by omega)
  subst hA1
  obtain ⟨x, hx⟩ : ∃ x, xs[i]? = some x := ⟨_, List.getElem?_eq_getElem (by rw [HXL.out]; omega)⟩
  obtain ⟨y, hy⟩ : ∃ y, xs[i + 1]? = some y := ⟨_, List.getElem?_eq_getElem (by rw [HXL.out]; omega)⟩
  obtain ⟨cx, fx⟩ := R1'.out.cellAt (k := i) (u := .int .u8 (x.toNat : Int)) (by simp [byts, hx])
  obtain ⟨cy, fy⟩ := R1'.out.cellAt (k := i + 1) (u := .int .u8 (y.toNat : Int)) (by simp [byts, hy])
  have hg := hbp.lt
  have hi0 : (0 : Int) ≤ (i : Int) := by omega
  have hi1 : (i : Int) < (n : Int) := by omega
  have hi2 : (i : Int) + 1 < (n : Int) := by omega
  clear hbp hx hy R1 R0 S0 H0
  go_wp2_with fail
  go_ret
  have hrow := (R1'.out.set_ (k := i) (by omega) (.int .u8 ((b : Int) / 256 % 256))).set_ (k := i + 1) hi (.int .u8 ((b : Int) % 256))
  have e1 : ((UInt8.ofNat (b / 256)).toNat : Int) = (b : Int) / 256 % 256 := by simp
  have e2 : ((UInt8.ofNat b).toNat : Int) = (b : Int) % 256 := by simp
  have e : ((byts xs).set i (.int .u8 ((b : Int) / 256 % 256))).set (i + 1) (.int .u8 ((b : Int) % 256)) = byts (putNum b i xs) := by
    simp only [byts, putNum, List.map_set, e1, e2]
  rw [e] at hrow
  have hge : w.heap.size ≤ gp := R1'.out.new _ rfl
  exact ⟨some ⟨gp, 0, none⟩, c1, rfl, ((H1.out.setCell hge _).setCell hge _).fin, hrow.sl.plain, fun ad ha => by injection ha with ha; subst ha; exact hge⟩

theorem two16_val (x : Int) (k : Nat) (h : x = (k : Int)) : two16 x = [UInt8.ofNat (k / 256), UInt8.ofNat k] := by
  subst h
  unfold two16 bytesOf byteAt
  have h1 : ((k : Int) % 65536).toNat = k % 65536 := by omega
  rw [h1]
  simp [List.range_succ]
  constructor
  · apply UInt8.toNat_inj.1; simp; omega
  · apply UInt8.toNat_inj.1; simp
theorem putNum_only (a : Int) (m k : Nat) : putNum k 1 (wrOnly a m) = wrOnly (k : Int) m := by
  unfold wrOnly putNum
  rw [two16_val (k : Int) k rfl]
  obtain ⟨x, y, h⟩ : ∃ x y, two16 a = [x, y] := by
    have := two16_len a
    match two16 a, this with
    | [x, y], _ => exact ⟨x, y, rfl⟩
  rw [h, bytesOf_one]
  rfl
theorem putNum_full1 (n a : Int) (k : Nat) : putNum k 1 (wrFull n a) = wrFull (k : Int) a := by
  unfold wrFull putNum
  rw [two16_val (k : Int) k rfl]
  obtain ⟨x, y, h⟩ : ∃ x y, two16 n = [x, y] := by
    have := two16_len n
    match two16 n, this with
    | [x, y], _ => exact ⟨x, y, rfl⟩
  rw [h, bytesOf_one]
  rfl
theorem putNum_full3 (n a : Int) (k : Nat) : putNum k 3 (wrFull n a) = wrFull n (k : Int) := by
  unfold wrFull putNum
  rw [two16_val (k : Int) k rfl]
  obtain ⟨x, y, h⟩ : ∃ x y, two16 a = [x, y] := by
    have := two16_len a
    match two16 a, this with
    | [x, y], _ => exact ⟨x, y, rfl⟩
  obtain ⟨x', y', h'⟩ : ∃ x y, two16 n = [x, y] := by
    have := two16_len n
    match two16 n, this with
    | [x, y], _ => exact ⟨x, y, rfl⟩
  rw [h, h', bytesOf_one]
  rfl
end Go.Proofs.Ytpmbfgpfpdenbaa

/- Contracts of makes and takes for either side, in LinkOk's words; tags made small. -/
namespace Go.Proofs.Ytpmbfgpfpdenbaa
open Go.RowKit

theorem LinkOk.make0 {w : World} {o : Own} {l : Nat} {own other : Int} {X Y : ASide} {m : Nat} (hL : LinkOk w o l own other X Y m) (hm : m ≤ 800) (τ2 : Nat) (A : Option Addr) (n c : Nat) (xs : List UInt8) (hS : Sl w o τ2 1 A n c (byts xs)) (hn : n ≤ 9223372036854775807) :
    Calls Try.prog 15 #[.pointer (some ⟨l, 0, none⟩), .int .i64 0, .slice A n c] w fun e w' => e = .returned (.bool true) ∧ ∃ o', Step linkTags w o w' o' ∧ LinkOk w' o' l own other (X.make (markB X.bodies.length xs)) Y (m + 1) := by
  have hL' := hL
  obtain ⟨⟨v, u, cells, hl⟩, hI, hI', hz, -⟩ := hL
  have hz' : Sized X Y 900 := ⟨by have := hz.bx; omega, by have := hz.bY; omega, by have := hz.mx; omega, by have := hz.my; omega⟩
  refine (makes_link w o l 0 1 τ2 (by omega) rfl own other X Y v u cells hl hI hI' hL'.o0 hL'.o1 hL'.p0 hL'.p1 hz' A n c xs hS hn).mono ?_
  rintro e w' ⟨he, o', v', u', cells', hst, hl'⟩
  have hi := make_inv hI hI' (xs := markB X.bodies.length xs) (by rw [hI.n]; exact markB_ok _ _)
  obtain ⟨-, e2, e3⟩ := make_parts X (markB X.bodies.length xs)
  refine ⟨he, o', hst, ⟨v', u', cells', hl'⟩, hi.1, hi.2, ⟨?_, ?_, ?_, ?_⟩, hL'.o0, hL'.o1, hL'.p0, hL'.p1⟩
  · rw [e3]; have := hz.bx; simp; omega
  · have := hz.bY; omega
  · rw [e2]; have := hz.mx; simp; omega
  · have := hz.my; omega
theorem LinkOk.make1 {w : World} {o : Own} {l : Nat} {own other : Int} {X Y : ASide} {m : Nat} (hL : LinkOk w o l own other X Y m) (hm : m ≤ 800) (τ2 : Nat) (A : Option Addr) (n c : Nat) (xs : List UInt8) (hS : Sl w o τ2 1 A n c (byts xs)) (hn : n ≤ 9223372036854775807) :
    Calls Try.prog 15 #[.pointer (some ⟨l, 0, none⟩), .int .i64 1, .slice A n c] w fun e w' => e = .returned (.bool true) ∧ ∃ o', Step linkTags w o w' o' ∧ LinkOk w' o' l own other X (Y.make (markB Y.bodies.length xs)) (m + 1) := by
  have hL' := hL
  obtain ⟨⟨v, u, cells, hl⟩, hI, hI', hz, -⟩ := hL
  have hz' : Sized Y X 900 := ⟨by have := hz.bY; omega, by have := hz.bx; omega, by have := hz.my; omega, by have := hz.mx; omega⟩
  refine (makes_link w o l 1 0 τ2 (by omega) rfl other own Y X u v cells hl.swap hI' hI hL'.p0 hL'.p1 hL'.o0 hL'.o1 hz' A n c xs hS hn).mono ?_
  rintro e w' ⟨he, o', v', u', cells', hst, hl'⟩
  have hi := make_inv hI' hI (xs := markB Y.bodies.length xs) (by rw [hI'.n]; exact markB_ok _ _)
  obtain ⟨-, e2, e3⟩ := make_parts Y (markB Y.bodies.length xs)
  refine ⟨he, o', hst, ⟨u', v', cells', hl'.swap⟩, hi.2, hi.1, ⟨?_, ?_, ?_, ?_⟩, hL'.o0, hL'.o1, hL'.p0, hL'.p1⟩
  · have := hz.bx; omega
  · rw [e3]; have := hz.bY; simp; omega
  · have := hz.mx; omega
  · rw [e2]; have := hz.my; simp; omega
theorem LinkOk.take0 {w : World} {o : Own} {l : Nat} {own other : Int} {X Y : ASide} {m : Nat} (hL : LinkOk w o l own other X Y m) (hm : m ≤ 800) {p : APkt} (hp : p ∈ Y.made) (A : Option Addr) (n c : Nat) (hS : Sl w o 10 1 A n c (byts (p.enc other own))) (hn : n ≤ 140737488355328) :
    Calls Try.prog 16 #[.pointer (some ⟨l, 0, none⟩), .int .i64 0, .slice A n c] w fun e w' => e = .returned (.bool true) ∧ ∃ o', Step linkTags w o w' o' ∧ LinkOk w' o' l own other (X.take p) (Y.given X.e p) m := by
  have hL' := hL
  obtain ⟨⟨v, u, cells, hl⟩, hI, hI', hz, -⟩ := hL
  have hz' : Sized X Y 900 := ⟨by have := hz.bx; omega, by have := hz.bY; omega, by have := hz.mx; omega, by have := hz.my; omega⟩
  have hok := hI'.pkts p hp
  refine (takes_link w o l 0 1 10 (by omega) rfl own other X Y v u cells hl hI hI' hL'.o0 hL'.o1 hL'.p0 hL'.p1 hz' p hok A n c hS hn (.inl rfl)).mono ?_
  rintro e w' ⟨he, o', v', u', cells', hst, hl'⟩
  obtain ⟨h1, h2, -⟩ := take_inv hI hI' hok
  obtain ⟨g1, g2⟩ := given_len Y X.e p
  refine ⟨he, o', hst, ⟨v', u', cells', hl'⟩, h1, h2, ⟨?_, ?_, ?_, ?_⟩, hL'.o0, hL'.o1, hL'.p0, hL'.p1⟩
  · exact hz.bx
  · rw [g1]; exact hz.bY
  · exact hz.mx
  · rw [g2]; exact hz.my
theorem LinkOk.take1 {w : World} {o : Own} {l : Nat} {own other : Int} {X Y : ASide} {m : Nat} (hL : LinkOk w o l own other X Y m) (hm : m ≤ 800) {p : APkt} (hp : p ∈ X.made) (A : Option Addr) (n c : Nat) (hS : Sl w o 10 1 A n c (byts (p.enc own other))) (hn : n ≤ 140737488355328) :
    Calls Try.prog 16 #[.pointer (some ⟨l, 0, none⟩), .int .i64 1, .slice A n c] w fun e w' => e = .returned (.bool true) ∧ ∃ o', Step linkTags w o w' o' ∧ LinkOk w' o' l own other (X.given Y.e p) (Y.take p) m := by
  have hL' := hL
  obtain ⟨⟨v, u, cells, hl⟩, hI, hI', hz, -⟩ := hL
  have hz' : Sized Y X 900 := ⟨by have := hz.bY; omega, by have := hz.bx; omega, by have := hz.my; omega, by have := hz.mx; omega⟩
  have hok := hI.pkts p hp
  refine (takes_link w o l 1 0 10 (by omega) rfl other own Y X u v cells hl.swap hI' hI hL'.p0 hL'.p1 hL'.o0 hL'.o1 hz' p hok A n c hS hn (.inl rfl)).mono ?_
  rintro e w' ⟨he, o', v', u', cells', hst, hl'⟩
  obtain ⟨h1, h2, -⟩ := take_inv hI' hI hok
  obtain ⟨g1, g2⟩ := given_len X Y.e p
  refine ⟨he, o', hst, ⟨u', v', cells', hl'.swap⟩, h2, h1, ⟨?_, ?_, ?_, ?_⟩, hL'.o0, hL'.o1, hL'.p0, hL'.p1⟩
  · rw [g1]; exact hz.bx
  · exact hz.bY
  · rw [g2]; exact hz.mx
  · exact hz.my

/-- The j-th packet of a side, where it lies. -/
theorem LinkOk.pkt0 {w : World} {o : Own} {l : Nat} {own other : Int} {X Y : ASide} {m j : Nat} {p : APkt} (hL : LinkOk w o l own other X Y m) (hp : X.made[j]? = some p) : ∃ (mA : Option Addr) (mn mc mg : Nat) (A' : Option Addr) (n' c' : Nat), w.cell? ⟨l, 1, none⟩ = some (.slice mA mn mc) ∧ mA = some ⟨mg, 0, none⟩ ∧ j < mn ∧ w.cell? ⟨mg, j, none⟩ = some (.slice A' n' c') ∧ n' = (p.enc own other).length ∧ Sl w o 10 1 A' n' c' (byts (p.enc own other)) := by
  obtain ⟨⟨v, u, cells, hl⟩, -⟩ := hL
  obtain ⟨vs, hr, hvl, hv⟩ := hl.x.made
  have hpe : (X.made.map (APkt.enc own other))[j]? = some (p.enc own other) := by rw [List.getElem?_map, hp]; rfl
  have hj := (List.getElem?_eq_some_iff.1 hpe).1
  have hn : vs.length = v.mn := by have := hr.len; omega
  obtain ⟨A', n', c', hv0, hs⟩ := hv j _ hpe
  obtain ⟨g, hA, ho, hc, -⟩ := hr.at_ (k := j) (by omega)
  exact ⟨v.mA, v.mn, v.mc, g, A', n', c', (hl.b.cell _).trans hl.cx.c1, hA, by omega, hc.trans hv0, by have := hs.1; simpa using this.symm, hs⟩
theorem LinkOk.pkt1 {w : World} {o : Own} {l : Nat} {own other : Int} {X Y : ASide} {m j : Nat} {p : APkt} (hL : LinkOk w o l own other X Y m) (hp : Y.made[j]? = some p) : ∃ (mA : Option Addr) (mn mc mg : Nat) (A' : Option Addr) (n' c' : Nat), w.cell? ⟨l, 6, none⟩ = some (.slice mA mn mc) ∧ mA = some ⟨mg, 0, none⟩ ∧ j < mn ∧ w.cell? ⟨mg, j, none⟩ = some (.slice A' n' c') ∧ n' = (p.enc other own).length ∧ Sl w o 10 1 A' n' c' (byts (p.enc other own)) := by
  obtain ⟨⟨v, u, cells, hl⟩, -⟩ := hL
  obtain ⟨vs, hr, hvl, hv⟩ := hl.y.made
  have hpe : (Y.made.map (APkt.enc other own))[j]? = some (p.enc other own) := by rw [List.getElem?_map, hp]; rfl
  have hj := (List.getElem?_eq_some_iff.1 hpe).1
  have hn : vs.length = u.mn := by have := hr.len; omega
  obtain ⟨A', n', c', hv0, hs⟩ := hv j _ hpe
  obtain ⟨g, hA, ho, hc, -⟩ := hr.at_ (k := j) (by omega)
  exact ⟨u.mA, u.mn, u.mc, g, A', n', c', (hl.b.cell _).trans hl.cy.c1, hA, by omega, hc.trans hv0, by have := hs.1; simpa using this.symm, hs⟩
theorem LinkOk.ends {w : World} {o : Own} {l : Nat} {own other : Int} {X Y : ASide} {m : Nat} (hL : LinkOk w o l own other X Y m) : ∃ e0 e1, w.cell? ⟨l, 0, none⟩ = some (.pointer (some ⟨e0, 0, none⟩)) ∧ w.cell? ⟨l, 5, none⟩ = some (.pointer (some ⟨e1, 0, none⟩)) ∧ EndAt w o 2 e0 (X.e.conc own other) ∧ EndAt w o 3 e1 (Y.e.conc other own) ∧ l < w.heap.size := by
  obtain ⟨⟨v, u, cells, hl⟩, -⟩ := hL
  exact ⟨v.e, u.e, (hl.b.cell _).trans hl.cx.c0, (hl.b.cell _).trans hl.cy.c0, hl.x.e, hl.y.e, hl.b.lt⟩

/-- Tags made small: those up to 13 stay. -/
def small (o : Own) : Own := fun k => if o k ≤ 13 then o k else 14
theorem small_le (o : Own) (k : Nat) : small o k ≤ 50 := by unfold small; split <;> omega
theorem small_at {o : Own} {k τ : Nat} (h : o k = τ) (hτ : τ ≤ 13) : small o k = τ := by unfold small; rw [if_pos (by omega)]; exact h
theorem Row.small {w : World} {o : Own} {τ : Nat} {e : TypeId} {sz n c : Nat} {A : Option Addr} {xs : List Value} (h : Row w o τ e sz A n c xs) (hτ : τ ≤ 13) : Row w (small o) τ e sz A n c xs := ⟨h.1, fun ad ha => small_at (h.2 ad ha) hτ⟩
theorem Sl.small {w : World} {o : Own} {τ : Nat} {sz n c : Nat} {A : Option Addr} {xs : List Value} (h : Sl w o τ sz A n c xs) (hτ : τ ≤ 13) : Sl w (small o) τ sz A n c xs :=
  ⟨h.1, h.2.1, h.2.2.1, fun hn => by obtain ⟨g, off, hA, ho, hg⟩ := h.2.2.2 hn; exact ⟨g, off, hA, small_at ho hτ, hg⟩⟩
theorem EndAt.small {w : World} {o : Own} {τ b : Nat} {s : EndS} (h : EndAt w o τ b s) (hτ : τ ≤ 13) : EndAt w (small o) τ b s := by
  obtain ⟨A, n, c, h1, h2, h3⟩ := h
  exact ⟨A, n, c, h1, small_at h2 hτ, h3.small hτ⟩

def wrS1 (own theirs : Int) : EndS := ⟨theirs, theirs + 2, own, own + 1, 0, [theirs + 1]⟩
theorem wr_conc1 (own theirs : Int) : wrY4.e.conc theirs own = wrS1 own theirs := by
  rw [wr_e1]; simp [AEnd.conc, wrS1]; omega
theorem wrS_fit {own theirs : Int} (h0 : 0 ≤ own) (h1 : own ≤ 1099511627776) (h2 : 0 ≤ theirs) (h3 : theirs ≤ 1099511627776) : (wrS own theirs).Fit :=
  ⟨h0, by show own ≤ own + 2; omega, by show own + 2 ≤ _; omega, h2, by show theirs - 1 ≤ theirs; omega, by show theirs ≤ _; omega, by show 0 < 4294967296; decide, by show 2 ≤ 256; decide, fun n hn => by
    simp only [wrS, List.mem_cons, List.not_mem_nil, or_false] at hn ⊢
    omega⟩
theorem wrS1_fit {own theirs : Int} (h0 : 0 ≤ own) (h1 : own ≤ 1099511627776) (h2 : 0 ≤ theirs) (h3 : theirs ≤ 1099511627776) : (wrS1 own theirs).Fit :=
  ⟨h2, by show theirs ≤ theirs + 2; omega, by show theirs + 2 ≤ _; omega, h0, by show own - 1 ≤ own + 1; omega, by show own + 1 ≤ _; omega, by show 0 < 4294967296; decide, by show 1 ≤ 256; decide, fun n hn => by
    simp only [wrS1, List.mem_cons, List.not_mem_nil, or_false] at hn ⊢
    omega⟩
theorem wr_received (w : World) (o : Own) (b : Nat) (own theirs : Int) (hE : EndAt w o 2 b (wrS own theirs)) :
    Calls Try.prog 34 #[.pointer (some ⟨b, 0, none⟩)] w fun e w' => e = .returned (.tuple #[.int .i64 theirs, .int .u32 0, .bool true]) ∧ ∃ k, w' = w.drewN k := by
  refine (Received_ok w o 2 b _ hE).mono ?_
  rintro e w' ⟨rfl, h⟩
  refine ⟨?_, h⟩
  rw [if_pos (show (wrS own theirs).other ≤ (wrS own theirs).newest from Int.le_refl _)]
  rfl
theorem wr_only (w : World) (o : Own) (b : Nat) (own theirs : Int) (h0 : 0 ≤ own) (h1 : own ≤ 1099511627776) (h2 : 0 ≤ theirs) (h3 : theirs ≤ 1099511627776) (hE : EndAt w o 3 b (wrS1 own theirs)) :
    Calls Try.prog 17 #[.pointer (some ⟨b, 0, none⟩)] w fun e w' => ∃ A c o', e = .returned (.tuple #[.slice A 7 c, .int .i64 0]) ∧ Step [] w o w' o' ∧ Sl w' o' 13 1 A 7 c (byts (wrOnly (own + 1) 0)) := by
  refine (Only_ok w o 3 13 b _ hE (wrS1_fit h0 h1 h2 h3) (show own ≤ own + 1 by omega)).mono ?_
  rintro e w' ⟨A, c, o', rfl, hst, hr⟩
  have hl : (ackP (wrS1 own theirs)).length = 7 := wrOnly_len (own + 1) 0
  rw [hl] at hr ⊢
  exact ⟨A, c, o', rfl, hst, hr.sl⟩

theorem run_headW (P : Program) (t e : TypeId) (z : Value) (sz b : Nat) (hu : P.underlying t = some (.slice e)) (hs : (P.info? e).map (fun i => (i.zero, i.size, i.bytes)) = some (some z, sz, b)) (A : Option Addr) (n c k : Nat) (hk : k ≤ c) (W : World) :
    (Instr.slice t (.slice A n c) none (some (.int .i64 (k : Int))) none).run P W = .ok (.slice A k c) W := by
  obtain ⟨i, h1, h2, h3, h4⟩ := info_parts hs
  have ha : A.map (fun a : Addr => a.add 0) = A := by cases A <;> rfl
  simp [Instr.slice, Instr.sliceBounds, Instr.sliceBound, asIntOf, run_underlying hu, sizeOf, typeInfo, h1, hk]
  intro _; exact ha
theorem Sl.headW {w : World} {o : Own} {τ n c : Nat} {A : Option Addr} {B : List UInt8} (h : Sl w o τ 1 A n c (byts B)) (m : Nat) (hm : m ≤ n) : (B.take m).length = m ∧ Sl w o τ 1 A m c (byts (B.take m)) := by
  have h2 := h.cut (i := 0) (j := m) (Nat.zero_le _) hm A (fun g' off' h _ => by rw [h]; simp)
  rw [Nat.zero_mul, List.drop_zero, Nat.sub_zero, Nat.sub_zero, Nat.mul_one] at h2
  have e : List.take m (byts B) = byts (B.take m) := by simp [byts]
  rw [e] at h2
  exact ⟨by have := h.1; simp at this; simp; omega, h2⟩
/-- The flags with the bit 4. -/
theorem or4 (cut : Nat) (h : cut ≤ 255) : ∃ FL : UInt8, bits .or .u8 (cut : Int) 4 = (FL.toNat : Int) ∧ 3 < FL.toNat := by
  have hk : ∀ c : Fin 256, bits .or .u8 ((c.val : Nat) : Int) 4 = (((UInt8.ofNat (c.val ||| 4)).toNat : Nat) : Int) ∧ 3 < (UInt8.ofNat (c.val ||| 4)).toNat := by decide +kernel
  have := hk ⟨cut, by omega⟩
  exact ⟨_, this.1, this.2⟩
theorem Step.below_at {w w' : World} {o o' : Own} {ts : List Nat} {m : Nat} (h : Step ts w o w' o') (hm : m ≤ w.heap.size) (ht : ∀ k, k < m → o k ∉ ts) : Below m w w' :=
  ⟨h.os, h.tape, h.output, h.size, fun k hk => h.block k (Nat.lt_of_lt_of_le hk hm) (ht k hk)⟩
theorem small_zero {o : Own} {k : Nat} (h : o k = 0) : small o k = 0 := by unfold small; rw [if_pos (by omega)]; exact h
theorem wrOnly_six (a : Int) : (wrOnly a 0)[6]? = some 0 := by
  obtain ⟨x, y, h⟩ : ∃ x y, two16 a = [x, y] := by
    have := two16_len a
    match two16 a, this with
    | [x, y], _ => exact ⟨x, y, rfl⟩
  unfold wrOnly
  rw [h]
  rfl
theorem wrOnly_set (a : Int) : (wrOnly a 0).set 6 2 = wrOnly a 2 := by
  obtain ⟨x, y, h⟩ : ∃ x y, two16 a = [x, y] := by
    have := two16_len a
    match two16 a, this with
    | [x, y], _ => exact ⟨x, y, rfl⟩
  unfold wrOnly
  rw [h]
  rfl
theorem bad_len (own theirs : Int) (bl : List UInt8) (cut : Nat) (FL : UInt8) : ∀ p ∈ badL own theirs bl cut FL, p.length ≤ bl.length + 2000 := by
  intro p hp
  simp only [badL, List.mem_cons, List.not_mem_nil, or_false] at hp
  rcases hp with rfl | rfl | rfl | rfl | rfl | rfl | rfl | rfl | rfl | rfl | rfl | rfl | rfl | rfl | rfl
  · exact Nat.zero_le _
  · show 1 ≤ _; omega
  · rw [List.length_cons]; omega
  · rw [List.length_cons]; omega
  · rw [List.length_take, wrFull_len]; omega
  · rw [List.length_take, wrFull_len]; omega
  · rw [List.length_take, wrOnly_len]; omega
  · rw [List.length_append, wrOnly_len]; show 7 + 1 ≤ _; omega
  · rw [List.length_append, wrFull_len, List.length_replicate]; omega
  · rw [wrOnly_len]; omega
  · rw [wrFull_len]; omega
  · rw [wrOnly_len]; omega
  · rw [wrFull_len]; omega
  · rw [wrFull_len]; omega
  · rw [wrOnly_len]; omega
/-- What the End does with each of them: nothing. -/
theorem wr_recv (w : World) (o : Own) (t b : Nat) (own theirs : Int) (ho : 100 ≤ own) (ho1 : own ≤ 1099511627776) (ht : 100 ≤ theirs) (ht1 : theirs ≤ 1099511627776) (bl : List UInt8) (cut : Nat) (FL : UInt8) (hfl : 3 < FL.toNat) (p : List UInt8) (hp : p ∈ badL own theirs bl cut FL) (hE : EndAt w o 2 b (wrS own theirs)) (h2 : t ≠ 2) (A : Option Addr) (n c : Nat) (hS : Sl w o t 1 A n c (byts p)) (hn : n ≤ 140737488355328) :
    Calls Try.prog 18 #[.pointer (some ⟨b, 0, none⟩), .slice A n c] w fun e w' => ∃ BA bc RA rc o', e = .returned (.tuple #[.slice BA 0 bc, .slice RA 0 rc, .int .i64 190]) ∧ Step [2] w o w' o' ∧ EndAt w' o' 2 b (wrS own theirs) := by
  refine (Receive_any w o 2 t 61 b _ hE (wrS_fit (by omega) ho1 (by omega) ht1) h2 (by decide) A c n p hS hn).mono ?_
  rw [bad_form own theirs ho ht bl cut FL hfl p hp]
  rintro e w' ⟨BA, bc, RA, rc, o', rfl, g1, g2, -, -⟩
  exact ⟨BA, bc, RA, rc, o', rfl, g1, g2⟩
theorem make_bytesN (m : Nat) (hm : m ≤ 4000) : ∃ cs : Array Value, ∀ W, (Instr.makeSlice 27 (.int .i64 (m : Int)) (.int .i64 (m : Int))).run Try.prog W = .ok (.slice (some ⟨W.heap.size, 0, none⟩) m m) (W.alloc (.cells cs 5)) := by
  have hi : (Try.prog.info? 5).map (fun i => (i.zero, i.size, i.bytes)) = some (some (.int .u8 0), 1, 1) := by kernel_rfl
  obtain ⟨i, h1, h2, h3, h4⟩ := info_parts hi
  refine ⟨Go.madeCells (Value.int .u8 0).cells (m * 1), fun W => ?_⟩
  have h := run_makeSlice (P := Try.prog) W 27 5 i (.int .u8 0) Try.underlying27 h1 h2 .i64 .i64 (m : Int) (m : Int) (by omega) (by omega) (by rw [h3, Int.toNat_natCast]; omega) (by rw [h4]; omega) (by omega)
  rw [h3, Int.toNat_natCast] at h
  exact h
end Go.Proofs.Ytpmbfgpfpdenbaa
