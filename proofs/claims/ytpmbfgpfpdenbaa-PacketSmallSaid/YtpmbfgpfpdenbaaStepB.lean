/-
  The three rows of a side while a packet is entered: a predicate on the world inside the region that draws its order.
-/
import Derived.Test.YtpmbfgpfpdenbaaStepA
namespace Go.Proofs.Ytpmbfgpfpdenbaa
open Go.RowKit

/-- A row's place. -/
structure RowV where
  A : Option Addr
  n : Nat
  c : Nat
  xs : List Value

/-- From (w2, o2) only the three rows of the side s may have changed; they lie as told; the temporaries T hold one value each. -/
def Pack (w2 : World) (o2 : Own) (s : Nat) (B R M : RowV) (T : List (Nat × Value)) (W : World) : Prop :=
  ∃ oW, Step [4 + s, 6 + s, 8 + s] w2 o2 W oW ∧ Row W oW (6 + s) 3 1 B.A B.n B.c B.xs ∧ Row W oW (8 + s) 3 1 R.A R.n R.c R.xs ∧ Row W oW (4 + s) 27 1 M.A M.n M.c M.xs ∧
    ∀ g u, (g, u) ∈ T → Sl W oW 11 1 (some ⟨g, 0, none⟩) 1 1 [u]

theorem Pack.drew {w2 W : World} {o2 : Own} {s : Nat} {B R M : RowV} {T : List (Nat × Value)} (h : Pack w2 o2 s B R M T W) : Pack w2 o2 s B R M T W.drew := by
  obtain ⟨oW, h1, h2, h3, h4, h5⟩ := h
  exact ⟨oW, h1.drew, h2.drewN 1, h3.drewN 1, h4.drewN 1, fun g u hu => (h5 g u hu).step (Step.refl [] W oW).drew (by simp)⟩

theorem Pack.alloc {w2 W : World} {o2 : Own} {s : Nat} {B R M : RowV} {T : List (Nat × Value)} (h : Pack w2 o2 s B R M T W) (u : Value) (e : TypeId) : Pack w2 o2 s B R M ((W.heap.size, u) :: T) (W.alloc (.cells #[u] e)) := by
  obtain ⟨oW, h1, h2, h3, h4, h5⟩ := h
  have st := (Step.refl [] W oW).alloc (.cells #[u] e) 11
  refine ⟨_, h1.alloc _ 11, h2.step st (by simp), h3.step st (by simp), h4.step st (by simp), fun g v hv => ?_⟩
  rcases List.mem_cons.1 hv with hv | hv
  · injection hv with e1 e2; subst e1; subst e2
    exact (Row.made (w := W) oW 11 e 1 #[v] 1 rfl (by decide) 1 (Nat.le_refl _)).sl
  · exact (h5 g v hv).step st (by simp)

theorem Pack.sub {w2 W : World} {o2 : Own} {s : Nat} {B R M : RowV} {T T' : List (Nat × Value)} (h : Pack w2 o2 s B R M T W) (hT : ∀ x ∈ T', x ∈ T) : Pack w2 o2 s B R M T' W := by
  obtain ⟨oW, h1, h2, h3, h4, h5⟩ := h
  exact ⟨oW, h1, h2, h3, h4, fun g u hu => h5 g u (hT _ hu)⟩

theorem Pack.growB {w2 W w' : World} {o2 oW : Own} {s : Nat} {B R M : RowV} {T : List (Nat × Value)} {u : Value} {A' : Option Addr} {c' : Nat} (hs : s < 2) (h1 : Step [4 + s, 6 + s, 8 + s] w2 o2 W oW) (h2 : Row W oW (6 + s) 3 1 B.A B.n B.c B.xs) (h3 : Row W oW (8 + s) 3 1 R.A R.n R.c R.xs) (h4 : Row W oW (4 + s) 27 1 M.A M.n M.c M.xs)
    (h5 : ∀ g u, (g, u) ∈ T → Sl W oW 11 1 (some ⟨g, 0, none⟩) 1 1 [u]) (hr' : Row w' (ext oW W.heap.size (6 + s)) (6 + s) 3 1 A' (B.n + 1) c' (B.xs ++ [u])) (hg : W.grownBy w' (Value.slice B.A B.n B.c).ownBlock) :
    Pack w2 o2 s ⟨A', B.n + 1, c', B.xs ++ [u]⟩ R M T w' := by
  have hob : ∀ g, (Value.slice B.A B.n B.c).ownBlock = some g → oW g = 6 + s := fun g hgb => by
    cases hA : B.A with
    | none => rw [hA] at hgb; simp [Value.ownBlock] at hgb
    | some ad => rw [hA] at hgb; simp [Value.ownBlock] at hgb; subst hgb; exact h2.2 ad hA
  have st := (Step.refl [6 + s] W oW).grown hg (fun g hgb => .inr (List.mem_singleton.2 (hob g hgb))) (6 + s)
  exact ⟨_, h1.trans (st.mono (by simp)), hr', h3.step st (by simp), h4.step st (by simp), fun g v hv => (h5 g v hv).step st (by simp <;> omega)⟩

theorem Pack.growR {w2 W w' : World} {o2 oW : Own} {s : Nat} {B R M : RowV} {T : List (Nat × Value)} {u : Value} {A' : Option Addr} {c' : Nat} (hs : s < 2) (h1 : Step [4 + s, 6 + s, 8 + s] w2 o2 W oW) (h2 : Row W oW (6 + s) 3 1 B.A B.n B.c B.xs) (h3 : Row W oW (8 + s) 3 1 R.A R.n R.c R.xs) (h4 : Row W oW (4 + s) 27 1 M.A M.n M.c M.xs)
    (h5 : ∀ g u, (g, u) ∈ T → Sl W oW 11 1 (some ⟨g, 0, none⟩) 1 1 [u]) (hr' : Row w' (ext oW W.heap.size (8 + s)) (8 + s) 3 1 A' (R.n + 1) c' (R.xs ++ [u])) (hg : W.grownBy w' (Value.slice R.A R.n R.c).ownBlock) :
    Pack w2 o2 s B ⟨A', R.n + 1, c', R.xs ++ [u]⟩ M T w' := by
  have hob : ∀ g, (Value.slice R.A R.n R.c).ownBlock = some g → oW g = 8 + s := fun g hgb => by
    cases hA : R.A with
    | none => rw [hA] at hgb; simp [Value.ownBlock] at hgb
    | some ad => rw [hA] at hgb; simp [Value.ownBlock] at hgb; subst hgb; exact h3.2 ad hA
  have st := (Step.refl [8 + s] W oW).grown hg (fun g hgb => .inr (List.mem_singleton.2 (hob g hgb))) (8 + s)
  exact ⟨_, h1.trans (st.mono (by simp)), h2.step st (by simp), hr', h4.step st (by simp), fun g v hv => (h5 g v hv).step st (by simp <;> omega)⟩

theorem Pack.growM {w2 W w' : World} {o2 oW : Own} {s : Nat} {B R M : RowV} {T : List (Nat × Value)} {u : Value} {A' : Option Addr} {c' : Nat} (hs : s < 2) (h1 : Step [4 + s, 6 + s, 8 + s] w2 o2 W oW) (h2 : Row W oW (6 + s) 3 1 B.A B.n B.c B.xs) (h3 : Row W oW (8 + s) 3 1 R.A R.n R.c R.xs) (h4 : Row W oW (4 + s) 27 1 M.A M.n M.c M.xs)
    (h5 : ∀ g u, (g, u) ∈ T → Sl W oW 11 1 (some ⟨g, 0, none⟩) 1 1 [u]) (hr' : Row w' (ext oW W.heap.size (4 + s)) (4 + s) 27 1 A' (M.n + 1) c' (M.xs ++ [u])) (hg : W.grownBy w' (Value.slice M.A M.n M.c).ownBlock) :
    Pack w2 o2 s B R ⟨A', M.n + 1, c', M.xs ++ [u]⟩ T w' := by
  have hob : ∀ g, (Value.slice M.A M.n M.c).ownBlock = some g → oW g = 4 + s := fun g hgb => by
    cases hA : M.A with
    | none => rw [hA] at hgb; simp [Value.ownBlock] at hgb
    | some ad => rw [hA] at hgb; simp [Value.ownBlock] at hgb; subst hgb; exact h4.2 ad hA
  have st := (Step.refl [4 + s] W oW).grown hg (fun g hgb => .inr (List.mem_singleton.2 (hob g hgb))) (4 + s)
  exact ⟨_, h1.trans (st.mono (by simp)), h2.step st (by simp), h3.step st (by simp), hr', fun g v hv => (h5 g v hv).step st (by simp <;> omega)⟩

section
variable {P : Program} {ops OPS : Array Oper} {Q QQ : Exit → Act → World → Prop} {md : Region.Mode} {S0 : World → Prop} {st fuel fuel' : Nat} {listed listed' : Array Bool} {a a' : Act} {w : World}
/-- The operations and the continuation behind names. -/
theorem wpAnyG_abs (h : ∀ (OPS : Array Oper) (QQ : Exit → Act → World → Prop), OPS = ops → QQ = Q → wpAnyG P md OPS QQ S0 st fuel listed a w) : wpAnyG P md ops Q S0 st fuel listed a w := h _ _ rfl rfl
theorem wpAnyG_lit (h : OPS = ops) (h' : wpAnyG P md ops Q S0 st fuel listed a w) : wpAnyG P md OPS Q S0 st fuel listed a w := h ▸ h'
theorem wpAnyG_ops (h : OPS = ops) (h' : wpAnyG P md OPS Q S0 st fuel listed a w) : wpAnyG P md ops Q S0 st fuel listed a w := h ▸ h'
theorem wpAnyG_cast (h1 : fuel = fuel') (h2 : listed = listed') (h3 : a = a') (h : wpAnyG P md ops Q S0 st fuel' listed' a' w) : wpAnyG P md ops Q S0 st fuel listed a w := by subst h1; subst h2; subst h3; exact h
end
end Go.Proofs.Ytpmbfgpfpdenbaa
