/-
  WALK of makes. (Printed by wip/gen/gen_makes2.py from wip/gen/WalkD.base.)
-/
import Derived.Test.YtpmbfgpfpdenbaaStepC
import Derived.Test.YtpmbfgpfpdenbaaWalkF
namespace Go.Proofs.Ytpmbfgpfpdenbaa
open Go.RowKit

/-- The link's cells behind makes. -/
def madeCells (cells : Array Value) (s : Nat) (v : SideV) : Array Value :=
  ((cells.setIfInBounds (s * 5 + 2) (.slice v.bA v.bn v.bc)).setIfInBounds (s * 5 + 3) (.slice v.rA v.rn v.rc)).setIfInBounds (s * 5 + 1) (.slice v.mA v.mn v.mc)

/-- What makes comes to. -/
def MakesTo (w : World) (o : Own) (l s : Nat) (v : SideV) (cells : Array Value) (own other : Int) (X : ASide) (e : Ending) (w' : World) : Prop :=
  e = .returned (.bool true) ∧ ∃ o' v', Step [1, 2 + s, 4 + s, 6 + s, 8 + s] w o w' o' ∧ v'.e = v.e ∧ Blk w' l 94 (madeCells cells s v') ∧ SideAt w' o' s v' own other X

set_option maxRecDepth 100000 in
set_option maxHeartbeats 8000000 in
theorem makes_any (w : World) (o : Own) (l s τ2 : Nat) (hs : s < 2) (own other : Int) (X Y : ASide) (v : SideV) (cells : Array Value) (hb : Blk w l 94 cells) (hol : o l = 1) (hcs : cells.size = 10)
    (h0 : cells[s * 5]? = some (.pointer (some ⟨v.e, 0, none⟩))) (h1 : cells[s * 5 + 1]? = some (.slice v.mA v.mn v.mc)) (h2 : cells[s * 5 + 2]? = some (.slice v.bA v.bn v.bc)) (h3 : cells[s * 5 + 3]? = some (.slice v.rA v.rn v.rc)) (h4 : cells[s * 5 + 4]? = some (.int .i64 own))
    (hX : SideAt w o s v own other X) (hI : LinkInv X Y) (hI' : LinkInv Y X) (hown : 0 ≤ own) (hown' : own ≤ 1099511627776) (hot : 0 ≤ other) (hot' : other ≤ 1099511627776) (hn : X.bodies.length ≤ 1000) (hm : Y.bodies.length ≤ 1000) (hmn : X.made.length ≤ 2000)
    (A : Option Addr) (n c : Nat) (xs : List UInt8) (hS : Sl w o τ2 1 A n c (byts xs)) (hnn : n ≤ 9223372036854775807) :
    Calls Try.prog 15 #[.pointer (some ⟨l, 0, none⟩), .int .i64 s, .slice A n c] w (MakesTo w o l s v cells own other (X.make (markB X.bodies.length xs))) := by
  have hsb : v.bn = X.bodies.length := by have := hX.bodies.len; simp at this; omega
  have hsr : v.rn = X.bodies.length := by have := hX.reports.len; have := hI.nr; simp at *; omega
  have c0 := (hb.cell (s * 5)).trans h0
  have c1 := (hb.cell (s * 5 + 1)).trans h1
  have c2 := (hb.cell (s * 5 + 2)).trans h2
  have c3 := (hb.cell (s * 5 + 3)).trans h3
  have c4 := (hb.cell (s * 5 + 4)).trans h4
  have hmark : Calls Try.prog 39 #[.int .i64 v.bn, .slice A n c] w.drew (MarkTo w.drew o 11 v.bn xs) := mark_any w.drew o τ2 11 v.bn (by omega) A n c xs (hS.step (Step.refl [] w o).drew (by simp)) hnn
  have hfit : (X.e.conc own other).Fit := conc_fit hI hown hown' hot hot' (by omega) (by omega)
  have hnext : (X.e.conc own other).next = own + v.bn := by show own + (X.e.n : Int) = own + (v.bn : Int); rw [hI.n, hsb]
  have hml := markB_len v.bn xs
  have hmake : ∀ w1 o1 g c' , Step [] w o w1 o1 → Row w1 o1 11 5 1 (some ⟨g, 0, none⟩) (markB v.bn xs).length c' (byts (markB v.bn xs)) →
      Calls Try.prog 24 #[.pointer (some ⟨v.e, 0, none⟩), .slice (some ⟨g, 0, none⟩) (markB v.bn xs).length c'] w1 fun e w' => ∃ A c o' LA lc, e = .returned (.tuple #[.slice A (packP (makeS (X.e.conc own other)) (X.e.conc own other).next (markB v.bn xs)).length c, .int .i64 (own + v.bn), .slice LA (lostP (X.e.conc own other)).length lc, .int .i64 0]) ∧
      Step [2 + s] w1 o1 w' o' ∧ EndAt w' o' (2 + s) v.e (makeS (X.e.conc own other)) ∧ Row w' o' 10 5 1 A (packP (makeS (X.e.conc own other)) (X.e.conc own other).next (markB v.bn xs)).length c (byts (packP (makeS (X.e.conc own other)) (X.e.conc own other).next (markB v.bn xs))) ∧ Sl w' o' 10 2 LA (lostP (X.e.conc own other)).length lc (reps (lostP (X.e.conc own other))) := by
    intro w1 o1 g c' hst hr
    have := Make_any w1 o1 (2 + s) 11 10 v.e (X.e.conc own other) (hX.e.step hst (by simp)) hfit (by omega) (by omega) ⟨g, 0, none⟩ (markB v.bn xs).length c' (markB v.bn xs) hr.sl hml.1 (by omega) (by rw [hnext]; omega)
    rw [hnext] at this ⊢
    exact this
  have HB := Lib.hid hb; have HX := Lib.hid hX; have HMA := Lib.hid hmark; have HMK := Lib.hid hmake; have HI := Lib.hid hI; have HI' := Lib.hid hI'; have HS := Lib.hid hS; have HSB := Lib.hid hsb; have HSR := Lib.hid hsr; have HNX := Lib.hid hnext; have HOL := Lib.hid hol; have HCS := Lib.hid hcs
  have H1 := Lib.hid h1; have H2 := Lib.hid h2; have H3 := Lib.hid h3; have H4 := Lib.hid h4
  have hvb : v.bn ≤ 1000 ∧ v.rn ≤ 1000 := by omega
  obtain ⟨hvb1, hvb2⟩ := hvb
  clear hb hX hmark hmake hI hI' hS hsb hsr hnext hol hcs hfit hml h0 h1 h2 h3 h4
  obtain ⟨P, hP⟩ : ∃ P, P = packP (makeS (X.e.conc own other)) (X.e.conc own other).next (markB v.bn xs) := ⟨_, rfl⟩
  obtain ⟨L, hL⟩ : ∃ L, L = lostP (X.e.conc own other) := ⟨_, rfl⟩
  rw [← hP, ← hL] at HMK
  have HP := Lib.hid hP; have HL := Lib.hid hL; clear hP hL
  go_enter Try.func15, Try.ntmps15
  go_wp2_with fail
  go_region_held3 (fun w' => w'.cell? ⟨l, s * 5, none⟩ = some (.pointer (some ⟨v.e, 0, none⟩))) (first | exact c0 | exact d0 | exact e0)
    (first
      | (go_at_call 39; refine HMA.out.mono ?_; rintro e w1 ⟨g, c', o1, rfl, hst1, hr1⟩; have d0 : w1.cell? ⟨l, s * 5, none⟩ = some (.pointer (some ⟨v.e, 0, none⟩)) := (World.cell?_of_block (a := ⟨l, s * 5, none⟩) (hst1.block l HB.out.lt (by simp))).trans c0; have HST1 := Lib.hid hst1; have HR1 := Lib.hid hr1; clear hst1 hr1)
      | (go_at_call 24; refine (HMK.out w1 o1 g c' ((Step.refl [] w o).drew.trans HST1.out) HR1.out).mono ?_; rintro e w2 ⟨PA, pc, o2, LA, lc, rfl, hst2, he2, hp2, hl2⟩; have e0 : w2.cell? ⟨l, s * 5, none⟩ = some (.pointer (some ⟨v.e, 0, none⟩)) := (World.cell?_of_block (a := ⟨l, s * 5, none⟩) (hst2.block l (Nat.lt_of_lt_of_le HB.out.lt HST1.out.size) (by rw [HST1.out.own l HB.out.lt, HOL.out]; simp; omega))).trans d0; have HST2 := Lib.hid hst2; have HE2 := Lib.hid he2; have HP2 := Lib.hid hp2; have HL2 := Lib.hid hl2; clear hst2 he2 hp2 hl2))
  go_wp2_with fail
  have hst02 : Step [2 + s] w o w2 o2 := (((Step.refl [] w o).drew.trans HST1.out).mono (by simp)).trans HST2.out
  have hbl2 : Blk w2 l 94 cells := HB.out.step hst02 (by rw [HOL.out]; simp; omega)
  have hol2 : o2 l = 1 := (hst02.own l HB.out.lt).trans HOL.out
  obtain ⟨vs, hvr, hvl, hvp⟩ := HX.out.made
  have hmnv : v.mn ≤ 2000 := by have := hvr.len; simp at hvl; omega
  have PK0 : Pack w2 o2 s ⟨v.bA, v.bn, v.bc, nats X.bodies⟩ ⟨v.rA, v.rn, v.rc, nats X.reports⟩ ⟨v.mA, v.mn, v.mc, vs⟩ [] w2.drew :=
    ⟨o2, (Step.refl _ _ _).drew, (HX.out.bodies.step hst02 (by simp)).step (Step.refl [] _ _).drew (by simp), (HX.out.reports.step hst02 (by simp)).step (Step.refl [] _ _).drew (by simp), (hvr.step hst02 (by simp)).step (Step.refl [] _ _).drew (by simp), fun _ _ h => by cases h⟩
  have hlk : ∀ B R M T W, Pack w2 o2 s B R M T W → Blk W l 94 cells := by
    rintro B R M T W ⟨oW, st, -⟩
    exact hbl2.step st (by rw [hol2]; simp; omega)
  have hlk2 : ∀ B R M T W, Pack w2 o2 s B R M T W → W.cell? ⟨l, s * 5 + 1, none⟩ = some (.slice v.mA v.mn v.mc) ∧ W.cell? ⟨l, s * 5 + 2, none⟩ = some (.slice v.bA v.bn v.bc) ∧ W.cell? ⟨l, s * 5 + 3, none⟩ = some (.slice v.rA v.rn v.rc) :=
    fun B R M T W h => ⟨((hlk B R M T W h).cell _).trans H1.out, ((hlk B R M T W h).cell _).trans H2.out, ((hlk B R M T W h).cell _).trans H3.out⟩
  have lk := hlk2 _ _ _ _ _ PK0
  have HLB := Lib.hid hlk; have HLK := Lib.hid hlk2; have HST02 := Lib.hid hst02; have HO2 := Lib.hid hol2; have HVR := Lib.hid hvr; have HVL := Lib.hid hvl; have HVP := Lib.hid hvp; have HPK0 := Lib.hid PK0
  clear hlk hlk2 hst02 hol2 hvr hvl hvp hbl2 PK0
  refine wp_region_till (S0 := fun w' => w'.cell? ⟨l, s * 5 + 1, none⟩ = some (.slice v.mA v.mn v.mc) ∧ w'.cell? ⟨l, s * 5 + 2, none⟩ = some (.slice v.bA v.bn v.bc) ∧ w'.cell? ⟨l, s * 5 + 3, none⟩ = some (.slice v.rA v.rn v.rc)) (st := 24) (by kernel_rfl) ?_
  change wpAnyG _ _ _ _ _ _ _ _ _ (World.drew _)
  refine wpAnyG_take (i := 0) (v := ?_) rfl (by kernel_rfl) (by kernel_rfl) (by kernel_rfl) (by kernel_rfl) (fun _ _ _ h => h) (Or.inl ⟨by rfl, ?_⟩) (.inr lk) ?_
  rotate_left
  · intro w' _; go_simp; try with_reducible rfl
  try simp only [Act.put, List.getElem_toArray, List.getElem_cons_zero, List.setIfInBounds_toArray, List.set_cons_zero, List.set_cons_succ]
  refine wpAnyG_take (i := 1) (v := ?_) rfl (by kernel_rfl) (by kernel_rfl) (by kernel_rfl) (by kernel_rfl) (fun _ _ _ h => h) (Or.inl ⟨by rfl, ?_⟩) (.inr lk) ?_
  rotate_left
  · intro w' _; go_simp; try with_reducible rfl
  try simp only [Act.put, List.getElem_toArray, List.getElem_cons_zero, List.getElem_cons_succ, List.setIfInBounds_toArray, List.set_cons_zero, List.set_cons_succ]
  refine wpAnyG_take (i := 2) (v := ?_) rfl (by kernel_rfl) (by kernel_rfl) (by kernel_rfl) (by kernel_rfl) (fun _ _ _ h => h) (Or.inl ⟨by rfl, ?_⟩) (.inr lk) ?_
  rotate_left
  · intro w' _; go_simp; try with_reducible rfl
  try simp only [Act.put, List.getElem_toArray, List.getElem_cons_zero, List.getElem_cons_succ, List.setIfInBounds_toArray, List.set_cons_zero, List.set_cons_succ]
  refine wpAnyG_take (i := 3) (v := ?_) rfl (by kernel_rfl) (by kernel_rfl) (by kernel_rfl) (by kernel_rfl) (fun _ _ _ h => h) (Or.inl ⟨by rfl, ?_⟩) (.inr lk) ?_
  rotate_left
  · intro w' _; go_simp; try with_reducible rfl
  try simp only [Act.put, List.getElem_toArray, List.getElem_cons_zero, List.getElem_cons_succ, List.setIfInBounds_toArray, List.set_cons_zero, List.set_cons_succ]
  refine wpAnyG_take (i := 4) (v := ?_) rfl (by kernel_rfl) (by kernel_rfl) (by kernel_rfl) (by kernel_rfl) (fun _ _ _ h => h) (Or.inl ⟨by rfl, ?_⟩) (.inr lk) ?_
  rotate_left
  · intro w' _; go_simp; try with_reducible rfl
  try simp only [Act.put, List.getElem_toArray, List.getElem_cons_zero, List.getElem_cons_succ, List.setIfInBounds_toArray, List.set_cons_zero, List.set_cons_succ]
  refine wpAnyG_take (i := 5) (v := ?_) rfl (by kernel_rfl) (by kernel_rfl) (by kernel_rfl) (by kernel_rfl) (fun _ _ _ h => h) (Or.inl ⟨by rfl, ?_⟩) (.inr lk) ?_
  rotate_left
  · intro w' _; go_simp; try with_reducible rfl
  try simp only [Act.put, List.getElem_toArray, List.getElem_cons_zero, List.getElem_cons_succ, List.setIfInBounds_toArray, List.set_cons_zero, List.set_cons_succ]
  refine wpAnyG_load (i := 6) (v := ?_) rfl rfl (by kernel_rfl) (by kernel_rfl) (by kernel_rfl) (by kernel_rfl) (by kernel_rfl) (by kernel_rfl) (fun _ _ _ h => h) (Or.inl ⟨by rfl, ?_⟩) lk ?_
  rotate_left
  · intro w' hSw; obtain ⟨z1, z2, z3⟩ := hSw; go_simp; try with_reducible rfl
  try simp only [Act.put, List.getElem_toArray, List.getElem_cons_zero, List.getElem_cons_succ, List.setIfInBounds_toArray, List.set_cons_zero, List.set_cons_succ]
  refine wpAnyG_take (i := 9) (v := ?_) rfl (by kernel_rfl) (by kernel_rfl) (by kernel_rfl) (by kernel_rfl) (fun _ _ _ h => h) (Or.inl ⟨by rfl, ?_⟩) (.inr lk) ?_
  rotate_left
  · intro w' _; go_simp; try with_reducible rfl
  try simp only [Act.put, List.getElem_toArray, List.getElem_cons_zero, List.getElem_cons_succ, List.setIfInBounds_toArray, List.set_cons_zero, List.set_cons_succ]
  refine wpAnyG_take (i := 10) (v := ?_) rfl (by kernel_rfl) (by kernel_rfl) (by kernel_rfl) (by kernel_rfl) (fun _ _ _ h => h) (Or.inl ⟨by rfl, ?_⟩) (.inr lk) ?_
  rotate_left
  · intro w' _; go_simp; try with_reducible rfl
  try simp only [Act.put, List.getElem_toArray, List.getElem_cons_zero, List.getElem_cons_succ, List.setIfInBounds_toArray, List.set_cons_zero, List.set_cons_succ]
  refine wpAnyG_take (i := 11) (v := ?_) rfl (by kernel_rfl) (by kernel_rfl) (by kernel_rfl) (by kernel_rfl) (fun _ _ _ h => h) (Or.inl ⟨by rfl, ?_⟩) (.inr lk) ?_
  rotate_left
  · intro w' _; go_simp; try with_reducible rfl
  try simp only [Act.put, List.getElem_toArray, List.getElem_cons_zero, List.getElem_cons_succ, List.setIfInBounds_toArray, List.set_cons_zero, List.set_cons_succ]
  refine wpAnyG_load (i := 12) (v := ?_) rfl rfl (by kernel_rfl) (by kernel_rfl) (by kernel_rfl) (by kernel_rfl) (by kernel_rfl) (by kernel_rfl) (fun _ _ _ h => h) (Or.inl ⟨by rfl, ?_⟩) lk ?_
  rotate_left
  · intro w' hSw; obtain ⟨z1, z2, z3⟩ := hSw; go_simp; try with_reducible rfl
  try simp only [Act.put, List.getElem_toArray, List.getElem_cons_zero, List.getElem_cons_succ, List.setIfInBounds_toArray, List.set_cons_zero, List.set_cons_succ]
  refine wpAnyG_take (i := 15) (v := ?_) rfl (by kernel_rfl) (by kernel_rfl) (by kernel_rfl) (by kernel_rfl) (fun _ _ _ h => h) (Or.inl ⟨by rfl, ?_⟩) (.inr lk) ?_
  rotate_left
  · intro w' _; go_simp; try with_reducible rfl
  try simp only [Act.put, List.getElem_toArray, List.getElem_cons_zero, List.getElem_cons_succ, List.setIfInBounds_toArray, List.set_cons_zero, List.set_cons_succ]
  refine wpAnyG_take (i := 16) (v := ?_) rfl (by kernel_rfl) (by kernel_rfl) (by kernel_rfl) (by kernel_rfl) (fun _ _ _ h => h) (Or.inl ⟨by rfl, ?_⟩) (.inr lk) ?_
  rotate_left
  · intro w' _; go_simp; try with_reducible rfl
  try simp only [Act.put, List.getElem_toArray, List.getElem_cons_zero, List.getElem_cons_succ, List.setIfInBounds_toArray, List.set_cons_zero, List.set_cons_succ]
  refine wpAnyG_take (i := 17) (v := ?_) rfl (by kernel_rfl) (by kernel_rfl) (by kernel_rfl) (by kernel_rfl) (fun _ _ _ h => h) (Or.inl ⟨by rfl, ?_⟩) (.inr lk) ?_
  rotate_left
  · intro w' _; go_simp; try with_reducible rfl
  try simp only [Act.put, List.getElem_toArray, List.getElem_cons_zero, List.getElem_cons_succ, List.setIfInBounds_toArray, List.set_cons_zero, List.set_cons_succ]
  refine wpAnyG_load (i := 18) (v := ?_) rfl rfl (by kernel_rfl) (by kernel_rfl) (by kernel_rfl) (by kernel_rfl) (by kernel_rfl) (by kernel_rfl) (fun _ _ _ h => h) (Or.inl ⟨by rfl, ?_⟩) lk ?_
  rotate_left
  · intro w' hSw; obtain ⟨z1, z2, z3⟩ := hSw; go_simp; try with_reducible rfl
  try simp only [Act.put, List.getElem_toArray, List.getElem_cons_zero, List.getElem_cons_succ, List.setIfInBounds_toArray, List.set_cons_zero, List.set_cons_succ]
  refine wpAnyG_take (i := 19) (v := ?_) rfl (by kernel_rfl) (by kernel_rfl) (by kernel_rfl) (by kernel_rfl) (fun _ _ _ h => h) (Or.inl ⟨by rfl, ?_⟩) (.inr lk) ?_
  rotate_left
  · intro w' _; go_simp; try with_reducible rfl
  try simp only [Act.put, List.getElem_toArray, List.getElem_cons_zero, List.getElem_cons_succ, List.setIfInBounds_toArray, List.set_cons_zero, List.set_cons_succ]
  refine wpAnyG_abs (fun OPS QQ hO hQ => ?_)
  have HO := Lib.hid hO; have HQ := Lib.hid hQ; clear hO hQ
  have N7_8_13_14_20_21 : ∀ (gB : Nat) (AB : Option Addr) (cB : Nat) (gR : Nat) (AR : Option Addr) (cR : Nat) (gM : Nat) (AM : Option Addr) (cM : Nat) (W : World), Pack w2 o2 s ⟨AB, v.bn + 1, cB, nats X.bodies ++ [(.int .i64 0)]⟩ ⟨AR, v.rn + 1, cR, nats X.reports ++ [(.int .i64 0)]⟩ ⟨AM, v.mn + 1, cM, vs ++ [(.slice PA P.length pc)]⟩ [] W → wpAnyG Try.prog Region.Mode.any OPS QQ (fun w' => w'.cell? ⟨l, s * 5 + 1, none⟩ = some (.slice v.mA v.mn v.mc) ∧ w'.cell? ⟨l, s * 5 + 2, none⟩ = some (.slice v.bA v.bn v.bc) ∧ w'.cell? ⟨l, s * 5 + 3, none⟩ = some (.slice v.rA v.rn v.rc)) 24 9 #[true, true, true, true, true, true, true, true, true, true, true, true, true, true, true, true, true, true, true, true, true, true, false, false, false, false, false, false, false, false, false] ⟨#[(.pointer (some ⟨l, 0, none⟩) : Value), (.int .i64 s : Value), (.slice A n c : Value), undef, undef, undef, (.bool false : Value), (.pointer (some ⟨l, s * 5, none⟩) : Value), (.int .i64 v.bn : Value), (.slice PA P.length pc : Value), (.int .i64 (own + v.bn) : Value), (.slice LA L.length lc : Value), (.int .i64 0 : Value), (.pointer (some ⟨l, 0, none⟩) : Value), (.int .i64 s : Value), (.pointer (some ⟨l, 0, none⟩) : Value), (.pointer (some ⟨l, s * 5, none⟩) : Value), (.pointer (some ⟨l, s * 5, none⟩) : Value), (.pointer (some ⟨l, s * 5, none⟩) : Value), (.pointer (some ⟨l, s * 5 + 2, none⟩) : Value), (.slice v.bA v.bn v.bc : Value), (.int .i64 v.bn : Value), (.tuple #[.slice PA P.length pc, .int .i64 (own + v.bn), .slice LA L.length lc, .int .i64 0] : Value), (.pointer (some ⟨l, s * 5, none⟩) : Value), (.pointer (some ⟨l, s * 5, none⟩) : Value), (.pointer (some ⟨l, s * 5, none⟩) : Value), (.pointer (some ⟨v.e, 0, none⟩) : Value), (.int .i64 v.bn : Value), (.slice A n c : Value), (.slice (some ⟨g, 0, none⟩) (markB v.bn xs).length c' : Value), (.tuple #[.slice PA P.length pc, .int .i64 (own + v.bn), .slice LA L.length lc, .int .i64 0] : Value), (.slice PA P.length pc : Value), (.int .i64 (own + v.bn) : Value), (.slice LA L.length lc : Value), (.int .i64 0 : Value), (.pointer (some ⟨l, s * 5, none⟩) : Value), (.pointer (some ⟨l, s * 5, none⟩) : Value), (.pointer (some ⟨l, s * 5, none⟩) : Value), (.pointer (some ⟨l, s * 5, none⟩) : Value), (.pointer (some ⟨l, s * 5, none⟩) : Value), (.pointer (some ⟨l, s * 5 + 2, none⟩) : Value), (.slice v.bA v.bn v.bc : Value), (.slice (some ⟨gB, 0, none⟩) 1 1 : Value), (.slice AB (v.bn + 1) cB : Value), (.pointer (some ⟨l, s * 5, none⟩) : Value), (.pointer (some ⟨l, s * 5, none⟩) : Value), (.pointer (some ⟨l, s * 5 + 3, none⟩) : Value), (.slice v.rA v.rn v.rc : Value), (.slice (some ⟨gR, 0, none⟩) 1 1 : Value), (.slice AR (v.rn + 1) cR : Value), (.pointer (some ⟨l, s * 5, none⟩) : Value), (.pointer (some ⟨l, s * 5, none⟩) : Value), (.pointer (some ⟨l, s * 5 + 1, none⟩) : Value), (.slice v.mA v.mn v.mc : Value), (.slice PA P.length pc : Value), (.slice (some ⟨gM, 0, none⟩) 1 1 : Value), (.slice AM (v.mn + 1) cM : Value), undef, undef, undef, undef, undef, undef, undef, undef, undef, undef, undef, undef, undef, undef, undef, undef, undef, undef, undef, undef, undef, undef, undef, undef, undef, undef, undef, undef, undef], []⟩ W := by
    intro gB AB cB gR AR cR gM AM cM W PK
    refine wpAnyG_lit HO.out ?_
    have hbl := HLB.out _ _ _ _ _ PK
    have S00 := HLK.out _ _ _ _ _ PK
    have k2 := (hbl.cell (s * 5 + 2)).trans H2.out
    have f2 := hbl.frozen (s * 5 + 2)
    have HBL := Lib.hid hbl; have HPK := Lib.hid PK; clear hbl PK
    refine wpAnyG_ready (rs := [22]) (by kernel_rfl) (by simp) ?_
    refine AllReadyG.cons rfl (fun K hK => ?_) AllReadyG.nil
    go_simp
    refine hK.out _ _ (.inr S00) ?_
    clear hK K
    refine wpAnyG_ready (rs := [23]) (by kernel_rfl) (by simp) ?_
    refine AllReadyG.cons rfl (fun K hK => ?_) AllReadyG.nil
    go_simp
    refine hK.out _ _ (.inr S00) ?_
    clear hK K
    refine wpAnyG_ready (rs := [24]) (by kernel_rfl) (by simp) ?_
    refine AllReadyG.cons rfl (fun K hK => ?_) AllReadyG.nil
    go_simp
    refine hK.out _ _ (.inl rfl) ?_
    clear hK K k2 f2 S00
    obtain ⟨W24, hW24⟩ : ∃ W24, W24 = W.setCell ⟨l, s * 5 + 2, none⟩ (.slice AB (v.bn + 1) cB) := ⟨_, rfl⟩
    rw [← hW24]
    have hb24 : Blk W24 l 94 (cells.setIfInBounds (s * 5 + 2) (.slice AB (v.bn + 1) cB)) := by rw [hW24]; exact HBL.out.set_ _ _
    have k3 : W24.cell? ⟨l, s * 5 + 3, none⟩ = some (.slice v.rA v.rn v.rc) := by rw [hb24.cell, Array.getElem?_setIfInBounds_ne (by omega)]; exact H3.out
    have f3 := hb24.frozen (s * 5 + 3)
    have HW24 := Lib.hid hW24; have HB24 := Lib.hid hb24; clear hW24 hb24
    refine wpAnyG_ready (rs := [25]) (by kernel_rfl) (by simp) ?_
    refine AllReadyG.cons rfl (fun K hK => ?_) AllReadyG.nil
    go_simp
    refine hK.out _ _ (.inl rfl) ?_
    clear hK K
    refine wpAnyG_ready (rs := [26]) (by kernel_rfl) (by simp) ?_
    refine AllReadyG.cons rfl (fun K hK => ?_) AllReadyG.nil
    go_simp
    refine hK.out _ _ (.inl rfl) ?_
    clear hK K
    refine wpAnyG_ready (rs := [27]) (by kernel_rfl) (by simp) ?_
    refine AllReadyG.cons rfl (fun K hK => ?_) AllReadyG.nil
    go_simp
    refine hK.out _ _ (.inl rfl) ?_
    clear hK K k3 f3
    obtain ⟨W27, hW27⟩ : ∃ W27, W27 = W24.setCell ⟨l, s * 5 + 3, none⟩ (.slice AR (v.rn + 1) cR) := ⟨_, rfl⟩
    rw [← hW27]
    have hb27 : Blk W27 l 94 ((cells.setIfInBounds (s * 5 + 2) (.slice AB (v.bn + 1) cB)).setIfInBounds (s * 5 + 3) (.slice AR (v.rn + 1) cR)) := by rw [hW27]; exact HB24.out.set_ _ _
    have k1 : W27.cell? ⟨l, s * 5 + 1, none⟩ = some (.slice v.mA v.mn v.mc) := by rw [hb27.cell, Array.getElem?_setIfInBounds_ne (by omega), Array.getElem?_setIfInBounds_ne (by omega)]; exact H1.out
    have f1 := hb27.frozen (s * 5 + 1)
    have HW27 := Lib.hid hW27; have HB27 := Lib.hid hb27; clear hW27 hb27
    refine wpAnyG_ready (rs := [28]) (by kernel_rfl) (by simp) ?_
    refine AllReadyG.cons rfl (fun K hK => ?_) AllReadyG.nil
    go_simp
    refine hK.out _ _ (.inl rfl) ?_
    clear hK K
    refine wpAnyG_ready (rs := [29]) (by kernel_rfl) (by simp) ?_
    refine AllReadyG.cons rfl (fun K hK => ?_) AllReadyG.nil
    go_simp
    refine hK.out _ _ (.inl rfl) ?_
    clear hK K
    refine wpAnyG_ready (rs := [30]) (by kernel_rfl) (by simp) ?_
    refine AllReadyG.cons rfl (fun K hK => ?_) AllReadyG.nil
    go_simp
    refine hK.out _ _ (.inl rfl) ?_
    clear hK K k1 f1
    obtain ⟨W30, hW30⟩ : ∃ W30, W30 = W27.setCell ⟨l, s * 5 + 1, none⟩ (.slice AM (v.mn + 1) cM) := ⟨_, rfl⟩
    rw [← hW30]
    have HW30 := Lib.hid hW30; clear hW30
    refine wpAnyG_done (by kernel_rfl) ?_ _
    rw [HQ.out]
    obtain ⟨oW, p1, p2, p3, p4, -⟩ := HPK.out
    have hlw2 : l < w2.heap.size := Nat.lt_of_lt_of_le HB.out.lt HST02.out.size
    have hoW : oW l = 1 := (p1.own l hlw2).trans HO2.out
    have stW : Step [1] W oW W30 oW := by
      rw [HW30.out, HW27.out, HW24.out]
      exact (((Step.refl [1] W oW).setCell (p := ⟨l, s * 5 + 2, none⟩) (.inr (by rw [hoW]; simp)) _).setCell (p := ⟨l, s * 5 + 3, none⟩) (.inr (by rw [hoW]; simp)) _).setCell (p := ⟨l, s * 5 + 1, none⟩) (.inr (by rw [hoW]; simp)) _
    have hb30 : Blk W30 l 94 (madeCells cells s ⟨v.e, AM, v.mn + 1, cM, AB, v.bn + 1, cB, AR, v.rn + 1, cR⟩) := by rw [HW30.out]; exact HB27.out.set_ _ _
    have q2 : (madeCells cells s ⟨v.e, AM, v.mn + 1, cM, AB, v.bn + 1, cB, AR, v.rn + 1, cR⟩)[s * 5 + 2]? = some (.slice AB (v.bn + 1) cB) := by
      unfold madeCells
      rw [Array.getElem?_setIfInBounds_ne (by omega), Array.getElem?_setIfInBounds_ne (by omega), Array.getElem?_setIfInBounds_self, if_pos (by rw [HCS.out]; omega)]
    have q3 : (madeCells cells s ⟨v.e, AM, v.mn + 1, cM, AB, v.bn + 1, cB, AR, v.rn + 1, cR⟩)[s * 5 + 3]? = some (.slice AR (v.rn + 1) cR) := by
      unfold madeCells
      rw [Array.getElem?_setIfInBounds_ne (by omega), Array.getElem?_setIfInBounds_self, if_pos (by simp only [Array.size_setIfInBounds]; rw [HCS.out]; omega)]
    have q4 : (madeCells cells s ⟨v.e, AM, v.mn + 1, cM, AB, v.bn + 1, cB, AR, v.rn + 1, cR⟩)[s * 5 + 4]? = some (.int .i64 own) := by
      unfold madeCells
      rw [Array.getElem?_setIfInBounds_ne (by omega), Array.getElem?_setIfInBounds_ne (by omega), Array.getElem?_setIfInBounds_ne (by omega)]; exact H4.out
    have r2 : Row W30 oW (6 + s) 3 1 AB (v.bn + 1) cB (nats (X.grow (markB v.bn xs)).bodies) := by
      have := p2.step stW (by simp <;> omega)
      simp only [nats_snoc] at this
      exact this
    have r3 : Row W30 oW (8 + s) 3 1 AR (v.rn + 1) cR (nats (X.grow (markB v.bn xs)).reports) := by
      have := p3.step stW (by simp <;> omega)
      simp only [nats_snoc] at this
      exact this
    have hLl : L = movR own X.e.lost := by rw [HL.out, conc_lost]
    have hLlen : L.length ≤ 256 := by
      rw [HL.out]; unfold lostP; split <;> simp
    have r5 : Sl W30 oW 10 2 LA L.length lc (reps (movR own X.e.lost)) := by
      rw [← hLl]
      exact (HL2.out.step p1 (by simp; omega)).step stW (by simp)
    have hcon := noted_any W30 oW l s (6 + s) (8 + s) 10 hs own (X.grow (markB v.bn xs)) X.e.lost _ AB AR LA (v.bn + 1) cB (v.rn + 1) cR L.length lc hb30 (by rw [hoW]; omega) q2 q3 q4 r2 r3 r5 (by omega) (by omega) (make_noteOk HI.out _)
      (by show (X.reports ++ [0]).length = (X.bodies ++ [0]).length; have := HI.out.nr; simp; omega) hown hown' (by show (X.bodies ++ [0]).length ≤ _; simp; omega) (by omega)
    have c4' := (hb30.cell (s * 5 + 4)).trans q4
    have hpl : P.length ≤ 1200 := by
      rw [HP.out]
      have := markB_len v.bn xs
      unfold packP
      split <;> simp only [List.length_append, bytesOf_len] <;> omega
    have HCON := Lib.hid hcon; have HSTW := Lib.hid stW; have HOW := Lib.hid hoW; have HB30 := Lib.hid hb30; have HP1 := Lib.hid p1; have HR2 := Lib.hid r2; have HP4 := Lib.hid p4; have HLL := Lib.hid hLl; have HL30 := Lib.hid hb30.lt; have HLW2 := Lib.hid hlw2
    clear hcon stW hoW hb30 p1 p2 p3 p4 r2 r3 r5 q2 q3 q4 hLl hLlen hlw2
    have hoo : 0 ≤ own + (v.bn : Int) ∧ own + (v.bn : Int) ≤ 2000000000000 := by omega
    obtain ⟨hoo1, hoo2⟩ := hoo
    go_wp2_with (go_at_call 19; refine HCON.out.mono ?_; rintro e w4 ⟨rfl, o4, st4, hr4⟩; have HST4 := Lib.hid st4; have HR4 := Lib.hid hr4; clear st4 hr4)
    go_ret
    have hXn : X.e.n = v.bn := by rw [HI.out.n, HSB.out]
    have hbe : markB X.bodies.length xs = markB v.bn xs := by rw [HSB.out]
    rw [hbe]
    have all : ∀ {t}, t ∉ [4 + s, 6 + s, 8 + s] → t ∉ [1] → t ∉ [8 + s] → ∀ {A' : Option Addr} {n' c' sz : Nat} {ys : List Value}, Sl w2 o2 t sz A' n' c' ys → Sl w4 o4 t sz A' n' c' ys :=
      fun a b c' _ _ _ _ _ h => ((h.step HP1.out a).step HSTW.out b).step HST4.out c'
    refine ⟨rfl, o4, ⟨v.e, AM, v.mn + 1, cM, AB, v.bn + 1, cB, AR, v.rn + 1, cR⟩, ?_, rfl, HB30.out.step HST4.out (by rw [HOW.out]; simp; omega), ⟨?_, ?_, ?_, HR4.out⟩⟩
    · exact (((HST02.out.mono (by simp)).trans (HP1.out.mono (by simp))).trans (HSTW.out.mono (by simp))).trans (HST4.out.mono (by simp))
    · have := HE2.out
      rw [conc_make] at this
      exact ((this.step HP1.out (by simp <;> omega)).step HSTW.out (by simp <;> omega)).step HST4.out (by simp <;> omega)
    · refine ⟨vs ++ [.slice PA P.length pc], (HP4.out.step HSTW.out (by simp <;> omega)).step HST4.out (by simp <;> omega), ?_, ?_⟩
      · show _ = (List.map _ (X.made ++ [_])).length
        have := HVL.out
        simp at this ⊢
        exact this
      · intro i p hi
        rw [show (X.make (markB v.bn xs)).made = X.made ++ [⟨some (X.e.n, markB v.bn xs), X.e.note⟩] from rfl, List.map_append, List.map_cons, List.map_nil, List.getElem?_append] at hi
        rw [List.getElem?_append]
        by_cases hlt : i < (X.made.map (APkt.enc own other)).length
        · rw [if_pos hlt] at hi
          rw [if_pos (by rw [HVL.out]; exact hlt)]
          obtain ⟨A', n', c', h1, h2⟩ := HVP.out i p hi
          exact ⟨A', n', c', h1, all (by simp; omega) (by simp) (by simp; omega) (h2.step HST02.out (by simp; omega))⟩
        · rw [if_neg hlt] at hi
          rw [if_neg (by rw [HVL.out]; exact hlt), HVL.out]
          generalize i - (X.made.map (APkt.enc own other)).length = j at hi ⊢
          cases j with
          | succ j => simp at hi
          | zero =>
            simp only [List.getElem?_cons_zero, Option.some.injEq] at hi ⊢
            refine ⟨PA, P.length, pc, rfl, ?_⟩
            rw [← hi, ← conc_pack, ← HP.out]
            exact all (by simp; omega) (by simp) (by simp; omega) HP2.out.sl
    · exact HR2.out.step HST4.out (by simp <;> omega)
  have N7_8_13_14_20 : ∀ (gB : Nat) (AB : Option Addr) (cB : Nat) (gR : Nat) (AR : Option Addr) (cR : Nat) (gM : Nat) (W : World), Pack w2 o2 s ⟨AB, v.bn + 1, cB, nats X.bodies ++ [(.int .i64 0)]⟩ ⟨AR, v.rn + 1, cR, nats X.reports ++ [(.int .i64 0)]⟩ ⟨v.mA, v.mn, v.mc, vs⟩ [(gM, (.slice PA P.length pc))] W → wpAnyG Try.prog Region.Mode.any OPS QQ (fun w' => w'.cell? ⟨l, s * 5 + 1, none⟩ = some (.slice v.mA v.mn v.mc) ∧ w'.cell? ⟨l, s * 5 + 2, none⟩ = some (.slice v.bA v.bn v.bc) ∧ w'.cell? ⟨l, s * 5 + 3, none⟩ = some (.slice v.rA v.rn v.rc)) 24 10 #[true, true, true, true, true, true, true, true, true, true, true, true, true, true, true, true, true, true, true, true, true, false, false, false, false, false, false, false, false, false, false] ⟨#[(.pointer (some ⟨l, 0, none⟩) : Value), (.int .i64 s : Value), (.slice A n c : Value), undef, undef, undef, (.bool false : Value), (.pointer (some ⟨l, s * 5, none⟩) : Value), (.int .i64 v.bn : Value), (.slice PA P.length pc : Value), (.int .i64 (own + v.bn) : Value), (.slice LA L.length lc : Value), (.int .i64 0 : Value), (.pointer (some ⟨l, 0, none⟩) : Value), (.int .i64 s : Value), (.pointer (some ⟨l, 0, none⟩) : Value), (.pointer (some ⟨l, s * 5, none⟩) : Value), (.pointer (some ⟨l, s * 5, none⟩) : Value), (.pointer (some ⟨l, s * 5, none⟩) : Value), (.pointer (some ⟨l, s * 5 + 2, none⟩) : Value), (.slice v.bA v.bn v.bc : Value), (.int .i64 v.bn : Value), (.tuple #[.slice PA P.length pc, .int .i64 (own + v.bn), .slice LA L.length lc, .int .i64 0] : Value), (.pointer (some ⟨l, s * 5, none⟩) : Value), (.pointer (some ⟨l, s * 5, none⟩) : Value), (.pointer (some ⟨l, s * 5, none⟩) : Value), (.pointer (some ⟨v.e, 0, none⟩) : Value), (.int .i64 v.bn : Value), (.slice A n c : Value), (.slice (some ⟨g, 0, none⟩) (markB v.bn xs).length c' : Value), (.tuple #[.slice PA P.length pc, .int .i64 (own + v.bn), .slice LA L.length lc, .int .i64 0] : Value), (.slice PA P.length pc : Value), (.int .i64 (own + v.bn) : Value), (.slice LA L.length lc : Value), (.int .i64 0 : Value), (.pointer (some ⟨l, s * 5, none⟩) : Value), (.pointer (some ⟨l, s * 5, none⟩) : Value), (.pointer (some ⟨l, s * 5, none⟩) : Value), (.pointer (some ⟨l, s * 5, none⟩) : Value), (.pointer (some ⟨l, s * 5, none⟩) : Value), (.pointer (some ⟨l, s * 5 + 2, none⟩) : Value), (.slice v.bA v.bn v.bc : Value), (.slice (some ⟨gB, 0, none⟩) 1 1 : Value), (.slice AB (v.bn + 1) cB : Value), (.pointer (some ⟨l, s * 5, none⟩) : Value), (.pointer (some ⟨l, s * 5, none⟩) : Value), (.pointer (some ⟨l, s * 5 + 3, none⟩) : Value), (.slice v.rA v.rn v.rc : Value), (.slice (some ⟨gR, 0, none⟩) 1 1 : Value), (.slice AR (v.rn + 1) cR : Value), (.pointer (some ⟨l, s * 5, none⟩) : Value), (.pointer (some ⟨l, s * 5, none⟩) : Value), (.pointer (some ⟨l, s * 5 + 1, none⟩) : Value), (.slice v.mA v.mn v.mc : Value), (.slice PA P.length pc : Value), (.slice (some ⟨gM, 0, none⟩) 1 1 : Value), undef, undef, undef, undef, undef, undef, undef, undef, undef, undef, undef, undef, undef, undef, undef, undef, undef, undef, undef, undef, undef, undef, undef, undef, undef, undef, undef, undef, undef, undef], []⟩ W := by
    intro gB AB cB gR AR cR gM W PK
    refine wpAnyG_lit HO.out ?_
    refine wpAnyG_ready (rs := [21]) (by kernel_rfl) (by simp) ?_
    refine AllReadyG.cons rfl (fun K hK => ?_) ?_
    · obtain ⟨oW, p1, p2, p3, p4, p5⟩ := PK
      refine step_append_row rfl (.tmp 53) (.tmp 55) _ rfl el_sl oW (4 + s) v.mA v.mn v.mc (vs) rfl p4 oW 11 (some ⟨gM, 0, none⟩) 1 1 [(.slice PA P.length pc)] rfl (p5 _ _ (by simp)) (by simp [Value.oneCell']) (by omega) (by simp only [maxLen]; omega) ?_
      intro AM cM W' hr hg hat
      have PK2 := (Pack.growM (B := ⟨AB, v.bn + 1, cB, nats X.bodies ++ [(.int .i64 0)]⟩) (R := ⟨AR, v.rn + 1, cR, nats X.reports ++ [(.int .i64 0)]⟩) (M := ⟨v.mA, v.mn, v.mc, vs⟩) hs p1 p2 p3 p4 p5 hr hg).sub (T' := []) (by simp)
      refine hK.out _ _ (.inr (HLK.out _ _ _ _ _ PK2)) ?_
      exact wpAnyG_ops HO.out (wpAnyG_cast rfl (by kernel_rfl) rfl (N7_8_13_14_20_21 gB AB cB gR AR cR gM AM cM _ PK2))
    exact AllReadyG.nil
  have N7_8_13_14 : ∀ (gB : Nat) (AB : Option Addr) (cB : Nat) (gR : Nat) (AR : Option Addr) (cR : Nat) (W : World), Pack w2 o2 s ⟨AB, v.bn + 1, cB, nats X.bodies ++ [(.int .i64 0)]⟩ ⟨AR, v.rn + 1, cR, nats X.reports ++ [(.int .i64 0)]⟩ ⟨v.mA, v.mn, v.mc, vs⟩ [] W → wpAnyG Try.prog Region.Mode.any OPS QQ (fun w' => w'.cell? ⟨l, s * 5 + 1, none⟩ = some (.slice v.mA v.mn v.mc) ∧ w'.cell? ⟨l, s * 5 + 2, none⟩ = some (.slice v.bA v.bn v.bc) ∧ w'.cell? ⟨l, s * 5 + 3, none⟩ = some (.slice v.rA v.rn v.rc)) 24 11 #[true, true, true, true, true, true, true, true, true, true, true, true, true, true, true, true, true, true, true, true, false, false, false, false, false, false, false, false, false, false, false] ⟨#[(.pointer (some ⟨l, 0, none⟩) : Value), (.int .i64 s : Value), (.slice A n c : Value), undef, undef, undef, (.bool false : Value), (.pointer (some ⟨l, s * 5, none⟩) : Value), (.int .i64 v.bn : Value), (.slice PA P.length pc : Value), (.int .i64 (own + v.bn) : Value), (.slice LA L.length lc : Value), (.int .i64 0 : Value), (.pointer (some ⟨l, 0, none⟩) : Value), (.int .i64 s : Value), (.pointer (some ⟨l, 0, none⟩) : Value), (.pointer (some ⟨l, s * 5, none⟩) : Value), (.pointer (some ⟨l, s * 5, none⟩) : Value), (.pointer (some ⟨l, s * 5, none⟩) : Value), (.pointer (some ⟨l, s * 5 + 2, none⟩) : Value), (.slice v.bA v.bn v.bc : Value), (.int .i64 v.bn : Value), (.tuple #[.slice PA P.length pc, .int .i64 (own + v.bn), .slice LA L.length lc, .int .i64 0] : Value), (.pointer (some ⟨l, s * 5, none⟩) : Value), (.pointer (some ⟨l, s * 5, none⟩) : Value), (.pointer (some ⟨l, s * 5, none⟩) : Value), (.pointer (some ⟨v.e, 0, none⟩) : Value), (.int .i64 v.bn : Value), (.slice A n c : Value), (.slice (some ⟨g, 0, none⟩) (markB v.bn xs).length c' : Value), (.tuple #[.slice PA P.length pc, .int .i64 (own + v.bn), .slice LA L.length lc, .int .i64 0] : Value), (.slice PA P.length pc : Value), (.int .i64 (own + v.bn) : Value), (.slice LA L.length lc : Value), (.int .i64 0 : Value), (.pointer (some ⟨l, s * 5, none⟩) : Value), (.pointer (some ⟨l, s * 5, none⟩) : Value), (.pointer (some ⟨l, s * 5, none⟩) : Value), (.pointer (some ⟨l, s * 5, none⟩) : Value), (.pointer (some ⟨l, s * 5, none⟩) : Value), (.pointer (some ⟨l, s * 5 + 2, none⟩) : Value), (.slice v.bA v.bn v.bc : Value), (.slice (some ⟨gB, 0, none⟩) 1 1 : Value), (.slice AB (v.bn + 1) cB : Value), (.pointer (some ⟨l, s * 5, none⟩) : Value), (.pointer (some ⟨l, s * 5, none⟩) : Value), (.pointer (some ⟨l, s * 5 + 3, none⟩) : Value), (.slice v.rA v.rn v.rc : Value), (.slice (some ⟨gR, 0, none⟩) 1 1 : Value), (.slice AR (v.rn + 1) cR : Value), (.pointer (some ⟨l, s * 5, none⟩) : Value), (.pointer (some ⟨l, s * 5, none⟩) : Value), (.pointer (some ⟨l, s * 5 + 1, none⟩) : Value), (.slice v.mA v.mn v.mc : Value), (.slice PA P.length pc : Value), undef, undef, undef, undef, undef, undef, undef, undef, undef, undef, undef, undef, undef, undef, undef, undef, undef, undef, undef, undef, undef, undef, undef, undef, undef, undef, undef, undef, undef, undef, undef], []⟩ W := by
    intro gB AB cB gR AR cR W PK
    refine wpAnyG_lit HO.out ?_
    refine wpAnyG_ready (rs := [20]) (by kernel_rfl) (by simp) ?_
    refine AllReadyG.cons rfl (fun K hK => ?_) ?_
    · go_simp
      have PK2 := (PK.alloc (.slice PA P.length pc) 27).sub (T' := [(W.heap.size, (.slice PA P.length pc))]) (by simp)
      refine hK.out _ _ (.inr (HLK.out _ _ _ _ _ PK2)) ?_
      exact wpAnyG_ops HO.out (wpAnyG_cast rfl (by kernel_rfl) rfl (N7_8_13_14_20 gB AB cB gR AR cR W.heap.size _ PK2))
    exact AllReadyG.nil
  have N7_8_13_20 : ∀ (gB : Nat) (AB : Option Addr) (cB : Nat) (gR : Nat) (gM : Nat) (W : World), Pack w2 o2 s ⟨AB, v.bn + 1, cB, nats X.bodies ++ [(.int .i64 0)]⟩ ⟨v.rA, v.rn, v.rc, nats X.reports⟩ ⟨v.mA, v.mn, v.mc, vs⟩ [(gR, (.int .i64 0)), (gM, (.slice PA P.length pc))] W → wpAnyG Try.prog Region.Mode.any OPS QQ (fun w' => w'.cell? ⟨l, s * 5 + 1, none⟩ = some (.slice v.mA v.mn v.mc) ∧ w'.cell? ⟨l, s * 5 + 2, none⟩ = some (.slice v.bA v.bn v.bc) ∧ w'.cell? ⟨l, s * 5 + 3, none⟩ = some (.slice v.rA v.rn v.rc)) 24 11 #[true, true, true, true, true, true, true, true, true, true, true, true, true, true, false, true, true, true, true, true, true, false, false, false, false, false, false, false, false, false, false] ⟨#[(.pointer (some ⟨l, 0, none⟩) : Value), (.int .i64 s : Value), (.slice A n c : Value), undef, undef, undef, (.bool false : Value), (.pointer (some ⟨l, s * 5, none⟩) : Value), (.int .i64 v.bn : Value), (.slice PA P.length pc : Value), (.int .i64 (own + v.bn) : Value), (.slice LA L.length lc : Value), (.int .i64 0 : Value), (.pointer (some ⟨l, 0, none⟩) : Value), (.int .i64 s : Value), (.pointer (some ⟨l, 0, none⟩) : Value), (.pointer (some ⟨l, s * 5, none⟩) : Value), (.pointer (some ⟨l, s * 5, none⟩) : Value), (.pointer (some ⟨l, s * 5, none⟩) : Value), (.pointer (some ⟨l, s * 5 + 2, none⟩) : Value), (.slice v.bA v.bn v.bc : Value), (.int .i64 v.bn : Value), (.tuple #[.slice PA P.length pc, .int .i64 (own + v.bn), .slice LA L.length lc, .int .i64 0] : Value), (.pointer (some ⟨l, s * 5, none⟩) : Value), (.pointer (some ⟨l, s * 5, none⟩) : Value), (.pointer (some ⟨l, s * 5, none⟩) : Value), (.pointer (some ⟨v.e, 0, none⟩) : Value), (.int .i64 v.bn : Value), (.slice A n c : Value), (.slice (some ⟨g, 0, none⟩) (markB v.bn xs).length c' : Value), (.tuple #[.slice PA P.length pc, .int .i64 (own + v.bn), .slice LA L.length lc, .int .i64 0] : Value), (.slice PA P.length pc : Value), (.int .i64 (own + v.bn) : Value), (.slice LA L.length lc : Value), (.int .i64 0 : Value), (.pointer (some ⟨l, s * 5, none⟩) : Value), (.pointer (some ⟨l, s * 5, none⟩) : Value), (.pointer (some ⟨l, s * 5, none⟩) : Value), (.pointer (some ⟨l, s * 5, none⟩) : Value), (.pointer (some ⟨l, s * 5, none⟩) : Value), (.pointer (some ⟨l, s * 5 + 2, none⟩) : Value), (.slice v.bA v.bn v.bc : Value), (.slice (some ⟨gB, 0, none⟩) 1 1 : Value), (.slice AB (v.bn + 1) cB : Value), (.pointer (some ⟨l, s * 5, none⟩) : Value), (.pointer (some ⟨l, s * 5, none⟩) : Value), (.pointer (some ⟨l, s * 5 + 3, none⟩) : Value), (.slice v.rA v.rn v.rc : Value), (.slice (some ⟨gR, 0, none⟩) 1 1 : Value), undef, (.pointer (some ⟨l, s * 5, none⟩) : Value), (.pointer (some ⟨l, s * 5, none⟩) : Value), (.pointer (some ⟨l, s * 5 + 1, none⟩) : Value), (.slice v.mA v.mn v.mc : Value), (.slice PA P.length pc : Value), (.slice (some ⟨gM, 0, none⟩) 1 1 : Value), undef, undef, undef, undef, undef, undef, undef, undef, undef, undef, undef, undef, undef, undef, undef, undef, undef, undef, undef, undef, undef, undef, undef, undef, undef, undef, undef, undef, undef, undef], []⟩ W := by
    intro gB AB cB gR gM W PK
    refine wpAnyG_lit HO.out ?_
    refine wpAnyG_ready (rs := [14]) (by kernel_rfl) (by simp) ?_
    refine AllReadyG.cons rfl (fun K hK => ?_) ?_
    · obtain ⟨oW, p1, p2, p3, p4, p5⟩ := PK
      refine step_append_row rfl (.tmp 47) (.tmp 48) _ rfl el_int oW (8 + s) v.rA v.rn v.rc (nats X.reports) rfl p3 oW 11 (some ⟨gR, 0, none⟩) 1 1 [(.int .i64 0)] rfl (p5 _ _ (by simp)) (by simp [Value.oneCell']) (by omega) (by simp only [maxLen]; omega) ?_
      intro AR cR W' hr hg hat
      have PK2 := (Pack.growR (B := ⟨AB, v.bn + 1, cB, nats X.bodies ++ [(.int .i64 0)]⟩) (R := ⟨v.rA, v.rn, v.rc, nats X.reports⟩) (M := ⟨v.mA, v.mn, v.mc, vs⟩) hs p1 p2 p3 p4 p5 hr hg).sub (T' := [(gM, (.slice PA P.length pc))]) (by simp)
      refine hK.out _ _ (.inr (HLK.out _ _ _ _ _ PK2)) ?_
      exact wpAnyG_ops HO.out (wpAnyG_cast rfl (by kernel_rfl) rfl (N7_8_13_14_20 gB AB cB gR AR cR gM _ PK2))
    exact AllReadyG.nil
  have N7_8_13 : ∀ (gB : Nat) (AB : Option Addr) (cB : Nat) (gR : Nat) (W : World), Pack w2 o2 s ⟨AB, v.bn + 1, cB, nats X.bodies ++ [(.int .i64 0)]⟩ ⟨v.rA, v.rn, v.rc, nats X.reports⟩ ⟨v.mA, v.mn, v.mc, vs⟩ [(gR, (.int .i64 0))] W → wpAnyG Try.prog Region.Mode.any OPS QQ (fun w' => w'.cell? ⟨l, s * 5 + 1, none⟩ = some (.slice v.mA v.mn v.mc) ∧ w'.cell? ⟨l, s * 5 + 2, none⟩ = some (.slice v.bA v.bn v.bc) ∧ w'.cell? ⟨l, s * 5 + 3, none⟩ = some (.slice v.rA v.rn v.rc)) 24 12 #[true, true, true, true, true, true, true, true, true, true, true, true, true, true, false, true, true, true, true, true, false, false, false, false, false, false, false, false, false, false, false] ⟨#[(.pointer (some ⟨l, 0, none⟩) : Value), (.int .i64 s : Value), (.slice A n c : Value), undef, undef, undef, (.bool false : Value), (.pointer (some ⟨l, s * 5, none⟩) : Value), (.int .i64 v.bn : Value), (.slice PA P.length pc : Value), (.int .i64 (own + v.bn) : Value), (.slice LA L.length lc : Value), (.int .i64 0 : Value), (.pointer (some ⟨l, 0, none⟩) : Value), (.int .i64 s : Value), (.pointer (some ⟨l, 0, none⟩) : Value), (.pointer (some ⟨l, s * 5, none⟩) : Value), (.pointer (some ⟨l, s * 5, none⟩) : Value), (.pointer (some ⟨l, s * 5, none⟩) : Value), (.pointer (some ⟨l, s * 5 + 2, none⟩) : Value), (.slice v.bA v.bn v.bc : Value), (.int .i64 v.bn : Value), (.tuple #[.slice PA P.length pc, .int .i64 (own + v.bn), .slice LA L.length lc, .int .i64 0] : Value), (.pointer (some ⟨l, s * 5, none⟩) : Value), (.pointer (some ⟨l, s * 5, none⟩) : Value), (.pointer (some ⟨l, s * 5, none⟩) : Value), (.pointer (some ⟨v.e, 0, none⟩) : Value), (.int .i64 v.bn : Value), (.slice A n c : Value), (.slice (some ⟨g, 0, none⟩) (markB v.bn xs).length c' : Value), (.tuple #[.slice PA P.length pc, .int .i64 (own + v.bn), .slice LA L.length lc, .int .i64 0] : Value), (.slice PA P.length pc : Value), (.int .i64 (own + v.bn) : Value), (.slice LA L.length lc : Value), (.int .i64 0 : Value), (.pointer (some ⟨l, s * 5, none⟩) : Value), (.pointer (some ⟨l, s * 5, none⟩) : Value), (.pointer (some ⟨l, s * 5, none⟩) : Value), (.pointer (some ⟨l, s * 5, none⟩) : Value), (.pointer (some ⟨l, s * 5, none⟩) : Value), (.pointer (some ⟨l, s * 5 + 2, none⟩) : Value), (.slice v.bA v.bn v.bc : Value), (.slice (some ⟨gB, 0, none⟩) 1 1 : Value), (.slice AB (v.bn + 1) cB : Value), (.pointer (some ⟨l, s * 5, none⟩) : Value), (.pointer (some ⟨l, s * 5, none⟩) : Value), (.pointer (some ⟨l, s * 5 + 3, none⟩) : Value), (.slice v.rA v.rn v.rc : Value), (.slice (some ⟨gR, 0, none⟩) 1 1 : Value), undef, (.pointer (some ⟨l, s * 5, none⟩) : Value), (.pointer (some ⟨l, s * 5, none⟩) : Value), (.pointer (some ⟨l, s * 5 + 1, none⟩) : Value), (.slice v.mA v.mn v.mc : Value), (.slice PA P.length pc : Value), undef, undef, undef, undef, undef, undef, undef, undef, undef, undef, undef, undef, undef, undef, undef, undef, undef, undef, undef, undef, undef, undef, undef, undef, undef, undef, undef, undef, undef, undef, undef], []⟩ W := by
    intro gB AB cB gR W PK
    refine wpAnyG_lit HO.out ?_
    refine wpAnyG_ready (rs := [14, 20]) (by kernel_rfl) (by simp) ?_
    refine AllReadyG.cons rfl (fun K hK => ?_) ?_
    · obtain ⟨oW, p1, p2, p3, p4, p5⟩ := PK
      refine step_append_row rfl (.tmp 47) (.tmp 48) _ rfl el_int oW (8 + s) v.rA v.rn v.rc (nats X.reports) rfl p3 oW 11 (some ⟨gR, 0, none⟩) 1 1 [(.int .i64 0)] rfl (p5 _ _ (by simp)) (by simp [Value.oneCell']) (by omega) (by simp only [maxLen]; omega) ?_
      intro AR cR W' hr hg hat
      have PK2 := (Pack.growR (B := ⟨AB, v.bn + 1, cB, nats X.bodies ++ [(.int .i64 0)]⟩) (R := ⟨v.rA, v.rn, v.rc, nats X.reports⟩) (M := ⟨v.mA, v.mn, v.mc, vs⟩) hs p1 p2 p3 p4 p5 hr hg).sub (T' := []) (by simp)
      refine hK.out _ _ (.inr (HLK.out _ _ _ _ _ PK2)) ?_
      exact wpAnyG_ops HO.out (wpAnyG_cast rfl (by kernel_rfl) rfl (N7_8_13_14 gB AB cB gR AR cR _ PK2))
    refine AllReadyG.cons rfl (fun K hK => ?_) ?_
    · go_simp
      have PK2 := (PK.alloc (.slice PA P.length pc) 27).sub (T' := [(gR, (.int .i64 0)), (W.heap.size, (.slice PA P.length pc))]) (by simp)
      refine hK.out _ _ (.inr (HLK.out _ _ _ _ _ PK2)) ?_
      exact wpAnyG_ops HO.out (wpAnyG_cast rfl (by kernel_rfl) rfl (N7_8_13_20 gB AB cB gR W.heap.size _ PK2))
    exact AllReadyG.nil
  have N7_8_20 : ∀ (gB : Nat) (AB : Option Addr) (cB : Nat) (gM : Nat) (W : World), Pack w2 o2 s ⟨AB, v.bn + 1, cB, nats X.bodies ++ [(.int .i64 0)]⟩ ⟨v.rA, v.rn, v.rc, nats X.reports⟩ ⟨v.mA, v.mn, v.mc, vs⟩ [(gM, (.slice PA P.length pc))] W → wpAnyG Try.prog Region.Mode.any OPS QQ (fun w' => w'.cell? ⟨l, s * 5 + 1, none⟩ = some (.slice v.mA v.mn v.mc) ∧ w'.cell? ⟨l, s * 5 + 2, none⟩ = some (.slice v.bA v.bn v.bc) ∧ w'.cell? ⟨l, s * 5 + 3, none⟩ = some (.slice v.rA v.rn v.rc)) 24 12 #[true, true, true, true, true, true, true, true, true, true, true, true, true, false, false, true, true, true, true, true, true, false, false, false, false, false, false, false, false, false, false] ⟨#[(.pointer (some ⟨l, 0, none⟩) : Value), (.int .i64 s : Value), (.slice A n c : Value), undef, undef, undef, (.bool false : Value), (.pointer (some ⟨l, s * 5, none⟩) : Value), (.int .i64 v.bn : Value), (.slice PA P.length pc : Value), (.int .i64 (own + v.bn) : Value), (.slice LA L.length lc : Value), (.int .i64 0 : Value), (.pointer (some ⟨l, 0, none⟩) : Value), (.int .i64 s : Value), (.pointer (some ⟨l, 0, none⟩) : Value), (.pointer (some ⟨l, s * 5, none⟩) : Value), (.pointer (some ⟨l, s * 5, none⟩) : Value), (.pointer (some ⟨l, s * 5, none⟩) : Value), (.pointer (some ⟨l, s * 5 + 2, none⟩) : Value), (.slice v.bA v.bn v.bc : Value), (.int .i64 v.bn : Value), (.tuple #[.slice PA P.length pc, .int .i64 (own + v.bn), .slice LA L.length lc, .int .i64 0] : Value), (.pointer (some ⟨l, s * 5, none⟩) : Value), (.pointer (some ⟨l, s * 5, none⟩) : Value), (.pointer (some ⟨l, s * 5, none⟩) : Value), (.pointer (some ⟨v.e, 0, none⟩) : Value), (.int .i64 v.bn : Value), (.slice A n c : Value), (.slice (some ⟨g, 0, none⟩) (markB v.bn xs).length c' : Value), (.tuple #[.slice PA P.length pc, .int .i64 (own + v.bn), .slice LA L.length lc, .int .i64 0] : Value), (.slice PA P.length pc : Value), (.int .i64 (own + v.bn) : Value), (.slice LA L.length lc : Value), (.int .i64 0 : Value), (.pointer (some ⟨l, s * 5, none⟩) : Value), (.pointer (some ⟨l, s * 5, none⟩) : Value), (.pointer (some ⟨l, s * 5, none⟩) : Value), (.pointer (some ⟨l, s * 5, none⟩) : Value), (.pointer (some ⟨l, s * 5, none⟩) : Value), (.pointer (some ⟨l, s * 5 + 2, none⟩) : Value), (.slice v.bA v.bn v.bc : Value), (.slice (some ⟨gB, 0, none⟩) 1 1 : Value), (.slice AB (v.bn + 1) cB : Value), (.pointer (some ⟨l, s * 5, none⟩) : Value), (.pointer (some ⟨l, s * 5, none⟩) : Value), (.pointer (some ⟨l, s * 5 + 3, none⟩) : Value), (.slice v.rA v.rn v.rc : Value), undef, undef, (.pointer (some ⟨l, s * 5, none⟩) : Value), (.pointer (some ⟨l, s * 5, none⟩) : Value), (.pointer (some ⟨l, s * 5 + 1, none⟩) : Value), (.slice v.mA v.mn v.mc : Value), (.slice PA P.length pc : Value), (.slice (some ⟨gM, 0, none⟩) 1 1 : Value), undef, undef, undef, undef, undef, undef, undef, undef, undef, undef, undef, undef, undef, undef, undef, undef, undef, undef, undef, undef, undef, undef, undef, undef, undef, undef, undef, undef, undef, undef], []⟩ W := by
    intro gB AB cB gM W PK
    refine wpAnyG_lit HO.out ?_
    refine wpAnyG_ready (rs := [13]) (by kernel_rfl) (by simp) ?_
    refine AllReadyG.cons rfl (fun K hK => ?_) ?_
    · go_simp
      have PK2 := (PK.alloc (.int .i64 0) 3).sub (T' := [(W.heap.size, (.int .i64 0)), (gM, (.slice PA P.length pc))]) (by simp)
      refine hK.out _ _ (.inr (HLK.out _ _ _ _ _ PK2)) ?_
      exact wpAnyG_ops HO.out (wpAnyG_cast rfl (by kernel_rfl) rfl (N7_8_13_20 gB AB cB W.heap.size gM _ PK2))
    exact AllReadyG.nil
  have N7_13_20 : ∀ (gB : Nat) (gR : Nat) (gM : Nat) (W : World), Pack w2 o2 s ⟨v.bA, v.bn, v.bc, nats X.bodies⟩ ⟨v.rA, v.rn, v.rc, nats X.reports⟩ ⟨v.mA, v.mn, v.mc, vs⟩ [(gB, (.int .i64 0)), (gR, (.int .i64 0)), (gM, (.slice PA P.length pc))] W → wpAnyG Try.prog Region.Mode.any OPS QQ (fun w' => w'.cell? ⟨l, s * 5 + 1, none⟩ = some (.slice v.mA v.mn v.mc) ∧ w'.cell? ⟨l, s * 5 + 2, none⟩ = some (.slice v.bA v.bn v.bc) ∧ w'.cell? ⟨l, s * 5 + 3, none⟩ = some (.slice v.rA v.rn v.rc)) 24 12 #[true, true, true, true, true, true, true, true, false, true, true, true, true, true, false, true, true, true, true, true, true, false, false, false, false, false, false, false, false, false, false] ⟨#[(.pointer (some ⟨l, 0, none⟩) : Value), (.int .i64 s : Value), (.slice A n c : Value), undef, undef, undef, (.bool false : Value), (.pointer (some ⟨l, s * 5, none⟩) : Value), (.int .i64 v.bn : Value), (.slice PA P.length pc : Value), (.int .i64 (own + v.bn) : Value), (.slice LA L.length lc : Value), (.int .i64 0 : Value), (.pointer (some ⟨l, 0, none⟩) : Value), (.int .i64 s : Value), (.pointer (some ⟨l, 0, none⟩) : Value), (.pointer (some ⟨l, s * 5, none⟩) : Value), (.pointer (some ⟨l, s * 5, none⟩) : Value), (.pointer (some ⟨l, s * 5, none⟩) : Value), (.pointer (some ⟨l, s * 5 + 2, none⟩) : Value), (.slice v.bA v.bn v.bc : Value), (.int .i64 v.bn : Value), (.tuple #[.slice PA P.length pc, .int .i64 (own + v.bn), .slice LA L.length lc, .int .i64 0] : Value), (.pointer (some ⟨l, s * 5, none⟩) : Value), (.pointer (some ⟨l, s * 5, none⟩) : Value), (.pointer (some ⟨l, s * 5, none⟩) : Value), (.pointer (some ⟨v.e, 0, none⟩) : Value), (.int .i64 v.bn : Value), (.slice A n c : Value), (.slice (some ⟨g, 0, none⟩) (markB v.bn xs).length c' : Value), (.tuple #[.slice PA P.length pc, .int .i64 (own + v.bn), .slice LA L.length lc, .int .i64 0] : Value), (.slice PA P.length pc : Value), (.int .i64 (own + v.bn) : Value), (.slice LA L.length lc : Value), (.int .i64 0 : Value), (.pointer (some ⟨l, s * 5, none⟩) : Value), (.pointer (some ⟨l, s * 5, none⟩) : Value), (.pointer (some ⟨l, s * 5, none⟩) : Value), (.pointer (some ⟨l, s * 5, none⟩) : Value), (.pointer (some ⟨l, s * 5, none⟩) : Value), (.pointer (some ⟨l, s * 5 + 2, none⟩) : Value), (.slice v.bA v.bn v.bc : Value), (.slice (some ⟨gB, 0, none⟩) 1 1 : Value), undef, (.pointer (some ⟨l, s * 5, none⟩) : Value), (.pointer (some ⟨l, s * 5, none⟩) : Value), (.pointer (some ⟨l, s * 5 + 3, none⟩) : Value), (.slice v.rA v.rn v.rc : Value), (.slice (some ⟨gR, 0, none⟩) 1 1 : Value), undef, (.pointer (some ⟨l, s * 5, none⟩) : Value), (.pointer (some ⟨l, s * 5, none⟩) : Value), (.pointer (some ⟨l, s * 5 + 1, none⟩) : Value), (.slice v.mA v.mn v.mc : Value), (.slice PA P.length pc : Value), (.slice (some ⟨gM, 0, none⟩) 1 1 : Value), undef, undef, undef, undef, undef, undef, undef, undef, undef, undef, undef, undef, undef, undef, undef, undef, undef, undef, undef, undef, undef, undef, undef, undef, undef, undef, undef, undef, undef, undef], []⟩ W := by
    intro gB gR gM W PK
    refine wpAnyG_lit HO.out ?_
    refine wpAnyG_ready (rs := [8]) (by kernel_rfl) (by simp) ?_
    refine AllReadyG.cons rfl (fun K hK => ?_) ?_
    · obtain ⟨oW, p1, p2, p3, p4, p5⟩ := PK
      refine step_append_row rfl (.tmp 41) (.tmp 42) _ rfl el_int oW (6 + s) v.bA v.bn v.bc (nats X.bodies) rfl p2 oW 11 (some ⟨gB, 0, none⟩) 1 1 [(.int .i64 0)] rfl (p5 _ _ (by simp)) (by simp [Value.oneCell']) (by omega) (by simp only [maxLen]; omega) ?_
      intro AB cB W' hr hg hat
      have PK2 := (Pack.growB (B := ⟨v.bA, v.bn, v.bc, nats X.bodies⟩) (R := ⟨v.rA, v.rn, v.rc, nats X.reports⟩) (M := ⟨v.mA, v.mn, v.mc, vs⟩) hs p1 p2 p3 p4 p5 hr hg).sub (T' := [(gR, (.int .i64 0)), (gM, (.slice PA P.length pc))]) (by simp)
      refine hK.out _ _ (.inr (HLK.out _ _ _ _ _ PK2)) ?_
      exact wpAnyG_ops HO.out (wpAnyG_cast rfl (by kernel_rfl) rfl (N7_8_13_20 gB AB cB gR gM _ PK2))
    exact AllReadyG.nil
  have N7_8 : ∀ (gB : Nat) (AB : Option Addr) (cB : Nat) (W : World), Pack w2 o2 s ⟨AB, v.bn + 1, cB, nats X.bodies ++ [(.int .i64 0)]⟩ ⟨v.rA, v.rn, v.rc, nats X.reports⟩ ⟨v.mA, v.mn, v.mc, vs⟩ [] W → wpAnyG Try.prog Region.Mode.any OPS QQ (fun w' => w'.cell? ⟨l, s * 5 + 1, none⟩ = some (.slice v.mA v.mn v.mc) ∧ w'.cell? ⟨l, s * 5 + 2, none⟩ = some (.slice v.bA v.bn v.bc) ∧ w'.cell? ⟨l, s * 5 + 3, none⟩ = some (.slice v.rA v.rn v.rc)) 24 13 #[true, true, true, true, true, true, true, true, true, true, true, true, true, false, false, true, true, true, true, true, false, false, false, false, false, false, false, false, false, false, false] ⟨#[(.pointer (some ⟨l, 0, none⟩) : Value), (.int .i64 s : Value), (.slice A n c : Value), undef, undef, undef, (.bool false : Value), (.pointer (some ⟨l, s * 5, none⟩) : Value), (.int .i64 v.bn : Value), (.slice PA P.length pc : Value), (.int .i64 (own + v.bn) : Value), (.slice LA L.length lc : Value), (.int .i64 0 : Value), (.pointer (some ⟨l, 0, none⟩) : Value), (.int .i64 s : Value), (.pointer (some ⟨l, 0, none⟩) : Value), (.pointer (some ⟨l, s * 5, none⟩) : Value), (.pointer (some ⟨l, s * 5, none⟩) : Value), (.pointer (some ⟨l, s * 5, none⟩) : Value), (.pointer (some ⟨l, s * 5 + 2, none⟩) : Value), (.slice v.bA v.bn v.bc : Value), (.int .i64 v.bn : Value), (.tuple #[.slice PA P.length pc, .int .i64 (own + v.bn), .slice LA L.length lc, .int .i64 0] : Value), (.pointer (some ⟨l, s * 5, none⟩) : Value), (.pointer (some ⟨l, s * 5, none⟩) : Value), (.pointer (some ⟨l, s * 5, none⟩) : Value), (.pointer (some ⟨v.e, 0, none⟩) : Value), (.int .i64 v.bn : Value), (.slice A n c : Value), (.slice (some ⟨g, 0, none⟩) (markB v.bn xs).length c' : Value), (.tuple #[.slice PA P.length pc, .int .i64 (own + v.bn), .slice LA L.length lc, .int .i64 0] : Value), (.slice PA P.length pc : Value), (.int .i64 (own + v.bn) : Value), (.slice LA L.length lc : Value), (.int .i64 0 : Value), (.pointer (some ⟨l, s * 5, none⟩) : Value), (.pointer (some ⟨l, s * 5, none⟩) : Value), (.pointer (some ⟨l, s * 5, none⟩) : Value), (.pointer (some ⟨l, s * 5, none⟩) : Value), (.pointer (some ⟨l, s * 5, none⟩) : Value), (.pointer (some ⟨l, s * 5 + 2, none⟩) : Value), (.slice v.bA v.bn v.bc : Value), (.slice (some ⟨gB, 0, none⟩) 1 1 : Value), (.slice AB (v.bn + 1) cB : Value), (.pointer (some ⟨l, s * 5, none⟩) : Value), (.pointer (some ⟨l, s * 5, none⟩) : Value), (.pointer (some ⟨l, s * 5 + 3, none⟩) : Value), (.slice v.rA v.rn v.rc : Value), undef, undef, (.pointer (some ⟨l, s * 5, none⟩) : Value), (.pointer (some ⟨l, s * 5, none⟩) : Value), (.pointer (some ⟨l, s * 5 + 1, none⟩) : Value), (.slice v.mA v.mn v.mc : Value), (.slice PA P.length pc : Value), undef, undef, undef, undef, undef, undef, undef, undef, undef, undef, undef, undef, undef, undef, undef, undef, undef, undef, undef, undef, undef, undef, undef, undef, undef, undef, undef, undef, undef, undef, undef], []⟩ W := by
    intro gB AB cB W PK
    refine wpAnyG_lit HO.out ?_
    refine wpAnyG_ready (rs := [13, 20]) (by kernel_rfl) (by simp) ?_
    refine AllReadyG.cons rfl (fun K hK => ?_) ?_
    · go_simp
      have PK2 := (PK.alloc (.int .i64 0) 3).sub (T' := [(W.heap.size, (.int .i64 0))]) (by simp)
      refine hK.out _ _ (.inr (HLK.out _ _ _ _ _ PK2)) ?_
      exact wpAnyG_ops HO.out (wpAnyG_cast rfl (by kernel_rfl) rfl (N7_8_13 gB AB cB W.heap.size _ PK2))
    refine AllReadyG.cons rfl (fun K hK => ?_) ?_
    · go_simp
      have PK2 := (PK.alloc (.slice PA P.length pc) 27).sub (T' := [(W.heap.size, (.slice PA P.length pc))]) (by simp)
      refine hK.out _ _ (.inr (HLK.out _ _ _ _ _ PK2)) ?_
      exact wpAnyG_ops HO.out (wpAnyG_cast rfl (by kernel_rfl) rfl (N7_8_20 gB AB cB W.heap.size _ PK2))
    exact AllReadyG.nil
  have N7_13 : ∀ (gB : Nat) (gR : Nat) (W : World), Pack w2 o2 s ⟨v.bA, v.bn, v.bc, nats X.bodies⟩ ⟨v.rA, v.rn, v.rc, nats X.reports⟩ ⟨v.mA, v.mn, v.mc, vs⟩ [(gB, (.int .i64 0)), (gR, (.int .i64 0))] W → wpAnyG Try.prog Region.Mode.any OPS QQ (fun w' => w'.cell? ⟨l, s * 5 + 1, none⟩ = some (.slice v.mA v.mn v.mc) ∧ w'.cell? ⟨l, s * 5 + 2, none⟩ = some (.slice v.bA v.bn v.bc) ∧ w'.cell? ⟨l, s * 5 + 3, none⟩ = some (.slice v.rA v.rn v.rc)) 24 13 #[true, true, true, true, true, true, true, true, false, true, true, true, true, true, false, true, true, true, true, true, false, false, false, false, false, false, false, false, false, false, false] ⟨#[(.pointer (some ⟨l, 0, none⟩) : Value), (.int .i64 s : Value), (.slice A n c : Value), undef, undef, undef, (.bool false : Value), (.pointer (some ⟨l, s * 5, none⟩) : Value), (.int .i64 v.bn : Value), (.slice PA P.length pc : Value), (.int .i64 (own + v.bn) : Value), (.slice LA L.length lc : Value), (.int .i64 0 : Value), (.pointer (some ⟨l, 0, none⟩) : Value), (.int .i64 s : Value), (.pointer (some ⟨l, 0, none⟩) : Value), (.pointer (some ⟨l, s * 5, none⟩) : Value), (.pointer (some ⟨l, s * 5, none⟩) : Value), (.pointer (some ⟨l, s * 5, none⟩) : Value), (.pointer (some ⟨l, s * 5 + 2, none⟩) : Value), (.slice v.bA v.bn v.bc : Value), (.int .i64 v.bn : Value), (.tuple #[.slice PA P.length pc, .int .i64 (own + v.bn), .slice LA L.length lc, .int .i64 0] : Value), (.pointer (some ⟨l, s * 5, none⟩) : Value), (.pointer (some ⟨l, s * 5, none⟩) : Value), (.pointer (some ⟨l, s * 5, none⟩) : Value), (.pointer (some ⟨v.e, 0, none⟩) : Value), (.int .i64 v.bn : Value), (.slice A n c : Value), (.slice (some ⟨g, 0, none⟩) (markB v.bn xs).length c' : Value), (.tuple #[.slice PA P.length pc, .int .i64 (own + v.bn), .slice LA L.length lc, .int .i64 0] : Value), (.slice PA P.length pc : Value), (.int .i64 (own + v.bn) : Value), (.slice LA L.length lc : Value), (.int .i64 0 : Value), (.pointer (some ⟨l, s * 5, none⟩) : Value), (.pointer (some ⟨l, s * 5, none⟩) : Value), (.pointer (some ⟨l, s * 5, none⟩) : Value), (.pointer (some ⟨l, s * 5, none⟩) : Value), (.pointer (some ⟨l, s * 5, none⟩) : Value), (.pointer (some ⟨l, s * 5 + 2, none⟩) : Value), (.slice v.bA v.bn v.bc : Value), (.slice (some ⟨gB, 0, none⟩) 1 1 : Value), undef, (.pointer (some ⟨l, s * 5, none⟩) : Value), (.pointer (some ⟨l, s * 5, none⟩) : Value), (.pointer (some ⟨l, s * 5 + 3, none⟩) : Value), (.slice v.rA v.rn v.rc : Value), (.slice (some ⟨gR, 0, none⟩) 1 1 : Value), undef, (.pointer (some ⟨l, s * 5, none⟩) : Value), (.pointer (some ⟨l, s * 5, none⟩) : Value), (.pointer (some ⟨l, s * 5 + 1, none⟩) : Value), (.slice v.mA v.mn v.mc : Value), (.slice PA P.length pc : Value), undef, undef, undef, undef, undef, undef, undef, undef, undef, undef, undef, undef, undef, undef, undef, undef, undef, undef, undef, undef, undef, undef, undef, undef, undef, undef, undef, undef, undef, undef, undef], []⟩ W := by
    intro gB gR W PK
    refine wpAnyG_lit HO.out ?_
    refine wpAnyG_ready (rs := [8, 20]) (by kernel_rfl) (by simp) ?_
    refine AllReadyG.cons rfl (fun K hK => ?_) ?_
    · obtain ⟨oW, p1, p2, p3, p4, p5⟩ := PK
      refine step_append_row rfl (.tmp 41) (.tmp 42) _ rfl el_int oW (6 + s) v.bA v.bn v.bc (nats X.bodies) rfl p2 oW 11 (some ⟨gB, 0, none⟩) 1 1 [(.int .i64 0)] rfl (p5 _ _ (by simp)) (by simp [Value.oneCell']) (by omega) (by simp only [maxLen]; omega) ?_
      intro AB cB W' hr hg hat
      have PK2 := (Pack.growB (B := ⟨v.bA, v.bn, v.bc, nats X.bodies⟩) (R := ⟨v.rA, v.rn, v.rc, nats X.reports⟩) (M := ⟨v.mA, v.mn, v.mc, vs⟩) hs p1 p2 p3 p4 p5 hr hg).sub (T' := [(gR, (.int .i64 0))]) (by simp)
      refine hK.out _ _ (.inr (HLK.out _ _ _ _ _ PK2)) ?_
      exact wpAnyG_ops HO.out (wpAnyG_cast rfl (by kernel_rfl) rfl (N7_8_13 gB AB cB gR _ PK2))
    refine AllReadyG.cons rfl (fun K hK => ?_) ?_
    · go_simp
      have PK2 := (PK.alloc (.slice PA P.length pc) 27).sub (T' := [(gB, (.int .i64 0)), (gR, (.int .i64 0)), (W.heap.size, (.slice PA P.length pc))]) (by simp)
      refine hK.out _ _ (.inr (HLK.out _ _ _ _ _ PK2)) ?_
      exact wpAnyG_ops HO.out (wpAnyG_cast rfl (by kernel_rfl) rfl (N7_13_20 gB gR W.heap.size _ PK2))
    exact AllReadyG.nil
  have N7_20 : ∀ (gB : Nat) (gM : Nat) (W : World), Pack w2 o2 s ⟨v.bA, v.bn, v.bc, nats X.bodies⟩ ⟨v.rA, v.rn, v.rc, nats X.reports⟩ ⟨v.mA, v.mn, v.mc, vs⟩ [(gB, (.int .i64 0)), (gM, (.slice PA P.length pc))] W → wpAnyG Try.prog Region.Mode.any OPS QQ (fun w' => w'.cell? ⟨l, s * 5 + 1, none⟩ = some (.slice v.mA v.mn v.mc) ∧ w'.cell? ⟨l, s * 5 + 2, none⟩ = some (.slice v.bA v.bn v.bc) ∧ w'.cell? ⟨l, s * 5 + 3, none⟩ = some (.slice v.rA v.rn v.rc)) 24 13 #[true, true, true, true, true, true, true, true, false, true, true, true, true, false, false, true, true, true, true, true, true, false, false, false, false, false, false, false, false, false, false] ⟨#[(.pointer (some ⟨l, 0, none⟩) : Value), (.int .i64 s : Value), (.slice A n c : Value), undef, undef, undef, (.bool false : Value), (.pointer (some ⟨l, s * 5, none⟩) : Value), (.int .i64 v.bn : Value), (.slice PA P.length pc : Value), (.int .i64 (own + v.bn) : Value), (.slice LA L.length lc : Value), (.int .i64 0 : Value), (.pointer (some ⟨l, 0, none⟩) : Value), (.int .i64 s : Value), (.pointer (some ⟨l, 0, none⟩) : Value), (.pointer (some ⟨l, s * 5, none⟩) : Value), (.pointer (some ⟨l, s * 5, none⟩) : Value), (.pointer (some ⟨l, s * 5, none⟩) : Value), (.pointer (some ⟨l, s * 5 + 2, none⟩) : Value), (.slice v.bA v.bn v.bc : Value), (.int .i64 v.bn : Value), (.tuple #[.slice PA P.length pc, .int .i64 (own + v.bn), .slice LA L.length lc, .int .i64 0] : Value), (.pointer (some ⟨l, s * 5, none⟩) : Value), (.pointer (some ⟨l, s * 5, none⟩) : Value), (.pointer (some ⟨l, s * 5, none⟩) : Value), (.pointer (some ⟨v.e, 0, none⟩) : Value), (.int .i64 v.bn : Value), (.slice A n c : Value), (.slice (some ⟨g, 0, none⟩) (markB v.bn xs).length c' : Value), (.tuple #[.slice PA P.length pc, .int .i64 (own + v.bn), .slice LA L.length lc, .int .i64 0] : Value), (.slice PA P.length pc : Value), (.int .i64 (own + v.bn) : Value), (.slice LA L.length lc : Value), (.int .i64 0 : Value), (.pointer (some ⟨l, s * 5, none⟩) : Value), (.pointer (some ⟨l, s * 5, none⟩) : Value), (.pointer (some ⟨l, s * 5, none⟩) : Value), (.pointer (some ⟨l, s * 5, none⟩) : Value), (.pointer (some ⟨l, s * 5, none⟩) : Value), (.pointer (some ⟨l, s * 5 + 2, none⟩) : Value), (.slice v.bA v.bn v.bc : Value), (.slice (some ⟨gB, 0, none⟩) 1 1 : Value), undef, (.pointer (some ⟨l, s * 5, none⟩) : Value), (.pointer (some ⟨l, s * 5, none⟩) : Value), (.pointer (some ⟨l, s * 5 + 3, none⟩) : Value), (.slice v.rA v.rn v.rc : Value), undef, undef, (.pointer (some ⟨l, s * 5, none⟩) : Value), (.pointer (some ⟨l, s * 5, none⟩) : Value), (.pointer (some ⟨l, s * 5 + 1, none⟩) : Value), (.slice v.mA v.mn v.mc : Value), (.slice PA P.length pc : Value), (.slice (some ⟨gM, 0, none⟩) 1 1 : Value), undef, undef, undef, undef, undef, undef, undef, undef, undef, undef, undef, undef, undef, undef, undef, undef, undef, undef, undef, undef, undef, undef, undef, undef, undef, undef, undef, undef, undef, undef], []⟩ W := by
    intro gB gM W PK
    refine wpAnyG_lit HO.out ?_
    refine wpAnyG_ready (rs := [8, 13]) (by kernel_rfl) (by simp) ?_
    refine AllReadyG.cons rfl (fun K hK => ?_) ?_
    · obtain ⟨oW, p1, p2, p3, p4, p5⟩ := PK
      refine step_append_row rfl (.tmp 41) (.tmp 42) _ rfl el_int oW (6 + s) v.bA v.bn v.bc (nats X.bodies) rfl p2 oW 11 (some ⟨gB, 0, none⟩) 1 1 [(.int .i64 0)] rfl (p5 _ _ (by simp)) (by simp [Value.oneCell']) (by omega) (by simp only [maxLen]; omega) ?_
      intro AB cB W' hr hg hat
      have PK2 := (Pack.growB (B := ⟨v.bA, v.bn, v.bc, nats X.bodies⟩) (R := ⟨v.rA, v.rn, v.rc, nats X.reports⟩) (M := ⟨v.mA, v.mn, v.mc, vs⟩) hs p1 p2 p3 p4 p5 hr hg).sub (T' := [(gM, (.slice PA P.length pc))]) (by simp)
      refine hK.out _ _ (.inr (HLK.out _ _ _ _ _ PK2)) ?_
      exact wpAnyG_ops HO.out (wpAnyG_cast rfl (by kernel_rfl) rfl (N7_8_20 gB AB cB gM _ PK2))
    refine AllReadyG.cons rfl (fun K hK => ?_) ?_
    · go_simp
      have PK2 := (PK.alloc (.int .i64 0) 3).sub (T' := [(gB, (.int .i64 0)), (W.heap.size, (.int .i64 0)), (gM, (.slice PA P.length pc))]) (by simp)
      refine hK.out _ _ (.inr (HLK.out _ _ _ _ _ PK2)) ?_
      exact wpAnyG_ops HO.out (wpAnyG_cast rfl (by kernel_rfl) rfl (N7_13_20 gB W.heap.size gM _ PK2))
    exact AllReadyG.nil
  have N13_20 : ∀ (gR : Nat) (gM : Nat) (W : World), Pack w2 o2 s ⟨v.bA, v.bn, v.bc, nats X.bodies⟩ ⟨v.rA, v.rn, v.rc, nats X.reports⟩ ⟨v.mA, v.mn, v.mc, vs⟩ [(gR, (.int .i64 0)), (gM, (.slice PA P.length pc))] W → wpAnyG Try.prog Region.Mode.any OPS QQ (fun w' => w'.cell? ⟨l, s * 5 + 1, none⟩ = some (.slice v.mA v.mn v.mc) ∧ w'.cell? ⟨l, s * 5 + 2, none⟩ = some (.slice v.bA v.bn v.bc) ∧ w'.cell? ⟨l, s * 5 + 3, none⟩ = some (.slice v.rA v.rn v.rc)) 24 13 #[true, true, true, true, true, true, true, false, false, true, true, true, true, true, false, true, true, true, true, true, true, false, false, false, false, false, false, false, false, false, false] ⟨#[(.pointer (some ⟨l, 0, none⟩) : Value), (.int .i64 s : Value), (.slice A n c : Value), undef, undef, undef, (.bool false : Value), (.pointer (some ⟨l, s * 5, none⟩) : Value), (.int .i64 v.bn : Value), (.slice PA P.length pc : Value), (.int .i64 (own + v.bn) : Value), (.slice LA L.length lc : Value), (.int .i64 0 : Value), (.pointer (some ⟨l, 0, none⟩) : Value), (.int .i64 s : Value), (.pointer (some ⟨l, 0, none⟩) : Value), (.pointer (some ⟨l, s * 5, none⟩) : Value), (.pointer (some ⟨l, s * 5, none⟩) : Value), (.pointer (some ⟨l, s * 5, none⟩) : Value), (.pointer (some ⟨l, s * 5 + 2, none⟩) : Value), (.slice v.bA v.bn v.bc : Value), (.int .i64 v.bn : Value), (.tuple #[.slice PA P.length pc, .int .i64 (own + v.bn), .slice LA L.length lc, .int .i64 0] : Value), (.pointer (some ⟨l, s * 5, none⟩) : Value), (.pointer (some ⟨l, s * 5, none⟩) : Value), (.pointer (some ⟨l, s * 5, none⟩) : Value), (.pointer (some ⟨v.e, 0, none⟩) : Value), (.int .i64 v.bn : Value), (.slice A n c : Value), (.slice (some ⟨g, 0, none⟩) (markB v.bn xs).length c' : Value), (.tuple #[.slice PA P.length pc, .int .i64 (own + v.bn), .slice LA L.length lc, .int .i64 0] : Value), (.slice PA P.length pc : Value), (.int .i64 (own + v.bn) : Value), (.slice LA L.length lc : Value), (.int .i64 0 : Value), (.pointer (some ⟨l, s * 5, none⟩) : Value), (.pointer (some ⟨l, s * 5, none⟩) : Value), (.pointer (some ⟨l, s * 5, none⟩) : Value), (.pointer (some ⟨l, s * 5, none⟩) : Value), (.pointer (some ⟨l, s * 5, none⟩) : Value), (.pointer (some ⟨l, s * 5 + 2, none⟩) : Value), (.slice v.bA v.bn v.bc : Value), undef, undef, (.pointer (some ⟨l, s * 5, none⟩) : Value), (.pointer (some ⟨l, s * 5, none⟩) : Value), (.pointer (some ⟨l, s * 5 + 3, none⟩) : Value), (.slice v.rA v.rn v.rc : Value), (.slice (some ⟨gR, 0, none⟩) 1 1 : Value), undef, (.pointer (some ⟨l, s * 5, none⟩) : Value), (.pointer (some ⟨l, s * 5, none⟩) : Value), (.pointer (some ⟨l, s * 5 + 1, none⟩) : Value), (.slice v.mA v.mn v.mc : Value), (.slice PA P.length pc : Value), (.slice (some ⟨gM, 0, none⟩) 1 1 : Value), undef, undef, undef, undef, undef, undef, undef, undef, undef, undef, undef, undef, undef, undef, undef, undef, undef, undef, undef, undef, undef, undef, undef, undef, undef, undef, undef, undef, undef, undef], []⟩ W := by
    intro gR gM W PK
    refine wpAnyG_lit HO.out ?_
    refine wpAnyG_ready (rs := [7]) (by kernel_rfl) (by simp) ?_
    refine AllReadyG.cons rfl (fun K hK => ?_) ?_
    · go_simp
      have PK2 := (PK.alloc (.int .i64 0) 3).sub (T' := [(W.heap.size, (.int .i64 0)), (gR, (.int .i64 0)), (gM, (.slice PA P.length pc))]) (by simp)
      refine hK.out _ _ (.inr (HLK.out _ _ _ _ _ PK2)) ?_
      exact wpAnyG_ops HO.out (wpAnyG_cast rfl (by kernel_rfl) rfl (N7_13_20 W.heap.size gR gM _ PK2))
    exact AllReadyG.nil
  have N7 : ∀ (gB : Nat) (W : World), Pack w2 o2 s ⟨v.bA, v.bn, v.bc, nats X.bodies⟩ ⟨v.rA, v.rn, v.rc, nats X.reports⟩ ⟨v.mA, v.mn, v.mc, vs⟩ [(gB, (.int .i64 0))] W → wpAnyG Try.prog Region.Mode.any OPS QQ (fun w' => w'.cell? ⟨l, s * 5 + 1, none⟩ = some (.slice v.mA v.mn v.mc) ∧ w'.cell? ⟨l, s * 5 + 2, none⟩ = some (.slice v.bA v.bn v.bc) ∧ w'.cell? ⟨l, s * 5 + 3, none⟩ = some (.slice v.rA v.rn v.rc)) 24 14 #[true, true, true, true, true, true, true, true, false, true, true, true, true, false, false, true, true, true, true, true, false, false, false, false, false, false, false, false, false, false, false] ⟨#[(.pointer (some ⟨l, 0, none⟩) : Value), (.int .i64 s : Value), (.slice A n c : Value), undef, undef, undef, (.bool false : Value), (.pointer (some ⟨l, s * 5, none⟩) : Value), (.int .i64 v.bn : Value), (.slice PA P.length pc : Value), (.int .i64 (own + v.bn) : Value), (.slice LA L.length lc : Value), (.int .i64 0 : Value), (.pointer (some ⟨l, 0, none⟩) : Value), (.int .i64 s : Value), (.pointer (some ⟨l, 0, none⟩) : Value), (.pointer (some ⟨l, s * 5, none⟩) : Value), (.pointer (some ⟨l, s * 5, none⟩) : Value), (.pointer (some ⟨l, s * 5, none⟩) : Value), (.pointer (some ⟨l, s * 5 + 2, none⟩) : Value), (.slice v.bA v.bn v.bc : Value), (.int .i64 v.bn : Value), (.tuple #[.slice PA P.length pc, .int .i64 (own + v.bn), .slice LA L.length lc, .int .i64 0] : Value), (.pointer (some ⟨l, s * 5, none⟩) : Value), (.pointer (some ⟨l, s * 5, none⟩) : Value), (.pointer (some ⟨l, s * 5, none⟩) : Value), (.pointer (some ⟨v.e, 0, none⟩) : Value), (.int .i64 v.bn : Value), (.slice A n c : Value), (.slice (some ⟨g, 0, none⟩) (markB v.bn xs).length c' : Value), (.tuple #[.slice PA P.length pc, .int .i64 (own + v.bn), .slice LA L.length lc, .int .i64 0] : Value), (.slice PA P.length pc : Value), (.int .i64 (own + v.bn) : Value), (.slice LA L.length lc : Value), (.int .i64 0 : Value), (.pointer (some ⟨l, s * 5, none⟩) : Value), (.pointer (some ⟨l, s * 5, none⟩) : Value), (.pointer (some ⟨l, s * 5, none⟩) : Value), (.pointer (some ⟨l, s * 5, none⟩) : Value), (.pointer (some ⟨l, s * 5, none⟩) : Value), (.pointer (some ⟨l, s * 5 + 2, none⟩) : Value), (.slice v.bA v.bn v.bc : Value), (.slice (some ⟨gB, 0, none⟩) 1 1 : Value), undef, (.pointer (some ⟨l, s * 5, none⟩) : Value), (.pointer (some ⟨l, s * 5, none⟩) : Value), (.pointer (some ⟨l, s * 5 + 3, none⟩) : Value), (.slice v.rA v.rn v.rc : Value), undef, undef, (.pointer (some ⟨l, s * 5, none⟩) : Value), (.pointer (some ⟨l, s * 5, none⟩) : Value), (.pointer (some ⟨l, s * 5 + 1, none⟩) : Value), (.slice v.mA v.mn v.mc : Value), (.slice PA P.length pc : Value), undef, undef, undef, undef, undef, undef, undef, undef, undef, undef, undef, undef, undef, undef, undef, undef, undef, undef, undef, undef, undef, undef, undef, undef, undef, undef, undef, undef, undef, undef, undef], []⟩ W := by
    intro gB W PK
    refine wpAnyG_lit HO.out ?_
    refine wpAnyG_ready (rs := [8, 13, 20]) (by kernel_rfl) (by simp) ?_
    refine AllReadyG.cons rfl (fun K hK => ?_) ?_
    · obtain ⟨oW, p1, p2, p3, p4, p5⟩ := PK
      refine step_append_row rfl (.tmp 41) (.tmp 42) _ rfl el_int oW (6 + s) v.bA v.bn v.bc (nats X.bodies) rfl p2 oW 11 (some ⟨gB, 0, none⟩) 1 1 [(.int .i64 0)] rfl (p5 _ _ (by simp)) (by simp [Value.oneCell']) (by omega) (by simp only [maxLen]; omega) ?_
      intro AB cB W' hr hg hat
      have PK2 := (Pack.growB (B := ⟨v.bA, v.bn, v.bc, nats X.bodies⟩) (R := ⟨v.rA, v.rn, v.rc, nats X.reports⟩) (M := ⟨v.mA, v.mn, v.mc, vs⟩) hs p1 p2 p3 p4 p5 hr hg).sub (T' := []) (by simp)
      refine hK.out _ _ (.inr (HLK.out _ _ _ _ _ PK2)) ?_
      exact wpAnyG_ops HO.out (wpAnyG_cast rfl (by kernel_rfl) rfl (N7_8 gB AB cB _ PK2))
    refine AllReadyG.cons rfl (fun K hK => ?_) ?_
    · go_simp
      have PK2 := (PK.alloc (.int .i64 0) 3).sub (T' := [(gB, (.int .i64 0)), (W.heap.size, (.int .i64 0))]) (by simp)
      refine hK.out _ _ (.inr (HLK.out _ _ _ _ _ PK2)) ?_
      exact wpAnyG_ops HO.out (wpAnyG_cast rfl (by kernel_rfl) rfl (N7_13 gB W.heap.size _ PK2))
    refine AllReadyG.cons rfl (fun K hK => ?_) ?_
    · go_simp
      have PK2 := (PK.alloc (.slice PA P.length pc) 27).sub (T' := [(gB, (.int .i64 0)), (W.heap.size, (.slice PA P.length pc))]) (by simp)
      refine hK.out _ _ (.inr (HLK.out _ _ _ _ _ PK2)) ?_
      exact wpAnyG_ops HO.out (wpAnyG_cast rfl (by kernel_rfl) rfl (N7_20 gB W.heap.size _ PK2))
    exact AllReadyG.nil
  have N13 : ∀ (gR : Nat) (W : World), Pack w2 o2 s ⟨v.bA, v.bn, v.bc, nats X.bodies⟩ ⟨v.rA, v.rn, v.rc, nats X.reports⟩ ⟨v.mA, v.mn, v.mc, vs⟩ [(gR, (.int .i64 0))] W → wpAnyG Try.prog Region.Mode.any OPS QQ (fun w' => w'.cell? ⟨l, s * 5 + 1, none⟩ = some (.slice v.mA v.mn v.mc) ∧ w'.cell? ⟨l, s * 5 + 2, none⟩ = some (.slice v.bA v.bn v.bc) ∧ w'.cell? ⟨l, s * 5 + 3, none⟩ = some (.slice v.rA v.rn v.rc)) 24 14 #[true, true, true, true, true, true, true, false, false, true, true, true, true, true, false, true, true, true, true, true, false, false, false, false, false, false, false, false, false, false, false] ⟨#[(.pointer (some ⟨l, 0, none⟩) : Value), (.int .i64 s : Value), (.slice A n c : Value), undef, undef, undef, (.bool false : Value), (.pointer (some ⟨l, s * 5, none⟩) : Value), (.int .i64 v.bn : Value), (.slice PA P.length pc : Value), (.int .i64 (own + v.bn) : Value), (.slice LA L.length lc : Value), (.int .i64 0 : Value), (.pointer (some ⟨l, 0, none⟩) : Value), (.int .i64 s : Value), (.pointer (some ⟨l, 0, none⟩) : Value), (.pointer (some ⟨l, s * 5, none⟩) : Value), (.pointer (some ⟨l, s * 5, none⟩) : Value), (.pointer (some ⟨l, s * 5, none⟩) : Value), (.pointer (some ⟨l, s * 5 + 2, none⟩) : Value), (.slice v.bA v.bn v.bc : Value), (.int .i64 v.bn : Value), (.tuple #[.slice PA P.length pc, .int .i64 (own + v.bn), .slice LA L.length lc, .int .i64 0] : Value), (.pointer (some ⟨l, s * 5, none⟩) : Value), (.pointer (some ⟨l, s * 5, none⟩) : Value), (.pointer (some ⟨l, s * 5, none⟩) : Value), (.pointer (some ⟨v.e, 0, none⟩) : Value), (.int .i64 v.bn : Value), (.slice A n c : Value), (.slice (some ⟨g, 0, none⟩) (markB v.bn xs).length c' : Value), (.tuple #[.slice PA P.length pc, .int .i64 (own + v.bn), .slice LA L.length lc, .int .i64 0] : Value), (.slice PA P.length pc : Value), (.int .i64 (own + v.bn) : Value), (.slice LA L.length lc : Value), (.int .i64 0 : Value), (.pointer (some ⟨l, s * 5, none⟩) : Value), (.pointer (some ⟨l, s * 5, none⟩) : Value), (.pointer (some ⟨l, s * 5, none⟩) : Value), (.pointer (some ⟨l, s * 5, none⟩) : Value), (.pointer (some ⟨l, s * 5, none⟩) : Value), (.pointer (some ⟨l, s * 5 + 2, none⟩) : Value), (.slice v.bA v.bn v.bc : Value), undef, undef, (.pointer (some ⟨l, s * 5, none⟩) : Value), (.pointer (some ⟨l, s * 5, none⟩) : Value), (.pointer (some ⟨l, s * 5 + 3, none⟩) : Value), (.slice v.rA v.rn v.rc : Value), (.slice (some ⟨gR, 0, none⟩) 1 1 : Value), undef, (.pointer (some ⟨l, s * 5, none⟩) : Value), (.pointer (some ⟨l, s * 5, none⟩) : Value), (.pointer (some ⟨l, s * 5 + 1, none⟩) : Value), (.slice v.mA v.mn v.mc : Value), (.slice PA P.length pc : Value), undef, undef, undef, undef, undef, undef, undef, undef, undef, undef, undef, undef, undef, undef, undef, undef, undef, undef, undef, undef, undef, undef, undef, undef, undef, undef, undef, undef, undef, undef, undef], []⟩ W := by
    intro gR W PK
    refine wpAnyG_lit HO.out ?_
    refine wpAnyG_ready (rs := [7, 20]) (by kernel_rfl) (by simp) ?_
    refine AllReadyG.cons rfl (fun K hK => ?_) ?_
    · go_simp
      have PK2 := (PK.alloc (.int .i64 0) 3).sub (T' := [(W.heap.size, (.int .i64 0)), (gR, (.int .i64 0))]) (by simp)
      refine hK.out _ _ (.inr (HLK.out _ _ _ _ _ PK2)) ?_
      exact wpAnyG_ops HO.out (wpAnyG_cast rfl (by kernel_rfl) rfl (N7_13 W.heap.size gR _ PK2))
    refine AllReadyG.cons rfl (fun K hK => ?_) ?_
    · go_simp
      have PK2 := (PK.alloc (.slice PA P.length pc) 27).sub (T' := [(gR, (.int .i64 0)), (W.heap.size, (.slice PA P.length pc))]) (by simp)
      refine hK.out _ _ (.inr (HLK.out _ _ _ _ _ PK2)) ?_
      exact wpAnyG_ops HO.out (wpAnyG_cast rfl (by kernel_rfl) rfl (N13_20 gR W.heap.size _ PK2))
    exact AllReadyG.nil
  have N20 : ∀ (gM : Nat) (W : World), Pack w2 o2 s ⟨v.bA, v.bn, v.bc, nats X.bodies⟩ ⟨v.rA, v.rn, v.rc, nats X.reports⟩ ⟨v.mA, v.mn, v.mc, vs⟩ [(gM, (.slice PA P.length pc))] W → wpAnyG Try.prog Region.Mode.any OPS QQ (fun w' => w'.cell? ⟨l, s * 5 + 1, none⟩ = some (.slice v.mA v.mn v.mc) ∧ w'.cell? ⟨l, s * 5 + 2, none⟩ = some (.slice v.bA v.bn v.bc) ∧ w'.cell? ⟨l, s * 5 + 3, none⟩ = some (.slice v.rA v.rn v.rc)) 24 14 #[true, true, true, true, true, true, true, false, false, true, true, true, true, false, false, true, true, true, true, true, true, false, false, false, false, false, false, false, false, false, false] ⟨#[(.pointer (some ⟨l, 0, none⟩) : Value), (.int .i64 s : Value), (.slice A n c : Value), undef, undef, undef, (.bool false : Value), (.pointer (some ⟨l, s * 5, none⟩) : Value), (.int .i64 v.bn : Value), (.slice PA P.length pc : Value), (.int .i64 (own + v.bn) : Value), (.slice LA L.length lc : Value), (.int .i64 0 : Value), (.pointer (some ⟨l, 0, none⟩) : Value), (.int .i64 s : Value), (.pointer (some ⟨l, 0, none⟩) : Value), (.pointer (some ⟨l, s * 5, none⟩) : Value), (.pointer (some ⟨l, s * 5, none⟩) : Value), (.pointer (some ⟨l, s * 5, none⟩) : Value), (.pointer (some ⟨l, s * 5 + 2, none⟩) : Value), (.slice v.bA v.bn v.bc : Value), (.int .i64 v.bn : Value), (.tuple #[.slice PA P.length pc, .int .i64 (own + v.bn), .slice LA L.length lc, .int .i64 0] : Value), (.pointer (some ⟨l, s * 5, none⟩) : Value), (.pointer (some ⟨l, s * 5, none⟩) : Value), (.pointer (some ⟨l, s * 5, none⟩) : Value), (.pointer (some ⟨v.e, 0, none⟩) : Value), (.int .i64 v.bn : Value), (.slice A n c : Value), (.slice (some ⟨g, 0, none⟩) (markB v.bn xs).length c' : Value), (.tuple #[.slice PA P.length pc, .int .i64 (own + v.bn), .slice LA L.length lc, .int .i64 0] : Value), (.slice PA P.length pc : Value), (.int .i64 (own + v.bn) : Value), (.slice LA L.length lc : Value), (.int .i64 0 : Value), (.pointer (some ⟨l, s * 5, none⟩) : Value), (.pointer (some ⟨l, s * 5, none⟩) : Value), (.pointer (some ⟨l, s * 5, none⟩) : Value), (.pointer (some ⟨l, s * 5, none⟩) : Value), (.pointer (some ⟨l, s * 5, none⟩) : Value), (.pointer (some ⟨l, s * 5 + 2, none⟩) : Value), (.slice v.bA v.bn v.bc : Value), undef, undef, (.pointer (some ⟨l, s * 5, none⟩) : Value), (.pointer (some ⟨l, s * 5, none⟩) : Value), (.pointer (some ⟨l, s * 5 + 3, none⟩) : Value), (.slice v.rA v.rn v.rc : Value), undef, undef, (.pointer (some ⟨l, s * 5, none⟩) : Value), (.pointer (some ⟨l, s * 5, none⟩) : Value), (.pointer (some ⟨l, s * 5 + 1, none⟩) : Value), (.slice v.mA v.mn v.mc : Value), (.slice PA P.length pc : Value), (.slice (some ⟨gM, 0, none⟩) 1 1 : Value), undef, undef, undef, undef, undef, undef, undef, undef, undef, undef, undef, undef, undef, undef, undef, undef, undef, undef, undef, undef, undef, undef, undef, undef, undef, undef, undef, undef, undef, undef], []⟩ W := by
    intro gM W PK
    refine wpAnyG_lit HO.out ?_
    refine wpAnyG_ready (rs := [7, 13]) (by kernel_rfl) (by simp) ?_
    refine AllReadyG.cons rfl (fun K hK => ?_) ?_
    · go_simp
      have PK2 := (PK.alloc (.int .i64 0) 3).sub (T' := [(W.heap.size, (.int .i64 0)), (gM, (.slice PA P.length pc))]) (by simp)
      refine hK.out _ _ (.inr (HLK.out _ _ _ _ _ PK2)) ?_
      exact wpAnyG_ops HO.out (wpAnyG_cast rfl (by kernel_rfl) rfl (N7_20 W.heap.size gM _ PK2))
    refine AllReadyG.cons rfl (fun K hK => ?_) ?_
    · go_simp
      have PK2 := (PK.alloc (.int .i64 0) 3).sub (T' := [(W.heap.size, (.int .i64 0)), (gM, (.slice PA P.length pc))]) (by simp)
      refine hK.out _ _ (.inr (HLK.out _ _ _ _ _ PK2)) ?_
      exact wpAnyG_ops HO.out (wpAnyG_cast rfl (by kernel_rfl) rfl (N13_20 W.heap.size gM _ PK2))
    exact AllReadyG.nil
  have N : ∀  (W : World), Pack w2 o2 s ⟨v.bA, v.bn, v.bc, nats X.bodies⟩ ⟨v.rA, v.rn, v.rc, nats X.reports⟩ ⟨v.mA, v.mn, v.mc, vs⟩ [] W → wpAnyG Try.prog Region.Mode.any OPS QQ (fun w' => w'.cell? ⟨l, s * 5 + 1, none⟩ = some (.slice v.mA v.mn v.mc) ∧ w'.cell? ⟨l, s * 5 + 2, none⟩ = some (.slice v.bA v.bn v.bc) ∧ w'.cell? ⟨l, s * 5 + 3, none⟩ = some (.slice v.rA v.rn v.rc)) 24 15 #[true, true, true, true, true, true, true, false, false, true, true, true, true, false, false, true, true, true, true, true, false, false, false, false, false, false, false, false, false, false, false] ⟨#[(.pointer (some ⟨l, 0, none⟩) : Value), (.int .i64 s : Value), (.slice A n c : Value), undef, undef, undef, (.bool false : Value), (.pointer (some ⟨l, s * 5, none⟩) : Value), (.int .i64 v.bn : Value), (.slice PA P.length pc : Value), (.int .i64 (own + v.bn) : Value), (.slice LA L.length lc : Value), (.int .i64 0 : Value), (.pointer (some ⟨l, 0, none⟩) : Value), (.int .i64 s : Value), (.pointer (some ⟨l, 0, none⟩) : Value), (.pointer (some ⟨l, s * 5, none⟩) : Value), (.pointer (some ⟨l, s * 5, none⟩) : Value), (.pointer (some ⟨l, s * 5, none⟩) : Value), (.pointer (some ⟨l, s * 5 + 2, none⟩) : Value), (.slice v.bA v.bn v.bc : Value), (.int .i64 v.bn : Value), (.tuple #[.slice PA P.length pc, .int .i64 (own + v.bn), .slice LA L.length lc, .int .i64 0] : Value), (.pointer (some ⟨l, s * 5, none⟩) : Value), (.pointer (some ⟨l, s * 5, none⟩) : Value), (.pointer (some ⟨l, s * 5, none⟩) : Value), (.pointer (some ⟨v.e, 0, none⟩) : Value), (.int .i64 v.bn : Value), (.slice A n c : Value), (.slice (some ⟨g, 0, none⟩) (markB v.bn xs).length c' : Value), (.tuple #[.slice PA P.length pc, .int .i64 (own + v.bn), .slice LA L.length lc, .int .i64 0] : Value), (.slice PA P.length pc : Value), (.int .i64 (own + v.bn) : Value), (.slice LA L.length lc : Value), (.int .i64 0 : Value), (.pointer (some ⟨l, s * 5, none⟩) : Value), (.pointer (some ⟨l, s * 5, none⟩) : Value), (.pointer (some ⟨l, s * 5, none⟩) : Value), (.pointer (some ⟨l, s * 5, none⟩) : Value), (.pointer (some ⟨l, s * 5, none⟩) : Value), (.pointer (some ⟨l, s * 5 + 2, none⟩) : Value), (.slice v.bA v.bn v.bc : Value), undef, undef, (.pointer (some ⟨l, s * 5, none⟩) : Value), (.pointer (some ⟨l, s * 5, none⟩) : Value), (.pointer (some ⟨l, s * 5 + 3, none⟩) : Value), (.slice v.rA v.rn v.rc : Value), undef, undef, (.pointer (some ⟨l, s * 5, none⟩) : Value), (.pointer (some ⟨l, s * 5, none⟩) : Value), (.pointer (some ⟨l, s * 5 + 1, none⟩) : Value), (.slice v.mA v.mn v.mc : Value), (.slice PA P.length pc : Value), undef, undef, undef, undef, undef, undef, undef, undef, undef, undef, undef, undef, undef, undef, undef, undef, undef, undef, undef, undef, undef, undef, undef, undef, undef, undef, undef, undef, undef, undef, undef], []⟩ W := by
    intro  W PK
    refine wpAnyG_lit HO.out ?_
    refine wpAnyG_ready (rs := [7, 13, 20]) (by kernel_rfl) (by simp) ?_
    refine AllReadyG.cons rfl (fun K hK => ?_) ?_
    · go_simp
      have PK2 := (PK.alloc (.int .i64 0) 3).sub (T' := [(W.heap.size, (.int .i64 0))]) (by simp)
      refine hK.out _ _ (.inr (HLK.out _ _ _ _ _ PK2)) ?_
      exact wpAnyG_ops HO.out (wpAnyG_cast rfl (by kernel_rfl) rfl (N7 W.heap.size _ PK2))
    refine AllReadyG.cons rfl (fun K hK => ?_) ?_
    · go_simp
      have PK2 := (PK.alloc (.int .i64 0) 3).sub (T' := [(W.heap.size, (.int .i64 0))]) (by simp)
      refine hK.out _ _ (.inr (HLK.out _ _ _ _ _ PK2)) ?_
      exact wpAnyG_ops HO.out (wpAnyG_cast rfl (by kernel_rfl) rfl (N13 W.heap.size _ PK2))
    refine AllReadyG.cons rfl (fun K hK => ?_) ?_
    · go_simp
      have PK2 := (PK.alloc (.slice PA P.length pc) 27).sub (T' := [(W.heap.size, (.slice PA P.length pc))]) (by simp)
      refine hK.out _ _ (.inr (HLK.out _ _ _ _ _ PK2)) ?_
      exact wpAnyG_ops HO.out (wpAnyG_cast rfl (by kernel_rfl) rfl (N20 W.heap.size _ PK2))
    exact AllReadyG.nil
  exact wpAnyG_cast rfl (by kernel_rfl) rfl (N _ HPK0.out)
end Go.Proofs.Ytpmbfgpfpdenbaa

