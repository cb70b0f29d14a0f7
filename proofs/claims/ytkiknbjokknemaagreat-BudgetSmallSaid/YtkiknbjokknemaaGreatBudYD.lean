/-
  WALKS of putInts, (*bag).apart, ApartInts. (Printed by wip/gen/gen_apart.py.)
-/
import Derived.Test.YtkiknbjokknemaaGreatBudYC
namespace Go.Proofs.YtkiknbjokknemaaGreat
open Go.RowKit Go.Maps

/-- A bag that holds slices of int alone. -/
def bagC (A : Option Addr) (n c : Nat) : Array Value := #[.slice none 0 0, .slice A n c, .slice none 0 0, .slice none 0 0, .slice none 0 0, .slice none 0 0, .slice none 0 0, .slice none 0 0, .slice none 0 0, .slice none 0 0, .slice none 0 0, .slice none 0 0, .slice none 0 0, .slice none 0 0, .slice none 0 0, .slice none 0 0, .slice none 0 0, .slice none 0 0, .slice none 0 0, .slice none 0 0]
theorem bagC_set (A A' : Option Addr) (n n' c c' : Nat) : (bagC A n c).setIfInBounds 1 (.slice A' n' c') = bagC A' n' c' := rfl

def PutTo (w : World) (o : Own) (b n : Nat) (vs : List Value) (v : Value) (e : Ending) (w' : World) : Prop := ∃ A' c' o', e = .returned (.tuple #[]) ∧ Step [6, 7] w o w' o' ∧ o' b = 6 ∧ Blk w' b 101 (bagC A' (n + 1) c') ∧ Row w' o' 7 30 1 A' (n + 1) c' (vs ++ [v])

set_option maxRecDepth 100000 in
set_option maxHeartbeats 2000000 in
theorem putInts_any (w : World) (o : Own) (b : Nat) (A : Option Addr) (n c : Nat) (vs : List Value) (S : Option Addr) (sn sc : Nat) (hB : Blk w b 101 (bagC A n c)) (hob : o b = 6) (hR : Row w o 7 30 1 A n c vs) (hn : n ≤ 1000) :
    Calls Tryz.prog 39 #[.pointer (some ⟨b, 0, none⟩), .slice S sn sc] w (PutTo w o b n vs (.slice S sn sc)) := by
  have c1 := hB.cell 1
  rw [show (bagC A n c)[1]? = some (.slice A n c) from rfl] at c1
  obtain ⟨oW, stW, rwW, slW, -⟩ := laidI hR #[.slice S sn sc] 1 rfl (by omega) 30
  have HB := Lib.hid (hB.step stW (by simp)); have HO := Lib.hid ((stW.own b hB.lt).trans hob); have RW := Lib.hid rwW; have SW := Lib.hid slW; have ST := Lib.hid stW
  clear hB hob hR rwW slW stW
  go_enter Tryz.func39, Tryz.ntmps39
  go_wp2_with (at_builtin; refine wpList_append_row _ rfl (.tmp 8) (.tmp 10) _ rfl el_ints oW 7 A n c _ rfl RW.out oW 5 _ 1 1 [.slice S sn sc] rfl SW.out (by simp [Value.oneCell']) (by omega) (by simp only [maxLen]; omega) ?_; intro A' c' w6 hR6 hg6 hat6; have HR6 := Lib.hid hR6; have HG6 := Lib.hid hg6; have hb6 := HB.out.step (Step.append RW.out hg6 7) (by rw [HO.out]; decide); have d1 := hb6.cell 1; have f1 := hb6.frozen 1; rw [show (bagC A n c)[1]? = some (.slice A n c) from rfl] at d1; have HB6 := Lib.hid hb6; clear hR6 hg6 hat6 hb6)
  have st6 := Step.append RW.out HG6.out 7
  have ho6 := (st6.own b HB.out.lt).trans HO.out
  have hb7 := HB6.out.set_ 1 (.slice A' (n + 1) c')
  rw [bagC_set] at hb7
  have st7 := (((ST.out.nil (ts := [7])).trans st6).mono (ts' := [6, 7]) (by simp)).setCell (p := ⟨b, 1, none⟩) (.inr (by rw [ho6]; simp)) (.slice A' (n + 1) c')
  refine ⟨rfl, .tuple #[], by simp [results, Tryz.results39], A', c', _, rfl, st7, ho6, hb7, HR6.out.setCell_far (fun ad had => by intro e; have := HR6.out.2 ad had; rw [e, ho6] at this; exact absurd this (by decide)) _⟩

set_option maxRecDepth 100000 in
set_option maxHeartbeats 8000000 in
theorem apart_any (w : World) (o : Own) (b : Nat) (A : Option Addr) (N c : Nat) (L : List Rw) (X : Nat → List Int) (hB : Blk w b 101 (bagC A N c)) (hob : o b = 6) (hN : N ≤ 62) (hS : Sl w o 7 1 A N c (L.map Rw.v)) (hL : L.length = N) (hR : Rws w o L X) (hn : ∀ r ∈ L, r.n ≤ 1000) :
    Calls Tryz.prog 40 #[.pointer (some ⟨b, 0, none⟩)] w fun e w' => e = .returned (.bool true) ∧ ∃ o', Step (tgs N) w o w' o' := by
  obtain ⟨P, hP⟩ : ∃ P : Ending → World → Prop, P = fun e w' => e = .returned (.bool true) ∧ ∃ o', Step (tgs N) w o w' o' := ⟨_, rfl⟩
  rw [← hP]
  have HP := Lib.hid hP
  have c0 := hB.cell 0
  rw [show (bagC A N c)[0]? = some (.slice none 0 0) from rfl] at c0
  have HB0 := Lib.hid hB; have HOB := Lib.hid hob; have HS := Lib.hid hS; have HR := Lib.hid hR
  have HF := Lib.hid (fun W (hb : Below w.heap.size w W) => flatInts_any W (ext o w.heap.size 5) A N c L X hN (hS.step ((Step.refl [] w o).below hb 5) (by simp)) hL (hR.step ((Step.refl [] w o).below hb 5) (by simp)) hn)
  clear hP hB hob hS hL hR hn
  go_enter Tryz.func40, Tryz.ntmps40
  go_wp2_with (first
    | (go_at_call 47; refine (flatLimbs_nil w).mono ?_; rintro e w1 ⟨rfl, hb⟩; have HB1 := Lib.hid (HB0.out.below hb HB0.out.lt); have c1 := HB1.out.cell 1; rw [show (bagC A N c)[1]? = some (.slice A N c) from rfl] at c1; have HW1 := Lib.hid hb; clear hb)
    | (go_at_call 48; refine (HF.out w1 HW1.out).mono ?_; rintro e w2 ⟨rfl, o2, hs2⟩; have HB2 := Lib.hid (HB1.out.step hs2 (by rw [ext_lt HB0.out.lt, HOB.out]; exact tgs_low (by decide))); have c2 := HB2.out.cell 2; rw [show (bagC A N c)[2]? = some (.slice none 0 0) from rfl] at c2; have HW2 := Lib.hid (show Step (tgs N) w o w2 o2 from ((Step.refl [] w o).below HW1.out 5).nil.trans hs2); clear hs2)
    | (go_at_call 49; refine (flatTexts_nil w2).mono ?_; rintro e w3 ⟨rfl, hb⟩; have HB3 := Lib.hid (HB2.out.below hb HB2.out.lt); have c3 := HB3.out.cell 3; rw [show (bagC A N c)[3]? = some (.slice none 0 0) from rfl] at c3; have HW3 := Lib.hid (HW2.out.trans ((Step.refl [] w2 _).below hb 5).nil); clear hb)
    | (go_at_call 50; refine (flatBytes_nil w3).mono ?_; rintro e w4 ⟨rfl, hb⟩; have HB4 := Lib.hid (HB3.out.below hb HB3.out.lt); have c4 := HB4.out.cell 4; rw [show (bagC A N c)[4]? = some (.slice none 0 0) from rfl] at c4; have HW4 := Lib.hid (HW3.out.trans ((Step.refl [] w3 _).below hb 5).nil); clear hb)
    | (go_at_call 51; refine (flatComps_nil w4).mono ?_; rintro e w5 ⟨rfl, hb⟩; have HB5 := Lib.hid (HB4.out.below hb HB4.out.lt); have c5 := HB5.out.cell 5; rw [show (bagC A N c)[5]? = some (.slice none 0 0) from rfl] at c5; have HW5 := Lib.hid (HW4.out.trans ((Step.refl [] w4 _).below hb 5).nil); clear hb)
    | (go_at_call 52; refine (flatEntities_nil w5).mono ?_; rintro e w6 ⟨rfl, hb⟩; have HB6 := Lib.hid (HB5.out.below hb HB5.out.lt); have c6 := HB6.out.cell 6; rw [show (bagC A N c)[6]? = some (.slice none 0 0) from rfl] at c6; have HW6 := Lib.hid (HW5.out.trans ((Step.refl [] w5 _).below hb 5).nil); clear hb)
    | (go_at_call 53; refine (flatWorlds_nil w6).mono ?_; rintro e w7 ⟨rfl, hb⟩; have HB7 := Lib.hid (HB6.out.below hb HB6.out.lt); have c7 := HB7.out.cell 7; rw [show (bagC A N c)[7]? = some (.slice none 0 0) from rfl] at c7; have HW7 := Lib.hid (HW6.out.trans ((Step.refl [] w6 _).below hb 5).nil); clear hb)
    | (go_at_call 54; refine (flatVecs_nil w7).mono ?_; rintro e w8 ⟨rfl, hb⟩; have HB8 := Lib.hid (HB7.out.below hb HB7.out.lt); have c8 := HB8.out.cell 8; rw [show (bagC A N c)[8]? = some (.slice none 0 0) from rfl] at c8; have HW8 := Lib.hid (HW7.out.trans ((Step.refl [] w7 _).below hb 5).nil); clear hb)
    | (go_at_call 55; refine (flatBodies_nil w8).mono ?_; rintro e w9 ⟨rfl, hb⟩; have HB9 := Lib.hid (HB8.out.below hb HB8.out.lt); have c9 := HB9.out.cell 9; rw [show (bagC A N c)[9]? = some (.slice none 0 0) from rfl] at c9; have HW9 := Lib.hid (HW8.out.trans ((Step.refl [] w8 _).below hb 5).nil); clear hb)
    | (go_at_call 56; refine (flatSystems_nil w9).mono ?_; rintro e w10 ⟨rfl, hb⟩; have HB10 := Lib.hid (HB9.out.below hb HB9.out.lt); have c10 := HB10.out.cell 10; rw [show (bagC A N c)[10]? = some (.slice none 0 0) from rfl] at c10; have HW10 := Lib.hid (HW9.out.trans ((Step.refl [] w9 _).below hb 5).nil); clear hb)
    | (go_at_call 57; refine (flatInputs_nil w10).mono ?_; rintro e w11 ⟨rfl, hb⟩; have HB11 := Lib.hid (HB10.out.below hb HB10.out.lt); have c11 := HB11.out.cell 11; rw [show (bagC A N c)[11]? = some (.slice none 0 0) from rfl] at c11; have HW11 := Lib.hid (HW10.out.trans ((Step.refl [] w10 _).below hb 5).nil); clear hb)
    | (go_at_call 58; refine (flatAreas_nil w11).mono ?_; rintro e w12 ⟨rfl, hb⟩; have HB12 := Lib.hid (HB11.out.below hb HB11.out.lt); have c12 := HB12.out.cell 12; rw [show (bagC A N c)[12]? = some (.slice none 0 0) from rfl] at c12; have HW12 := Lib.hid (HW11.out.trans ((Step.refl [] w11 _).below hb 5).nil); clear hb)
    | (go_at_call 59; refine (flatPairs_nil w12).mono ?_; rintro e w13 ⟨rfl, hb⟩; have HB13 := Lib.hid (HB12.out.below hb HB12.out.lt); have c13 := HB13.out.cell 13; rw [show (bagC A N c)[13]? = some (.slice none 0 0) from rfl] at c13; have HW13 := Lib.hid (HW12.out.trans ((Step.refl [] w12 _).below hb 5).nil); clear hb)
    | (go_at_call 60; refine (flatRopes_nil w13).mono ?_; rintro e w14 ⟨rfl, hb⟩; have HB14 := Lib.hid (HB13.out.below hb HB13.out.lt); have c14 := HB14.out.cell 14; rw [show (bagC A N c)[14]? = some (.slice none 0 0) from rfl] at c14; have HW14 := Lib.hid (HW13.out.trans ((Step.refl [] w13 _).below hb 5).nil); clear hb)
    | (go_at_call 61; refine (flatExprs_nil w14).mono ?_; rintro e w15 ⟨rfl, hb⟩; have HB15 := Lib.hid (HB14.out.below hb HB14.out.lt); have c15 := HB15.out.cell 15; rw [show (bagC A N c)[15]? = some (.slice none 0 0) from rfl] at c15; have HW15 := Lib.hid (HW14.out.trans ((Step.refl [] w14 _).below hb 5).nil); clear hb)
    | (go_at_call 62; refine (flatStmts_nil w15).mono ?_; rintro e w16 ⟨rfl, hb⟩; have HB16 := Lib.hid (HB15.out.below hb HB15.out.lt); have c16 := HB16.out.cell 16; rw [show (bagC A N c)[16]? = some (.slice none 0 0) from rfl] at c16; have HW16 := Lib.hid (HW15.out.trans ((Step.refl [] w15 _).below hb 5).nil); clear hb)
    | (go_at_call 63; refine (flatScenes_nil w16).mono ?_; rintro e w17 ⟨rfl, hb⟩; have HB17 := Lib.hid (HB16.out.below hb HB16.out.lt); have c17 := HB17.out.cell 17; rw [show (bagC A N c)[17]? = some (.slice none 0 0) from rfl] at c17; have HW17 := Lib.hid (HW16.out.trans ((Step.refl [] w16 _).below hb 5).nil); clear hb)
    | (go_at_call 64; refine (flatStops_nil w17).mono ?_; rintro e w18 ⟨rfl, hb⟩; have HB18 := Lib.hid (HB17.out.below hb HB17.out.lt); have c18 := HB18.out.cell 18; rw [show (bagC A N c)[18]? = some (.slice none 0 0) from rfl] at c18; have HW18 := Lib.hid (HW17.out.trans ((Step.refl [] w17 _).below hb 5).nil); clear hb)
    | (go_at_call 65; refine (flatPortals_nil w18).mono ?_; rintro e w19 ⟨rfl, hb⟩; have HB19 := Lib.hid (HB18.out.below hb HB18.out.lt); have c19 := HB19.out.cell 19; rw [show (bagC A N c)[19]? = some (.slice none 0 0) from rfl] at c19; have HW19 := Lib.hid (HW18.out.trans ((Step.refl [] w18 _).below hb 5).nil); clear hb)
    | (go_at_call 66; refine (flatStores_nil w19).mono ?_; rintro e w20 ⟨rfl, hb⟩; have HB20 := Lib.hid (HB19.out.below hb HB19.out.lt); have HW20 := Lib.hid (HW19.out.trans ((Step.refl [] w19 _).below hb 5).nil); clear hb))
  first
    | (rw [HP.out]; exact ⟨rfl, _, HW20.out⟩)
    | (go_ret; rw [HP.out]; exact ⟨rfl, _, HW20.out⟩)
    | trace_state
end Go.Proofs.YtkiknbjokknemaaGreat
