/-
  WALK of ApartInts.
-/
import Derived.Test.YtkiknbjokknemaaGreatBudYD
namespace Go.Proofs.YtkiknbjokknemaaGreat
open Go.RowKit Go.Maps

/-- All tags that ApartInts writes. -/
def tgA (N : Nat) : List Nat := 6 :: 7 :: tgs N
theorem tgA_of {N t : Nat} (h : t ∈ tgs N) : t ∈ tgA N := by simp [tgA, h]

set_option maxRecDepth 100000 in
set_option maxHeartbeats 2000000 in
theorem ApartInts_any (w : World) (o : Own) (LA : Option Addr) (N lc : Nat) (L : List Rw) (X : Nat → List Int) (hN : N ≤ 62) (hS : Sl w o 4 1 LA N lc (L.map Rw.v)) (hL : L.length = N) (hR : Rws w o L X) (hn : ∀ r ∈ L, r.n ≤ 1000) :
    Calls Tryz.prog 22 #[.slice LA N lc] w fun e w' => e = .returned (.bool true) ∧ ∃ o', Step (tgA N) w o w' o' := by
  obtain ⟨P, hP⟩ : ∃ P : Ending → World → Prop, P = fun e w' => e = .returned (.bool true) ∧ ∃ o', Step (tgA N) w o w' o' := ⟨_, rfl⟩
  rw [← hP]
  have HP := Lib.hid hP
  have s1 := (Step.refl [6, 7] w o).alloc (.cells (bagC none 0 0) 101) 6
  have b1 := Blk.new w 101 (bagC none 0 0)
  have o1 : ext o w.heap.size 6 w.heap.size = 6 := ext_ge (Nat.le_refl _)
  have H1 := Lib.hid (And.intro s1 (And.intro o1 b1))
  have HS := Lib.hid hS; have HL := Lib.hid hL; have HR := Lib.hid hR; have HN := Lib.hid hn
  clear hP s1 b1 o1 hS hL hR hn
  go_enter Tryz.func22, Tryz.ntmps22
  go_upto_region 2 with fail
  have h1 := H1.out
  unfold bagC at h1
  clear H1
  generalize w.alloc (.cells _ 101) = w1 at h1 ⊢
  generalize ext o w.heap.size 6 = o1 at h1
  generalize w.heap.size = b at h1 ⊢
  have H1 : Hid (Step [6, 7] w o w1 o1 ∧ o1 b = 6 ∧ Blk w1 b 101 (bagC none 0 0)) := Lib.hid h1
  clear h1
  go_wp2_with fail
  go_loopw [4] (fun kv wr => ∃ k A c o', k ≤ N ∧ kv = .int .i64 (k : Int) ∧ Hid (Step [6, 7] w o wr o' ∧ o' b = 6 ∧ Blk wr b 101 (bagC A k c) ∧ Row wr o' 7 30 1 A k c ((L.take k).map Rw.v))) (fun kv _ => N - (intOf kv).toNat)
  case atStart => exact ⟨0, none, 0, o1, Nat.zero_le _, rfl, Lib.hid ⟨H1.out.1, H1.out.2.1, H1.out.2.2, Row.nil_ _ _ _ _ _⟩⟩
  case round => as_aux_lemma =>
    obtain ⟨k, A, c, ok, hk, rfl, HK⟩ := hrel
    by_cases hlt : k < N
    · obtain ⟨r, hr⟩ : ∃ r, L[k]? = some r := ⟨_, List.getElem?_eq_getElem (by rw [HL.out]; exact hlt)⟩
      obtain ⟨gl, ol, hLA, -, hgl, hcl⟩ := (HS.out.step HK.out.1 (by decide)).2.2.2 (by omega)
      have hcv := hcl k r.v (by rw [List.getElem?_map, hr]; rfl)
      subst hLA
      obtain ⟨S, n, c'⟩ := r
      have HPI := Lib.hid (putInts_any wr ok b A k c _ S n c' HK.out.2.2.1 HK.out.2.1 HK.out.2.2.2 (by omega))
      have HRR := Lib.hid hr
      have hcv' : wr.cell? ⟨gl, ol + k, none⟩ = some (.slice S n c') := hcv
      clear hcl hr hcv
      go_wp2_with (go_at_call 39; refine HPI.out.mono ?_; rintro e w' ⟨A', c2, o', rfl, r1, r2, r3, r4⟩; have HP2 := Lib.hid (And.intro r1 (And.intro r2 (And.intro r3 r4))); clear r1 r2 r3 r4)
      go_roundw
      case rel =>
        refine ⟨k + 1, A', c2, o', by omega, by go_num, Lib.hid ⟨HK.out.1.trans HP2.out.1, HP2.out.2.1, HP2.out.2.2.1, ?_⟩⟩
        rw [List.take_add_one, HRR.out, List.map_append]
        exact HP2.out.2.2.2
      case measure => simp [intOf]; omega
    · obtain rfl : N = k := by omega
      have hrow := HK.out.2.2.2
      rw [List.take_of_length_le (by rw [HL.out]; exact Nat.le_refl _)] at hrow
      have HAP := Lib.hid (apart_any wr ok b A N c L X HK.out.2.2.1 HK.out.2.1 hN hrow.sl HL.out (HR.out.step HK.out.1 (by simp; omega)) HN.out)
      have HST := Lib.hid HK.out.1
      clear hrow
      go_wp2_with (go_at_call 40; refine HAP.out.mono ?_; rintro e w' ⟨rfl, o', r1⟩; have HF := Lib.hid ((HST.out.mono (ts' := tgA N) (by simp [tgA])).trans (r1.mono (ts' := tgA N) (fun t ht => tgA_of ht))); clear r1)
      rw [HP.out]
      exact ⟨rfl, _, HF.out⟩
end Go.Proofs.YtkiknbjokknemaaGreat
