/-
  WALK of Pairs where it rejects.
-/
import Derived.Test.YtkceefheeicmbaaRatW
namespace Go.Proofs.Ytkceefheeicmbaa
open Go.RowKit

def NoPairs (w : World) (e : Ending) (w' : World) : Prop := e = .returned (.tuple #[.slice none 0 0, .int .i64 2]) ∧ Below w.heap.size w w'

theorem okTo_succ {l : List Tk} {k : Nat} {x : Tk} (hx : l[k]? = some x) : okTo l (k + 1) = (okTo l k && okT x && !((l.take k).any fun u => u.id == x.id)) := by
  rw [okTo, List.getD_eq_getElem?_getD, hx]; rfl
theorem okTo_mono {l : List Tk} : ∀ {n k : Nat}, okTo l n = true → k ≤ n → okTo l k = true
  | 0, k, h, hk => by obtain rfl : k = 0 := (by omega); exact h
  | n + 1, k, h, hk => by
    by_cases hkn : k = n + 1
    · rw [hkn]; exact h
    · rw [okTo, Bool.and_eq_true, Bool.and_eq_true] at h
      exact okTo_mono h.1.1 (by omega)

theorem tks_take (l : List Tk) : ∀ k, (tks l).take (k * 3) = tks (l.take k) := by
  induction l with
  | nil => intro k; simp
  | cons y l ih =>
    intro k
    cases k with
    | zero => simp
    | succ k =>
      have e : tks (List.take (k + 1) (y :: l)) = [.int .i64 y.id, .int .i64 y.rt, .int .i64 y.si] ++ tks (l.take k) := by rw [List.take_succ_cons]; rfl
      rw [e, ← ih k, show (k + 1) * 3 = k * 3 + 1 + 1 + 1 by omega]
      rfl
/-- The tickets ahead of one. -/
theorem Sl.ahead {w : World} {o : Own} {τ n c k g off : Nat} {l : List Tk} (h : Sl w o τ 3 (some ⟨g, off, none⟩) n c (tks l)) (hk : k ≤ n) : Sl w o τ 3 (some ⟨g, off, none⟩) k c (tks (l.take k)) := by
  have h2 := h.cut (i := 0) (j := k) (Nat.zero_le _) hk (some ⟨g, off, none⟩) (fun g' off' h _ => by injection h with h; injection h with h1 h2; subst h1 h2; simp)
  rw [Nat.zero_mul, List.drop_zero, Nat.sub_zero, Nat.sub_zero, tks_take] at h2
  exact h2

set_option maxRecDepth 100000 in
set_option maxHeartbeats 4000000 in
theorem Pairs_bad (w : World) (A : Option Addr) (n c : Nat) (l : List Tk) (t : Int) (hS : Sl w (fun _ => 0) 0 3 A n c (tks l)) (hbad : pairsOk l t = false) :
    Calls Try.prog 26 #[.slice A n c, .int .i64 t] w (NoPairs w) := by
  have hl : l.length = n := by have := hS.1; rw [len_tks] at this; omega
  have hnm : n ≤ 9223372036854775807 := by have h1 := hS.2.1; have h2 := hS.2.2.1; unfold maxLen at h2; omega
  have hcn := hS.2.1
  have hcm := hS.2.2.1
  unfold maxLen at hcm
  have hbad' : 64 < n ∨ t < 0 ∨ 1073741824 < t ∨ okTo l n = false := by
    unfold pairsOk at hbad
    rw [hl] at hbad
    simp only [Bool.and_eq_false_iff, decide_eq_false_iff_not] at hbad
    rcases hbad with ((h | h) | h) | h
    · exact .inl (by omega)
    · exact .inr (.inl (by omega))
    · exact .inr (.inr (.inl (by omega)))
    · exact .inr (.inr (.inr h))
  have HS := Lib.hid hS; have HL := Lib.hid hl
  clear hbad hS hl
  by_cases b1 : 64 < n
  · have d1 : decide (64 < (n : Int)) = true := by simp; omega
    clear hbad' b1
    go_enter Try.func26, Try.ntmps26
    go_wp2_with fail
    go_ret2
    exact ⟨rfl, Below.refl _ _⟩
  · have d1 : decide (64 < (n : Int)) = false := by simp; omega
    by_cases b2 : t < 0
    · have d2 : decide (t < 0) = true := by simp; omega
      clear hbad' b1 b2
      go_enter Try.func26, Try.ntmps26
      go_wp2_with fail
      go_ret2
      exact ⟨rfl, Below.refl _ _⟩
    · have d2 : decide (t < 0) = false := by simp; omega
      by_cases b3 : 1073741824 < t
      · have d3 : decide (1073741824 < t) = true := by simp; omega
        clear hbad' b1 b2 b3
        go_enter Try.func26, Try.ntmps26
        go_wp2_with fail
        go_ret2
        exact ⟨rfl, Below.refl _ _⟩
      · have d3 : decide (1073741824 < t) = false := by simp; omega
        have hno : okTo l n = false := by rcases hbad' with h | h | h | h; exact absurd h b1; exact absurd h b2; exact absurd h b3; exact h
        have HNO := Lib.hid hno
        clear hbad' hno
        go_enter Try.func26, Try.ntmps26
        go_wp2_with fail
        go_loopw [27, 6, 7] (fun s _ _ wr => ∃ k : Nat, k ≤ n ∧ s = .int .i64 k ∧ Hid (okTo l k = true ∧ Below w.heap.size w wr)) (fun s _ _ _ => n - (intOf s).toNat)
        case atStart => exact ⟨0, Nat.zero_le _, rfl, Lib.hid ⟨rfl, Below.refl _ _⟩⟩
        case round =>
          obtain ⟨k, hk, rfl, HK⟩ := hrel
          by_cases hlt : k < n
          · obtain ⟨x, hx⟩ : ∃ x, l[k]? = some x := ⟨_, List.getElem?_eq_getElem (by rw [HL.out]; exact hlt)⟩
            have hsl := HS.out.step ((Step.refl [] w (fun _ => 0)).below HK.out.2 5) (by simp)
            obtain ⟨g, off, rfl, -, hg2, c0, c1, c2⟩ := hsl.tk hx
            have hok := okTo_succ hx
            rw [HK.out.1, Bool.true_and] at hok
            obtain ⟨I, hI⟩ : ∃ I, I = inR x.rt := ⟨_, rfl⟩
            have hr := fun W => isRating_any W x.rt I hI
            obtain ⟨C, hC⟩ : ∃ C, C = ((l.take k).any fun u => u.id == x.id) := ⟨_, rfl⟩
            have hbx := (Below.refl wr.heap.size wr).alloc (Nat.le_refl _) (.cells (tC x) 24)
            have hct := containsT_any _ _ _ _ _ _ (l.take k) ((hsl.step ((Step.refl [] wr _).below hbx 5) (by simp)).ahead hk) wr.heap.size x.id ((Blk.new wr 24 (tC x)).cell 0) C hC
            have HOK := Lib.hid hok; have HR := Lib.hid hr; have HCT := Lib.hid hct; have HBX := Lib.hid (HK.out.2.trans (hbx.mono HK.out.2.size)); have HI := Lib.hid hI; have HC := Lib.hid hC
            clear hok hr hct hbx hI hC hx hsl
            have hfin : ∀ (w2 : World), Below (wr.alloc (.cells (tC x) 24)).heap.size (wr.alloc (.cells (tC x) 24)) w2 → Below w.heap.size w w2 := fun _ h => HBX.out.trans (h.mono HBX.out.size)
            have HFIN := Lib.hid hfin
            clear hfin
            by_cases e1 : x.id < 1
            · have q1 : decide (x.id < 1) = true := by simpa using e1
              clear e1
              go_wp2_with fail
              go_ret2
              exact ⟨rfl, HBX.out⟩
            · have q1 : decide (x.id < 1) = false := by simpa using e1
              by_cases e2 : 65536 < x.id
              · have q2 : decide (65536 < x.id) = true := by simpa using e2
                clear e1 e2
                go_wp2_with fail
                go_ret2
                exact ⟨rfl, HBX.out⟩
              · have q2 : decide (65536 < x.id) = false := by simpa using e2
                cases I with
                | false =>
                  clear e1 e2
                  go_wp2_with fail
                  refine (HR.out _).mono ?_
                  rintro e w1 ⟨rfl, rfl⟩
                  go_wp2_with fail
                  go_ret2
                  exact ⟨rfl, HBX.out⟩
                | true =>
                  by_cases e3 : x.si < 0
                  · have q3 : decide (x.si < 0) = true := by simpa using e3
                    clear e1 e2 e3
                    go_wp2_with fail
                    refine (HR.out _).mono ?_
                    rintro e w1 ⟨rfl, rfl⟩
                    go_wp2_with fail
                    go_ret2
                    exact ⟨rfl, HBX.out⟩
                  · have q3 : decide (x.si < 0) = false := by simpa using e3
                    by_cases e4 : 1073741824 < x.si
                    · have q4 : decide (1073741824 < x.si) = true := by simpa using e4
                      clear e1 e2 e3 e4
                      go_wp2_with fail
                      refine (HR.out _).mono ?_
                      rintro e w1 ⟨rfl, rfl⟩
                      go_wp2_with fail
                      go_ret2
                      exact ⟨rfl, HBX.out⟩
                    · have q4 : decide (1073741824 < x.si) = false := by simpa using e4
                      have hokx : okT x = true := by
                        rw [okT_iff]
                        have := inR_iff.1 HI.out.symm
                        omega
                      have hok2 := HOK.out
                      rw [hokx, Bool.true_and, ← HC.out] at hok2
                      have HOK2 := Lib.hid hok2
                      clear e1 e2 e3 e4 hokx hok2
                      cases C with
                      | true =>
                        go_wp2_with fail
                        refine (HR.out _).mono ?_
                        rintro e w1 ⟨rfl, rfl⟩
                        go_wp2_with fail
                        refine HCT.out.mono ?_
                        rintro e w2 ⟨rfl, hb2⟩
                        have HB2 := Lib.hid (HFIN.out _ hb2); clear hb2
                        go_wp2_with fail
                        go_ret2
                        exact ⟨rfl, HB2.out⟩
                      | false =>
                        go_wp2_with fail
                        refine (HR.out _).mono ?_
                        rintro e w1 ⟨rfl, rfl⟩
                        go_wp2_with fail
                        refine HCT.out.mono ?_
                        rintro e w2 ⟨rfl, hb2⟩
                        have HB2 := Lib.hid (HFIN.out _ hb2); clear hb2
                        go_wp2_with fail
                        go_roundw
                        case rel => exact ⟨k + 1, by omega, by go_num, Lib.hid ⟨HOK2.out, HB2.out⟩⟩
                        case measure => simp [intOf]; omega
          · obtain rfl : n = k := by omega
            have h1 := HK.out.1
            rw [HNO.out] at h1
            cases h1
end Go.Proofs.Ytkceefheeicmbaa
