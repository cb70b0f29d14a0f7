/-
  WALK of BudgetTells.
-/
import Derived.Test.YtkiknbjokknemaaGreatBudYH
namespace Go.Proofs.YtkiknbjokknemaaGreat
open Go.RowKit Go.Maps

/-- What the tests of a length say. -/
theorem len_tests (n : Nat) : (12 < n ∧ n ≤ 64) ∨ 80 < n ∨ n ≤ 12 ∨ (64 < n ∧ n ≤ 80) := by omega

set_option maxRecDepth 100000 in
set_option maxHeartbeats 8000000 in
theorem BudgetTells_of (w : World) (A : Option Addr) (n c : Nat) (B : Option Addr) (m d : Nat) (k s : Int) (hs : -9223372036854775808 ≤ s ∧ s ≤ 9223372036854775807) (ht : n ≤ 80 → m ≤ 80 → (s ≤ 60 ∨ 10000 < s) → Calls Tryz.prog 5 #[.slice A n c, .slice B m d, .int .i64 k, .int .i64 s] w (SaysTo w true)) :
    Calls Tryz.prog 4 #[.slice A n c, .slice B m d, .int .i64 k, .int .i64 s] w (SaysTo w true) := by
  have HW := Lib.hid (awake_any w)
  have HTT := Lib.hid ht
  clear ht
  obtain ⟨hs0, hs1⟩ := hs
  rcases len_tests n with ⟨hn1, hn2⟩ | hn1 | hn1 | ⟨hn1, hn2⟩
  · have dlna : decide (12 < n) = true := by simp; omega
    have dlnb : decide (12 < (n : Int)) = true := by simp; omega
    have dmna : decide (n ≤ 64) = true := by simp; omega
    have dmnb : decide ((n : Int) ≤ 64) = true := by simp; omega
    go_enter Tryz.func4, Tryz.ntmps4
    go_wp2_with fail
    refine HW.out.mono ?_
    rintro e w' ⟨rfl, hb⟩
    have HF := Lib.hid hb
    clear hb
    go_wp2_with fail
    go_ret
    exact ⟨rfl, HF.out⟩
  · have dlna : decide (12 < n) = true := by simp; omega
    have dlnb : decide (12 < (n : Int)) = true := by simp; omega
    have dmna : decide (n ≤ 64) = false := by simp; omega
    have dmnb : decide ((n : Int) ≤ 64) = false := by simp; omega
    have dhna : decide (80 < n) = true := by simp; omega
    have dhnb : decide (80 < (n : Int)) = true := by simp; omega
    go_enter Tryz.func4, Tryz.ntmps4
    go_wp2_with fail
    refine HW.out.mono ?_
    rintro e w' ⟨rfl, hb⟩
    have HF := Lib.hid hb
    clear hb
    go_wp2_with fail
    go_ret
    exact ⟨rfl, HF.out⟩
  · have dlna : decide (12 < n) = false := by simp; omega
    have dlnb : decide (12 < (n : Int)) = false := by simp; omega
    have dhna : decide (80 < n) = false := by simp; omega
    have dhnb : decide (80 < (n : Int)) = false := by simp; omega
    rcases len_tests m with ⟨hm1, hm2⟩ | hm1 | hm1 | ⟨hm1, hm2⟩
    · have dlma : decide (12 < m) = true := by simp; omega
      have dlmb : decide (12 < (m : Int)) = true := by simp; omega
      have dmma : decide (m ≤ 64) = true := by simp; omega
      have dmmb : decide ((m : Int) ≤ 64) = true := by simp; omega
      go_enter Tryz.func4, Tryz.ntmps4
      go_wp2_with fail
      refine HW.out.mono ?_
      rintro e w' ⟨rfl, hb⟩
      have HF := Lib.hid hb
      clear hb
      go_wp2_with fail
      go_ret
      exact ⟨rfl, HF.out⟩
    · have dlma : decide (12 < m) = true := by simp; omega
      have dlmb : decide (12 < (m : Int)) = true := by simp; omega
      have dmma : decide (m ≤ 64) = false := by simp; omega
      have dmmb : decide ((m : Int) ≤ 64) = false := by simp; omega
      have dhma : decide (80 < m) = true := by simp; omega
      have dhmb : decide (80 < (m : Int)) = true := by simp; omega
      go_enter Tryz.func4, Tryz.ntmps4
      go_wp2_with fail
      refine HW.out.mono ?_
      rintro e w' ⟨rfl, hb⟩
      have HF := Lib.hid hb
      clear hb
      go_wp2_with fail
      go_ret
      exact ⟨rfl, HF.out⟩
    · have dlma : decide (12 < m) = false := by simp; omega
      have dlmb : decide (12 < (m : Int)) = false := by simp; omega
      have dhma : decide (80 < m) = false := by simp; omega
      have dhmb : decide (80 < (m : Int)) = false := by simp; omega
      rcases (show (60 < s ∧ s ≤ 10000) ∨ s ≤ 60 ∨ 10000 < s by omega) with ⟨hq1, hq2⟩ | hq1 | hq1
      · have dsl : decide (60 < s) = true := by simp; omega
        have dsh : decide (s ≤ 10000) = true := by simp; omega
        go_enter Tryz.func4, Tryz.ntmps4
        go_wp2_with fail
        refine HW.out.mono ?_
        rintro e w' ⟨rfl, hb⟩
        have HF := Lib.hid hb
        clear hb
        go_wp2_with fail
        go_ret
        exact ⟨rfl, HF.out⟩
      · have dsl : decide (60 < s) = false := by simp; omega
        have HT := Lib.hid (HTT.out (by omega) (by omega) (by omega))
        go_enter Tryz.func4, Tryz.ntmps4
        go_wp2_with fail
        refine HT.out.mono ?_
        rintro e w1 ⟨rfl, hb⟩
        have HF := Lib.hid (And.intro hb (awake_any w1))
        clear hb
        go_wp2_with fail
        refine HF.out.2.mono ?_
        rintro e w2 ⟨rfl, hb⟩
        have HF2 := Lib.hid (HF.out.1.trans (hb.mono HF.out.1.size))
        clear hb
        go_wp2_with fail
        go_ret
        exact ⟨rfl, HF2.out⟩
      · have dsl : decide (60 < s) = true := by simp; omega
        have dsh : decide (s ≤ 10000) = false := by simp; omega
        have HT := Lib.hid (HTT.out (by omega) (by omega) (by omega))
        go_enter Tryz.func4, Tryz.ntmps4
        go_wp2_with fail
        refine HT.out.mono ?_
        rintro e w1 ⟨rfl, hb⟩
        have HF := Lib.hid (And.intro hb (awake_any w1))
        clear hb
        go_wp2_with fail
        refine HF.out.2.mono ?_
        rintro e w2 ⟨rfl, hb⟩
        have HF2 := Lib.hid (HF.out.1.trans (hb.mono HF.out.1.size))
        clear hb
        go_wp2_with fail
        go_ret
        exact ⟨rfl, HF2.out⟩
    · have dlma : decide (12 < m) = true := by simp; omega
      have dlmb : decide (12 < (m : Int)) = true := by simp; omega
      have dmma : decide (m ≤ 64) = false := by simp; omega
      have dmmb : decide ((m : Int) ≤ 64) = false := by simp; omega
      have dhma : decide (80 < m) = false := by simp; omega
      have dhmb : decide (80 < (m : Int)) = false := by simp; omega
      rcases (show (60 < s ∧ s ≤ 10000) ∨ s ≤ 60 ∨ 10000 < s by omega) with ⟨hq1, hq2⟩ | hq1 | hq1
      · have dsl : decide (60 < s) = true := by simp; omega
        have dsh : decide (s ≤ 10000) = true := by simp; omega
        go_enter Tryz.func4, Tryz.ntmps4
        go_wp2_with fail
        refine HW.out.mono ?_
        rintro e w' ⟨rfl, hb⟩
        have HF := Lib.hid hb
        clear hb
        go_wp2_with fail
        go_ret
        exact ⟨rfl, HF.out⟩
      · have dsl : decide (60 < s) = false := by simp; omega
        have HT := Lib.hid (HTT.out (by omega) (by omega) (by omega))
        go_enter Tryz.func4, Tryz.ntmps4
        go_wp2_with fail
        refine HT.out.mono ?_
        rintro e w1 ⟨rfl, hb⟩
        have HF := Lib.hid (And.intro hb (awake_any w1))
        clear hb
        go_wp2_with fail
        refine HF.out.2.mono ?_
        rintro e w2 ⟨rfl, hb⟩
        have HF2 := Lib.hid (HF.out.1.trans (hb.mono HF.out.1.size))
        clear hb
        go_wp2_with fail
        go_ret
        exact ⟨rfl, HF2.out⟩
      · have dsl : decide (60 < s) = true := by simp; omega
        have dsh : decide (s ≤ 10000) = false := by simp; omega
        have HT := Lib.hid (HTT.out (by omega) (by omega) (by omega))
        go_enter Tryz.func4, Tryz.ntmps4
        go_wp2_with fail
        refine HT.out.mono ?_
        rintro e w1 ⟨rfl, hb⟩
        have HF := Lib.hid (And.intro hb (awake_any w1))
        clear hb
        go_wp2_with fail
        refine HF.out.2.mono ?_
        rintro e w2 ⟨rfl, hb⟩
        have HF2 := Lib.hid (HF.out.1.trans (hb.mono HF.out.1.size))
        clear hb
        go_wp2_with fail
        go_ret
        exact ⟨rfl, HF2.out⟩
  · have dlna : decide (12 < n) = true := by simp; omega
    have dlnb : decide (12 < (n : Int)) = true := by simp; omega
    have dmna : decide (n ≤ 64) = false := by simp; omega
    have dmnb : decide ((n : Int) ≤ 64) = false := by simp; omega
    have dhna : decide (80 < n) = false := by simp; omega
    have dhnb : decide (80 < (n : Int)) = false := by simp; omega
    rcases len_tests m with ⟨hm1, hm2⟩ | hm1 | hm1 | ⟨hm1, hm2⟩
    · have dlma : decide (12 < m) = true := by simp; omega
      have dlmb : decide (12 < (m : Int)) = true := by simp; omega
      have dmma : decide (m ≤ 64) = true := by simp; omega
      have dmmb : decide ((m : Int) ≤ 64) = true := by simp; omega
      go_enter Tryz.func4, Tryz.ntmps4
      go_wp2_with fail
      refine HW.out.mono ?_
      rintro e w' ⟨rfl, hb⟩
      have HF := Lib.hid hb
      clear hb
      go_wp2_with fail
      go_ret
      exact ⟨rfl, HF.out⟩
    · have dlma : decide (12 < m) = true := by simp; omega
      have dlmb : decide (12 < (m : Int)) = true := by simp; omega
      have dmma : decide (m ≤ 64) = false := by simp; omega
      have dmmb : decide ((m : Int) ≤ 64) = false := by simp; omega
      have dhma : decide (80 < m) = true := by simp; omega
      have dhmb : decide (80 < (m : Int)) = true := by simp; omega
      go_enter Tryz.func4, Tryz.ntmps4
      go_wp2_with fail
      refine HW.out.mono ?_
      rintro e w' ⟨rfl, hb⟩
      have HF := Lib.hid hb
      clear hb
      go_wp2_with fail
      go_ret
      exact ⟨rfl, HF.out⟩
    · have dlma : decide (12 < m) = false := by simp; omega
      have dlmb : decide (12 < (m : Int)) = false := by simp; omega
      have dhma : decide (80 < m) = false := by simp; omega
      have dhmb : decide (80 < (m : Int)) = false := by simp; omega
      rcases (show (60 < s ∧ s ≤ 10000) ∨ s ≤ 60 ∨ 10000 < s by omega) with ⟨hq1, hq2⟩ | hq1 | hq1
      · have dsl : decide (60 < s) = true := by simp; omega
        have dsh : decide (s ≤ 10000) = true := by simp; omega
        go_enter Tryz.func4, Tryz.ntmps4
        go_wp2_with fail
        refine HW.out.mono ?_
        rintro e w' ⟨rfl, hb⟩
        have HF := Lib.hid hb
        clear hb
        go_wp2_with fail
        go_ret
        exact ⟨rfl, HF.out⟩
      · have dsl : decide (60 < s) = false := by simp; omega
        have HT := Lib.hid (HTT.out (by omega) (by omega) (by omega))
        go_enter Tryz.func4, Tryz.ntmps4
        go_wp2_with fail
        refine HT.out.mono ?_
        rintro e w1 ⟨rfl, hb⟩
        have HF := Lib.hid (And.intro hb (awake_any w1))
        clear hb
        go_wp2_with fail
        refine HF.out.2.mono ?_
        rintro e w2 ⟨rfl, hb⟩
        have HF2 := Lib.hid (HF.out.1.trans (hb.mono HF.out.1.size))
        clear hb
        go_wp2_with fail
        go_ret
        exact ⟨rfl, HF2.out⟩
      · have dsl : decide (60 < s) = true := by simp; omega
        have dsh : decide (s ≤ 10000) = false := by simp; omega
        have HT := Lib.hid (HTT.out (by omega) (by omega) (by omega))
        go_enter Tryz.func4, Tryz.ntmps4
        go_wp2_with fail
        refine HT.out.mono ?_
        rintro e w1 ⟨rfl, hb⟩
        have HF := Lib.hid (And.intro hb (awake_any w1))
        clear hb
        go_wp2_with fail
        refine HF.out.2.mono ?_
        rintro e w2 ⟨rfl, hb⟩
        have HF2 := Lib.hid (HF.out.1.trans (hb.mono HF.out.1.size))
        clear hb
        go_wp2_with fail
        go_ret
        exact ⟨rfl, HF2.out⟩
    · have dlma : decide (12 < m) = true := by simp; omega
      have dlmb : decide (12 < (m : Int)) = true := by simp; omega
      have dmma : decide (m ≤ 64) = false := by simp; omega
      have dmmb : decide ((m : Int) ≤ 64) = false := by simp; omega
      have dhma : decide (80 < m) = false := by simp; omega
      have dhmb : decide (80 < (m : Int)) = false := by simp; omega
      rcases (show (60 < s ∧ s ≤ 10000) ∨ s ≤ 60 ∨ 10000 < s by omega) with ⟨hq1, hq2⟩ | hq1 | hq1
      · have dsl : decide (60 < s) = true := by simp; omega
        have dsh : decide (s ≤ 10000) = true := by simp; omega
        go_enter Tryz.func4, Tryz.ntmps4
        go_wp2_with fail
        refine HW.out.mono ?_
        rintro e w' ⟨rfl, hb⟩
        have HF := Lib.hid hb
        clear hb
        go_wp2_with fail
        go_ret
        exact ⟨rfl, HF.out⟩
      · have dsl : decide (60 < s) = false := by simp; omega
        have HT := Lib.hid (HTT.out (by omega) (by omega) (by omega))
        go_enter Tryz.func4, Tryz.ntmps4
        go_wp2_with fail
        refine HT.out.mono ?_
        rintro e w1 ⟨rfl, hb⟩
        have HF := Lib.hid (And.intro hb (awake_any w1))
        clear hb
        go_wp2_with fail
        refine HF.out.2.mono ?_
        rintro e w2 ⟨rfl, hb⟩
        have HF2 := Lib.hid (HF.out.1.trans (hb.mono HF.out.1.size))
        clear hb
        go_wp2_with fail
        go_ret
        exact ⟨rfl, HF2.out⟩
      · have dsl : decide (60 < s) = true := by simp; omega
        have dsh : decide (s ≤ 10000) = false := by simp; omega
        have HT := Lib.hid (HTT.out (by omega) (by omega) (by omega))
        go_enter Tryz.func4, Tryz.ntmps4
        go_wp2_with fail
        refine HT.out.mono ?_
        rintro e w1 ⟨rfl, hb⟩
        have HF := Lib.hid (And.intro hb (awake_any w1))
        clear hb
        go_wp2_with fail
        refine HF.out.2.mono ?_
        rintro e w2 ⟨rfl, hb⟩
        have HF2 := Lib.hid (HF.out.1.trans (hb.mono HF.out.1.size))
        clear hb
        go_wp2_with fail
        go_ret
        exact ⟨rfl, HF2.out⟩

theorem BudgetTells_walk (w : World) (A : Option Addr) (n c : Nat) (l : List It) (hA : Sl w (fun _ => 0) 0 3 A n c (itms l)) (B : Option Addr) (m d : Nat) (ws : List (Int × Int)) (hB : Sl w (fun _ => 0) 0 2 B m d (wnts ws)) (k s : Int) (hk : -9223372036854775808 ≤ k ∧ k ≤ 9223372036854775807) (hs : -9223372036854775808 ≤ s ∧ s ≤ 9223372036854775807) :
    Calls Tryz.prog 4 #[.slice A n c, .slice B m d, .int .i64 k, .int .i64 s] w (SaysTo w true) :=
  BudgetTells_of w A n c B m d k s hs (fun hn hm h60 => tells_any w A n c l hA hn B m d ws hB hm k s hk.1 hk.2 hs.1 hs.2 h60)
end Go.Proofs.YtkiknbjokknemaaGreat
