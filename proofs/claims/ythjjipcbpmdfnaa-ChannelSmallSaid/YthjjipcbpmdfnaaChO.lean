/-
  WALKS of marcheslaw20.texts and marcheskit.SameTexts.
-/
import Derived.Test.YthjjipcbpmdfnaaChNQ
import Derived.Test.YthjjipcbpmdfnaaKitY
namespace Go.Proofs.Ythjjipcbpmdfnaa
open Go.RowKit

/-- Messages as texts. -/
def strs (ms : List (List UInt8)) : List Value := ms.map fun x => .string ⟨x.toArray⟩
theorem strs_len (ms : List (List UInt8)) : (strs ms).length = ms.length := by simp [strs]
theorem one_strs (ms : List (List UInt8)) : ∀ u ∈ strs ms, u.oneCell' = true := by
  intro u hu
  obtain ⟨x, -, rfl⟩ := List.mem_map.1 hu; rfl
theorem el_str : Elem Try.prog 61 9 1 16 (.string ⟨#[]⟩) := ⟨Try.underlying61, by kernel_rfl, rfl, by decide⟩
/-- Slices of bytes that lie somewhere. -/
structure BsAt (w : World) (A : Option Addr) (m c : Nat) (ms : List (List UInt8)) : Prop where
  ex : ∃ o ρ vs, Sl w o ρ 1 A m c vs ∧ ms.length = m ∧ ∀ (i : Nat) x, ms[i]? = some x → ∃ XA xl xc t, vs[i]? = some (.slice XA xl xc) ∧ Sl w o t 1 XA xl xc (byts x)
theorem BsAt.below {w w' : World} {A : Option Addr} {m c : Nat} {ms : List (List UInt8)} (h : BsAt w A m c ms) (hb : Below w.heap.size w w') : BsAt w' A m c ms := by
  obtain ⟨o, ρ, vs, h1, h2, h3⟩ := h.ex
  exact ⟨o, ρ, vs, h1.below hb, h2, fun i x hx => by
    obtain ⟨XA, xl, xc, t, q1, q2⟩ := h3 i x hx
    exact ⟨XA, xl, xc, t, q1, q2.below hb⟩⟩
theorem MsgsAt.bs {w : World} {o : Own} {ρ n m c : Nat} {ε : Nat → Nat} {A : Option Addr} {vs : List Value} {ms : List (List UInt8)} (h : MsgsAt w o ρ ε n A m c vs ms) : BsAt w A m c ms :=
  ⟨o, ρ, vs, h.row.sl, h.len, fun i x hx => by
    obtain ⟨XA, xl, xc, q1, q2⟩ := h.el i x hx
    exact ⟨XA, xl, xc, _, q1, q2.sl⟩⟩
def TextsTo (w : World) (ms : List (List UInt8)) (e : Ending) (w' : World) : Prop := ∃ TA tc, e = .returned (.slice TA ms.length tc) ∧ Below w.heap.size w w' ∧ Sl w' (fun _ => 0) 0 1 TA ms.length tc (strs ms)

set_option maxRecDepth 100000 in
set_option maxHeartbeats 1000000 in
theorem texts_any {w : World} {A : Option Addr} {m c : Nat} {ms : List (List UInt8)} (h : BsAt w A m c ms) (hm : m ≤ 1000000) : Calls Try.prog 27 #[.slice A m c] w (TextsTo w ms) := by
  have H := Lib.hid h
  have hml : ms.length = m := by obtain ⟨_, _, _, _, q, _⟩ := h.ex; exact q
  have HML := Lib.hid hml
  clear h hml
  go_enter Try.func27, Try.ntmps27
  go_wp2_with fail
  go_loopw [3, 8] (fun s3 i wr => ∃ (j : Nat) (TA : Option Addr) (tc : Nat), j ≤ m ∧ i = .int .i64 j ∧ s3 = .slice TA j tc ∧ Hid (NS w.heap.size w wr) ∧ Hid (NRow w.heap.size wr 9 1 TA j tc (strs (ms.take j)))) (fun _ i _ => m - (intOf i).toNat)
  case atStart => exact ⟨0, none, 0, Nat.zero_le _, rfl, rfl, Lib.hid (NS.refl _), Lib.hid (Row.nil_ _ _ _ _ _)⟩
  case round => as_aux_lemma =>
    obtain ⟨j, TA, tc, hj, rfl, rfl, HN, HR⟩ := hrel
    by_cases hlt : j < m
    · have hd : decide ((j : Int) < (m : Int)) = true := by simp; omega
      obtain ⟨x, hx⟩ : ∃ x, ms[j]? = some x := ⟨_, List.getElem?_eq_getElem (by have := HML.out; omega)⟩
      obtain ⟨o, ρ, vs, h1, -, h3⟩ := (H.out.below HN.out.fin).ex
      obtain ⟨XA, xl, xc, t, q1, q2⟩ := h3 j x hx
      obtain ⟨g, off, hA, -, -, hc⟩ := h1.2.2.2 (by omega)
      subst hA
      have c0 := hc j _ q1
      have hcv := conv_bytes wr o t XA xl xc x q2
      have HX := Lib.hid hx
      have hn4 := HN.out.alloc (.cells #[.string ⟨x.toArray⟩] 9)
      have hr4 := HR.out.alloc HN.out.le' (.cells #[.string ⟨x.toArray⟩] 9)
      have hs4 := Sl.fresh wr 9 1 1 [.string ⟨x.toArray⟩] rfl (by decide)
      have HN4 := Lib.hid hn4; have HR4 := Lib.hid hr4; have HS4 := Lib.hid hs4
      clear hx h1 h3 q1 q2 hc hn4 hr4 hs4
      go_wp2_with (at_builtin; refine wpList_append_new _ rfl (.tmp 12) (.tmp 15) _ rfl el_str HN4.out TA j tc _ rfl HR4.out _ 1 1 _ rfl HS4.out (one_strs [x]) (by omega) (by unfold maxLen; omega) ?_; intro A5 c5 w5 hr5 hk5 _ _; have HR5 := Lib.hid hr5; have HK5 := Lib.hid hk5; clear hr5 hk5)
      have HR6 : Hid (NRow w.heap.size w5 9 1 A5 (j + 1) c5 (strs (ms.take (j + 1)))) := Lib.hid (by
        obtain ⟨hi, e⟩ := List.getElem?_eq_some_iff.1 HX.out
        rw [List.take_succ_eq_append_getElem hi, e]
        have := HR5.out
        simpa [strs] using this)
      clear HR5 HN4 HR4 HS4 HN HR c0 hcv
      go_roundw
      case rel => exact ⟨j + 1, A5, c5, by omega, by go_num, rfl, HK5, HR6⟩
      case measure => simp [intOf]; omega
    · have hd : decide ((j : Int) < (m : Int)) = false := by simp; omega
      have HR2 : Hid (NRow w.heap.size wr 9 1 TA j tc (strs ms)) := Lib.hid (by have := HR.out; rwa [List.take_of_length_le (by have := HML.out; omega)] at this)
      have hjm : j = ms.length := by have := HML.out; omega
      go_wp2_with fail
      go_ret
      subst hjm
      exact ⟨TA, tc, rfl, HN.out.fin, HR2.out.sl.plain⟩

theorem Sl.at0 {w : World} {o : Own} {τ n c : Nat} {A : Option Addr} {xs : List Value} (h : Sl w o τ 1 A n c xs) {k : Nat} {u : Value} (hx : xs[k]? = some u) (hk : k < n) : ∃ g off, A = some ⟨g, off, none⟩ ∧ w.cell? ⟨g, off + k, none⟩ = some u := by
  obtain ⟨g, off, hA, -, -, hc⟩ := h.2.2.2 (by omega)
  exact ⟨g, off, hA, hc k u hx⟩
set_option maxRecDepth 100000 in
set_option maxHeartbeats 1000000 in
theorem SameTexts_eq (w : World) (o o2 : Own) (τ τ2 : Nat) (A B : Option Addr) (n c d : Nat) (ms : List (List UInt8)) (hS : Sl w o τ 1 A n c (strs ms)) (hT : Sl w o2 τ2 1 B n d (strs ms)) :
    Calls Try.prog 26 #[.slice A n c, .slice B n d] w (SameTo w true) := by
  have hl1 : ms.length = n := by have := hS.1; rw [strs_len] at this; omega
  have hb : n ≤ 9223372036854775807 := by have h1 := hS.2.1; have h2 := hS.2.2.1; unfold maxLen at h2; omega
  have hnn : ((n : Int) != (n : Int)) = false := by simp
  have HS := Lib.hid hS; have HT := Lib.hid hT; have HL := Lib.hid hl1
  clear hS hT hl1
  go_enter Try.func26, Try.ntmps26
  go_wp2_with fail
  go_loopw [5] (fun i wr => ∃ k q : Nat, k ≤ n ∧ i = .int .i64 k ∧ wr = w.drewN q) (fun i _ => n - (intOf i).toNat)
  case atStart => exact ⟨0, 0, Nat.zero_le _, rfl, rfl⟩
  case round => as_aux_lemma =>
    obtain ⟨k, q, hk, rfl, rfl⟩ := hrel
    by_cases hlt : k < n
    · have hd : decide ((k : Int) < (n : Int)) = true := by simp; omega
      obtain ⟨u, hu⟩ : ∃ u, (strs ms)[k]? = some u := ⟨_, List.getElem?_eq_getElem (by rw [strs_len]; have := HL.out; omega)⟩
      obtain ⟨ga, oa, rfl, ca⟩ := HS.out.at0 hu hlt
      obtain ⟨gb, ob, rfl, cb⟩ := HT.out.at0 hu hlt
      obtain ⟨sx, rfl⟩ : ∃ sx, u = .string sx := by
        have := List.mem_of_getElem? hu
        obtain ⟨x, -, e⟩ := List.mem_map.1 this
        exact ⟨_, e.symm⟩
      clear hu
      have i0 : (0 : Int) ≤ k := by omega
      have i1 : (k : Int) < (n : Int) := by omega
      go_wp2_with fail
      go_quiet (fail)
      go_wp2_with fail
      go_roundw
      case rel => exact ⟨k + 1, q + nq, by omega, by go_num, by first | rfl | rw [World.drewN_drewN]⟩
      case measure => simp [intOf]; omega
    · have hd : decide ((k : Int) < (n : Int)) = false := by simp; omega
      go_wp2_with fail
      go_ret
      exact ⟨rfl, q, rfl⟩
end Go.Proofs.Ythjjipcbpmdfnaa
