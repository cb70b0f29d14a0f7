/-
  ChannelWrong returns true for every input: bodies that are no sequence of messages, and messages that are too long, too far ahead, or too old, are rejected: no message of such a packet is received; bytes that are no packet change nothing at all. No condition.
-/
import Derived.Test.YthjjipcbpmdfnaaChWrC
import Derived.Test.YthjjipcbpmdfnaaChScr
import Derived.Test.YthjjipcbpmdfnaaLaw
namespace Go.Proofs.Ythjjipcbpmdfnaa.channelWrong
open Go.ChangeShapes Go.WideShapes Go.ChangeAt Go.RowKit Go.Deep

set_option maxRecDepth 100000 in
theorem contract (H : Type) (enc : TypeId × Value → H) (W : World) (base : Nat) (args : Array Value) (ds gs : List (DataW H)) (before : List MemPlace)
    (hval : ∀ (j : Nat) t v, Try.f9.params[j]? = some t → args[j]? = some v → Value.okWide Try.prog W .any base t v)
    (hW : DataW.Whole enc Try.prog Try.f9.params.toList Rows.channelWrongSpec.vars false W args.toList ds gs before) :
    Calls Try.prog 9 args W fun e W' => ∃ v, e = .returned v ∧ Rows.channelWrongSpec.post enc Try.prog Try.f9 false true false false W args v W' := by
  have hW' := hW
  obtain ⟨p, q, hA0, hV, rfl, hfz, hnd⟩ := hW
  have hA : DataW.TrodAll enc Try.prog W 0 (fun _ => true) true Try.f9.params.toList args.toList ds p := hA0
  rw [Try.params9] at hA hval
  obtain ⟨v0, v1, v2, d0, d1, d2, p0, p1, p2, rfl, rfl, rfl, h0, h1, h2⟩ := trodAll_three hA
  obtain ⟨rfl, rfl⟩ := trodVars_none hV
  obtain ⟨x2, rfl, rfl, rfl, wx2⟩ := open_int Try.underlying5 (hval 2 5 v2 rfl rfl) h2
  obtain ⟨A, n, c, rfl⟩ := okWide_slice Try.underlying41 (hval 0 41 v0 rfl rfl)
  obtain ⟨B, k, d, rfl⟩ := okWide_slice Try.underlying41 (hval 1 41 v1 rfl rfl)
  obtain ⟨fu, h0⟩ := h0
  obtain ⟨fv, h1⟩ := h1
  obtain ⟨A', n', c', js, he, hJ⟩ := open_bytes Try.underlying41 h0
  obtain ⟨rfl, rfl, rfl⟩ : A = A' ∧ n = n' ∧ c = c' := by
    have he' : [Value.slice A n c] = [Value.slice A' n' c'] := he
    simp only [List.cons.injEq, Value.slice.injEq, and_true] at he'
    exact he'
  obtain ⟨B', k', d', ms, he2, hM⟩ := open_bytes Try.underlying41 h1
  obtain ⟨rfl, rfl, rfl⟩ : B = B' ∧ k = k' ∧ d = d' := by
    have he' : [Value.slice B k d] = [Value.slice B' k' d'] := he2
    simp only [List.cons.injEq, Value.slice.injEq, and_true] at he'
    exact he'
  clear hA0 hA
  have hx2 := u8_bd wx2
  refine (wrong_walk W A n c js hJ B k d ms hM x2 hx2.1 (by have := hx2.2; omega)).mono fun e W' ⟨he, hb⟩ => ?_
  exact ⟨_, he, law_post laid_ (by kernel_rfl) rfl rfl Try.underlying4 hW' hb rfl rfl rfl⟩

set_option maxRecDepth 100000 in
theorem lifted (os : Os) (started : os.Started) (H : Type) (enc : TypeId × Value → H) :
    ReturnsInHanded {} Try.checked os 9 .any (Rows.channelWrongSpec.pre6 enc Try.prog Try.f9 Rows.channelWrongRow.domain false) (Rows.channelWrongSpec.post enc Try.prog Try.f9 false true false false) := by
  refine returnsInHanded_of_change (C := Try.checked) own_ started (by kernel_rfl) Try.func9
    (ChangeSpec.witness6 (enc := enc) (C := Try.checked) false ⟨#[], #[.slice none 0 0, .slice none 0 0, .int .u8 0], []⟩ 8 (by kernel_rfl) (by kernel_rfl) (by kernel_rfl) (by kernel_rfl)) ?_
  intro W base args ds gs before hval hW _ _
  exact contract H enc W base args ds gs before hval hW

/-- ████ ChannelWrong: for every input. ████ -/
theorem holds : Rows.ChannelWrongSaid :=
  OpenClaim.holds_of_wide 9 Try.f9 rfl rfl rfl rfl rfl rfl rfl ⟨rfl, rfl, rfl, rfl, rfl⟩ rfl rfl rfl rfl rfl (by kernel_rfl) Try.func9 (by kernel_rfl)
    (of_decide_eq_true (by kernel_rfl)) (by unfold Func.isWrapper; first | (rw [if_pos (by decide +kernel)]; kernel_rfl) | (rw [if_neg (by decide +kernel)]; exact ⟨rfl, rfl⟩))
    (fun os started H enc _ => lifted os started H enc)
#print axioms holds
end Go.Proofs.Ythjjipcbpmdfnaa.channelWrong
