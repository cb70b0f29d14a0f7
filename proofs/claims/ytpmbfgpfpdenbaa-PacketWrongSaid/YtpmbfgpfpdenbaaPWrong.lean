/-
  PacketWrong returns true for every input: bytes that are no packet are rejected, and change nothing. The bytes take at most what the row's own reach says.
-/
import Derived.Test.YtpmbfgpfpdenbaaByteArg
import Derived.Test.YtpmbfgpfpdenbaaPWrD
import Derived.Test.YtpmbfgpfpdenbaaLaw
import Derived.SizedLaws
namespace Go.Proofs.Ytpmbfgpfpdenbaa.packetWrong
open Go.ChangeShapes Go.WideShapes Go.ChangeAt Go.RowKit Go.Deep

set_option maxRecDepth 100000 in
theorem contract (H : Type) (enc : TypeId × Value → H) (W : World) (base : Nat) (args : Array Value) (ds gs : List (DataW H)) (before : List MemPlace)
    (hval : ∀ (j : Nat) t v, Try.f9.params[j]? = some t → args[j]? = some v → Value.okWide Try.prog W .any base t v)
    (hW : DataW.Whole enc Try.prog Try.f9.params.toList Rows.packetWrongSpec.vars false W args.toList ds gs before) (hsz0 : (DataW.weightsEach Try.prog (Try.f9.params.toList ++ Rows.packetWrongSpec.plain.varTypes Try.prog) (ds ++ gs)).all (· ≤ reachBytes) = true) :
    Calls Try.prog 9 args W fun e W' => ∃ v, e = .returned v ∧ Rows.packetWrongSpec.post enc Try.prog Try.f9 false true false false W args v W' := by
  have hW' := hW
  obtain ⟨p, q, hA0, hV, rfl, hfz, hnd⟩ := hW
  have hA : DataW.TrodAll enc Try.prog W 0 (fun _ => true) true Try.f9.params.toList args.toList ds p := hA0
  rw [Try.params9] at hA hval hsz0
  obtain ⟨v0, v1, v2, v3, d0, d1, d2, d3, p0, p1, p2, p3, rfl, rfl, rfl, h0, h1, h2, h3⟩ := trodAll_four hA
  obtain ⟨rfl, rfl⟩ := trodVars_none hV
  obtain ⟨x0, rfl, rfl, rfl, wx0⟩ := open_int Try.underlying22 (hval 0 22 v0 rfl rfl) h0
  obtain ⟨x1, rfl, rfl, rfl, wx1⟩ := open_int Try.underlying22 (hval 1 22 v1 rfl rfl) h1
  obtain ⟨x3, rfl, rfl, rfl, wx3⟩ := open_int Try.underlying5 (hval 3 5 v3 rfl rfl) h3
  obtain ⟨A, n, c, rfl⟩ := okWide_slice Try.underlying27 (hval 2 27 v2 rfl rfl)
  obtain ⟨fu, h2⟩ := h2
  obtain ⟨A', n', c', got, he, hS, hel⟩ := open_bytesD Try.underlying27 h2
  obtain ⟨rfl, rfl, rfl⟩ : A = A' ∧ n = n' ∧ c = c' := by
    have he' : [Value.slice A n c] = [Value.slice A' n' c'] := he
    simp only [List.cons.injEq, Value.slice.injEq, and_true] at he'
    exact he'
  have hgn : n ≤ 140737488351232 := by
    rcases hel with h | ⟨el, sp, hd, hl⟩
    · omega
    · have hb : Try.prog.bytesOf 5 = 1 := by kernel_rfl
      have := sized_slice hsz0 (j := 2) (t := 27) (e := 5) (elems := el) (spare := sp) rfl (by simp only [List.cons_append, List.getElem?_cons_succ, List.getElem?_cons_zero]; exact congrArg some hd) Try.underlying27
      rw [hb] at this
      simp only [reachBytes] at this
      omega
  obtain ⟨cut, hcut⟩ : ∃ cut : Nat, (cut : Int) = x3 := ⟨x3.toNat, by have := u8_bd wx3; omega⟩
  subst hcut
  clear hA0 hA
  have hx0 := u64_bd wx0
  have hx1 := u64_bd wx1
  have hx3 := u8_bd wx3
  refine (PacketWrong_walk W x0 x1 hx0.1 hx1.1 A n c got hS hgn cut (by omega)).mono fun e W' ⟨he, hb⟩ => ?_
  exact ⟨_, he, law_post laid_ (by kernel_rfl) rfl rfl Try.underlying4 hW' hb rfl rfl rfl⟩

set_option maxRecDepth 100000 in
theorem lifted (os : Os) (started : os.Started) (H : Type) (enc : TypeId × Value → H) :
    ReturnsInHanded {} Try.checked os 9 .any (Rows.packetWrongSpec.pre6 enc Try.prog Try.f9 Rows.packetWrongRow.domain false) (Rows.packetWrongSpec.post enc Try.prog Try.f9 false true false false) := by
  refine returnsInHanded_of_change_sized (C := Try.checked) own_ started (by kernel_rfl) Try.func9
    (ChangeSpec.witness6 (enc := enc) (C := Try.checked) false ⟨#[], #[.int .u64 0, .int .u64 0, .slice none 0 0, .int .u8 0], []⟩ 8 (by kernel_rfl) (by kernel_rfl) (by kernel_rfl) (by kernel_rfl)) ?_
  intro W base args ds gs before hval hW _ hsz _
  exact contract H enc W base args ds gs before hval hW hsz

/-- ████ PacketWrong: for every input. ████ -/
theorem holds : Rows.PacketWrongSaid :=
  OpenClaim.holds_of_wide 9 Try.f9 rfl rfl rfl rfl rfl rfl rfl ⟨rfl, rfl, rfl, rfl, rfl⟩ rfl rfl rfl rfl rfl (by kernel_rfl) Try.func9 (by kernel_rfl)
    (of_decide_eq_true (by kernel_rfl)) (by unfold Func.isWrapper; first | (rw [if_pos (by decide +kernel)]; kernel_rfl) | (rw [if_neg (by decide +kernel)]; exact ⟨rfl, rfl⟩))
    (fun os started H enc _ => lifted os started H enc)
#print axioms holds
end Go.Proofs.Ytpmbfgpfpdenbaa.packetWrong
