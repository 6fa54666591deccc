/-
  BridgeRelays: for every input the call returns true, and the arguments read as before. No condition.
-/
import Derived.Test.YtimdcnickfaddaaLRelays
set_option linter.unusedVariables false
set_option linter.unusedSimpArgs false
namespace Go.Proofs.Ytimdcnickfaddaa.relays
open Go.ChangeShapes Go.WideShapes Go.ChangeAt Go.RowKit

set_option maxRecDepth 100000 in
set_option maxHeartbeats 1000000 in
theorem lifted (os : Os) (started : os.Started) (H : Type) (enc : TypeId × Value → H) :
    ReturnsInHanded {} Try.checked os 9 .any (Rows.bridgeRelaysSpec.pre6 enc Try.prog Try.f9 Rows.bridgeRelaysRow.domain false) (Rows.bridgeRelaysSpec.post enc Try.prog Try.f9 false true false false) := by
  refine returnsInHanded_of_change (C := Try.checked) own started (by kernel_rfl) Try.func9
    (ChangeSpec.witness6 (enc := enc) (C := Try.checked) false ⟨#[], #[.slice none 0 0, .agg #[.string ByteArray.empty, .int .i64 0, .int .i64 0, .bool false, .string ByteArray.empty, .slice none 0 0, .slice none 0 0, .slice none 0 0, .slice none 0 0, .int .i64 0, .int .i64 0, .int .i64 0, .int .i64 0, .int .i64 0, .int .i64 0, .int .i64 0], .agg #[.string ByteArray.empty, .string ByteArray.empty, .string ByteArray.empty]], []⟩ 8 (by kernel_rfl) (by kernel_rfl) (by kernel_rfl) (by kernel_rfl)) ?_
  intro W base args ds gs before hval0 hW _ _
  have hval : ∀ (j : Nat) t v, Try.f9.params[j]? = some t → args[j]? = some v → Value.okWide Try.prog W .any base t v := hval0
  have hW' := hW
  obtain ⟨p, q, hA0, hV, rfl, _, _⟩ := hW
  have hA : DataW.TrodAll enc Try.prog W 0 (fun _ => true) true Try.f9.params.toList args.toList ds p := hA0
  rw [Try.params9] at hA hval
  obtain ⟨v0, v1, v2, d0, d1, d2, p0, p1, p2, rfl, rfl, rfl, h0, h1, h2⟩ := trodAll_three hA
  obtain ⟨rfl, rfl⟩ := trodVars_none hV
  obtain ⟨A0, c0, l0, rfl, hr0, hc0, hm0⟩ := read_ghosts (hval 0 32 v0 rfl rfl) h0
  obtain ⟨cs1, c1, rfl, hr1, hk1⟩ := read_content51 (hval 1 49 v1 rfl rfl) h1
  obtain ⟨x0, x1, x2, rfl⟩ := read_ident (hval 2 23 v2 rfl rfl) h2
  obtain ⟨va, vd, vu, vk, hcs, k1, k2, k3, k4⟩ := id hr1
  have hcs2 : cs1 = [.string c1.text, .int .i64 c1.n, .int .i64 c1.target, .bool c1.thread, .string c1.via, va, vd, vu, vk, .int .i64 c1.lv.user, .int .i64 c1.lv.message, .int .i64 c1.lv.state, .int .i64 c1.lv.invite, .int .i64 c1.lv.kick, .int .i64 c1.lv.ban, .int .i64 c1.lv.redact] := hcs
  subst hcs2
  clear hA0 hval0
  have hwalk : Calls Try.prog 9 #[.slice A0 l0.length c0, .agg #[.string c1.text, .int .i64 c1.n, .int .i64 c1.target, .bool c1.thread, .string c1.via, va, vd, vu, vk, .int .i64 c1.lv.user, .int .i64 c1.lv.message, .int .i64 c1.lv.state, .int .i64 c1.lv.invite, .int .i64 c1.lv.kick, .int .i64 c1.lv.ban, .int .i64 c1.lv.redact], .agg #[.string x0, .string x1, .string x2]] W (fun e W' => e = .returned (.bool true) ∧ Below W.heap.size W W') := relays_any A0 c0 l0 c1 va vd vu vk x0 x1 x2 W hr0 hr1
  refine hwalk.mono fun e W' ⟨he, hb⟩ => ⟨_, he, ?_⟩
  exact law_post laid (by rw [Try.params9]; intro t ht; simp only [Array.toList, List.mem_cons, List.not_mem_nil, or_false] at ht; rcases ht with rfl | rfl | rfl <;> exact ⟨by kernel_rfl, of_decide_eq_true (by kernel_rfl)⟩) rfl rfl Try.underlying4 rfl hW' hb

theorem proved : Rows.BridgeRelaysSaid :=
  OpenClaim.holds_of_wide 9 Try.f9 rfl rfl rfl rfl rfl rfl rfl ⟨rfl, rfl, rfl, rfl, rfl⟩ rfl rfl rfl rfl rfl (by kernel_rfl) Try.func9 (by kernel_rfl)
    (of_decide_eq_true (by kernel_rfl)) (by unfold Func.isWrapper; first | (rw [if_pos (by decide +kernel)]; kernel_rfl) | (rw [if_neg (by decide +kernel)]; exact ⟨rfl, rfl⟩))
    (fun os started H enc _ => lifted os started H enc)
end Go.Proofs.Ytimdcnickfaddaa.relays
