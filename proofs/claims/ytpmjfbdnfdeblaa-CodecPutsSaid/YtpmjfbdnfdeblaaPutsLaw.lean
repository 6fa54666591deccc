/-
  CodecPuts: for every input the call returns true, and the arguments read as before. No condition.
-/
import Derived.Test.YtpmjfbdnfdeblaaPuts
import Derived.Test.YtpmjfbdnfdeblaaLift
set_option linter.unusedVariables false
set_option linter.unusedSimpArgs false
namespace Go.Proofs.Ytpmjfbdnfdeblaa.puts
open Go.ChangeShapes Go.WideShapes Go.ChangeAt Go.RowKit

theorem cellsB : Try.prog.cellsOf 5 = 1 := by kernel_rfl
theorem cellsI : Try.prog.cellsOf 3 = 1 := by kernel_rfl
theorem cellsS : Try.prog.cellsOf 9 = 1 := by kernel_rfl

set_option maxRecDepth 100000 in
set_option maxHeartbeats 1000000 in
theorem lifted (os : Os) (started : os.Started) (H : Type) (enc : TypeId × Value → H) :
    ReturnsInHanded {} Try.checked os 4 .any (Rows.codecPutsSpec.pre6 enc Try.prog Try.f4 Rows.codecPutsRow.domain false) (Rows.codecPutsSpec.post enc Try.prog Try.f4 false true false false) := by
  refine returnsInHanded_of_change (C := Try.checked) own started (by kernel_rfl) Try.func4
    (ChangeSpec.witness6 (enc := enc) (C := Try.checked) false ⟨#[], #[.agg #[.slice none 0 0, .int .i64 0, .string ByteArray.empty, .slice none 0 0, .slice none 0 0, .bool false]], []⟩ 8 (by kernel_rfl) (by kernel_rfl) (by kernel_rfl) (by kernel_rfl)) ?_
  intro W base args ds gs before hval0 hW _ _
  have hval : ∀ (j : Nat) t v, Try.f4.params[j]? = some t → args[j]? = some v → Value.okWide Try.prog W .any base t v := hval0
  have hW' := hW
  obtain ⟨p, q, hA0, hV, rfl, _, _⟩ := hW
  have hA : DataW.TrodAll enc Try.prog W 0 (fun _ => true) true Try.f4.params.toList args.toList ds p := hA0
  rw [Try.params4] at hA hval
  obtain ⟨v0, d0, rfl, rfl, h0⟩ := trodAll_one hA
  obtain ⟨rfl, rfl⟩ := trodVars_none hV
  obtain ⟨cs, rfl, hcs, fuelv, hfv⟩ := read_struct Try.underlying32 (by kernel_rfl) (by kernel_rfl) (hval 0 32 v0 rfl rfl) h0
  obtain ⟨k0, y0, e0, t0⟩ := hfv 0 _ rfl
  obtain ⟨k1, y1, e1, t1⟩ := hfv 1 _ rfl
  obtain ⟨k2, y2, e2, t2⟩ := hfv 2 _ rfl
  obtain ⟨k3, y3, e3, t3⟩ := hfv 3 _ rfl
  obtain ⟨k4, y4, e4, t4⟩ := hfv 4 _ rfl
  obtain ⟨k5, y5, e5, t5⟩ := hfv 5 _ rfl
  obtain rfl := array_six hcs e0 e1 e2 e3 e4 e5
  obtain ⟨A0, n0, c0, rfl⟩ := field_slice Try.underlying22 t0
  obtain ⟨l0, rfl, hrow0, hlc0, _⟩ := read_bytes Try.underlying22 Try.underlying5 cellsB t0
  obtain ⟨N, rfl, wN⟩ := field_int Try.underlying3 t1
  obtain ⟨s, rfl, hs⟩ := field_string Try.underlying9 t2
  obtain ⟨A3, n3, c3, rfl⟩ := field_slice Try.underlying29 t3
  obtain ⟨L, rfl, hrow3, hL, hlc3, hm3⟩ := read_ints Try.underlying29 Try.underlying3 cellsI t3
  obtain ⟨A4, n4, c4, rfl⟩ := field_slice Try.underlying30 t4
  obtain ⟨T, rfl, hrow4, hT, hlc4, hm4⟩ := read_strings Try.underlying30 Try.underlying9 cellsS t4
  obtain ⟨is, rfl⟩ := field_bool Try.underlying4 t5
  clear hA0 hval0
  have hwalk : Calls Try.prog 4 #[.agg #[.slice A0 l0.length c0, .int .i64 N, .string s, .slice A3 L.length c3, .slice A4 T.length c4, .bool is]] W (fun e w' => e = .returned (.bool true) ∧ Below W.heap.size W w') := by
    unfold maxLen at hm4
    cases hg : greatB l0.length s.size L.length T.length (sizes T) with
    | true => exact puts_great A0 A3 A4 _ _ c0 c3 c4 N s T is W hrow4 hg (fun t ht => by have := hT t ht; unfold maxLen at this; omega) (by omega)
    | false => exact puts_small A0 A3 A4 c0 c3 c4 l0 N s L T is W hrow0 hrow3 hrow4 (i64_of_wf wN) hL hg (fun t ht => by have := hT t ht; unfold maxLen at this; omega)
  refine hwalk.mono fun e W' ⟨he, hb⟩ => ⟨_, he, ?_⟩
  exact law_post laid (by rw [Try.params4]; intro t ht; simp only [Array.toList, List.mem_cons, List.not_mem_nil, or_false] at ht; subst ht; exact ⟨by kernel_rfl, of_decide_eq_true (by kernel_rfl)⟩) rfl rfl Try.underlying4 rfl hW' hb

theorem proved : Rows.CodecPutsSaid :=
  OpenClaim.holds_of_wide 4 Try.f4 rfl rfl rfl rfl rfl rfl rfl ⟨rfl, rfl, rfl, rfl, rfl⟩ rfl rfl rfl rfl rfl (by kernel_rfl) Try.func4 (by kernel_rfl)
    (of_decide_eq_true (by kernel_rfl)) (by unfold Func.isWrapper; first | (rw [if_pos (by decide +kernel)]; kernel_rfl) | (rw [if_neg (by decide +kernel)]; exact ⟨rfl, rfl⟩))
    (fun os started H enc _ => lifted os started H enc)
end Go.Proofs.Ytpmjfbdnfdeblaa.puts
