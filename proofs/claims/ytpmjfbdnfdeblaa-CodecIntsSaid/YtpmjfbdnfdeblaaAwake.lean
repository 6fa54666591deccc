/-
  fedchatlaw05: awake.
-/
import Derived.Test.YtpmjfbdnfdeblaaGetMore
import Derived.Test.YtpmjfbdnfdeblaaSame
set_option linter.unusedVariables false
set_option linter.unusedSimpArgs false
namespace Go.Proofs.Ytpmjfbdnfdeblaa
open Go.RowKit

set_option maxRecDepth 100000 in
set_option maxHeartbeats 1600000 in
theorem awake_any (w : World) : Calls Try.prog 9 #[] w (fun e w' => e = .returned (.bool true) ∧ Below w.heap.size w w') := by
  go_enter Try.func9, Try.ntmps9
  go_wp2_with fail
  refine (GetInt_some (A := some ⟨w.heap.size, 0, none⟩) (c := 3) (l := [128, 1, 5]) (n := 64) (r := [5]) (by exact row_lit w (bvs [128, 1, 5]) _ _ (by simp) rfl) (by decide) (by decide) (by decide)).mono ?_
  rintro e w1 ⟨v1, rfl, hown1, hb1⟩
  have hb := ext_trans (ext_alloc (ext_refl w) _) hb1
  clear hb1
  go_wp2_with fail
  refine (GetInt_none (A := some ⟨w1.heap.size, 0, none⟩) (c := 2) (l := [128, 0]) (by exact row_lit w1 (bvs [128, 0]) _ _ (by simp) rfl) (by decide) (by decide)).mono ?_
  rintro e w2 ⟨v2, rfl, _, hb1⟩
  replace hown1 := own_below hown1 (ext_trans (ext_alloc (ext_refl w1) _) hb1)
  replace hb := ext_trans (ext_alloc hb _) hb1
  clear hb1
  go_wp2_with fail
  refine (GetText_some (A := some ⟨w2.heap.size, 0, none⟩) (c := 3) (l := [4, 97, 98]) (s := [97, 98]) (r := []) (by exact row_lit w2 (bvs [4, 97, 98]) _ _ (by simp) rfl) (by decide) (by decide) (by decide)).mono ?_
  rintro e w3 ⟨v3, rfl, _, hb1⟩
  replace hown1 := own_below hown1 (ext_trans (ext_alloc (ext_refl w2) _) hb1)
  replace hb := ext_trans (ext_alloc hb _) hb1
  clear hb1
  have hstr : (str [97, 98]).toList = [97, 98] := by rw [ByteArray.toList_eq]; rfl
  go_wp2_with fail
  refine (PutInt_any (some ⟨w3.heap.size, 0, none⟩) 1 [9] (-65) _ (by exact row_lit w3 (bvs [9]) _ _ (by simp) rfl) (by decide) (by decide) (by decide)).mono ?_
  rintro e w4 ⟨v4, rfl, hown4, hb1⟩
  replace hown1 := own_below hown1 (ext_trans (ext_alloc (ext_refl w3) _) hb1)
  replace hb := ext_trans (ext_alloc hb _) hb1
  clear hb1
  rw [show [9] ++ Enc.enc (zig (-65)) = [9, 129, 1] from by decide] at hown4
  obtain ⟨A4, c4, rfl, _, _⟩ := own_form hown4
  go_wp2_with fail
  refine (SameBytes_yes _ _ A4 (some ⟨w4.heap.size, 0, none⟩) c4 3 3 3 [9, 129, 1] _ (row_alloc (Row.own hown4) _) (by exact row_lit w4 (bvs [9, 129, 1]) _ _ (by simp) rfl) rfl rfl).mono ?_
  rintro e w5 ⟨rfl, rfl⟩
  obtain ⟨A1, c1, rfl, _, _⟩ := own_form hown1
  go_wp2_with fail
  refine (SameBytes_yes _ _ A1 _ c1 1 1 1 [5] _ (row_alloc (row_alloc ((Row.own hown1)) _) _) (by exact row_lit _ (bvs [5]) _ _ (by simp) rfl) rfl rfl).mono ?_
  rintro e w5 ⟨rfl, rfl⟩
  go_wp2_with fail
  refine (PutInts_any none 0 [] _ 2 [1, -1] _ Row.nil (by exact row_lit _ (ivs [1, -1]) _ _ (by simp) rfl) (by simp [I64]) (by decide) (by decide)).mono ?_
  rintro e w5 ⟨v5, rfl, hown5, hb1⟩
  rw [show [] ++ encL encI [1, -1] = [4, 2, 1] from by decide] at hown5
  replace hb := ext_trans (ext_alloc (ext_alloc (ext_alloc hb _) _) _) hb1
  clear hb1
  obtain ⟨A5, c5, rfl, _, _⟩ := own_form hown5
  go_wp2_with fail
  refine (SameBytes_yes _ _ A5 _ c5 3 3 3 [4, 2, 1] _ (row_alloc (Row.own hown5) _) (by exact row_lit _ (bvs [4, 2, 1]) _ _ (by simp) rfl) rfl rfl).mono ?_
  rintro e w6 ⟨rfl, rfl⟩
  go_wp2_with fail
  refine (PutBool_any none 0 [] true _ Row.nil (by decide)).mono ?_
  rintro e w6 ⟨v6, rfl, hown6, hb1⟩
  rw [show [] ++ [if true = true then 1 else 0] = ([1] : List UInt8) from rfl] at hown6
  replace hb := ext_trans (ext_alloc hb _) hb1
  clear hb1
  obtain ⟨A6, c6, rfl, _, _⟩ := own_form hown6
  go_wp2_with fail
  refine (SameBytes_yes _ _ A6 _ c6 1 1 1 [1] _ (row_alloc (Row.own hown6) _) (by exact row_lit _ (bvs [1]) _ _ (by simp) rfl) rfl rfl).mono ?_
  rintro e w7 ⟨rfl, rfl⟩
  go_wp2_with fail
  go_ret
  exact ⟨rfl, ext_alloc hb _⟩
end Go.Proofs.Ytpmjfbdnfdeblaa
