/-
  BridgeRestores: the walk.
-/
import Derived.Test.YtimdcnickfaddaaLCom
set_option linter.unusedVariables false
set_option linter.unusedSimpArgs false
namespace Go.Proofs.Ytimdcnickfaddaa
open Go.RowKit Go.Maps
open Classical
section
attribute [local go_sem] Addr.add_mid
set_option maxRecDepth 100000 in
set_option maxHeartbeats 3000000 in
theorem restores_any (x y z : ByteArray) (w : World) : Calls Try.prog 6 #[.agg #[.string x, .string y, .string z]] w (Says true w) := by
  have B0 := heap_alloc_new w (.cells #[.string x, .string y, .string z] 23)
  have hb0 := ext_alloc (ext_refl w) (.cells #[.string x, .string y, .string z] 23)
  go_enter Try.func6, Try.ntmps6
  go_wp2_with fail
  refine (law_great x y z _).mono ?_
  rintro e w1 ⟨b, rfl, hsm, hb1⟩
  have B1 := box_below B0 hb1
  have hb2 := ext_trans hb0 hb1
  have r0 : w1.cell? ⟨w.heap.size, 0, none⟩ = some (.string x) := box_at B1 rfl
  have r1 : w1.cell? ⟨w.heap.size, 1, none⟩ = some (.string y) := box_at B1 rfl
  have r2 : w1.cell? ⟨w.heap.size, 2, none⟩ = some (.string z) := box_at B1 rfl
  cases b
  case true =>
    go_wp2_with fail
    go_ret
    exact ⟨rfl, hb2⟩
  obtain ⟨s1, s2, s3⟩ := hsm rfl
  have CU := fun W => br_User x y z W (by omega) (by omega) (by omega)
  clear hsm B0 hb0 hb1
  by_cases he : userE x.data.toList y.data.toList z.data.toList = 0
  · simp only [userV_new he] at CU
    have CB := fun W => br_Back (newG x y z).user W (by have := new_size he; omega)
    rw [backV_ok (new_back he), str_toList, str_toList] at CB
    have CRU := fun W => r2_User (newG x y z).user W (by have := new_size he; omega)
    rw [user_parts.2 (new_parts he)] at CRU
    simp only [errN, Option.isSome_some, if_true] at CRU
    have CRS := fun W => r2_ServerOf (newG x y z).user W (by have := new_size he; omega)
    rw [(user_partA (new_parts he)).2, str_toList] at CRS
    obtain ⟨gu, hgu⟩ : ∃ gu, (newG x y z).user = gu := ⟨_, rfl⟩
    simp only [hgu] at CU CB CRU CRS
    clear hgu he
    go_wp2_with (first | (go_at_call 11; refine (CU _).mono ?_; rintro e w3 ⟨rfl, hb3⟩; have B3 := box_below B1 hb3) | (go_at_call 14; refine (CB _).mono ?_; rintro e w4 ⟨rfl, hb4⟩; have B4 := box_below B3 hb4))
    refine wp_region_phase (fun w' => w'.heap[w.heap.size]? = some (.cells #[.string x, .string y, .string z] 23 (0, 0))) [] (by kernel_rfl) ?_
    have T1 : ({ w4 with drawn := w4.drawn + 1 } : World).heap[w.heap.size]? = some (.cells #[.string x, .string y, .string z] 23 (0, 0)) := B4
    have hz1 : Below _ _ { w4 with drawn := w4.drawn + 1 } := ext_drew (ext_trans (ext_trans hb2 hb3) hb4)
    generalize ({ w4 with drawn := w4.drawn + 1 } : World) = Y at T1 hz1 ⊢
    clear r0 r1 r2 B1 B3 B4 hb2 hb3 hb4
    refine wpAnyP_take (i := 0) rfl (by kernel_rfl) (by kernel_rfl) (by kernel_rfl) (by kernel_rfl) (fun _ _ _ h => h) (yieldsIf_run (.int .i64 0) rfl (fun w' => by go_simp)) T1 ?_
    go_simp
    refine wpAnyP_take (i := 1) rfl (by kernel_rfl) (by kernel_rfl) (by kernel_rfl) (by kernel_rfl) (fun _ _ _ h => h) (yieldsIf_run (.bool true) rfl (fun w' => by go_simp)) T1 ?_
    go_simp
    refine wpAnyP_take (i := 2) rfl (by kernel_rfl) (by kernel_rfl) (by kernel_rfl) (by kernel_rfl) (fun _ _ _ h => h) (yieldsIf_run (.bool true) rfl (fun w' => by go_simp)) T1 ?_
    go_simp
    refine wpAnyP_take (i := 3) rfl (by kernel_rfl) (by kernel_rfl) (by kernel_rfl) (by kernel_rfl) (fun _ _ _ h => h) (yieldsIf_run (.string x) rfl (fun w' => by go_simp)) T1 ?_
    refine wpAnyP_take (i := 4) rfl (by kernel_rfl) (by kernel_rfl) (by kernel_rfl) (by kernel_rfl) (fun _ _ _ h => h) (yieldsIf_run (.pointer (some ⟨w.heap.size, 0, none⟩)) rfl (fun w' => by go_simp)) T1 ?_
    go_simp
    refine wpAnyP_take (i := 5) rfl (by kernel_rfl) (by kernel_rfl) (by kernel_rfl) (by kernel_rfl) (fun _ _ _ h => h) (yieldsIf_load rfl rfl Try.underlying9 rfl rfl (fun w' hT => box_at hT rfl)) T1 ?_
    go_simp
    refine wpAnyP_take (i := 6) rfl (by kernel_rfl) (by kernel_rfl) (by kernel_rfl) (by kernel_rfl) (fun _ _ _ h => h) (yieldsIf_run (.bool true) rfl (fun w' => by go_simp)) T1 ?_
    go_simp
    refine wpAnyP_take (i := 7) rfl (by kernel_rfl) (by kernel_rfl) (by kernel_rfl) (by kernel_rfl) (fun _ _ _ h => h) (yieldsIf_run (.bool true) rfl (fun w' => by go_simp)) T1 ?_
    go_simp
    refine wpAnyP_take (i := 8) rfl (by kernel_rfl) (by kernel_rfl) (by kernel_rfl) (by kernel_rfl) (fun _ _ _ h => h) (yieldsIf_run (.bool true) rfl (fun w' => by go_simp)) T1 ?_
    go_simp
    refine wpAnyP_take (i := 9) rfl (by kernel_rfl) (by kernel_rfl) (by kernel_rfl) (by kernel_rfl) (fun _ _ _ h => h) (yieldsIf_run (.string y) rfl (fun w' => by go_simp)) T1 ?_
    refine wpAnyP_take (i := 10) rfl (by kernel_rfl) (by kernel_rfl) (by kernel_rfl) (by kernel_rfl) (fun _ _ _ h => h) (yieldsIf_run (.pointer (some ⟨w.heap.size, 1, none⟩)) rfl (fun w' => by go_simp)) T1 ?_
    go_simp
    refine wpAnyP_take (i := 11) rfl (by kernel_rfl) (by kernel_rfl) (by kernel_rfl) (by kernel_rfl) (fun _ _ _ h => h) (yieldsIf_load rfl rfl Try.underlying9 rfl rfl (fun w' hT => box_at hT rfl)) T1 ?_
    go_simp
    refine wpAnyP_take (i := 12) rfl (by kernel_rfl) (by kernel_rfl) (by kernel_rfl) (by kernel_rfl) (fun _ _ _ h => h) (yieldsIf_run (.bool true) rfl (fun w' => by go_simp)) T1 ?_
    go_simp
    refine wpAnyP_take (i := 13) rfl (by kernel_rfl) (by kernel_rfl) (by kernel_rfl) (by kernel_rfl) (fun _ _ _ h => h) (yieldsIf_run (.bool true) rfl (fun w' => by go_simp)) T1 ?_
    go_simp
    refine wpAnyP_take (i := 14) rfl (by kernel_rfl) (by kernel_rfl) (by kernel_rfl) (by kernel_rfl) (fun _ _ _ h => h) (yieldsIf_run (.bool true) rfl (fun w' => by go_simp)) T1 ?_
    go_simp
    refine wpAnyP_take (i := 15) rfl (by kernel_rfl) (by kernel_rfl) (by kernel_rfl) (by kernel_rfl) (fun _ _ _ h => h) (yieldsIf_run (.string gu) rfl (fun w' => by go_simp)) T1 ?_
    go_simp
    refine wpAnyP_oneQ (i := 16) (by kernel_rfl) rfl ?_
    go_wp2_with fail
    refine (CRU _).mono ?_
    rintro e wc1 ⟨rfl, hbc⟩
    rw [hbc]
    clear hbc wc1
    go_wp2_with fail
    refine nextQ T1 ?_
    go_simp
    refine wpAnyP_take (i := 17) rfl (by kernel_rfl) (by kernel_rfl) (by kernel_rfl) (by kernel_rfl) (fun _ _ _ h => h) (yieldsIf_run (.bool true) rfl (fun w' => by go_simp)) T1 ?_
    go_simp
    refine wpAnyP_take (i := 18) rfl (by kernel_rfl) (by kernel_rfl) (by kernel_rfl) (by kernel_rfl) (fun _ _ _ h => h) (yieldsIf_run (.bool true) rfl (fun w' => by go_simp)) T1 ?_
    go_simp
    refine wpAnyP_take (i := 19) rfl (by kernel_rfl) (by kernel_rfl) (by kernel_rfl) (by kernel_rfl) (fun _ _ _ h => h) (yieldsIf_run (.bool true) rfl (fun w' => by go_simp)) T1 ?_
    go_simp
    refine wpAnyP_take (i := 20) rfl (by kernel_rfl) (by kernel_rfl) (by kernel_rfl) (by kernel_rfl) (fun _ _ _ h => h) (yieldsIf_run (.string gu) rfl (fun w' => by go_simp)) T1 ?_
    refine wpAnyP_take (i := 22) rfl (by kernel_rfl) (by kernel_rfl) (by kernel_rfl) (by kernel_rfl) (fun _ _ _ h => h) (yieldsIf_run (.pointer (some ⟨w.heap.size, 2, none⟩)) rfl (fun w' => by go_simp)) T1 ?_
    go_simp
    refine wpAnyP_take (i := 23) rfl (by kernel_rfl) (by kernel_rfl) (by kernel_rfl) (by kernel_rfl) (fun _ _ _ h => h) (yieldsIf_load rfl rfl Try.underlying9 rfl rfl (fun w' hT => box_at hT rfl)) T1 ?_
    go_simp
    refine wpAnyP_oneQ (i := 21) (by kernel_rfl) rfl ?_
    go_wp2_with fail
    refine (CRS _).mono ?_
    rintro e wc1 ⟨rfl, hbc⟩
    rw [hbc]
    clear hbc wc1
    go_wp2_with fail
    refine nextQ T1 ?_
    go_simp
    refine wpAnyP_take (i := 24) rfl (by kernel_rfl) (by kernel_rfl) (by kernel_rfl) (by kernel_rfl) (fun _ _ _ h => h) (yieldsIf_run (.bool true) rfl (fun w' => by go_simp)) T1 ?_
    go_simp
    refine wpAnyP_take (i := 25) rfl (by kernel_rfl) (by kernel_rfl) (by kernel_rfl) (by kernel_rfl) (fun _ _ _ h => h) (yieldsIf_run (.bool true) rfl (fun w' => by go_simp)) T1 ?_
    go_simp
    refine wpAnyP_take (i := 26) rfl (by kernel_rfl) (by kernel_rfl) (by kernel_rfl) (by kernel_rfl) (fun _ _ _ h => h) (yieldsIf_run (.bool true) rfl (fun w' => by go_simp)) T1 ?_
    go_simp
    refine wpAnyP_oneQ (i := 27) (by kernel_rfl) rfl ?_
    go_wp2_with fail
    refine (live_any _).mono ?_
    rintro e wc1 ⟨rfl, hbc⟩
    have T2 := box_below T1 hbc
    have hz2 := ext_trans hz1 hbc
    clear hbc T1 hz1
    go_wp2_with fail
    refine nextQ T2 ?_
    go_simp
    refine wpAnyP_take (i := 28) rfl (by kernel_rfl) (by kernel_rfl) (by kernel_rfl) (by kernel_rfl) (fun _ _ _ h => h) (yieldsIf_run (.bool true) rfl (fun w' => by go_simp)) T2 ?_
    go_simp
    refine wpAnyP_oneQ (i := 29) (by kernel_rfl) rfl ?_
    go_wp2_with fail
    refine nextQ T2 ?_
    go_simp
    refine wpAnyP_done (by kernel_rfl) ?_
    go_simp
    go_wp2_with fail
    go_ret
    exact ⟨rfl, hz2⟩
  · obtain ⟨er, her⟩ : ∃ er, userE x.data.toList y.data.toList z.data.toList = er := ⟨_, rfl⟩
    rw [her] at he
    simp only [userV_bad her he] at CU
    have he' : (er != 0) = true := by simpa using he
    clear her he
    go_wp2_with (first | (go_at_call 11; refine (CU _).mono ?_; rintro e w3 ⟨rfl, hb3⟩) | (go_at_call 13; refine (live_any _).mono ?_; rintro e wl ⟨rfl, hbl⟩))
    go_ret
    exact ⟨rfl, ext_trans (ext_trans hb2 hb3) hbl⟩
end
end Go.Proofs.Ytimdcnickfaddaa
