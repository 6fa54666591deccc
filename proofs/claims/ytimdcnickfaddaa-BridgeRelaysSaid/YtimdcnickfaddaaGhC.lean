/-
  bridge.users.
-/
import Derived.Test.YtimdcnickfaddaaGhB
set_option linter.unusedVariables false
set_option linter.unusedSimpArgs false
namespace Go.Proofs.Ytimdcnickfaddaa
open Go.RowKit Go.Maps

/-- a list of ghosts whose texts are of this size at most -/
def SmallG (n : Nat) (l : List Gh) : Prop := ∀ g ∈ l, g.net.size ≤ n ∧ g.name.size ≤ n ∧ g.user.size ≤ n
theorem gh_cells {w : World} {B : Nat} {A : Option Addr} {l : List Gh} (hr : Row w B A (ghs l)) {k : Nat} (hk : k < l.length) :
    ∃ b o, A = some ⟨b, o, none⟩ ∧ b < w.heap.size ∧ CellsAt w ⟨b, o + k * 3, none⟩ (gc l[k]) := by
  obtain ⟨g1, g2, g3⟩ := ghs_get l k hk
  obtain ⟨b, o, rfl, hb, hc⟩ := hr.fix g1
  refine ⟨b, o, rfl, hb, fun j u hu => ?_⟩
  rw [Addr.add_mid]
  match j, hu with
  | 0, hu => simp [gc] at hu; subst hu; exact hc _ _ g1
  | 1, hu => simp [gc] at hu; subst hu; exact hc _ _ g2
  | 2, hu => simp [gc] at hu; subst hu; exact hc _ _ g3
  | j + 3, hu => simp [gc] at hu
theorem CellsAt.ext {w w' : World} {ad : Addr} {cs : List Value} (h : CellsAt w ad cs) (hb : Below w.heap.size w w') (hlt : ad.block < w.heap.size) : CellsAt w' ad cs := fun j u hu => by
  have h1 := h j u hu
  rw [hb.cell]
  · exact h1
  · show (ad.add j).block < _
    unfold Addr.add
    split <;> exact hlt
theorem run_makeMapU (n : Int) (w : World) : (Instr.makeMap 71 (some (.int .i64 n))).run Try.prog w = .ok (.map (some w.heap.size)) (w.alloc (.map #[] 0)) := by
  simp [Instr.makeMap, run_underlying Try.underlying71, asInt]
  rfl
section
attribute [local go_sem] Addr.add_mid
set_option maxRecDepth 100000 in
set_option maxHeartbeats 1600000 in
theorem br_users (A : Option Addr) (c : Nat) (l : List Gh) (w : World) (hr : Row w w.heap.size A (ghs l)) (hl : l.length ≤ 1000) (hs : SmallG 1000 l) :
    Calls Try.prog 43 #[.slice A l.length c] w (fun e w' => ∃ b, e = .returned (.map (some b)) ∧ UMap w' b l ∧ Below w.heap.size w w') := by
  have hmm := run_makeMapU
  have HS := hide hs
  clear hs
  go_enter Try.func43, Try.ntmps43
  go_wp2_with fail
  clear hmm
  go_loopw [4] (fun i wr => ∃ k : Nat, k ≤ l.length ∧ i = .int .i64 ((k : Int) - 1) ∧ UMap wr w.heap.size (l.drop k) ∧ Below w.heap.size w wr) (fun i _ => ((intOf i) + 1).toNat)
  case atStart => exact ⟨l.length, Nat.le_refl _, by go_num, by rw [List.drop_length]; exact UMap.made w, ext_alloc (ext_refl w) _⟩
  case round =>
  obtain ⟨k, hk, rfl, hm, hbel⟩ := hrel
  by_cases h0 : k = 0
  · subst h0
    go_wp2_with fail
    go_ret
    exact ⟨_, rfl, by simpa using hm, hbel⟩
  · obtain ⟨j, rfl⟩ : ∃ j, k = j + 1 := ⟨k - 1, by omega⟩
    have hj : j < l.length := by omega
    have e1 : (((j + 1 : Nat) : Int) - 1) = (j : Int) := by omega
    rw [e1]
    have hrw := hr.ext hbel
    obtain ⟨b, o, rfl, hb, hc⟩ := gh_cells hr hj
    have hc0 := hc.ext hbel hb
    clear hc hrw e1 h0
    go_wp2_with fail
    refine wp_region_phase (fun w' => CellsAt w' ⟨b, o + j * 3, none⟩ (gc l[j])) [11] (by kernel_rfl) ?_
    have hb4 : Below _ _ { wr with drawn := wr.drawn + 1 } := ext_drew hbel
    have hm4 : UMap { wr with drawn := wr.drawn + 1 } w.heap.size (List.drop (j + 1) l) := hm
    have T1 : CellsAt { wr with drawn := wr.drawn + 1 } ⟨b, o + j * 3, none⟩ (gc l[j]) := hc0
    generalize ({ wr with drawn := wr.drawn + 1 } : World) = wd at hb4 hm4 T1 ⊢
    clear hbel hm hc0
    refine wpAnyP_take (i := 0) rfl (by kernel_rfl) (by kernel_rfl) (by kernel_rfl) (by kernel_rfl) (fun _ _ _ h => h) (yieldsIf_run (.map (some w.heap.size)) rfl (fun w' => by go_simp)) T1 ?_
    refine wpAnyP_take (i := 1) rfl (by kernel_rfl) (by kernel_rfl) (by kernel_rfl) (by kernel_rfl) (fun _ _ _ h => h) (yieldsIf_run (.slice (some ⟨b, o, none⟩) l.length c) rfl (fun w' => by go_simp)) T1 ?_
    refine wpAnyP_take (i := 2) rfl (by kernel_rfl) (by kernel_rfl) (by kernel_rfl) (by kernel_rfl) (fun _ _ _ h => h) (yieldsIf_run (.int .i64 (j : Int)) rfl (fun w' => by go_simp)) T1 ?_
    refine wpAnyP_take (i := 6) rfl (by kernel_rfl) (by kernel_rfl) (by kernel_rfl) (by kernel_rfl) (fun _ _ _ h => h) (yieldsIf_run (.slice (some ⟨b, o, none⟩) l.length c) rfl (fun w' => by go_simp)) T1 ?_
    refine wpAnyP_take (i := 7) rfl (by kernel_rfl) (by kernel_rfl) (by kernel_rfl) (by kernel_rfl) (fun _ _ _ h => h) (yieldsIf_run (.int .i64 (j : Int)) rfl (fun w' => by go_simp)) T1 ?_
    go_simp
    refine wpAnyP_take (i := 3) rfl (by kernel_rfl) (by kernel_rfl) (by kernel_rfl) (by kernel_rfl) (fun _ _ _ h => h) (yieldsIf_run (.pointer (some ⟨b, o + j * 3, none⟩)) rfl (fun w' => by go_simp)) T1 ?_
    refine wpAnyP_take (i := 8) rfl (by kernel_rfl) (by kernel_rfl) (by kernel_rfl) (by kernel_rfl) (fun _ _ _ h => h) (yieldsIf_run (.pointer (some ⟨b, o + j * 3, none⟩)) rfl (fun w' => by go_simp)) T1 ?_
    go_simp
    refine wpAnyP_take (i := 4) rfl (by kernel_rfl) (by kernel_rfl) (by kernel_rfl) (by kernel_rfl) (fun _ _ _ h => h) (yieldsIf_loadS rfl (.tmp 18) rfl strcG ⟨b, o + j * 3, none⟩ rfl (gc l[j]) rfl (fun w' hT => hT)) T1 ?_
    refine wpAnyP_take (i := 9) rfl (by kernel_rfl) (by kernel_rfl) (by kernel_rfl) (by kernel_rfl) (fun _ _ _ h => h) (yieldsIf_run (.pointer (some ⟨b, o + j * 3 + 2, none⟩)) rfl (fun w' => by go_simp)) T1 ?_
    go_simp
    refine wpAnyP_take (i := 10) rfl (by kernel_rfl) (by kernel_rfl) (by kernel_rfl) (by kernel_rfl) (fun _ _ _ h => h) (yieldsIf_load rfl rfl Try.underlying9 rfl rfl (fun w' hT => by have := hT 2 (.string l[j].user) rfl; rwa [Addr.add_mid] at this)) T1 ?_
    go_simp
    refine wpAnyP_oneQ (i := 5) (by kernel_rfl) rfl ?_
    go_wp2_with fail
    refine (br_of l[j].net l[j].name l[j].user _).mono ?_
    rintro e w5 ⟨rfl, hb5⟩
    have T2 := T1.ext hb5 (Nat.lt_of_lt_of_le hb hb4.size)
    have hm5 := hm4.kept hb5
    have hb6 := hb4.trans (hb5.mono hb4.size)
    clear T1 hm4 hb4 hb5
    go_wp2_with fail
    refine nextQ T2 ?_
    go_simp
    refine wpAnyP_oneQ (i := 11) (by kernel_rfl) rfl ?_
    obtain ⟨s1, s2, s3⟩ := HS.out l[j] (List.getElem_mem hj)
    refine wpList_toUsers rfl (.tmp 15) (.tmp 20) (.tmp 25) rfl w.heap.size (List.drop (j + 1) l) (by rw [List.length_drop]; unfold maxLen; omega) rfl hm5 l[j] (by unfold maxLen; omega) (by unfold maxLen; omega) (by unfold maxLen; omega) rfl rfl ?_
    intro w7 hm7 hg7
    have hb7 := hb6.grown hg7 hb6.size (fun q hq => by injection hq with hq; omega)
    rw [← List.drop_eq_getElem_cons hj] at hm7
    clear T2 hm5 hb6 hg7 s1 s2 s3
    refine nextQ_bad (by kernel_rfl) ?_
    go_simp
    refine wpAnyP_done (by kernel_rfl) ?_
    go_simp
    go_wp2_with fail
    go_roundw
    case rel => exact ⟨j, by omega, by go_num, hm7, hb7⟩
    case measure => (simp [intOf]; try omega)
end
end Go.Proofs.Ytimdcnickfaddaa
