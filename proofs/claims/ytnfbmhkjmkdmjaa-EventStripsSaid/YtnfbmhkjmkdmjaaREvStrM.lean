/-
  The reference: Strip of an event (for the seat that has no more of it).
-/
import Derived.Test.YtnfbmhkjmkdmjaaEvStr
set_option linter.unusedVariables false
set_option linter.unusedSimpArgs false
namespace Go.Proofs.Ytnfbmhkjmkdmjaa
open Go.RowKit
attribute [local go_sem] Addr.add_mid
set_option maxRecDepth 100000 in
set_option maxHeartbeats 4000000 in
theorem R7Strip_any {S : Nat → Prop} {cs : List Value} {e : Ev} {w : World} (he : EvR w S cs e) (hf : e.con.fit) :
    Calls Try.prog 11 #[.agg cs.toArray] w (GivesE S (stripE e) w) := by
  have hn := he.length
  have h3 := he.some3
  have hone := he.one
  have HE := hide he
  have HN := hide hn
  clear hn
  have hc0 := (he.con.weak (S' := fun b => S b ∧ b < w.heap.size) fun _ hb hlt => ⟨hb, hlt⟩)
  have HC := hide (fun o1 o2 => hc0.ext (below_two w o1 o2))
  clear he hc0
  go_enter Try.func11, Try.ntmps11
  go_wp2_with (first
    | refine wpList_zeroS rfl rfl strcE ?_
    | refine wpList_loadS rfl (.tmp 5) rfl strcC ⟨w.heap.size, 10, none⟩ rfl ((cs.drop 10).take 16) (by have := HN.out; simp; omega) (box_cells (C := cs) (tb := 34) (heap_alloc2_old w _ _) 10 16) ?_)
  refine (R6Strip_any (k := e.kind) (HC.out _ _)).mono ?_
  rintro x w1 ⟨cs', rfl, hc', hb1⟩
  have hn' := hc'.length
  have HN' := hide hn'
  have hone' := hc'.one
  have hB1 := box_below (heap_alloc2_old w (.cells cs.toArray 34) (.cells evZero 34)) hb1
  have hB2 := box_below (heap_alloc2_new w (.cells cs.toArray 34) (.cells evZero 34)) hb1
  have HC' := hide hc'; have HB1 := hide hb1
  clear hc' hb1 HC
  go_wp2_with (refine wpList_storeB rfl (.tmp 8) (.tmp 7) rfl rfl strcC w.heap.size 10 rfl cs' rfl hn' hone' cs 34 hB1 (by have := HN.out; omega) ?_)
  intro w2 hB1' g1 hz2
  have hB2' := box_grown hB2 g1 (by omega)
  have hp : (patch cs 10 cs').length = 29 := by have := HN.out; rw [patch_length _ _ _ (by omega)]; exact this
  have hpo : ∀ u ∈ patch cs 10 cs', u.oneCell' = true := by
    intro u hu
    rcases List.mem_append.1 hu with hu | hu
    · exact hone u (List.mem_of_mem_take hu)
    · rcases List.mem_append.1 hu with hu | hu
      · exact hone' u hu
      · exact hone u (List.mem_of_mem_drop hu)
  clear hB1 hB2
  go_wp2_with (first
    | refine wpList_loadS rfl (.tmp 1) rfl strcE ⟨w.heap.size, 0, none⟩ rfl (patch cs 10 cs') hp (box_all hB1') ?_
    | refine wpList_storeB rfl (.tmp 2) (.tmp 9) rfl rfl strcE (w.heap.size + 1) 0 rfl (patch cs 10 cs') rfl hp hpo evZero.toList 34 hB2' (by decide) ?_)
  intro w3 hB3 g2 hz3
  rw [patch_all _ _ (by rw [hp]; rfl)] at hB3
  have hend := strip_end HE.out HC'.out HB1.out g1 g2
  rw [show cs.take 10 ++ (cs' ++ cs.drop 26) = patch cs 10 cs' by simp [patch, hn']] at hend
  have HEND := hide hend
  clear hend
  go_wp2_with fail
  exact bodyPost_cell strcE rfl (w.heap.size + 1) rfl rfl hB3 (by simpa using hp) ⟨_, rfl, HEND.out.1, HEND.out.2⟩
end Go.Proofs.Ytnfbmhkjmkdmjaa
