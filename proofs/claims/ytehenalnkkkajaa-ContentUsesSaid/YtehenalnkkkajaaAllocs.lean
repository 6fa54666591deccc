/-
  Drawn regions: several new variables come in whatever order. No function of the program; no condition.
-/
import Derived.Test.YtehenalnkkkajaaPhaseB
set_option linter.unusedVariables false
set_option linter.unusedSimpArgs false
namespace Go.Proofs.Ytehenalnkkkajaa
open Go.RowKit
section
variable {P : Program} {ops : Array Oper} {Q : Exit → Act → World → Prop} {md : Region.Mode} {T : World → Prop} {bad : List Nat} {t : TypeId} {z : Array Value} {n : Nat}
def allocsOK (md : Region.Mode) (ops : Array Oper) : Nat → List Nat → Array Bool → Bool
  | 0, L, _ => L.isEmpty
  | m + 1, L, listed => decide (Region.ready md ops listed = L) && L.all fun i => decide (i < listed.size) && allocsOK md ops m (L.erase i) (listed.setIfInBounds i true)
def setAll (L : List Nat) (listed : Array Bool) : Array Bool := listed.mapIdx fun j b => b || L.contains j
theorem setAll_nil (listed : Array Bool) : setAll [] listed = listed := by
  apply Array.ext
  · simp [setAll]
  · intro j h1 h2; simp [setAll]
theorem setAll_step {L : List Nat} {i : Nat} {listed : Array Bool} (hi : i ∈ L) : setAll (L.erase i) (listed.setIfInBounds i true) = setAll L listed := by
  apply Array.ext
  · simp [setAll]
  · intro j h1 h2
    simp only [setAll, Array.getElem_mapIdx]
    by_cases h : i = j
    · subst h
      rw [Array.getElem_setIfInBounds_self, List.contains_iff_mem.2 hi]; simp
    · rw [Array.getElem_setIfInBounds_ne (by simpa [setAll] using h2) h]
      congr 1
      rw [Bool.eq_iff_iff, List.contains_iff_mem, List.contains_iff_mem, List.mem_erase_of_ne (Ne.symm h)]
/-- the new variables: which slot points to which block -/
structure Made (D : Nat → Nat) (t : TypeId) (z : Array Value) (L : List Nat) (a : Act) (w : World) (a' : Act) (w' : World) (g : Nat → Nat) : Prop where
  defers : a'.defers = a.defers
  size : a'.tmps.size = a.tmps.size
  new : ∀ i ∈ L, a'.tmps[D i]? = if D i < a.tmps.size then some (.pointer (some ⟨g i, 0, none⟩)) else none
  old : ∀ s, (∀ i ∈ L, D i ≠ s) → a'.tmps[s]? = a.tmps[s]?
  box : ∀ i ∈ L, w'.heap[g i]? = some (.cells z t (0, 0))
  ge : ∀ i ∈ L, w.heap.size ≤ g i
  apart : ∀ i ∈ L, ∀ j ∈ L, i ≠ j → g i ≠ g j
  below : Below w.heap.size w w'
theorem Made.step {D : Nat → Nat} {L : List Nat} {a a' : Act} {w w' : World} {g : Nat → Nat} {i : Nat} (hn : L.Nodup) (hi : i ∈ L) (hD : ∀ j ∈ L, ∀ k ∈ L, D j = D k → j = k)
    (h : Made D t z (L.erase i) (a.put (some (D i)) (.pointer (some ⟨w.heap.size, 0, none⟩))) (w.alloc (.cells z t)) a' w' g) : Made D t z L a w a' w' (fun j => if j = i then w.heap.size else g j) := by
  have he : ∀ j, j ∈ L.erase i ↔ j ≠ i ∧ j ∈ L := fun j => hn.mem_erase_iff
  have hs : (w.alloc (.cells z t)).heap.size = w.heap.size + 1 := by simp
  have hb := ext_alloc (ext_refl w) (.cells z t)
  refine ⟨h.defers, by rw [h.size]; simp [Act.put], fun j hj => ?_, fun s hs' => ?_, fun j hj => ?_, fun j hj => ?_, fun j hj k hk hjk => ?_, ext_trans hb h.below⟩
  · by_cases hji : j = i
    · subst hji
      rw [h.old (D j) (fun k hk e => ((he k).1 hk).1 (hD k ((he k).1 hk).2 j hj e)), if_pos rfl]
      simp [Act.put, Array.getElem?_setIfInBounds]
    · rw [h.new j ((he j).2 ⟨hji, hj⟩), if_neg hji]
      simp [Act.put]
  · rw [h.old s (fun k hk => hs' k ((he k).1 hk).2)]
    simp [Act.put, Array.getElem?_setIfInBounds, hs' i hi]
  · by_cases hji : j = i
    · rw [if_pos hji]
      exact box_below (heap_alloc_new w _) h.below
    · rw [if_neg hji]; exact h.box j ((he j).2 ⟨hji, hj⟩)
  · by_cases hji : j = i
    · rw [if_pos hji]; exact Nat.le_refl _
    · rw [if_neg hji]; have := h.ge j ((he j).2 ⟨hji, hj⟩); omega
  · by_cases hji : j = i
    · subst hji
      have hk2 : k ≠ j := Ne.symm hjk
      rw [if_pos rfl, if_neg hk2]
      have := h.ge k ((he k).2 ⟨hk2, hk⟩); omega
    · rw [if_neg hji]
      by_cases hki : k = i
      · rw [if_pos hki]
        have := h.ge j ((he j).2 ⟨hji, hj⟩); omega
      · rw [if_neg hki]; exact h.apart j ((he j).2 ⟨hji, hj⟩) k ((he k).2 ⟨hki, hk⟩) hjk
theorem wpAnyP_allocs (G : Strc P t z n) (D : Nat → Nat) (hT : ∀ w o, T w → T (w.alloc o)) {fuel : Nat} : ∀ (m : Nat) (L : List Nat) (listed : Array Bool) (a : Act) (w : World), L.length = m → L.Nodup →
    (∀ i ∈ L, ∃ o, ops[i]? = some o ∧ o.op = .alloc t ∧ o.guard = none ∧ o.dst = some (D i)) → (∀ j ∈ L, ∀ k ∈ L, D j = D k → j = k) → allocsOK md ops m L listed = true → T w →
    (∀ a' w' g, Made D t z L a w a' w' g → T w' → wpAnyP P md ops Q T bad fuel (setAll L listed) a' w') → wpAnyP P md ops Q T bad (fuel + m) listed a w
  | 0, L, listed, a, w, hl, _, _, _, _, hw, H => by
    obtain rfl := List.eq_nil_of_length_eq_zero hl
    have := H a w (fun _ => 0) ⟨rfl, rfl, fun i h => by simp at h, fun s _ => rfl, fun i h => by simp at h, fun i h => by simp at h, fun i h => by simp at h, ext_refl w⟩ hw
    rwa [setAll_nil] at this
  | m + 1, L, listed, a, w, hl, hn, ho, hD, hok, hw, H => by
    simp only [allocsOK, Bool.and_eq_true, decide_eq_true_eq, List.all_eq_true] at hok
    obtain ⟨hr, hall⟩ := hok
    refine ⟨fun h0 => ?_, fun i hi => ?_⟩
    · rw [hr] at h0; rw [h0] at hl; cases hl
    · rw [hr] at hi
      obtain ⟨o, h1, h2, h3, h4⟩ := ho i hi
      refine wpOp_of_list h1 (wpList_zeroS (by unfold Region.wanted; rw [h3]) h2 G ?_)
      rw [h4]
      refine ⟨fun _ => hT _ _ hw, ?_⟩
      refine wpAnyP_allocs G D hT m (L.erase i) _ _ _ (by rw [List.length_erase_of_mem hi, hl]; rfl) (hn.erase i) (fun j hj => ho j (List.mem_of_mem_erase hj)) (fun j hj k hk => hD j (List.mem_of_mem_erase hj) k (List.mem_of_mem_erase hk)) (hall i hi).2 (hT _ _ hw) ?_
      intro a' w' g hM hw'
      rw [setAll_step hi]
      exact H a' w' _ (hM.step hn hi hD) hw'
theorem Made.four {D : Nat → Nat} {i j k l : Nat} {a a' : Act} {w w' : World} {g : Nat → Nat} (h : Made D t z [i, j, k, l] a w a' w' g) (h12 : D i ≠ D j) (h13 : D i ≠ D k) (h14 : D i ≠ D l) (h23 : D j ≠ D k) (h24 : D j ≠ D l) (h34 : D k ≠ D l) :
    a' = (((a.put (some (D i)) (.pointer (some ⟨g i, 0, none⟩))).put (some (D j)) (.pointer (some ⟨g j, 0, none⟩))).put (some (D k)) (.pointer (some ⟨g k, 0, none⟩))).put (some (D l)) (.pointer (some ⟨g l, 0, none⟩)) := by
  have e1 := h.new i (by simp)
  have e2 := h.new j (by simp)
  have e3 := h.new k (by simp)
  have e4 := h.new l (by simp)
  have e5 := h.old
  have e6 := h.defers
  obtain ⟨tm, df⟩ := a'
  obtain ⟨tm0, df0⟩ := a
  simp only [Act.put] at *
  subst e6
  congr 1
  apply Array.ext_getElem?
  intro s
  simp only [Array.getElem?_setIfInBounds, Array.size_setIfInBounds]
  by_cases s4 : D l = s
  · subst s4; simp [e4]
  · rw [if_neg s4]
    by_cases s3 : D k = s
    · subst s3; simp [e3]
    · rw [if_neg s3]
      by_cases s2 : D j = s
      · subst s2; simp [e2]
      · rw [if_neg s2]
        by_cases s1 : D i = s
        · subst s1; simp [e1]
        · rw [if_neg s1]
          exact e5 s (by simp [s1, s2, s3, s4])
end
end Go.Proofs.Ytehenalnkkkajaa
