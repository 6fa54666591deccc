/-
  Chapter 07: what signing and stripping leave (plain).
-/
import Derived.Test.YtnfbmhkjmkdmjaaEvVer
set_option linter.unusedVariables false
set_option linter.unusedSimpArgs false
namespace Go.Proofs.Ytnfbmhkjmkdmjaa
open Go.RowKit
open Classical

theorem stripE_again (e : Ev) : stripE (stripE e) = stripE e := by
  show ({ e with con := stripC e.kind (stripC e.kind e.con) } : Ev) = { e with con := stripC e.kind e.con }
  rw [stripC_again]
theorem recE_strip (e : Ev) : recE (stripE e) = stripE e := by unfold recE; split; rfl; exact stripE_again e
theorem idV_strip (e : Ev) : idV (stripE e) = idV e := by
  have h : plainE (stripE e) = plainE e := by unfold plainE; rw [stripE_again]
  unfold idV; rw [h]
def evC (e : Ev) (x : Int) : Int :=
  if headB e = true then 1
  else if nameB7 e = false then 3
  else if e.time < 0 ∨ 1000000000 < e.time ∨ e.depth < 1 ∨ 100000 < e.depth then 2
  else if 10 < e.prev.length ∨ 8 < e.auth.length then 7
  else if orderedB e.prev = false ∨ orderedB e.auth = false then 8
  else if e.prev.length = 0 ∧ e.kind ≠ 1 then 9
  else if e.kind = 1 ∧ 0 < e.prev.length + e.auth.length then 6
  else x
theorem evC_zero {e : Ev} {x : Int} (h : evC e x = 0) : x = 0 ∧ ∀ y, evC e y = y := by
  unfold evC at h ⊢
  split at h; exact absurd h (by decide)
  rename_i h1
  split at h; exact absurd h (by decide)
  rename_i h2
  split at h; exact absurd h (by decide)
  rename_i h3
  split at h; exact absurd h (by decide)
  rename_i h4
  split at h; exact absurd h (by decide)
  rename_i h5
  split at h; exact absurd h (by decide)
  rename_i h6
  split at h; exact absurd h (by decide)
  rename_i h7
  exact ⟨h, fun y => by rw [if_neg h1, if_neg h2, if_neg h3, if_neg h4, if_neg h5, if_neg h6, if_neg h7]⟩
theorem evE_evC (e : Ev) : evE e = evC e (ckE e.kind e.con) := rfl
theorem evC_con (e : Ev) (c : Con) (x : Int) : evC { e with con := c } x = evC e x := rfl
theorem evE_strip {e : Ev} (h : evE e = 0) : evE (stripE e) = 0 := by
  rw [evE_evC] at h
  obtain ⟨h1, h2⟩ := evC_zero h
  show evC e (ckE e.kind (stripC e.kind e.con)) = 0
  rw [h2, ckE_remains h1]
theorem spoil_strip (e : Ev) : spoilB (stripE e) = false := by
  have h : decide ((stripE e).con = stripC (stripE e).kind (stripE e).con) = true := decide_eq_true (show stripC e.kind e.con = stripC e.kind (stripC e.kind e.con) by rw [stripC_again])
  unfold spoilB; rw [h]; simp
theorem verE_zero {e : Ev} (h : verE e = 0) : evE e = 0 ∧ spoilB e = false ∧ idV e = e.id ∧ sigB e = true := by
  unfold verE at h
  split at h
  · rename_i h1; exact absurd h h1
  rename_i h1
  split at h; exact absurd h (by decide)
  rename_i h2
  split at h; exact absurd h (by decide)
  rename_i h3
  split at h; exact absurd h (by decide)
  rename_i h4
  exact ⟨Classical.not_not.1 h1, by simpa using h2, Classical.not_not.1 h3, by simpa using h4⟩
theorem verE_mk {e : Ev} (h1 : evE e = 0) (h2 : spoilB e = false) (h3 : idV e = e.id) (h4 : sigB e = true) : verE e = 0 := by
  unfold verE
  rw [if_neg (by rw [h1]; simp), if_neg (by rw [h2]; simp), if_neg (by simp [h3]), if_neg (by rw [h4]; simp)]
theorem ver_strip {e : Ev} (h : verE e = 0) : verE (stripE e) = 0 := by
  obtain ⟨h1, h2, h3, h4⟩ := verE_zero h
  exact verE_mk (evE_strip h1) (spoil_strip e) (by rw [idV_strip]; exact h3) h4
theorem sign_whole (e : Ev) (srv : ByteArray) : wholeB (signE e srv) = true := show (hashV e == hashV e) = true from beq_self_eq_true _
theorem sign_rec (e : Ev) (srv : ByteArray) : recE (signE e srv) = signE e srv := by unfold recE; rw [if_pos (sign_whole e srv)]
theorem sign_ver {e : Ev} (h : evE e = 0) : verE (signE e (partB e.sender)) = 0 :=
  verE_mk (show evC e (ckE e.kind e.con) = 0 from h) (by unfold spoilB; rw [sign_whole]; rfl) rfl (by
    show (decide (partB e.sender = partB e.sender) && decide (idV { e with hash := hashV e } = idV { e with hash := hashV e })) = true
    simp)
theorem rec_ok {S : Nat → Prop} {cs : List Value} {e : Ev} {w : World} (h : EvR w S cs e) (g : e.good) (h1 : recE e = e) (h2 : verE e = 0) : Calls Try.prog 15 #[.agg cs.toArray] w (fun x w' => ∃ cs', x = .returned (.tuple #[.agg cs'.toArray, .int .i64 0]) ∧ EvR w' Any cs' e ∧ Below w.heap.size w w') := by
  refine (Receive_any h g).mono ?_
  rintro x w' ⟨cs', k1, k2, k3⟩
  rw [h1, h2] at k1 k2
  exact ⟨cs', k1, k2.any, k3⟩
end Go.Proofs.Ytnfbmhkjmkdmjaa
