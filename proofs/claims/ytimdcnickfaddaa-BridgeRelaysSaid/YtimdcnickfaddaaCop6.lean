/-
  content: uses, keeps, texts, copied.
  content: texts and copied, their results written out.
  Eleven stores of one cell each, in a row, into a block that is known whole. No function of the program; no condition.
-/
import Derived.Test.YtimdcnickfaddaaStr6
import Derived.Test.YtimdcnickfaddaaPhases
import Derived.Test.YtimdcnickfaddaaElemT
set_option linter.unusedVariables false
set_option linter.unusedSimpArgs false
namespace Go.Proofs.Ytimdcnickfaddaa
section
open Go.RowKit
attribute [local go_sem] Addr.add_mid

theorem elemU : Elem Try.prog 44 80 (.agg #[.string ⟨#[]⟩, .int .i64 0]) 2 24 := ⟨Try.underlying44, by kernel_rfl, rfl, by decide⟩
theorem elemK : Elem Try.prog 45 104 (.agg #[.int .i64 0, .int .i64 0]) 2 16 := ⟨Try.underlying45, by kernel_rfl, rfl, by decide⟩
theorem ucs_one (l : List (ByteArray × Int)) : ∀ u ∈ ucs l, u.oneCell' = true := by
  intro u hu; obtain ⟨c, _, hc⟩ := List.mem_flatMap.1 hu
  simp only [List.mem_cons, List.not_mem_nil, or_false] at hc
  rcases hc with rfl | rfl <;> rfl
theorem kcs_one (l : List (Int × Int)) : ∀ u ∈ kcs l, u.oneCell' = true := by
  intro u hu; obtain ⟨c, _, hc⟩ := List.mem_flatMap.1 hu
  simp only [List.mem_cons, List.not_mem_nil, or_false] at hc
  rcases hc with rfl | rfl <;> rfl


/-- which fields a redaction leaves, as bits -/
def keepsN (k : Int) : Int := if k = 2 then 18 else if k = 3 then 128 else if k = 4 then 34 else if k = 5 then 2 else if k = 6 then 96 else if k = 14 then 4 else 0
def usesN (k : Int) : Int := if k = 2 then 19 else if k = 3 then 128 else if k = 4 then 34 else if k = 5 then 2 else if k = 6 then 96 else if k = 7 then 1 else if k = 8 then 2 else if k = 9 then 3 else if k = 10 then 2 else if k = 11 then 13 else if k = 12 then 5 else if k = 13 then 5 else if k = 14 then 5 else 0
theorem uses_cases (k : Int) : k = 2 ∨ k = 3 ∨ k = 4 ∨ k = 5 ∨ k = 6 ∨ k = 7 ∨ k = 8 ∨ k = 9 ∨ k = 10 ∨ k = 11 ∨ k = 12 ∨ k = 13 ∨ k = 14 ∨ (k ≠ 2 ∧ k ≠ 3 ∧ k ≠ 4 ∧ k ≠ 5 ∧ k ≠ 6 ∧ k ≠ 7 ∧ k ≠ 8 ∧ k ≠ 9 ∧ k ≠ 10 ∧ k ≠ 11 ∧ k ≠ 12 ∧ k ≠ 13 ∧ k ≠ 14) := by omega
def GivesN (n : Int) (w : World) (e : Ending) (w' : World) : Prop := e = .returned (.int .i64 n) ∧ w = w'

set_option maxRecDepth 100000 in
set_option maxHeartbeats 1000000 in
theorem uses_any (k : Int) (w : World) : Calls Try.prog 52 #[.int .i64 k] w (GivesN (usesN k) w) := by
  rcases uses_cases k with rfl | rfl | rfl | rfl | rfl | rfl | rfl | rfl | rfl | rfl | rfl | rfl | rfl | hk
  case inr.inr.inr.inr.inr.inr.inr.inr.inr.inr.inr.inr.inr =>
    have hs : usesN k = 0 := by simp [usesN, hk]
    obtain ⟨k2, k3, k4, k5, k6, k7, k8, k9, k10, k11, k12, k13, k14⟩ := hk
    have k2 : (k == 2) = false := by simpa using k2
    have k3 : (k == 3) = false := by simpa using k3
    have k4 : (k == 4) = false := by simpa using k4
    have k5 : (k == 5) = false := by simpa using k5
    have k6 : (k == 6) = false := by simpa using k6
    have k7 : (k == 7) = false := by simpa using k7
    have k8 : (k == 8) = false := by simpa using k8
    have k9 : (k == 9) = false := by simpa using k9
    have k10 : (k == 10) = false := by simpa using k10
    have k11 : (k == 11) = false := by simpa using k11
    have k12 : (k == 12) = false := by simpa using k12
    have k13 : (k == 13) = false := by simpa using k13
    have k14 : (k == 14) = false := by simpa using k14
    rw [hs]
    clear hs
    go_enter Try.func52, Try.ntmps52
    go_wp2_with fail
    go_ret
    exact ⟨rfl, rfl⟩
  all_goals
    go_enter Try.func52, Try.ntmps52
    go_wp2_with fail
    go_ret
    exact ⟨rfl, rfl⟩

set_option maxRecDepth 100000 in
set_option maxHeartbeats 1000000 in
theorem keeps_any (k : Int) (w : World) : Calls Try.prog 55 #[.int .i64 k] w (GivesN (keepsN k) w) := by
  by_cases hk : k ≠ 2 ∧ k ≠ 3 ∧ k ≠ 4 ∧ k ≠ 5 ∧ k ≠ 6 ∧ k ≠ 14
  · have hs : keepsN k = 0 := by simp [keepsN, hk]
    obtain ⟨k2, k3, k4, k5, k6, k14⟩ := hk
    have k2 : (k == 2) = false := by simpa using k2
    have k3 : (k == 3) = false := by simpa using k3
    have k4 : (k == 4) = false := by simpa using k4
    have k5 : (k == 5) = false := by simpa using k5
    have k6 : (k == 6) = false := by simpa using k6
    have k14 : (k == 14) = false := by simpa using k14
    rw [hs]
    clear hs
    go_enter Try.func55, Try.ntmps55
    go_wp2_with fail
    go_ret
    exact ⟨rfl, rfl⟩
  · have hk' : k = 2 ∨ k = 3 ∨ k = 4 ∨ k = 5 ∨ k = 6 ∨ k = 14 := by omega
    clear hk
    rcases hk' with rfl | rfl | rfl | rfl | rfl | rfl
    all_goals
      go_enter Try.func55, Try.ntmps55
      go_wp2_with (go_at_call 52; refine (uses_any _ _).mono ?_; rintro e w' ⟨rfl, rfl⟩)
      go_ret
      exact ⟨rfl, rfl⟩

def levZero : Array Value := #[.slice none 0 0, .slice none 0 0, .int .i64 0, .int .i64 0, .int .i64 0, .int .i64 0, .int .i64 0, .int .i64 0, .int .i64 0]
theorem strcL : Strc Try.prog 47 levZero 9 := ⟨⟨_, Try.underlying47, rfl⟩, by kernel_rfl, rfl⟩
theorem sizeU : (Try.prog.info? 44).map (·.size) = some 1 := by kernel_rfl
theorem sizeK : (Try.prog.info? 45).map (·.size) = some 1 := by kernel_rfl

def GivesL (S : Nat → Prop) (f : Lev) (w : World) (e : Ending) (w' : World) : Prop := ∃ cs, e = .returned (.agg cs.toArray) ∧ LevR w' S cs f ∧ Below w.heap.size w w'

end

section
open Go.RowKit

/-- levels come back, their cells written out -/
def GivesLit (l : Lev) (w : World) (e : Ending) (w' : World) : Prop := ∃ A c A2 c2, e = .returned (.agg #[.slice A l.users.length c, .slice A2 l.kinds.length c2, .int .i64 l.user, .int .i64 l.message, .int .i64 l.state, .int .i64 l.invite, .int .i64 l.kick, .int .i64 l.ban, .int .i64 l.redact]) ∧
  Slc w' (w.heap.size ≤ ·) (.slice A l.users.length c) 2 l.users.length (ucs l.users) ∧ Slc w' (w.heap.size ≤ ·) (.slice A2 l.kinds.length c2) 2 l.kinds.length (kcs l.kinds) ∧ Below w.heap.size w w'
/-- texts come back, the slice written out -/
def GivesT (l : List ByteArray) (w : World) (e : Ending) (w' : World) : Prop := ∃ A c, e = .returned (.slice A l.length c) ∧ Slc w' (w.heap.size ≤ ·) (.slice A l.length c) 1 l.length (svs l) ∧ Below w.heap.size w w'

theorem sizeI : (Try.prog.info? 3).map (·.size) = some 1 := by kernel_rfl
theorem sizeS : (Try.prog.info? 9).map (·.size) = some 1 := by kernel_rfl
theorem sizeT : (Try.prog.info? 43).map (·.size) = some 1 := by kernel_rfl
end

section
open Go.RowKit
theorem set_box {w : World} {g i : Nat} {C : List Value} {t : TypeId} {v : Value} (hB : w.heap[g]? = some (.cells C.toArray t (0, 0))) (hi : i < C.length) : (w.setCell ⟨g, i, none⟩ v).heap[g]? = some (.cells (C.set i v).toArray t (0, 0)) := by
  rw [heap_setCell_same w g i _ t v hB]
  simp
theorem set_grown {w0 w : World} {g i : Nat} {v : Value} (h : w0.grownBy w (some g)) : w0.grownBy (w.setCell ⟨g, i, none⟩ v) (some g) :=
  ⟨h.os, h.tape, h.output, by simpa [World.setCell] using h.size, fun k hk hne => (Below.heap_setCell w ⟨g, i, none⟩ v k (fun e => hne (by rw [e]))).trans (h.block k hk hne)⟩
/-- cells 5 to 15 of 16 -/
theorem set_eleven {w : World} {g : Nat} {C : List Value} {t : TypeId} (hB : w.heap[g]? = some (.cells C.toArray t (0, 0))) (hC : C.length = 16) (x5 x6 x7 x8 x9 x10 x11 x12 x13 x14 x15 : Value) :
    (((((((((((w.setCell ⟨g, 5, none⟩ x5).setCell ⟨g, 6, none⟩ x6).setCell ⟨g, 7, none⟩ x7).setCell ⟨g, 8, none⟩ x8).setCell ⟨g, 9, none⟩ x9).setCell ⟨g, 10, none⟩ x10).setCell ⟨g, 11, none⟩ x11).setCell ⟨g, 12, none⟩ x12).setCell ⟨g, 13, none⟩ x13).setCell ⟨g, 14, none⟩ x14).setCell ⟨g, 15, none⟩ x15).heap[g]? =
      some (.cells (C.take 5 ++ [x5, x6, x7, x8, x9, x10, x11, x12, x13, x14, x15]).toArray t (0, 0)) ∧
    w.grownBy (((((((((((w.setCell ⟨g, 5, none⟩ x5).setCell ⟨g, 6, none⟩ x6).setCell ⟨g, 7, none⟩ x7).setCell ⟨g, 8, none⟩ x8).setCell ⟨g, 9, none⟩ x9).setCell ⟨g, 10, none⟩ x10).setCell ⟨g, 11, none⟩ x11).setCell ⟨g, 12, none⟩ x12).setCell ⟨g, 13, none⟩ x13).setCell ⟨g, 14, none⟩ x14).setCell ⟨g, 15, none⟩ x15) (some g) := by
  match C, hC with
  | [c0, c1, c2, c3, c4, c5, c6, c7, c8, c9, c10, c11, c12, c13, c14, c15], _ =>
    have h5 := set_box (v := x5) hB (i := 5) (by simp)
    have h6 := set_box (v := x6) h5 (i := 6) (by simp)
    have h7 := set_box (v := x7) h6 (i := 7) (by simp)
    have h8 := set_box (v := x8) h7 (i := 8) (by simp)
    have h9 := set_box (v := x9) h8 (i := 9) (by simp)
    have h10 := set_box (v := x10) h9 (i := 10) (by simp)
    have h11 := set_box (v := x11) h10 (i := 11) (by simp)
    have h12 := set_box (v := x12) h11 (i := 12) (by simp)
    have h13 := set_box (v := x13) h12 (i := 13) (by simp)
    have h14 := set_box (v := x14) h13 (i := 14) (by simp)
    have h15 := set_box (v := x15) h14 (i := 15) (by simp)
    exact ⟨h15, set_grown (set_grown (set_grown (set_grown (set_grown (set_grown (set_grown (set_grown (set_grown (set_grown (set_grown (World.grownBy.refl _ _)))))))))))⟩
end
end Go.Proofs.Ytimdcnickfaddaa
