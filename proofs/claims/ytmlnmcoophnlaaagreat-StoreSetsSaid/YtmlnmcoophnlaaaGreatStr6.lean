/-
  What a redaction leaves: reference Strip of a content and of an event.
-/
import Derived.Test.YtmlnmcoophnlaaaGreatSames6
import Derived.Test.YtmlnmcoophnlaaaGreatPhases
set_option linter.unusedVariables false
set_option linter.unusedSimpArgs false
namespace Go.Proofs.YtmlnmcoophnlaaaGreat
open Go.RowKit
attribute [local go_sem] Addr.add_mid

def Lev.zero : Lev := ⟨[], [], 0, 0, 0, 0, 0, 0, 0⟩
def Con.zero : Con := ⟨⟨#[]⟩, 0, 0, false, ⟨#[]⟩, [], [], Lev.zero⟩
def stripC (k : Int) (c : Con) : Con :=
  if k = 1 then c
  else if k = 2 then { Con.zero with n := c.n, via := c.via }
  else if k = 3 then { Con.zero with lv := c.lv }
  else if k = 4 then { Con.zero with n := c.n, allow := c.allow }
  else if k = 5 then { Con.zero with n := c.n }
  else if k = 6 then { Con.zero with allow := c.allow, deny := c.deny }
  else if k = 14 then { Con.zero with target := c.target }
  else Con.zero
def stripE (e : Ev) : Ev := { e with con := stripC e.kind e.con }

/-- a content comes back -/
def GivesC (S : Nat → Prop) (f : Con) (w : World) (e : Ending) (w' : World) : Prop := ∃ cs, e = .returned (.agg cs.toArray) ∧ ConR w' (fun b => S b ∨ w.heap.size ≤ b) cs f ∧ Below w.heap.size w w'
/-- an event comes back -/
def GivesE (S : Nat → Prop) (f : Ev) (w : World) (e : Ending) (w' : World) : Prop := ∃ cs, e = .returned (.agg cs.toArray) ∧ EvR w' (fun b => S b ∨ w.heap.size ≤ b) cs f ∧ Below w.heap.size w w'

theorem kinds_cases (k : Int) : k = 1 ∨ k = 2 ∨ k = 3 ∨ k = 4 ∨ k = 5 ∨ k = 6 ∨ k = 14 ∨ (k ≠ 1 ∧ k ≠ 2 ∧ k ≠ 3 ∧ k ≠ 4 ∧ k ≠ 5 ∧ k ≠ 6 ∧ k ≠ 14) := by omega

def conZero : Array Value := #[.string ⟨#[]⟩, .int .i64 0, .int .i64 0, .bool false, .string ⟨#[]⟩, .slice none 0 0, .slice none 0 0, .slice none 0 0, .slice none 0 0, .int .i64 0, .int .i64 0, .int .i64 0, .int .i64 0, .int .i64 0, .int .i64 0, .int .i64 0]
theorem strcC : Strc Tryz.prog 31 conZero 16 := ⟨⟨_, Tryz.underlying31, rfl⟩, by kernel_rfl, rfl⟩

set_option maxRecDepth 100000 in
set_option maxHeartbeats 1000000 in
theorem R6Strip_1 {S : Nat → Prop} {cs : List Value} {c : Con} {w : World} (hr : ConR w S cs c) :
    Calls Tryz.prog 62 #[.int .i64 1, .agg cs.toArray] w (GivesC S (stripC 1 c) w) := by
  obtain ⟨va, vd, vu, vk, rfl, h1, h2, h3, h4⟩ := hr
  obtain ⟨A1, c1, rfl, _⟩ := h1.form
  obtain ⟨A2, c2, rfl, _⟩ := h2.form
  obtain ⟨A3, c3, rfl, _⟩ := h3.form
  obtain ⟨A4, c4, rfl, _⟩ := h4.form
  rw [conCells_arr]
  have H1 := hide (fun o1 o2 => (h1.weak (S' := fun b => S b ∨ w.heap.size ≤ b) fun _ hb _ => .inl hb).ext (below_two w o1 o2))
  have H2 := hide (fun o1 o2 => (h2.weak (S' := fun b => S b ∨ w.heap.size ≤ b) fun _ hb _ => .inl hb).ext (below_two w o1 o2))
  have H3 := hide (fun o1 o2 => (h3.weak (S' := fun b => S b ∨ w.heap.size ≤ b) fun _ hb _ => .inl hb).ext (below_two w o1 o2))
  have H4 := hide (fun o1 o2 => (h4.weak (S' := fun b => S b ∨ w.heap.size ≤ b) fun _ hb _ => .inl hb).ext (below_two w o1 o2))
  clear h1 h2 h3 h4
  go_enter Tryz.func62, Tryz.ntmps62
  go_wp2_with fail
  refine bodyPost_two strcC rfl rfl rfl rfl ⟨_, rfl, ⟨_, _, _, _, rfl, ?_, ?_, ?_, ?_⟩, below_two w _ _⟩
  all_goals first | exact Slc.nil _ _ _ | exact H1.out _ _ | exact H2.out _ _ | exact H3.out _ _ | exact H4.out _ _

set_option maxRecDepth 100000 in
set_option maxHeartbeats 1000000 in
theorem R6Strip_2 {S : Nat → Prop} {cs : List Value} {c : Con} {w : World} (hr : ConR w S cs c) :
    Calls Tryz.prog 62 #[.int .i64 2, .agg cs.toArray] w (GivesC S (stripC 2 c) w) := by
  obtain ⟨va, vd, vu, vk, rfl, h1, h2, h3, h4⟩ := hr
  obtain ⟨A1, c1, rfl, _⟩ := h1.form
  obtain ⟨A2, c2, rfl, _⟩ := h2.form
  obtain ⟨A3, c3, rfl, _⟩ := h3.form
  obtain ⟨A4, c4, rfl, _⟩ := h4.form
  rw [conCells_arr]
  have H1 := hide (fun o1 o2 => (h1.weak (S' := fun b => S b ∨ w.heap.size ≤ b) fun _ hb _ => .inl hb).ext (below_two w o1 o2))
  have H2 := hide (fun o1 o2 => (h2.weak (S' := fun b => S b ∨ w.heap.size ≤ b) fun _ hb _ => .inl hb).ext (below_two w o1 o2))
  have H3 := hide (fun o1 o2 => (h3.weak (S' := fun b => S b ∨ w.heap.size ≤ b) fun _ hb _ => .inl hb).ext (below_two w o1 o2))
  have H4 := hide (fun o1 o2 => (h4.weak (S' := fun b => S b ∨ w.heap.size ≤ b) fun _ hb _ => .inl hb).ext (below_two w o1 o2))
  clear h1 h2 h3 h4
  go_enter Tryz.func62, Tryz.ntmps62
  go_wp2_with fail
  refine bodyPost_two strcC rfl rfl rfl rfl ⟨_, rfl, ⟨_, _, _, _, rfl, ?_, ?_, ?_, ?_⟩, below_two w _ _⟩
  all_goals first | exact Slc.nil _ _ _ | exact H1.out _ _ | exact H2.out _ _ | exact H3.out _ _ | exact H4.out _ _

set_option maxRecDepth 100000 in
set_option maxHeartbeats 1000000 in
theorem R6Strip_3 {S : Nat → Prop} {cs : List Value} {c : Con} {w : World} (hr : ConR w S cs c) :
    Calls Tryz.prog 62 #[.int .i64 3, .agg cs.toArray] w (GivesC S (stripC 3 c) w) := by
  obtain ⟨va, vd, vu, vk, rfl, h1, h2, h3, h4⟩ := hr
  obtain ⟨A1, c1, rfl, _⟩ := h1.form
  obtain ⟨A2, c2, rfl, _⟩ := h2.form
  obtain ⟨A3, c3, rfl, _⟩ := h3.form
  obtain ⟨A4, c4, rfl, _⟩ := h4.form
  rw [conCells_arr]
  have H1 := hide (fun o1 o2 => (h1.weak (S' := fun b => S b ∨ w.heap.size ≤ b) fun _ hb _ => .inl hb).ext (below_two w o1 o2))
  have H2 := hide (fun o1 o2 => (h2.weak (S' := fun b => S b ∨ w.heap.size ≤ b) fun _ hb _ => .inl hb).ext (below_two w o1 o2))
  have H3 := hide (fun o1 o2 => (h3.weak (S' := fun b => S b ∨ w.heap.size ≤ b) fun _ hb _ => .inl hb).ext (below_two w o1 o2))
  have H4 := hide (fun o1 o2 => (h4.weak (S' := fun b => S b ∨ w.heap.size ≤ b) fun _ hb _ => .inl hb).ext (below_two w o1 o2))
  clear h1 h2 h3 h4
  go_enter Tryz.func62, Tryz.ntmps62
  go_wp2_with fail
  refine bodyPost_two strcC rfl rfl rfl rfl ⟨_, rfl, ⟨_, _, _, _, rfl, ?_, ?_, ?_, ?_⟩, below_two w _ _⟩
  all_goals first | exact Slc.nil _ _ _ | exact H1.out _ _ | exact H2.out _ _ | exact H3.out _ _ | exact H4.out _ _

set_option maxRecDepth 100000 in
set_option maxHeartbeats 1000000 in
theorem R6Strip_4 {S : Nat → Prop} {cs : List Value} {c : Con} {w : World} (hr : ConR w S cs c) :
    Calls Tryz.prog 62 #[.int .i64 4, .agg cs.toArray] w (GivesC S (stripC 4 c) w) := by
  obtain ⟨va, vd, vu, vk, rfl, h1, h2, h3, h4⟩ := hr
  obtain ⟨A1, c1, rfl, _⟩ := h1.form
  obtain ⟨A2, c2, rfl, _⟩ := h2.form
  obtain ⟨A3, c3, rfl, _⟩ := h3.form
  obtain ⟨A4, c4, rfl, _⟩ := h4.form
  rw [conCells_arr]
  have H1 := hide (fun o1 o2 => (h1.weak (S' := fun b => S b ∨ w.heap.size ≤ b) fun _ hb _ => .inl hb).ext (below_two w o1 o2))
  have H2 := hide (fun o1 o2 => (h2.weak (S' := fun b => S b ∨ w.heap.size ≤ b) fun _ hb _ => .inl hb).ext (below_two w o1 o2))
  have H3 := hide (fun o1 o2 => (h3.weak (S' := fun b => S b ∨ w.heap.size ≤ b) fun _ hb _ => .inl hb).ext (below_two w o1 o2))
  have H4 := hide (fun o1 o2 => (h4.weak (S' := fun b => S b ∨ w.heap.size ≤ b) fun _ hb _ => .inl hb).ext (below_two w o1 o2))
  clear h1 h2 h3 h4
  go_enter Tryz.func62, Tryz.ntmps62
  go_wp2_with fail
  refine bodyPost_two strcC rfl rfl rfl rfl ⟨_, rfl, ⟨_, _, _, _, rfl, ?_, ?_, ?_, ?_⟩, below_two w _ _⟩
  all_goals first | exact Slc.nil _ _ _ | exact H1.out _ _ | exact H2.out _ _ | exact H3.out _ _ | exact H4.out _ _

set_option maxRecDepth 100000 in
set_option maxHeartbeats 1000000 in
theorem R6Strip_5 {S : Nat → Prop} {cs : List Value} {c : Con} {w : World} (hr : ConR w S cs c) :
    Calls Tryz.prog 62 #[.int .i64 5, .agg cs.toArray] w (GivesC S (stripC 5 c) w) := by
  obtain ⟨va, vd, vu, vk, rfl, h1, h2, h3, h4⟩ := hr
  obtain ⟨A1, c1, rfl, _⟩ := h1.form
  obtain ⟨A2, c2, rfl, _⟩ := h2.form
  obtain ⟨A3, c3, rfl, _⟩ := h3.form
  obtain ⟨A4, c4, rfl, _⟩ := h4.form
  rw [conCells_arr]
  have H1 := hide (fun o1 o2 => (h1.weak (S' := fun b => S b ∨ w.heap.size ≤ b) fun _ hb _ => .inl hb).ext (below_two w o1 o2))
  have H2 := hide (fun o1 o2 => (h2.weak (S' := fun b => S b ∨ w.heap.size ≤ b) fun _ hb _ => .inl hb).ext (below_two w o1 o2))
  have H3 := hide (fun o1 o2 => (h3.weak (S' := fun b => S b ∨ w.heap.size ≤ b) fun _ hb _ => .inl hb).ext (below_two w o1 o2))
  have H4 := hide (fun o1 o2 => (h4.weak (S' := fun b => S b ∨ w.heap.size ≤ b) fun _ hb _ => .inl hb).ext (below_two w o1 o2))
  clear h1 h2 h3 h4
  go_enter Tryz.func62, Tryz.ntmps62
  go_wp2_with fail
  refine bodyPost_two strcC rfl rfl rfl rfl ⟨_, rfl, ⟨_, _, _, _, rfl, ?_, ?_, ?_, ?_⟩, below_two w _ _⟩
  all_goals first | exact Slc.nil _ _ _ | exact H1.out _ _ | exact H2.out _ _ | exact H3.out _ _ | exact H4.out _ _

set_option maxRecDepth 100000 in
set_option maxHeartbeats 1000000 in
theorem R6Strip_6 {S : Nat → Prop} {cs : List Value} {c : Con} {w : World} (hr : ConR w S cs c) :
    Calls Tryz.prog 62 #[.int .i64 6, .agg cs.toArray] w (GivesC S (stripC 6 c) w) := by
  obtain ⟨va, vd, vu, vk, rfl, h1, h2, h3, h4⟩ := hr
  obtain ⟨A1, c1, rfl, _⟩ := h1.form
  obtain ⟨A2, c2, rfl, _⟩ := h2.form
  obtain ⟨A3, c3, rfl, _⟩ := h3.form
  obtain ⟨A4, c4, rfl, _⟩ := h4.form
  rw [conCells_arr]
  have H1 := hide (fun o1 o2 => (h1.weak (S' := fun b => S b ∨ w.heap.size ≤ b) fun _ hb _ => .inl hb).ext (below_two w o1 o2))
  have H2 := hide (fun o1 o2 => (h2.weak (S' := fun b => S b ∨ w.heap.size ≤ b) fun _ hb _ => .inl hb).ext (below_two w o1 o2))
  have H3 := hide (fun o1 o2 => (h3.weak (S' := fun b => S b ∨ w.heap.size ≤ b) fun _ hb _ => .inl hb).ext (below_two w o1 o2))
  have H4 := hide (fun o1 o2 => (h4.weak (S' := fun b => S b ∨ w.heap.size ≤ b) fun _ hb _ => .inl hb).ext (below_two w o1 o2))
  clear h1 h2 h3 h4
  go_enter Tryz.func62, Tryz.ntmps62
  go_wp2_with fail
  refine bodyPost_two strcC rfl rfl rfl rfl ⟨_, rfl, ⟨_, _, _, _, rfl, ?_, ?_, ?_, ?_⟩, below_two w _ _⟩
  all_goals first | exact Slc.nil _ _ _ | exact H1.out _ _ | exact H2.out _ _ | exact H3.out _ _ | exact H4.out _ _

set_option maxRecDepth 100000 in
set_option maxHeartbeats 1000000 in
theorem R6Strip_14 {S : Nat → Prop} {cs : List Value} {c : Con} {w : World} (hr : ConR w S cs c) :
    Calls Tryz.prog 62 #[.int .i64 14, .agg cs.toArray] w (GivesC S (stripC 14 c) w) := by
  obtain ⟨va, vd, vu, vk, rfl, h1, h2, h3, h4⟩ := hr
  obtain ⟨A1, c1, rfl, _⟩ := h1.form
  obtain ⟨A2, c2, rfl, _⟩ := h2.form
  obtain ⟨A3, c3, rfl, _⟩ := h3.form
  obtain ⟨A4, c4, rfl, _⟩ := h4.form
  rw [conCells_arr]
  have H1 := hide (fun o1 o2 => (h1.weak (S' := fun b => S b ∨ w.heap.size ≤ b) fun _ hb _ => .inl hb).ext (below_two w o1 o2))
  have H2 := hide (fun o1 o2 => (h2.weak (S' := fun b => S b ∨ w.heap.size ≤ b) fun _ hb _ => .inl hb).ext (below_two w o1 o2))
  have H3 := hide (fun o1 o2 => (h3.weak (S' := fun b => S b ∨ w.heap.size ≤ b) fun _ hb _ => .inl hb).ext (below_two w o1 o2))
  have H4 := hide (fun o1 o2 => (h4.weak (S' := fun b => S b ∨ w.heap.size ≤ b) fun _ hb _ => .inl hb).ext (below_two w o1 o2))
  clear h1 h2 h3 h4
  go_enter Tryz.func62, Tryz.ntmps62
  go_wp2_with fail
  refine bodyPost_two strcC rfl rfl rfl rfl ⟨_, rfl, ⟨_, _, _, _, rfl, ?_, ?_, ?_, ?_⟩, below_two w _ _⟩
  all_goals first | exact Slc.nil _ _ _ | exact H1.out _ _ | exact H2.out _ _ | exact H3.out _ _ | exact H4.out _ _

set_option maxRecDepth 100000 in
set_option maxHeartbeats 1000000 in
theorem R6Strip_no {S : Nat → Prop} {cs : List Value} {c : Con} {k : Int} (hk : Hid (k ≠ 1 ∧ k ≠ 2 ∧ k ≠ 3 ∧ k ≠ 4 ∧ k ≠ 5 ∧ k ≠ 6 ∧ k ≠ 14)) {w : World} (hr : ConR w S cs c) :
    Calls Tryz.prog 62 #[.int .i64 k, .agg cs.toArray] w (GivesC S Con.zero w) := by
  obtain ⟨va, vd, vu, vk, rfl, h1, h2, h3, h4⟩ := hr
  obtain ⟨A1, c1, rfl, _⟩ := h1.form
  obtain ⟨A2, c2, rfl, _⟩ := h2.form
  obtain ⟨A3, c3, rfl, _⟩ := h3.form
  obtain ⟨A4, c4, rfl, _⟩ := h4.form
  rw [conCells_arr]
  have H1 := hide (fun o1 o2 => (h1.weak (S' := fun b => S b ∨ w.heap.size ≤ b) fun _ hb _ => .inl hb).ext (below_two w o1 o2))
  have H2 := hide (fun o1 o2 => (h2.weak (S' := fun b => S b ∨ w.heap.size ≤ b) fun _ hb _ => .inl hb).ext (below_two w o1 o2))
  have H3 := hide (fun o1 o2 => (h3.weak (S' := fun b => S b ∨ w.heap.size ≤ b) fun _ hb _ => .inl hb).ext (below_two w o1 o2))
  have H4 := hide (fun o1 o2 => (h4.weak (S' := fun b => S b ∨ w.heap.size ≤ b) fun _ hb _ => .inl hb).ext (below_two w o1 o2))
  clear h1 h2 h3 h4
  have k0 : (k == 1) = false := by simpa using hk.out.1
  have k1 : (k == 2) = false := by simpa using hk.out.2.1
  have k2 : (k == 3) = false := by simpa using hk.out.2.2.1
  have k3 : (k == 4) = false := by simpa using hk.out.2.2.2.1
  have k4 : (k == 5) = false := by simpa using hk.out.2.2.2.2.1
  have k5 : (k == 6) = false := by simpa using hk.out.2.2.2.2.2.1
  have k6 : (k == 14) = false := by simpa using hk.out.2.2.2.2.2.2
  go_enter Tryz.func62, Tryz.ntmps62
  go_wp2_with fail
  refine bodyPost_two strcC rfl rfl rfl rfl ⟨_, rfl, ⟨_, _, _, _, rfl, ?_, ?_, ?_, ?_⟩, below_two w _ _⟩
  all_goals first | exact Slc.nil _ _ _ | exact H1.out _ _ | exact H2.out _ _ | exact H3.out _ _ | exact H4.out _ _

theorem R6Strip_any {S : Nat → Prop} {cs : List Value} {c : Con} {k : Int} {w : World} (hr : ConR w S cs c) :
    Calls Tryz.prog 62 #[.int .i64 k, .agg cs.toArray] w (GivesC S (stripC k c) w) := by
  rcases kinds_cases k with rfl | rfl | rfl | rfl | rfl | rfl | rfl | hk
  · exact R6Strip_1 hr
  · exact R6Strip_2 hr
  · exact R6Strip_3 hr
  · exact R6Strip_4 hr
  · exact R6Strip_5 hr
  · exact R6Strip_6 hr
  · exact R6Strip_14 hr
  · rw [show stripC k c = Con.zero by simp [stripC, hk]]
    exact R6Strip_no hk hr
end Go.Proofs.YtmlnmcoophnlaaaGreat
