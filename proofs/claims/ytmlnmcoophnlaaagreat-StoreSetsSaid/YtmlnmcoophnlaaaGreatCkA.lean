/-
  Checks of contents: what they answer, as plain functions; the smallest functions of the program.
-/
import Derived.Test.YtmlnmcoophnlaaaGreatEv
import Derived.Test.YtmlnmcoophnlaaaGreatIdsR
set_option linter.unusedVariables false
set_option linter.unusedSimpArgs false
namespace Go.Proofs.YtmlnmcoophnlaaaGreat
open Go.RowKit

/-! ### The first error of a list -/
section
variable {α : Type}
def firstE (f : Option α → α → Int) : Option α → List α → Int
  | _, [] => 0
  | p, x :: l => if f p x = 0 then firstE f (some x) l else f p x
def prevA (l : List α) (k : Nat) : Option α := if k = 0 then none else l[k - 1]?
def FE (f : Option α → α → Int) (l : List α) (k : Nat) : Prop := firstE f none l = firstE f (prevA l k) (l.drop k)
variable {f : Option α → α → Int} {l : List α} {k : Nat}
theorem FE.start : FE f l 0 := rfl
theorem FE.fin (h : FE f l l.length) : firstE f none l = 0 := by
  unfold FE at h
  rw [List.drop_length] at h
  exact h
theorem FE.err {e : Int} (h : FE f l k) (hk : k < l.length) (he : f (prevA l k) l[k] = e) (h0 : e ≠ 0) : firstE f none l = e := by
  unfold FE at h
  rw [h, List.drop_eq_getElem_cons hk, firstE, he, if_neg h0]
theorem FE.next (h : FE f l k) (hk : k < l.length) (he : f (prevA l k) l[k] = 0) : FE f l (k + 1) := by
  unfold FE at h ⊢
  rw [h, List.drop_eq_getElem_cons hk, firstE, he, if_pos rfl]
  unfold prevA
  rw [if_neg (by omega), Nat.add_sub_cancel, List.getElem?_eq_getElem hk]
theorem prev_zero : prevA l 0 = none := rfl
theorem prev_succ {j : Nat} (hj : j < l.length) : prevA l (j + 1) = some l[j] := by
  unfold prevA
  rw [if_neg (by omega), Nat.add_sub_cancel, List.getElem?_eq_getElem hj]
end

/-! ### What is asked of an element -/
def highB (n : Int) : Bool := decide (n < -1000) || decide (1000 < n)
def knownB (k : Int) : Bool := decide (1 ≤ k) && decide (k ≤ 14)
/-- a text is not greater than another one, as the program asks it -/
def leB (a b : ByteArray) : Bool := Op.bytesLess a.toList b.toList || (a.toList == b.toList)
def userB (s : ByteArray) : Bool := (splitL [64] s.data.toList).isSome
def roomB (s : ByteArray) : Bool := (splitL [33] s.data.toList).isSome
def outB : Option ByteArray → ByteArray → Bool
  | none, _ => false
  | some y, x => leB x y
def outI : Option Int → Int → Bool
  | none, _ => false
  | some y, x => decide (x ≤ y)
def userF (p : Option (ByteArray × Int)) (x : ByteArray × Int) : Int := if userB x.1 = false then 3 else if outB (p.map (·.1)) x.1 = true then 8 else if highB x.2 = true then 2 else 0
def kindF (p : Option (Int × Int)) (x : Int × Int) : Int := if knownB x.1 = false then 1 else if outI (p.map (·.1)) x.1 = true then 8 else if highB x.2 = true then 2 else 0
def roomF (p : Option ByteArray) (x : ByteArray) : Int := if roomB x = false then 3 else if outB p x = true then 8 else 0
def badB (c : UInt8) : Bool := decide (c.toNat < 33) || decide (126 < c.toNat)
def globE (s : ByteArray) : Int := if s.size = 0 then 9 else if 64 < s.size then 7 else if s.data.toList.any badB = true then 3 else 0
def globF (_ : Option ByteArray) (x : ByteArray) : Int := globE x
def usersE (l : List (ByteArray × Int)) : Int := if 100 < l.length then 7 else firstE userF none l
def kindsE (l : List (Int × Int)) : Int := if 100 < l.length then 7 else firstE kindF none l
def patternsE (l : List ByteArray) : Int := if 100 < l.length then 7 else firstE globF none l
def roomsE (l : List ByteArray) : Int := if 100 < l.length then 7 else firstE roomF none l
def restL (v : Lev) : List Int := [v.user, v.message, v.state, v.invite, v.kick, v.ban, v.redact]
def highs (v : Lev) : Bool := (restL v).any highB
def levelsE (v : Lev) : Int := if usersE v.users ≠ 0 then usersE v.users else if kindsE v.kinds ≠ 0 then kindsE v.kinds else if highs v = true then 2 else 0
/-- an error number was answered, and what stood before stands -/
def Errs (n : Int) (w : World) (e : Ending) (w' : World) : Prop := e = .returned (.int .i64 n) ∧ Below w.heap.size w w'
theorem errs_mk {n m : Int} {w w' : World} (h : m = n) (hb : Below w.heap.size w w') : Errs n w (.returned (.int .i64 m)) w' := by subst h; exact ⟨rfl, hb⟩

set_option maxRecDepth 100000 in
set_option maxHeartbeats 1600000 in
theorem high_any (n : Int) (w : World) : Calls Tryz.prog 171 #[.int .i64 n] w (fun e w' => e = .returned (.bool (highB n)) ∧ w' = w) := by
  have HP := hide (show highB n = true ↔ (n < -1000 ∨ 1000 < n) by simp [highB])
  go_enter Tryz.func171, Tryz.ntmps171
  go_wp2_with fail
  all_goals (go_ret; exact ⟨ret_b (by rw [HP.out]; simp; try omega), rfl⟩)
set_option maxRecDepth 100000 in
set_option maxHeartbeats 1600000 in
theorem wide_any (n : Int) (w : World) : Calls Tryz.prog 184 #[.int .i64 n] w (fun e w' => e = .returned (.bool (highB n)) ∧ w' = w) := by
  have HP := hide (show highB n = true ↔ (n < -1000 ∨ 1000 < n) by simp [highB])
  go_enter Tryz.func184, Tryz.ntmps184
  go_wp2_with fail
  all_goals (go_ret; exact ⟨ret_b (by rw [HP.out]; simp; try omega), rfl⟩)
set_option maxRecDepth 100000 in
set_option maxHeartbeats 1600000 in
theorem known_any (k : Int) (w : World) : Calls Tryz.prog 104 #[.int .i64 k] w (fun e w' => e = .returned (.bool (knownB k)) ∧ w' = w) := by
  have HP := hide (show knownB k = true ↔ (1 ≤ k ∧ k ≤ 14) by simp [knownB])
  go_enter Tryz.func104, Tryz.ntmps104
  go_wp2_with fail
  all_goals (go_ret; exact ⟨ret_b (by rw [HP.out]; simp; try omega), rfl⟩)
set_option maxRecDepth 100000 in
set_option maxHeartbeats 1600000 in
theorem r6_known (k : Int) (w : World) : Calls Tryz.prog 131 #[.int .i64 k] w (fun e w' => e = .returned (.bool (knownB k)) ∧ w' = w) := by
  have HP := hide (show knownB k = true ↔ (1 ≤ k ∧ k ≤ 14) by simp [knownB])
  go_enter Tryz.func131, Tryz.ntmps131
  go_wp2_with fail
  all_goals (go_ret; exact ⟨ret_b (by rw [HP.out]; simp; try omega), rfl⟩)
set_option maxRecDepth 100000 in
set_option maxHeartbeats 1600000 in
theorem ids_Room (s : ByteArray) (w : World) (hs : s.size ≤ 9223372036854775807) : Calls Tryz.prog 100 #[.string s] w (fun e w' => e = .returned (errN (roomB s)) ∧ Below w.heap.size w w') := by
  have C := ids_identifies s ⟨#[33]⟩ w hs
  obtain ⟨v, hv⟩ : ∃ v, errN (roomB s) = .int .i64 v := ⟨_, rfl⟩
  have hv' : errN (splitL (⟨#[33]⟩ : ByteArray).data.toList s.data.toList).isSome = .int .i64 v := hv
  rw [hv'] at C
  rw [hv]
  clear hv hv'
  go_enter Tryz.func100, Tryz.ntmps100
  go_wp2_with (go_at_call 166; refine C.mono ?_; rintro e w2 ⟨rfl, hb2⟩)
  go_ret
  exact ⟨rfl, hb2⟩
set_option maxRecDepth 100000 in
set_option maxHeartbeats 1600000 in
theorem r2_Room (s : ByteArray) (w : World) (hs : s.size ≤ 9223372036854775807) : Calls Tryz.prog 127 #[.string s] w (fun e w' => e = .returned (errN (roomB s)) ∧ w' = w) := by
  have C := r2_marked s 33 33 rfl (by decide) w hs
  obtain ⟨b, hb⟩ : ∃ b, roomB s = b := ⟨_, rfl⟩
  have hb' : (splitL [33] s.data.toList).isSome = b := hb
  rw [hb'] at C
  rw [hb]
  clear hb hb'
  cases b
  · go_enter Tryz.func127, Tryz.ntmps127
    go_wp2_with (go_at_call 88; refine C.mono ?_; rintro e w' ⟨rfl, rfl⟩)
    go_ret
    exact ⟨rfl, rfl⟩
  · go_enter Tryz.func127, Tryz.ntmps127
    go_wp2_with (go_at_call 88; refine C.mono ?_; rintro e w' ⟨rfl, rfl⟩)
    go_ret
    exact ⟨rfl, rfl⟩

/-! ### Patterns -/
theorem globE_bad {s : ByteArray} {k : Nat} (h1 : s.size ≠ 0) (h2 : ¬ 64 < s.size) (hk : k < s.size) (hb : badB s[k] = true) : globE s = 3 := by
  unfold globE
  rw [if_neg h1, if_neg h2, if_pos]
  obtain ⟨h, hg⟩ := list_at s hk
  exact List.any_eq_true.2 ⟨s[k], by rw [← hg]; exact List.getElem_mem h, hb⟩
theorem globE_ok {s : ByteArray} (h1 : s.size ≠ 0) (h2 : ¬ 64 < s.size) (ha : ∀ c ∈ s.data.toList, badB c = false) : globE s = 0 := by
  unfold globE
  rw [if_neg h1, if_neg h2, if_neg]
  intro h
  obtain ⟨c, hc, hb⟩ := List.any_eq_true.1 h
  rw [ha c hc] at hb; cases hb
theorem bad_int (c : UInt8) : badB c = true ↔ ((c.toNat : Int) < 33 ∨ 126 < (c.toNat : Int)) := by
  simp [badB]; omega
set_option maxRecDepth 100000 in
set_option maxHeartbeats 1600000 in
theorem glob_any (s : ByteArray) (w : World) : Calls Tryz.prog 168 #[.string s] w (fun e w' => e = .returned (.int .i64 (globE s)) ∧ w' = w) := by
  by_cases h1 : s.size = 0
  · have HF := hide (show globE s = 9 from if_pos h1)
    have hem : s.toList.isEmpty = true := by rw [size_zero_nil h1]; decide +kernel
    clear h1
    go_enter Tryz.func168, Tryz.ntmps168
    go_wp2_with fail
    go_ret
    exact ⟨by rw [HF.out]; rfl, rfl⟩
  have hne : s.toList.isEmpty = false := by
    rw [bt]
    cases h : s.data.toList with
    | nil => have := Enc.size_toList s; rw [h] at this; exact absurd this.symm h1
    | cons _ _ => rfl
  by_cases h2 : 64 < s.size
  · have HF := hide (show globE s = 7 by unfold globE; rw [if_neg h1, if_pos h2])
    clear h1
    go_enter Tryz.func168, Tryz.ntmps168
    go_wp2_with fail
    go_ret
    exact ⟨by rw [HF.out]; rfl, rfl⟩
  have HB := hide (fun k (hk : k < s.size) hb => globE_bad (k := k) h1 h2 hk hb)
  have HO := hide (globE_ok h1 h2)
  have hsz := hide (Enc.size_toList s)
  clear h1
  go_enter Tryz.func168, Tryz.ntmps168
  go_wp2_with fail
  go_loop [13] (fun i => ∃ k : Nat, k ≤ s.size ∧ i = .int .i64 (k : Int) ∧ Hid (∀ c ∈ s.data.toList.take k, badB c = false)) (fun i => s.size - (intOf i).toNat)
  case atStart => exact ⟨0, Nat.zero_le _, rfl, by simp [Hid]⟩
  case round =>
  obtain ⟨k, hk, rfl, HT⟩ := hrel
  by_cases hlt : k < s.size
  · have hi := bad_int s[k]
    cases hb : badB s[k]
    · have h3 : ¬ ((s[k].toNat : Int) < 33) := fun h => by rw [hi.2 (.inl h)] at hb; cases hb
      have h4 : ¬ (126 < (s[k].toNat : Int)) := fun h => by rw [hi.2 (.inr h)] at hb; cases hb
      have HN := hide (all_next HT.out hlt hb)
      clear hi hb
      go_wp2_with fail
      go_round
      case rel => exact ⟨k + 1, by omega, by go_num, HN.out⟩
      case measure => simp [intOf]; omega
    · have HF := hide (HB.out k hlt hb)
      by_cases h3 : (s[k].toNat : Int) < 33
      · clear hi hb
        go_wp2_with fail
        go_ret
        exact ⟨by rw [HF.out]; rfl, rfl⟩
      · have h4 : 126 < (s[k].toNat : Int) := (hi.1 hb).resolve_left h3
        clear hi hb
        go_wp2_with fail
        go_ret
        exact ⟨by rw [HF.out]; rfl, rfl⟩
  · obtain rfl : k = s.size := by omega
    have HF := hide (HO.out (by have := HT.out; rwa [← hsz.out, List.take_length] at this))
    clear HT
    go_wp2_with fail
    go_ret
    exact ⟨by rw [HF.out]; rfl, rfl⟩
end Go.Proofs.YtmlnmcoophnlaaaGreat
