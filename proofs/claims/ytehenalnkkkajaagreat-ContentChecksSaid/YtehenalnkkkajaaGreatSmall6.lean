/-
  fedchatlaw06: short, few, small. Arguments that are contents or levels.
-/
import Derived.Test.YtehenalnkkkajaaGreatLive6
import Derived.Test.YtehenalnkkkajaaGreatReadsC
import Derived.BigQuiet
set_option linter.unusedVariables false
set_option linter.unusedSimpArgs false
namespace Go.Proofs.YtehenalnkkkajaaGreat
section
open Go.ChangeShapes Go.WideShapes Go.ChangeAt Go.RowKit Go.Deep
variable {H : Type} {enc : TypeId × Value → H} {W : World} {base : Nat} {spare : Nat → Bool} {held : Bool}
set_option maxRecDepth 100000 in
theorem read_content {r : Reach} {b0 : Nat} {v : Value} {d : DataW H} {p : List MemPlace} (hv : Value.okWide Tryz.prog W r b0 29 v) (h : DataW.Trod enc Tryz.prog W base spare held 29 v d p) :
    ∃ cs c, v = .agg cs.toArray ∧ ConR W Any cs c ∧ c.ok := by
  obtain ⟨cs, rfl, hsz⟩ := okWide_struct Tryz.underlying29 hv
  obtain ⟨fuel, hf⟩ := h
  have hcl : (Value.agg cs).cells.toList = cs.toList := by simp [Value.cells]
  rw [hcl] at hf
  obtain ⟨c, hc, hok⟩ := read_con (by rw [Array.length_toList, hsz]; exact cC) hf
  exact ⟨cs.toList, c, rfl, hc, hok⟩
set_option maxRecDepth 100000 in
theorem read_levels {r : Reach} {b0 : Nat} {v : Value} {d : DataW H} {p : List MemPlace} (hv : Value.okWide Tryz.prog W r b0 27 v) (h : DataW.Trod enc Tryz.prog W base spare held 27 v d p) :
    ∃ cs c, v = .agg cs.toArray ∧ LevR W Any cs c ∧ c.ok := by
  obtain ⟨cs, rfl, hsz⟩ := okWide_struct Tryz.underlying27 hv
  obtain ⟨fuel, hf⟩ := h
  have hcl : (Value.agg cs).cells.toList = cs.toList := by simp [Value.cells]
  rw [hcl] at hf
  obtain ⟨c, hc, hok⟩ := read_lev (by rw [Array.length_toList, hsz]; exact cL) hf
  exact ⟨cs.toList, c, rfl, hc, hok⟩
end
section
open Go.RowKit
attribute [local go_sem] Addr.add_mid
/-- a Bool comes back; if it is true, p -/
def SaysT (p : Prop) (w : World) (x : Ending) (w' : World) : Prop := ∃ b, x = .returned (.bool b) ∧ (b = true → p) ∧ Below w.heap.size w w'
def Lev.few (v : Lev) : Prop := v.users.length ≤ 120 ∧ v.kinds.length ≤ 120 ∧ ∀ u ∈ v.users, u.1.size ≤ 100
structure Con.small (c : Con) : Prop where
  text : c.text.size ≤ 1000
  via : c.via.size ≤ 200
  allowL : c.allow.length ≤ 120
  denyL : c.deny.length ≤ 120
  lv : c.lv.few
  allow : ∀ s ∈ c.allow, s.size ≤ 100
  deny : ∀ s ∈ c.deny, s.size ≤ 100
theorem all_step {α : Type} {p : α → Prop} {l : List α} {k : Nat} (h : ∀ x ∈ l.take k, p x) (hk : k < l.length) (hp : p l[k]) : ∀ x ∈ l.take (k + 1), p x := by
  intro x hx
  rw [List.take_succ_eq_append_getElem hk] at hx
  rcases List.mem_append.1 hx with h1 | h1
  · exact h x h1
  · simp only [List.mem_cons, List.not_mem_nil, or_false] at h1; subst h1; exact hp
set_option maxRecDepth 100000 in
set_option maxHeartbeats 1000000 in
theorem short6_any (A : Option Addr) (c : Nat) (l : List ByteArray) (w : World) (hr : Row w w.heap.size A (svs l)) (hl : l.length ≤ 1073741824) :
    Calls Tryz.prog 9 #[.slice A l.length c] w (SaysT (∀ s ∈ l, s.size ≤ 100) w) := by
  go_enter Tryz.func9, Tryz.ntmps9
  go_upto_region 2 with fail
  go_loop [3] (fun i => ∃ k : Nat, k ≤ l.length ∧ i = .int .i64 (k : Int) ∧ Hid (∀ s ∈ l.take k, s.size ≤ 100)) (fun i => l.length - (intOf i).toNat)
  case atStart => exact ⟨0, Nat.zero_le _, rfl, by simp [Hid]⟩
  case round =>
  obtain ⟨k, hk, rfl, HT⟩ := hrel
  by_cases hlt : k < l.length
  · obtain ⟨b, o, rfl, hb, hc⟩ := hr.fix (svs_get l k hlt)
    have r0 := hc _ _ (svs_get l k hlt)
    have HN := hide (fun h => all_step (p := fun s : ByteArray => s.size ≤ 100) HT.out hlt h)
    by_cases h1 : (100 : Int) < (l[k].size : Int)
    · go_wp2_with fail
      go_ret
      exact ⟨false, rfl, (fun h => by cases h), ext_refl _⟩
    · have HN' := hide (HN.out (by omega))
      go_wp2_with fail
      go_round
      case rel => exact ⟨k + 1, by omega, by go_num, HN'.out⟩
      case measure => (simp [intOf]; try omega)
  · obtain rfl : k = l.length := by omega
    have HF := hide (show ∀ s ∈ l, s.size ≤ 100 by have := HT.out; rwa [List.take_length] at this)
    go_wp2_with fail
    go_ret
    exact ⟨true, rfl, fun _ => HF.out, ext_refl _⟩

set_option maxRecDepth 100000 in
set_option maxHeartbeats 1600000 in
theorem few_any {S : Nat → Prop} {cs : List Value} {v : Lev} {w : World} (hr : LevR w S cs v) :
    Calls Tryz.prog 8 #[.agg cs.toArray] w (SaysT v.few w) := by
  obtain ⟨A1, c1, A2, c2, l0, l1, hu, hk, _⟩ := hr.parts
  have B := heap_alloc_new w (.cells cs.toArray 27)
  have hb := ext_alloc (ext_refl w) (.cells cs.toArray 27)
  clear hr hk
  by_cases h1 : v.users.length ≤ 120 ∧ v.kinds.length ≤ 120
  rotate_left
  · clear hu B
    go_enter Tryz.func8, Tryz.ntmps8
    have h2 : 120 < v.users.length ∨ (¬ 120 < v.users.length ∧ 120 < v.kinds.length) := by omega
    clear h1
    rcases h2 with h2 | ⟨h2, h3⟩
    all_goals
      go_wp2_with fail
      go_ret
      exact ⟨false, rfl, (fun h => by cases h), hb⟩
  obtain ⟨h1, h2⟩ := h1
  have hru := hu.ext hb
  go_enter Tryz.func8, Tryz.ntmps8
  go_upto_region 4 with fail
  generalize w.alloc (.cells cs.toArray 27) = W at B hb hru ⊢
  have r0 := box_at B l0
  clear hu B l0 l1
  go_loop [3] (fun i => ∃ k : Nat, k ≤ v.users.length ∧ i = .int .i64 (k : Int) ∧ Hid (∀ s ∈ v.users.take k, s.1.size ≤ 100)) (fun i => v.users.length - (intOf i).toNat)
  case atStart => exact ⟨0, Nat.zero_le _, rfl, by simp [Hid]⟩
  case round =>
  obtain ⟨k, hk, rfl, HT⟩ := hrel
  by_cases hlt : k < v.users.length
  · obtain ⟨b, o, rfl, hbl, hc⟩ := hru.fix (ucs_get v.users k hlt).1
    have q0 := hc _ _ (ucs_get v.users k hlt).1
    have HN := hide (fun h => all_step (p := fun s : ByteArray × Int => s.1.size ≤ 100) HT.out hlt h)
    clear hc
    by_cases h3 : (100 : Int) < (v.users[k].1.size : Int)
    · go_wp2_with fail
      go_ret
      exact ⟨false, rfl, (fun h => by cases h), hb⟩
    · have HN' := hide (HN.out (by omega))
      go_wp2_with fail
      go_round
      case rel => exact ⟨k + 1, by omega, by go_num, HN'.out⟩
      case measure => (simp [intOf]; try omega)
  · obtain rfl : k = v.users.length := by omega
    have HF := hide (show ∀ s ∈ v.users, s.1.size ≤ 100 by have := HT.out; rwa [List.take_length] at this)
    go_wp2_with fail
    go_ret
    exact ⟨true, rfl, fun _ => ⟨h1, h2, HF.out⟩, hb⟩

set_option maxRecDepth 100000 in
set_option maxHeartbeats 1600000 in
theorem small6_any {S : Nat → Prop} {cs : List Value} {c : Con} {w : World} (hr : ConR w S cs c) :
    Calls Tryz.prog 4 #[.agg cs.toArray] w (SaysT c.small w) := by
  obtain ⟨s0, s1, s2, s3, s4⟩ := hr.gets
  obtain ⟨A1, c1, A2, c2, s5, s6, h5, h6⟩ := hr.lists
  have HR := hide hr
  have HN := hide (show (cs.drop 7).length = 9 by rw [List.length_drop, hr.length])
  have B := heap_alloc_new w (.cells cs.toArray 29)
  have hb := ext_alloc (ext_refl w) (.cells cs.toArray 29)
  clear hr s1 s2 s3
  by_cases h1 : c.text.size ≤ 1000 ∧ c.via.size ≤ 200 ∧ c.allow.length ≤ 120 ∧ c.deny.length ≤ 120
  rotate_left
  · have h2 : (1000 : Int) < (c.text.size : Int) ∨ ((c.text.size : Int) ≤ 1000 ∧ ((200 : Int) < (c.via.size : Int) ∨ ((c.via.size : Int) ≤ 200 ∧ (120 < c.allow.length ∨ (¬ 120 < c.allow.length ∧ 120 < c.deny.length))))) := by omega
    clear h1 HR HN B h5 h6
    go_enter Tryz.func4, Tryz.ntmps4
    rcases h2 with h | ⟨h, h2 | ⟨h2, h3 | ⟨h3, h4⟩⟩⟩
    all_goals
      go_wp2_with fail
      go_ret
      exact ⟨false, rfl, (fun h => by cases h), hb⟩
  obtain ⟨h1, h2, h3, h4⟩ := h1
  have q1 : (c.text.size : Int) ≤ 1000 := by omega
  have q2 : (c.via.size : Int) ≤ 200 := by omega
  have q3 : (c.allow.length : Int) ≤ 120 := by omega
  have q4 : (c.deny.length : Int) ≤ 120 := by omega
  have d1 : decide ((1000 : Int) < (c.text.size : Int)) = false := decide_eq_false (by omega)
  have d2 : decide ((200 : Int) < (c.via.size : Int)) = false := decide_eq_false (by omega)
  have d3 : decide ((120 : Int) < (c.allow.length : Int)) = false := decide_eq_false (by omega)
  have d4 : decide ((120 : Int) < (c.deny.length : Int)) = false := decide_eq_false (by omega)
  have d5 : decide (120 < c.allow.length) = false := decide_eq_false (by omega)
  have d6 : decide (120 < c.deny.length) = false := decide_eq_false (by omega)
  go_enter Tryz.func4, Tryz.ntmps4
  go_upto_region 1 with fail
  generalize w.alloc (.cells cs.toArray 29) = W at B hb ⊢
  have r0 := box_at B s0
  have r4 := box_at B s4
  have r5 := box_at B s5
  have r6 := box_at B s6
  have HB := hide B
  clear B s0 s4
  have hwl : w.heap.size < W.heap.size := (Array.getElem?_eq_some_iff.1 HB.out).1
  have CF := few_any (HR.out.lev.ext hb)
  have C5 := fun W' (k : Below W.heap.size W W') => short6_any A1 c1 c.allow W' (h5.ext (ext_trans hb k)) (by omega)
  have C6 := fun W' (k : Below W.heap.size W W') => short6_any A2 c2 c.deny W' (h6.ext (ext_trans hb k)) (by omega)
  clear h5 h6
  go_wp2_with (first
    | refine wpList_loadS rfl (.tmp 26) rfl strcL ⟨w.heap.size, 7, none⟩ rfl (cs.drop 7) HN.out (box_from HB.out) ?_
    | (go_at_call 8; refine CF.mono ?_; rintro e w2 ⟨b2, rfl, hf, hb2⟩; have HF := hide hf; clear hf; have HB2 := hide (box_below HB.out hb2); have r5' := box_at HB2.out s5; have r6' := box_at HB2.out s6)
    | (go_at_call 9; first
       | ((with_reducible refine (C5 _ hb2).mono ?_); rintro e w3 ⟨b3, rfl, ha, hb3⟩; have HA := hide ha; clear ha; have HB3 := hide (box_below HB2.out hb3); have r6'' := box_at HB3.out s6; have hb23 := ext_trans hb2 hb3)
       | ((with_reducible refine (C6 _ hb23).mono ?_); rintro e w4 ⟨b4, rfl, hd, hb4⟩; have HDD := hide hd; clear hd)))
  all_goals (go_ret)
  all_goals first
    | exact ⟨b4, rfl, fun h => ⟨h1, h2, h3, h4, HF.out (by have h' : (!b2) = false := ‹_›; simpa using h'), HA.out ‹_›, HDD.out h⟩, ext_trans hb (ext_trans hb23 hb4)⟩
    | exact ⟨false, rfl, (fun h => by cases h), ext_trans hb hb23⟩
    | exact ⟨false, rfl, (fun h => by cases h), ext_trans hb hb2⟩
end
section
open Go.RowKit
theorem Con.small.fine {c : Con} (h : c.small) (ho : c.ok) : c.fine := by
  obtain ⟨h1, h2, h3, h4, ⟨h5, h6, h7⟩, h8, h9⟩ := h
  obtain ⟨o1, o2, o3, o4, o5, o6, o7, o8, o9⟩ := ho
  exact ⟨by omega, by omega, o2, o3, by omega, by omega, fun s hs => by have := h8 s hs; omega, fun s hs => by have := h9 s hs; omega, ⟨by omega, by omega, fun u hu => ⟨by have := h7 u hu; omega, (o7 u hu).2⟩, o8, fun n hn => by
    obtain ⟨y1, y2, y3, y4, y5, y6, y7⟩ := o9
    simp only [restL, List.mem_cons, List.not_mem_nil, or_false] at hn
    rcases hn with rfl | rfl | rfl | rfl | rfl | rfl | rfl <;> assumption⟩⟩
theorem encS_le6 (s : ByteArray) (h : s.size < 9223372036854775808) : (encS s).length ≤ 10 + s.size := by
  unfold encS
  rw [List.length_append, Enc.size_toList]
  have := encI_le (I64_nat h); omega
theorem flat_le {α : Type} (f : α → List UInt8) (m : Nat) : ∀ l : List α, (∀ x ∈ l, (f x).length ≤ m) → (l.flatMap f).length ≤ l.length * m
  | [], _ => by simp
  | x :: l, h => by
    have h1 := h x (by simp)
    have h2 := flat_le f m l (fun y hy => h y (List.mem_cons_of_mem _ hy))
    rw [List.flatMap_cons, List.length_append, List.length_cons, Nat.succ_mul]; omega
theorem encL_le {α : Type} (f : α → List UInt8) (m : Nat) (l : List α) (hl : l.length < 9223372036854775808) (h : ∀ x ∈ l, (f x).length ≤ m) : (encL f l).length ≤ 10 + l.length * m := by
  unfold encL
  rw [List.length_append]
  have h1 := flat_le f m l h
  have h2 := encI_le (I64_nat hl)
  omega
theorem Con.small.enc_le {c : Con} (h : c.small) (ho : c.ok) : (encCon c).length ≤ 60000 := by
  have hf := h.fine ho
  obtain ⟨h1, h2, h3, h4, ⟨h5, h6, h7⟩, h8, h9⟩ := h
  have e1 := encS_le6 c.text (by omega)
  have e2 := encI_le hf.n
  have e3 := encI_le hf.target
  have e4 := encS_le6 c.via (by omega)
  have e5 := encL_le encS 110 c.allow (by omega) (fun s hs => by have := h8 s hs; have := encS_le6 s (by omega); omega)
  have e6 := encL_le encS 110 c.deny (by omega) (fun s hs => by have := h9 s hs; have := encS_le6 s (by omega); omega)
  have e7 := encL_le encU 120 c.lv.users (by omega) (fun u hu => by
    unfold encU; rw [List.length_append]
    have := h7 u hu; have := encS_le6 u.1 (by omega); have := encI_le (hf.lv.users u hu).2; omega)
  have e8 := encL_le encK 20 c.lv.kinds (by omega) (fun u hu => by
    unfold encK; rw [List.length_append]
    have := encI_le (hf.lv.kinds u hu).1; have := encI_le (hf.lv.kinds u hu).2; omega)
  have e9 := flat_le encI 10 (restL c.lv) (fun n hn => encI_le (hf.lv.rest n hn))
  have el : (encLev c.lv).length = (encL encU c.lv.users).length + (encL encK c.lv.kinds).length + ((restL c.lv).flatMap encI).length := by
    unfold encLev; rw [restL_enc]; simp only [List.length_append]; omega
  have ec : (encCon c).length = (encS c.text).length + (encI c.n).length + (encI c.target).length + 1 + (encS c.via).length + (encL encS c.allow).length + (encL encS c.deny).length + (encLev c.lv).length := by
    unfold encCon; simp only [List.length_append, List.length_cons]; omega
  have : (restL c.lv).length = 7 := rfl
  have : c.allow.length * 110 ≤ 120 * 110 := Nat.mul_le_mul_right _ h3
  have : c.deny.length * 110 ≤ 120 * 110 := Nat.mul_le_mul_right _ h4
  have : c.lv.users.length * 120 ≤ 120 * 120 := Nat.mul_le_mul_right _ h5
  have : c.lv.kinds.length * 20 ≤ 120 * 20 := Nat.mul_le_mul_right _ h6
  omega
theorem Con.small.puts {c : Con} (h : c.small) (ho : c.ok) : c.puts := by
  have hf := h.fine ho
  exact ⟨by have := h.enc_le ho; omega, by have := hf.text; omega, hf.n, hf.target, by have := hf.via; omega, hf.allowL, hf.denyL, hf.lv.usersL, hf.lv.kindsL, fun u hu => ⟨by have := (hf.lv.users u hu).1; omega, (hf.lv.users u hu).2⟩, hf.lv.kinds, hf.lv.rest⟩
theorem Con.fine.mild {c : Con} (h : c.fine) : c.mild := ⟨by have := h.via; omega, by have := h.allowL; omega, by have := h.denyL; omega, by have := h.lv.usersL; omega, by have := h.lv.kindsL; omega, fun s hs => by have := h.allow s hs; omega, fun u hu => by have := (h.lv.users u hu).1; omega⟩
end
end Go.Proofs.YtehenalnkkkajaaGreat
