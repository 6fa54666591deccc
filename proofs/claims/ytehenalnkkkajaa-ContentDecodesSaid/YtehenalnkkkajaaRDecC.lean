/-
  fedchatref06: Decode.
-/
import Derived.Test.YtehenalnkkkajaaDecC
import Derived.Test.YtehenalnkkkajaaRLvR
set_option linter.unusedVariables false
set_option linter.unusedSimpArgs false
namespace Go.Proofs.Ytehenalnkkkajaa
open Go.RowKit
attribute [local go_sem] Addr.add_mid
def boolZ : Array Value := #[.bool false, .bool false, .bool false, .bool false, .bool false, .bool false, .bool false]
theorem strcB7 : Strc Try.prog 77 boolZ 7 := ⟨⟨_, Try.underlying77, rfl⟩, by kernel_rfl, rfl⟩
theorem sls_slc {w : World} {base : Nat} {v : Value} {x : List (List UInt8)} (h : w.ownsRow base 9 1 v (sls x).length (sls x)) : Slc w (base ≤ ·) v 1 (x.map str).length (svs (x.map str)) := by
  have := Slc.own h (by decide)
  rw [← sls_svs, List.length_map]
  rwa [show (sls x).length = x.length by simp [sls]] at this

set_option maxRecDepth 100000 in
set_option maxHeartbeats 16000000 in
theorem R6Decode_any {A : Option Addr} {c : Nat} {l : List UInt8} {w : World} (hr : Row w w.heap.size A (bvs l)) (hc : l.length ≤ c) (hl : l.length ≤ 16777216) :
    Calls Try.prog 29 #[.slice A l.length c] w (DecV l w) := by
  have X0 := heap_alloc_new w (.cells conZero 33)
  have hx0 := ext_alloc (ext_refl w) (.cells conZero 33)
  go_enter Try.func29, Try.ntmps29
  go_upto_region 1 with (refine wpList_zeroS rfl rfl strcC ?_)
  go_simp
  generalize hW : w.alloc (.cells conZero 33) = Wa at X0 hx0 ⊢
  have hz0 : Wa.heap.size = w.heap.size + 1 := by rw [← hW]; simp
  have HZ0 := hide hz0
  clear hW hz0
  go_upto_region 2 with (refine wpList_zeroS rfl rfl strcC ?_)
  go_simp
  have X1 := heap_alloc_new Wa (.cells conZero 33)
  have hx1 := ext_alloc (ext_refl Wa) (.cells conZero 33)
  have hz1 : (Wa.alloc (.cells conZero 33)).heap.size = Wa.heap.size + 1 := by simp
  generalize Wa.alloc (.cells conZero 33) = Wb at X1 hx1 hz1 ⊢
  generalize hG : Wa.heap.size = gc at X1 hz1 ⊢
  have HC := hide (show gc = w.heap.size + 1 by rw [← hG]; exact HZ0.out)
  have HZ1 := hide (show Wb.heap.size = gc + 1 from hz1)
  have hx := ext_trans hx0 hx1
  replace X0 := box_below X0 hx1
  clear hz1 hG hx0 hx1 HZ0
  go_upto_region 3 with (refine wpList_zeroS rfl rfl strcB7 ?_)
  go_simp
  have X2 := heap_alloc_new Wb (.cells boolZ 77)
  have hx2 := ext_alloc (ext_refl Wb) (.cells boolZ 77)
  generalize Wb.alloc (.cells boolZ 77) = u0 at X2 hx2 ⊢
  generalize hG : Wb.heap.size = gi at X2 ⊢
  have HG := hide (show gi = w.heap.size + 2 by rw [← hG, HZ1.out, HC.out])
  clear hG
  have Z0 := box_below X0 hx2
  have hb0 := ext_trans hx hx2
  have R0 : Row u0 w.heap.size A (bvs l) := hr.below hb0
  have B0 : u0.heap[gc]? = some (.cells conZero.toList.toArray 33 (0, 0)) := box_below X1 hx2
  have G0 : u0.heap[gi]? = some (.cells [.bool false, .bool false, .bool false, .bool false, .bool false, .bool false, .bool false].toArray 77 (0, 0)) := X2
  have I0 := hide (Inv.start l)
  have h0 := hl
  have c0 := hc
  clear X0 X1 X2 hx hx2 hr hc hl HZ1
  have CT := RGetText_at hb0.size R0 c0 h0
  go_wp2_with (first
    | (go_at_call 61; refine CT.mono ?_; rintro e p1 ⟨s1, r1, o1, ⟨A1, k1, rfl, R1, c1, kb1⟩, re1⟩)
    | refine wpList_store1 rfl (.tmp 14) (.tmp 11) rfl rfl sizeS gc 0 rfl (.string (str s1)) rfl rfl (conZero.toList) 33 (box_below B0 kb1) (by simp [patch, conZero]) ?_)
  intro m1 B1 g1 z1
  have hs1 := Nat.le_trans hb0.size kb1.size
  have Y1 := box_grown (box_below Z0 kb1) g1 (by have := HC.out; omega)
  have GI := box_grown (box_below G0 kb1) g1 (by have := HC.out; have := HG.out; omega)
  have hm1 := (ext_trans hb0 kb1).grown g1 hs1 (fun q hq => by injection hq with hq; have := HC.out; omega)
  have Q1 := R1.grown g1 hs1 (fun q hq => by injection hq with hq; have := HC.out; omega)
  have I1 := hide (I0.out.text (fun C => C.text) tail1 (fun C _ _ => rfl) (fun C hC _ => by have := hC.text; omega) re1)
  have h1 : r1.length ≤ 16777216 := Nat.le_trans ((resS_len re1).1) h0
  have F1 := hide (show (str s1).size ≤ 16777216 by rw [str_size]; have := (resS_len re1).2; omega)
  clear CT B0 Z0 G0 R0 R1 kb1 g1 z1 re1 I0 hb0 hs1 c0
  go_wp2_with (refine wpList_store1 rfl (.tmp 15) (.tmp 13) rfl rfl sizeT1 gi 0 rfl (.bool o1) rfl rfl ([.bool false, .bool false, .bool false, .bool false, .bool false, .bool false, .bool false]) 77 GI (by decide) ?_)
  intro u1 G1 j1 y1
  replace G1 : u1.heap[gi]? = some (.cells ([.bool o1, .bool false, .bool false, .bool false, .bool false, .bool false, .bool false]).toArray 77 (0, 0)) := G1
  have Z1 := box_grown Y1 j1 (by have := HG.out; omega)
  have B1 := box_grown B1 j1 (by have := HC.out; have := HG.out; omega)
  have hb1 := hm1.grown j1 hm1.size (fun q hq => by injection hq with hq; have := HG.out; omega)
  have R1 := Q1.grown j1 hm1.size (fun q hq => by injection hq with hq; have := HG.out; omega)
  clear Y1 GI hm1 Q1 j1 y1
  cases o1 with
  | false =>
    have HW := hide (I1.out.no (by simp))
    clear I1 R1 B1
    have q0 := box_at G1 (j := 0) rfl
    have q1 := box_at G1 (j := 1) rfl
    have q2 := box_at G1 (j := 2) rfl
    have q3 := box_at G1 (j := 3) rfl
    have q4 := box_at G1 (j := 4) rfl
    have q5 := box_at G1 (j := 5) rfl
    have q6 := box_at G1 (j := 6) rfl
    clear G1
    go_wp2_with (refine wpList_storeB rfl (.tmp 2) (.tmp 79) rfl rfl strcC w.heap.size 0 rfl conZero.toList rfl rfl (by decide) conZero.toList 33 Z1 (by decide) ?_)
    intro u9 B9 g9 z9
    have hb9 := hb1.grown g9 hb1.size (fun q hq => by injection hq with hq; omega)
    go_wp2_with fail
    exact bodyPost_cell26 strcC rfl w.heap.size rfl (.bool false) rfl rfl B9 (by decide) ⟨conZero.toList, Con.zero, false, rfl, conZero_R _ _, zero_fine, (fun h => by cases h), fun _ => ⟨rfl, HW.out⟩, hb9⟩
  | true =>
  have q0 := box_at G1 (j := 0) rfl
  have I1' := I1.out
  simp only [Bool.not_true, Bool.or_false, Bool.false_or] at I1'
  have I1 := hide I1'
  clear I1'
  have CT := RGetInt_at hb1.size R1 c1 h1
  go_wp2_with (first
    | (go_at_call 62; refine CT.mono ?_; rintro e p2 ⟨n2, r2, o2, ⟨A2, k2, rfl, R2, c2, kb2⟩, re2⟩)
    | refine wpList_store1 rfl (.tmp 24) (.tmp 21) rfl rfl sizeI gc 1 rfl (.int .i64 n2) rfl rfl (patch (conZero.toList) 0 [.string (str s1)]) 33 (box_below B1 kb2) (by simp [patch, conZero]) ?_)
  intro m2 B2 g2 z2
  have hs2 := Nat.le_trans hb1.size kb2.size
  have Y2 := box_grown (box_below Z1 kb2) g2 (by have := HC.out; omega)
  have GI := box_grown (box_below G1 kb2) g2 (by have := HC.out; have := HG.out; omega)
  have hm2 := (ext_trans hb1 kb2).grown g2 hs2 (fun q hq => by injection hq with hq; have := HC.out; omega)
  have Q2 := R2.grown g2 hs2 (fun q hq => by injection hq with hq; have := HC.out; omega)
  have I2 := hide (I1.out.int (fun C => C.n) tail2 (fun C _ _ => rfl) (fun C hC _ => hC.n) re2)
  have h2 : r2.length ≤ 16777216 := Nat.le_trans (resI_len re2) h1
  have F2 := hide (res_I64 re2)
  clear CT B1 Z1 G1 R1 R2 kb2 g2 z2 re2 I1 hb1 hs2 c1
  go_wp2_with (refine wpList_store1 rfl (.tmp 25) (.tmp 23) rfl rfl sizeT1 gi 1 rfl (.bool o2) rfl rfl ([.bool true, .bool false, .bool false, .bool false, .bool false, .bool false, .bool false]) 77 GI (by decide) ?_)
  intro u2 G2 j2 y2
  replace G2 : u2.heap[gi]? = some (.cells ([.bool true, .bool o2, .bool false, .bool false, .bool false, .bool false, .bool false]).toArray 77 (0, 0)) := G2
  have Z2 := box_grown Y2 j2 (by have := HG.out; omega)
  have B2 := box_grown B2 j2 (by have := HC.out; have := HG.out; omega)
  have hb2 := hm2.grown j2 hm2.size (fun q hq => by injection hq with hq; have := HG.out; omega)
  have R2 := Q2.grown j2 hm2.size (fun q hq => by injection hq with hq; have := HG.out; omega)
  clear Y2 GI hm2 Q2 j2 y2
  cases o2 with
  | false =>
    have HW := hide (I2.out.no (by simp))
    clear I2 R2 B2
    have q1 := box_at G2 (j := 1) rfl
    have q2 := box_at G2 (j := 2) rfl
    have q3 := box_at G2 (j := 3) rfl
    have q4 := box_at G2 (j := 4) rfl
    have q5 := box_at G2 (j := 5) rfl
    have q6 := box_at G2 (j := 6) rfl
    clear G2
    go_wp2_with (refine wpList_storeB rfl (.tmp 2) (.tmp 79) rfl rfl strcC w.heap.size 0 rfl conZero.toList rfl rfl (by decide) conZero.toList 33 Z2 (by decide) ?_)
    intro u9 B9 g9 z9
    have hb9 := hb2.grown g9 hb2.size (fun q hq => by injection hq with hq; omega)
    go_wp2_with fail
    exact bodyPost_cell26 strcC rfl w.heap.size rfl (.bool false) rfl rfl B9 (by decide) ⟨conZero.toList, Con.zero, false, rfl, conZero_R _ _, zero_fine, (fun h => by cases h), fun _ => ⟨rfl, HW.out⟩, hb9⟩
  | true =>
  have q0 := box_at G2 (j := 1) rfl
  have I2' := I2.out
  simp only [Bool.not_true, Bool.or_false, Bool.false_or] at I2'
  have I2 := hide I2'
  clear I2'
  have CT := RGetInt_at hb2.size R2 c2 h2
  go_wp2_with (first
    | (go_at_call 62; refine CT.mono ?_; rintro e p3 ⟨n3, r3, o3, ⟨A3, k3, rfl, R3, c3, kb3⟩, re3⟩)
    | refine wpList_store1 rfl (.tmp 34) (.tmp 31) rfl rfl sizeI gc 2 rfl (.int .i64 n3) rfl rfl (patch (patch (conZero.toList) 0 [.string (str s1)]) 1 [.int .i64 n2]) 33 (box_below B2 kb3) (by simp [patch, conZero]) ?_)
  intro m3 B3 g3 z3
  have hs3 := Nat.le_trans hb2.size kb3.size
  have Y3 := box_grown (box_below Z2 kb3) g3 (by have := HC.out; omega)
  have GI := box_grown (box_below G2 kb3) g3 (by have := HC.out; have := HG.out; omega)
  have hm3 := (ext_trans hb2 kb3).grown g3 hs3 (fun q hq => by injection hq with hq; have := HC.out; omega)
  have Q3 := R3.grown g3 hs3 (fun q hq => by injection hq with hq; have := HC.out; omega)
  have I3 := hide (I2.out.int (fun C => C.target) tail3 (fun C _ _ => rfl) (fun C hC _ => hC.target) re3)
  have h3 : r3.length ≤ 16777216 := Nat.le_trans (resI_len re3) h2
  have F3 := hide (res_I64 re3)
  clear CT B2 Z2 G2 R2 R3 kb3 g3 z3 re3 I2 hb2 hs3 c2
  go_wp2_with (refine wpList_store1 rfl (.tmp 35) (.tmp 33) rfl rfl sizeT1 gi 2 rfl (.bool o3) rfl rfl ([.bool true, .bool true, .bool false, .bool false, .bool false, .bool false, .bool false]) 77 GI (by decide) ?_)
  intro u3 G3 j3 y3
  replace G3 : u3.heap[gi]? = some (.cells ([.bool true, .bool true, .bool o3, .bool false, .bool false, .bool false, .bool false]).toArray 77 (0, 0)) := G3
  have Z3 := box_grown Y3 j3 (by have := HG.out; omega)
  have B3 := box_grown B3 j3 (by have := HC.out; have := HG.out; omega)
  have hb3 := hm3.grown j3 hm3.size (fun q hq => by injection hq with hq; have := HG.out; omega)
  have R3 := Q3.grown j3 hm3.size (fun q hq => by injection hq with hq; have := HG.out; omega)
  clear Y3 GI hm3 Q3 j3 y3
  cases o3 with
  | false =>
    have HW := hide (I3.out.no (by simp))
    clear I3 R3 B3
    have q2 := box_at G3 (j := 2) rfl
    have q3 := box_at G3 (j := 3) rfl
    have q4 := box_at G3 (j := 4) rfl
    have q5 := box_at G3 (j := 5) rfl
    have q6 := box_at G3 (j := 6) rfl
    clear G3
    go_wp2_with (refine wpList_storeB rfl (.tmp 2) (.tmp 79) rfl rfl strcC w.heap.size 0 rfl conZero.toList rfl rfl (by decide) conZero.toList 33 Z3 (by decide) ?_)
    intro u9 B9 g9 z9
    have hb9 := hb3.grown g9 hb3.size (fun q hq => by injection hq with hq; omega)
    go_wp2_with fail
    exact bodyPost_cell26 strcC rfl w.heap.size rfl (.bool false) rfl rfl B9 (by decide) ⟨conZero.toList, Con.zero, false, rfl, conZero_R _ _, zero_fine, (fun h => by cases h), fun _ => ⟨rfl, HW.out⟩, hb9⟩
  | true =>
  have q0 := box_at G3 (j := 2) rfl
  have I3' := I3.out
  simp only [Bool.not_true, Bool.or_false, Bool.false_or] at I3'
  have I3 := hide I3'
  clear I3'
  have CT := RGetBool_at hb3.size R3 c3 h3
  go_wp2_with (first
    | (go_at_call 63; refine CT.mono ?_; rintro e p4 ⟨b4, r4, o4, ⟨A4, k4, rfl, R4, c4, kb4⟩, re4⟩)
    | refine wpList_store1 rfl (.tmp 44) (.tmp 41) rfl rfl sizeT1 gc 3 rfl (.bool b4) rfl rfl (patch (patch (patch (conZero.toList) 0 [.string (str s1)]) 1 [.int .i64 n2]) 2 [.int .i64 n3]) 33 (box_below B3 kb4) (by simp [patch, conZero]) ?_)
  intro m4 B4 g4 z4
  have hs4 := Nat.le_trans hb3.size kb4.size
  have Y4 := box_grown (box_below Z3 kb4) g4 (by have := HC.out; omega)
  have GI := box_grown (box_below G3 kb4) g4 (by have := HC.out; have := HG.out; omega)
  have hm4 := (ext_trans hb3 kb4).grown g4 hs4 (fun q hq => by injection hq with hq; have := HC.out; omega)
  have Q4 := R4.grown g4 hs4 (fun q hq => by injection hq with hq; have := HC.out; omega)
  have I4 := hide (I3.out.truth (fun C => C.thread) tail4 (fun C _ _ => rfl) re4)
  have h4 : r4.length ≤ 16777216 := Nat.le_trans (resB_len re4) h3
  clear CT B3 Z3 G3 R3 R4 kb4 g4 z4 re4 I3 hb3 hs4 c3
  go_wp2_with (refine wpList_store1 rfl (.tmp 45) (.tmp 43) rfl rfl sizeT1 gi 3 rfl (.bool o4) rfl rfl ([.bool true, .bool true, .bool true, .bool false, .bool false, .bool false, .bool false]) 77 GI (by decide) ?_)
  intro u4 G4 j4 y4
  replace G4 : u4.heap[gi]? = some (.cells ([.bool true, .bool true, .bool true, .bool o4, .bool false, .bool false, .bool false]).toArray 77 (0, 0)) := G4
  have Z4 := box_grown Y4 j4 (by have := HG.out; omega)
  have B4 := box_grown B4 j4 (by have := HC.out; have := HG.out; omega)
  have hb4 := hm4.grown j4 hm4.size (fun q hq => by injection hq with hq; have := HG.out; omega)
  have R4 := Q4.grown j4 hm4.size (fun q hq => by injection hq with hq; have := HG.out; omega)
  clear Y4 GI hm4 Q4 j4 y4
  cases o4 with
  | false =>
    have HW := hide (I4.out.no (by simp))
    clear I4 R4 B4
    have q3 := box_at G4 (j := 3) rfl
    have q4 := box_at G4 (j := 4) rfl
    have q5 := box_at G4 (j := 5) rfl
    have q6 := box_at G4 (j := 6) rfl
    clear G4
    go_wp2_with (refine wpList_storeB rfl (.tmp 2) (.tmp 79) rfl rfl strcC w.heap.size 0 rfl conZero.toList rfl rfl (by decide) conZero.toList 33 Z4 (by decide) ?_)
    intro u9 B9 g9 z9
    have hb9 := hb4.grown g9 hb4.size (fun q hq => by injection hq with hq; omega)
    go_wp2_with fail
    exact bodyPost_cell26 strcC rfl w.heap.size rfl (.bool false) rfl rfl B9 (by decide) ⟨conZero.toList, Con.zero, false, rfl, conZero_R _ _, zero_fine, (fun h => by cases h), fun _ => ⟨rfl, HW.out⟩, hb9⟩
  | true =>
  have q0 := box_at G4 (j := 3) rfl
  have I4' := I4.out
  simp only [Bool.not_true, Bool.or_false, Bool.false_or] at I4'
  have I4 := hide I4'
  clear I4'
  have CT := RGetText_at hb4.size R4 c4 h4
  go_wp2_with (first
    | (go_at_call 61; refine CT.mono ?_; rintro e p5 ⟨s5, r5, o5, ⟨A5, k5, rfl, R5, c5, kb5⟩, re5⟩)
    | refine wpList_store1 rfl (.tmp 54) (.tmp 51) rfl rfl sizeS gc 4 rfl (.string (str s5)) rfl rfl (patch (patch (patch (patch (conZero.toList) 0 [.string (str s1)]) 1 [.int .i64 n2]) 2 [.int .i64 n3]) 3 [.bool b4]) 33 (box_below B4 kb5) (by simp [patch, conZero]) ?_)
  intro m5 B5 g5 z5
  have hs5 := Nat.le_trans hb4.size kb5.size
  have Y5 := box_grown (box_below Z4 kb5) g5 (by have := HC.out; omega)
  have GI := box_grown (box_below G4 kb5) g5 (by have := HC.out; have := HG.out; omega)
  have hm5 := (ext_trans hb4 kb5).grown g5 hs5 (fun q hq => by injection hq with hq; have := HC.out; omega)
  have Q5 := R5.grown g5 hs5 (fun q hq => by injection hq with hq; have := HC.out; omega)
  have I5 := hide (I4.out.text (fun C => C.via) tail5 (fun C _ _ => rfl) (fun C hC _ => by have := hC.via; omega) re5)
  have h5 : r5.length ≤ 16777216 := Nat.le_trans ((resS_len re5).1) h4
  have F5 := hide (show (str s5).size ≤ 16777216 by rw [str_size]; have := (resS_len re5).2; omega)
  clear CT B4 Z4 G4 R4 R5 kb5 g5 z5 re5 I4 hb4 hs5 c4
  go_wp2_with (refine wpList_store1 rfl (.tmp 55) (.tmp 53) rfl rfl sizeT1 gi 4 rfl (.bool o5) rfl rfl ([.bool true, .bool true, .bool true, .bool true, .bool false, .bool false, .bool false]) 77 GI (by decide) ?_)
  intro u5 G5 j5 y5
  replace G5 : u5.heap[gi]? = some (.cells ([.bool true, .bool true, .bool true, .bool true, .bool o5, .bool false, .bool false]).toArray 77 (0, 0)) := G5
  have Z5 := box_grown Y5 j5 (by have := HG.out; omega)
  have B5 := box_grown B5 j5 (by have := HC.out; have := HG.out; omega)
  have hb5 := hm5.grown j5 hm5.size (fun q hq => by injection hq with hq; have := HG.out; omega)
  have R5 := Q5.grown j5 hm5.size (fun q hq => by injection hq with hq; have := HG.out; omega)
  clear Y5 GI hm5 Q5 j5 y5
  cases o5 with
  | false =>
    have HW := hide (I5.out.no (by simp))
    clear I5 R5 B5
    have q4 := box_at G5 (j := 4) rfl
    have q5 := box_at G5 (j := 5) rfl
    have q6 := box_at G5 (j := 6) rfl
    clear G5
    go_wp2_with (refine wpList_storeB rfl (.tmp 2) (.tmp 79) rfl rfl strcC w.heap.size 0 rfl conZero.toList rfl rfl (by decide) conZero.toList 33 Z5 (by decide) ?_)
    intro u9 B9 g9 z9
    have hb9 := hb5.grown g9 hb5.size (fun q hq => by injection hq with hq; omega)
    go_wp2_with fail
    exact bodyPost_cell26 strcC rfl w.heap.size rfl (.bool false) rfl rfl B9 (by decide) ⟨conZero.toList, Con.zero, false, rfl, conZero_R _ _, zero_fine, (fun h => by cases h), fun _ => ⟨rfl, HW.out⟩, hb9⟩
  | true =>
  have q0 := box_at G5 (j := 4) rfl
  have I5' := I5.out
  simp only [Bool.not_true, Bool.or_false, Bool.false_or] at I5'
  have I5 := hide I5'
  clear I5'
  have CT := RGetTexts_at hb5.size R5 c5 h5
  go_wp2_with (first
    | (go_at_call 64; refine CT.mono ?_; rintro e p6 ⟨t6, r6, o6, ⟨v6, A6, k6, rfl, ow6, R6, c6, kb6⟩, re6⟩)
    | refine wpList_store1 rfl (.tmp 64) (.tmp 61) rfl rfl sizeT gc 5 rfl (v6) rfl (own_one ow6) (patch (patch (patch (patch (patch (conZero.toList) 0 [.string (str s1)]) 1 [.int .i64 n2]) 2 [.int .i64 n3]) 3 [.bool b4]) 4 [.string (str s5)]) 33 (box_below B5 kb6) (by simp [patch, conZero]) ?_)
  intro m6 B6 g6 z6
  have hs6 := Nat.le_trans hb5.size kb6.size
  have Y6 := box_grown (box_below Z5 kb6) g6 (by have := HC.out; omega)
  have GI := box_grown (box_below G5 kb6) g6 (by have := HC.out; have := HG.out; omega)
  have hm6 := (ext_trans hb5 kb6).grown g6 hs6 (fun q hq => by injection hq with hq; have := HC.out; omega)
  have Q6 := R6.grown g6 hs6 (fun q hq => by injection hq with hq; have := HC.out; omega)
  have hgi6 : w.heap.size + 2 < u5.heap.size := by have h2 := (Array.getElem?_eq_some_iff.1 G5).1; have := HG.out; omega
  have sl6 := ((sls_slc ow6).weak (S' := fun b => w.heap.size + 2 < b) (fun q hq _ => by omega)).grown g6 (fun q hq e => by injection e with e; have := HC.out; omega)
  have I6 := hide (I5.out.texts (fun C => C.allow) tail6 (fun C _ _ => rfl) (fun C hC => ⟨by have := hC.allowL; omega, fun s hs => by have := hC.allow s hs; omega⟩) re6)
  have h6 : r6.length ≤ 16777216 := Nat.le_trans ((resSs_len re6).1) h5
  have F6 := hide (show (t6.map str).length ≤ 16777216 ∧ ∀ s ∈ t6.map str, s.size ≤ 16777216 from ⟨by rw [List.length_map]; have := (resSs_len re6).2.1; omega, fun s hs => by
    obtain ⟨q, hq, rfl⟩ := List.mem_map.1 hs
    rw [str_size]; have := (resSs_len re6).2.2 q hq; omega⟩)
  clear CT B5 Z5 G5 R5 R6 kb6 g6 z6 re6 I5 hb5 hs6 c5 ow6 hgi6
  go_wp2_with (refine wpList_store1 rfl (.tmp 65) (.tmp 63) rfl rfl sizeT1 gi 5 rfl (.bool o6) rfl rfl ([.bool true, .bool true, .bool true, .bool true, .bool true, .bool false, .bool false]) 77 GI (by decide) ?_)
  intro u6 G6 j6 y6
  replace G6 : u6.heap[gi]? = some (.cells ([.bool true, .bool true, .bool true, .bool true, .bool true, .bool o6, .bool false]).toArray 77 (0, 0)) := G6
  have Z6 := box_grown Y6 j6 (by have := HG.out; omega)
  have B6 := box_grown B6 j6 (by have := HC.out; have := HG.out; omega)
  have hb6 := hm6.grown j6 hm6.size (fun q hq => by injection hq with hq; have := HG.out; omega)
  have R6 := Q6.grown j6 hm6.size (fun q hq => by injection hq with hq; have := HG.out; omega)
  have sl6 := sl6.grown j6 (fun q hq e => by injection e with e; have := HG.out; omega)
  clear Y6 GI hm6 Q6 j6 y6
  cases o6 with
  | false =>
    have HW := hide (I6.out.no (by simp))
    clear I6 R6 B6
    have q5 := box_at G6 (j := 5) rfl
    have q6 := box_at G6 (j := 6) rfl
    clear G6
    go_wp2_with (refine wpList_storeB rfl (.tmp 2) (.tmp 79) rfl rfl strcC w.heap.size 0 rfl conZero.toList rfl rfl (by decide) conZero.toList 33 Z6 (by decide) ?_)
    intro u9 B9 g9 z9
    have hb9 := hb6.grown g9 hb6.size (fun q hq => by injection hq with hq; omega)
    go_wp2_with fail
    exact bodyPost_cell26 strcC rfl w.heap.size rfl (.bool false) rfl rfl B9 (by decide) ⟨conZero.toList, Con.zero, false, rfl, conZero_R _ _, zero_fine, (fun h => by cases h), fun _ => ⟨rfl, HW.out⟩, hb9⟩
  | true =>
  have q0 := box_at G6 (j := 5) rfl
  have I6' := I6.out
  simp only [Bool.not_true, Bool.or_false, Bool.false_or] at I6'
  have I6 := hide I6'
  clear I6'
  have CT := RGetTexts_at hb6.size R6 c6 h6
  go_wp2_with (first
    | (go_at_call 64; refine CT.mono ?_; rintro e p7 ⟨t7, r7, o7, ⟨v7, A7, k7, rfl, ow7, R7, c7, kb7⟩, re7⟩)
    | refine wpList_store1 rfl (.tmp 74) (.tmp 71) rfl rfl sizeT gc 6 rfl (v7) rfl (own_one ow7) (patch (patch (patch (patch (patch (patch (conZero.toList) 0 [.string (str s1)]) 1 [.int .i64 n2]) 2 [.int .i64 n3]) 3 [.bool b4]) 4 [.string (str s5)]) 5 [v6]) 33 (box_below B6 kb7) (by simp [patch, conZero]) ?_)
  intro m7 B7 g7 z7
  have hs7 := Nat.le_trans hb6.size kb7.size
  have Y7 := box_grown (box_below Z6 kb7) g7 (by have := HC.out; omega)
  have GI := box_grown (box_below G6 kb7) g7 (by have := HC.out; have := HG.out; omega)
  have hm7 := (ext_trans hb6 kb7).grown g7 hs7 (fun q hq => by injection hq with hq; have := HC.out; omega)
  have Q7 := R7.grown g7 hs7 (fun q hq => by injection hq with hq; have := HC.out; omega)
  have hgi7 : w.heap.size + 2 < u6.heap.size := by have h2 := (Array.getElem?_eq_some_iff.1 G6).1; have := HG.out; omega
  have sl7 := ((sls_slc ow7).weak (S' := fun b => w.heap.size + 2 < b) (fun q hq _ => by omega)).grown g7 (fun q hq e => by injection e with e; have := HC.out; omega)
  have sl6 := (sl6.ext kb7).grown g7 (fun q hq e => by injection e with e; have := HC.out; omega)
  have I7 := hide (I6.out.texts (fun C => C.deny) tail7 (fun C _ _ => rfl) (fun C hC => ⟨by have := hC.denyL; omega, fun s hs => by have := hC.deny s hs; omega⟩) re7)
  have h7 : r7.length ≤ 16777216 := Nat.le_trans ((resSs_len re7).1) h6
  have F7 := hide (show (t7.map str).length ≤ 16777216 ∧ ∀ s ∈ t7.map str, s.size ≤ 16777216 from ⟨by rw [List.length_map]; have := (resSs_len re7).2.1; omega, fun s hs => by
    obtain ⟨q, hq, rfl⟩ := List.mem_map.1 hs
    rw [str_size]; have := (resSs_len re7).2.2 q hq; omega⟩)
  clear CT B6 Z6 G6 R6 R7 kb7 g7 z7 re7 I6 hb6 hs7 c6 ow7 hgi7
  go_wp2_with (refine wpList_store1 rfl (.tmp 75) (.tmp 73) rfl rfl sizeT1 gi 6 rfl (.bool o7) rfl rfl ([.bool true, .bool true, .bool true, .bool true, .bool true, .bool true, .bool false]) 77 GI (by decide) ?_)
  intro u7 G7 j7 y7
  replace G7 : u7.heap[gi]? = some (.cells ([.bool true, .bool true, .bool true, .bool true, .bool true, .bool true, .bool o7]).toArray 77 (0, 0)) := G7
  have Z7 := box_grown Y7 j7 (by have := HG.out; omega)
  have B7 := box_grown B7 j7 (by have := HC.out; have := HG.out; omega)
  have hb7 := hm7.grown j7 hm7.size (fun q hq => by injection hq with hq; have := HG.out; omega)
  have R7 := Q7.grown j7 hm7.size (fun q hq => by injection hq with hq; have := HG.out; omega)
  have sl6 := sl6.grown j7 (fun q hq e => by injection e with e; have := HG.out; omega)
  have sl7 := sl7.grown j7 (fun q hq e => by injection e with e; have := HG.out; omega)
  clear Y7 GI hm7 Q7 j7 y7
  cases o7 with
  | false =>
    have HW := hide (I7.out.no (by simp))
    clear I7 R7 B7
    have q6 := box_at G7 (j := 6) rfl
    clear G7
    go_wp2_with (refine wpList_storeB rfl (.tmp 2) (.tmp 79) rfl rfl strcC w.heap.size 0 rfl conZero.toList rfl rfl (by decide) conZero.toList 33 Z7 (by decide) ?_)
    intro u9 B9 g9 z9
    have hb9 := hb7.grown g9 hb7.size (fun q hq => by injection hq with hq; omega)
    go_wp2_with fail
    exact bodyPost_cell26 strcC rfl w.heap.size rfl (.bool false) rfl rfl B9 (by decide) ⟨conZero.toList, Con.zero, false, rfl, conZero_R _ _, zero_fine, (fun h => by cases h), fun _ => ⟨rfl, HW.out⟩, hb9⟩
  | true =>
  have q0 := box_at G7 (j := 6) rfl
  have I7' := I7.out
  simp only [Bool.not_true, Bool.or_false, Bool.false_or] at I7'
  have I7 := hide I7'
  clear I7'
  have I7' := hide (I7.out.imp (ok' := True) (fun _ => rfl) (fun _ _ => trivial) (fun C _ _ hq => ⟨hq, rfl⟩))
  clear I7
  have CT := r6levels hb7.size R7 c7 h7 I7'.out
  clear I7'
  have hgl7 : w.heap.size + 2 < u7.heap.size := by have h2 := (Array.getElem?_eq_some_iff.1 G7).1; have := HG.out; omega
  go_upto_region 19 with (first
    | (go_at_call 65; refine CT.mono ?_; rintro e p8 ⟨cl, lv, A8, k8, r8, o8, rfl, hcl, hone, kb8, hy, hn⟩; have HCL := hide hcl; have HON := hide hone; clear hcl hone; have HY := hide hy; have HN := hide hn; clear hy hn)
    | refine wpList_newS rfl rfl strcL rfl (.tmp 6) (.tmp 83) rfl rfl rfl cl.toArray rfl (by simpa using HCL.out) (by simpa using HON.out) ?_)
  have X8 := heap_alloc_new p8 (.cells cl.toArray 25)
  have x8 := ext_alloc (ext_refl p8) (.cells cl.toArray 25)
  have kb9 := ext_trans kb8 x8
  have HX8 := hide x8
  have hgl8 : w.heap.size + 2 < p8.heap.size := Nat.lt_of_lt_of_le hgl7 kb8.size
  generalize p8.alloc (.cells cl.toArray 25) = u8 at X8 x8 kb9 HX8 ⊢
  obtain ⟨gv, hgv⟩ : ∃ gv, p8.heap.size = gv := ⟨_, rfl⟩
  rw [hgv] at X8 hgl8
  have Z8 := box_below Z7 kb9
  have B8 := box_below B7 kb9
  have hb8 := ext_trans hb7 kb9
  have sl6 := sl6.ext kb9
  have sl7 := sl7.ext kb9
  have HV := hide hgv
  clear CT G7 R7 q0 Z7 B7 hb7 x8
  cases o8 with
  | false =>
    have HW := hide (HN.out (by first | rfl | trivial))
    go_wp2_with (refine wpList_storeB rfl (.tmp 2) (.tmp 93) rfl rfl strcC w.heap.size 0 rfl conZero.toList rfl rfl (by decide) conZero.toList 33 Z8 (by decide) ?_)
    intro u9 B9 g9 z9
    have hb9 := hb8.grown g9 hb8.size (fun q hq => by injection hq with hq; omega)
    go_wp2_with fail
    exact bodyPost_cell26 strcC rfl w.heap.size rfl (.bool false) rfl rfl B9 (by decide) ⟨conZero.toList, Con.zero, false, rfl, conZero_R _ _, zero_fine, (fun h => by cases h), fun _ => ⟨rfl, HW.out⟩, hb9⟩
  | true =>
  by_cases hz : r8.length = 0
  rotate_left
  · have HW := hide (fun (C' : Con) (hC' : C'.told) (he : l = encCon C') => hz (by rw [((HY.out (by first | rfl | trivial)).2.2.2 C' hC' he).2.2]; rfl))
    have hpos : 0 < r8.length := by omega
    clear hz
    go_wp2_with (refine wpList_storeB rfl (.tmp 2) (.tmp 93) rfl rfl strcC w.heap.size 0 rfl conZero.toList rfl rfl (by decide) conZero.toList 33 Z8 (by decide) ?_)
    intro u9 B9 g9 z9
    have hb9 := hb8.grown g9 hb8.size (fun q hq => by injection hq with hq; omega)
    go_wp2_with fail
    exact bodyPost_cell26 strcC rfl w.heap.size rfl (.bool false) rfl rfl B9 (by decide) ⟨conZero.toList, Con.zero, false, rfl, conZero_R _ _, zero_fine, (fun h => by cases h), fun _ => ⟨rfl, HW.out⟩, hb9⟩
  have HX8b := hide X8
  clear X8
  go_wp2_with (first
    | refine wpList_loadS rfl (.tmp 6) rfl strcL ⟨gv, 0, none⟩ (by first | rfl | (simp only [HV.out]; rfl)) cl HCL.out (box_all HX8b.out) ?_
    | refine wpList_storeB rfl (.tmp 95) (.tmp 94) rfl rfl strcL gc 7 rfl cl rfl HCL.out HON.out (patch (patch (patch (patch (patch (patch (patch (conZero.toList) 0 [.string (str s1)]) 1 [.int .i64 n2]) 2 [.int .i64 n3]) 3 [.bool b4]) 4 [.string (str s5)]) 5 [v6]) 6 [v7]) 33 B8 (by simp [patch, conZero]) ?_)
  intro m9 B9 g9 z9
  obtain ⟨HLR, HLF, HI⟩ := HY.out (by first | rfl | trivial)
  have HLR := (HLR.ext HX8.out)
  obtain ⟨vu, vk, rfl, SU, SK⟩ := HLR
  have hb9 := hb8.grown g9 hb8.size (fun q hq => by injection hq with hq; have := HC.out; omega)
  have Z9 := box_grown Z8 g9 (by have := HC.out; omega)
  have sl6 := sl6.grown g9 (fun q hq e => by injection e with e; have := HC.out; omega)
  have sl7 := sl7.grown g9 (fun q hq e => by injection e with e; have := HC.out; omega)
  have SU := (SU.weak (S' := fun b => w.heap.size + 2 < b) (fun q hq _ => by omega)).grown g9 (fun q hq e => by injection e with e; have := HC.out; omega)
  have SK := (SK.weak (S' := fun b => w.heap.size + 2 < b) (fun q hq _ => by omega)).grown g9 (fun q hq e => by injection e with e; have := HC.out; omega)
  obtain ⟨CC, hCC⟩ : ∃ CC : Con, CC = ⟨str s1, n2, n3, b4, str s5, t6.map str, t7.map str, lv⟩ := ⟨_, rfl⟩
  have hP : m9.heap[gc]? = some (.cells (conCells CC v6 v7 vu vk).toArray 33 (0, 0)) := by rw [hCC]; exact B9
  have HR : ConR m9 (fun b => w.heap.size + 2 < b) (conCells CC v6 v7 vu vk) CC := ⟨v6, v7, vu, vk, rfl, by rw [hCC]; exact sl6, by rw [hCC]; exact sl7, by rw [hCC]; exact SU, by rw [hCC]; exact SK⟩
  have HF := hide (show CC.fine by rw [hCC]; exact ⟨F1.out, F5.out, F2.out, F3.out, F6.out.1, F7.out.1, F6.out.2, F7.out.2, HLF⟩)
  have HE := hide (show l = encCon CC by
    have := (HI.1 rfl).1
    rw [List.eq_nil_of_length_eq_zero hz, List.append_nil] at this
    rw [this, hCC]
    simp [encCon])
  have HLn := hide HR.length
  have HOn := hide HR.one
  generalize hcs : conCells CC v6 v7 vu vk = cs at hP HR HLn HOn
  have HP := hide hP
  have HRR := hide HR
  clear hcs hP HR hCC HI HLF B9 g9 z9 sl6 sl7 SU SK F1 F2 F3 F5 F6 F7 Z8 B8 hb8
  go_wp2_with (first
    | refine wpList_loadS rfl (.tmp 4) rfl strcC ⟨gc, 0, none⟩ rfl cs HLn.out (box_all HP.out) ?_
    | refine wpList_storeB rfl (.tmp 2) (.tmp 96) rfl rfl strcC w.heap.size 0 rfl cs rfl HLn.out HOn.out conZero.toList 33 Z9 (by decide) ?_)
  intro u9 B9 g9 z9
  rw [patch_all _ _ (by rw [HLn.out]; rfl)] at B9
  have hb9 := hb9.grown g9 hb9.size (fun q hq => by injection hq with hq; omega)
  go_wp2_with fail
  refine bodyPost_cell26 strcC rfl w.heap.size rfl (.bool true) rfl rfl B9 (by simpa using HLn.out) ⟨cs, CC, true, rfl, ?_, HF.out, fun _ => HE.out, (fun h => by cases h), hb9⟩
  exact (HRR.out.grown6 g9 (fun q hq e => by injection e with e; omega)).weak fun q hq _ => by omega
end Go.Proofs.Ytehenalnkkkajaa
