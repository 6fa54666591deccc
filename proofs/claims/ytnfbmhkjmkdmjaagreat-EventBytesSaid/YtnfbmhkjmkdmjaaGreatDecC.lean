/-
  content.Decode.
-/
import Derived.Test.YtnfbmhkjmkdmjaaGreatRLev
set_option linter.unusedVariables false
set_option linter.unusedSimpArgs false
namespace Go.Proofs.YtnfbmhkjmkdmjaaGreat
open Go.RowKit
attribute [local go_sem] Addr.add_mid
section
variable {P : Program} {fn : Func} {R : Ending → World → Prop} {a : Act} {w : World} {t : TypeId} {z C : Array Value} {n : Nat} {p q : Tmp}
theorem bodyPost_cell26 (G : Strc P t z n) (hres : fn.results = #[.cell p t, .tmp q]) (g : Nat) (hp : a.tmps.getD p undef = .pointer (some ⟨g, 0, none⟩)) (u : Value) (hq : a.tmps.getD q undef = u) (hd : a.defers = []) (hg : w.heap[g]? = some (.cells C t (0, 0))) (hC : C.size = n)
    (hR : R (.returned (.tuple #[.agg C, u])) w) : bodyPost P fn R .ret a w := by
  obtain ⟨d, hu, hrow⟩ := G.row
  refine bodyPost_ret ?_ hd hR
  have hp' : a.tmps[p]?.getD undef = .pointer (some ⟨g, 0, none⟩) := by simpa using hp
  have hq' : a.tmps[q]?.getD undef = u := by simpa using hq
  have hl := run_loadVar_row w g t t C (0, 0) d hg hu (by cases d <;> simp_all) (by rw [G.size, hC])
  simp [results, hres, hp', hq', asAddr, hl]
end
/-- a content that can be read back: nothing in it is too long -/
structure Con.fine (c : Con) : Prop where
  text : c.text.size ≤ 16777216
  via : c.via.size ≤ 16777216
  n : I64 c.n
  target : I64 c.target
  allowL : c.allow.length ≤ 16777216
  denyL : c.deny.length ≤ 16777216
  allow : ∀ s ∈ c.allow, s.size ≤ 16777216
  deny : ∀ s ∈ c.deny, s.size ≤ 16777216
  lv : c.lv.fine
theorem Con.fine.told {c : Con} (h : c.fine) : c.told where
  text := by have := h.text; omega
  via := by have := h.via; omega
  n := h.n
  target := h.target
  allowL := by have := h.allowL; omega
  denyL := by have := h.denyL; omega
  usersL := by have := h.lv.usersL; omega
  kindsL := by have := h.lv.kindsL; omega
  allow := fun s hs => by have := h.allow s hs; omega
  deny := fun s hs => by have := h.deny s hs; omega
  users := fun u hu => ⟨by have := (h.lv.users u hu).1; omega, (h.lv.users u hu).2⟩
  kinds := h.lv.kinds
  rest := by
    have hr := h.lv.rest
    exact ⟨hr _ (by simp [restL]), hr _ (by simp [restL]), hr _ (by simp [restL]), hr _ (by simp [restL]), hr _ (by simp [restL]), hr _ (by simp [restL]), hr _ (by simp [restL])⟩
theorem Con.fine.fit {c : Con} (h : c.fine) : c.fit := ⟨by have := h.allowL; omega, by have := h.denyL; omega, by have := h.lv.usersL; omega, by have := h.lv.kindsL; omega⟩
theorem zero_fine : Con.zero.fine := ⟨by decide, by decide, ⟨by decide, by decide⟩, ⟨by decide, by decide⟩, by decide, by decide, fun s h => by simp [Con.zero] at h, fun s h => by simp [Con.zero] at h, ⟨by decide, by decide, fun s h => by simp [Con.zero, Lev.zero] at h, fun s h => by simp [Con.zero, Lev.zero] at h, fun n hn => by
  simp only [restL, Con.zero, Lev.zero, List.mem_cons, List.not_mem_nil, or_false, or_self] at hn; subst hn; exact ⟨by decide, by decide⟩⟩⟩
/-- what Decode hands back of the bytes l -/
def DecV (l : List UInt8) (w : World) (e : Ending) (w' : World) : Prop :=
  ∃ cs C ok, e = .returned (.tuple #[.agg cs.toArray, .bool ok]) ∧ ConR w' (w.heap.size ≤ ·) cs C ∧ C.fine ∧ (ok = true → l = encCon C) ∧ (ok = false → C = Con.zero ∧ ∀ C' : Con, C'.told → l ≠ encCon C') ∧ Below w.heap.size w w'
theorem ConR.grown6 {w w' : World} {S : Nat → Prop} {cs : List Value} {c : Con} {row : Option Nat} (h : ConR w S cs c) (hg : w.grownBy w' row) (hr : ∀ b, S b → row ≠ some b) : ConR w' S cs c := by
  obtain ⟨va, vd, vu, vk, rfl, h1, h2, h3, h4⟩ := h
  exact ⟨va, vd, vu, vk, rfl, h1.grown hg hr, h2.grown hg hr, h3.grown hg hr, h4.grown hg hr⟩
theorem conZero_R (w : World) (S : Nat → Prop) : ConR w S conZero.toList Con.zero := ⟨_, _, _, _, rfl, Slc.nil _ _ _, Slc.nil _ _ _, Slc.nil _ _ _, Slc.nil _ _ _⟩

set_option maxRecDepth 100000 in
set_option maxHeartbeats 8000000 in
theorem Decode_any {A : Option Addr} {c : Nat} {l : List UInt8} {w : World} (hr : Row w w.heap.size A (bvs l)) (hc : l.length ≤ c) (hl : l.length ≤ 16777216) :
    Calls Tryz.prog 66 #[.slice A l.length c] w (DecV l w) := by
  have X0 := heap_alloc_new w (.cells conZero 30)
  have hx0 := ext_alloc (ext_refl w) (.cells conZero 30)
  go_enter Tryz.func66, Tryz.ntmps66
  go_upto_region 1 with (refine wpList_zeroS rfl rfl strcC ?_)
  go_simp
  generalize hW : w.alloc (.cells conZero 30) = Wa at X0 hx0 ⊢
  have hz0 : Wa.heap.size = w.heap.size + 1 := by rw [← hW]; simp
  have HZ0 := hide hz0
  clear hW hz0
  go_upto_region 2 with fail
  have X1 := heap_alloc_new Wa (.cells #[.slice A l.length c, .bool false] 133)
  have hx1 := ext_alloc (ext_refl Wa) (.cells #[.slice A l.length c, .bool false] 133)
  have hz1 : (Wa.alloc (.cells #[.slice A l.length c, .bool false] 133)).heap.size = Wa.heap.size + 1 := by simp
  generalize Wa.alloc (.cells #[.slice A l.length c, .bool false] 133) = Wb at X1 hx1 hz1 ⊢
  generalize hG : Wa.heap.size = g at X1 hz1 ⊢
  have HG := hide (show g = w.heap.size + 1 by rw [← hG]; exact HZ0.out)
  have HZ1 := hide (show Wb.heap.size = g + 1 from hz1)
  have hx := ext_trans hx0 hx1
  replace X0 := box_below X0 hx1
  clear hz1 hG hx0 hx1 HZ0
  go_upto_region 3 with (refine wpList_zeroS rfl rfl strcC ?_)
  go_simp
  have X2 := heap_alloc_new Wb (.cells conZero 30)
  have hx2 := ext_alloc (ext_refl Wb) (.cells conZero 30)
  generalize Wb.alloc (.cells conZero 30) = u0 at X2 hx2 ⊢
  generalize hG : Wb.heap.size = gc at X2 ⊢
  have HC := hide (show gc = w.heap.size + 2 by rw [← hG, HZ1.out, HG.out])
  clear hG
  have Z0 := box_below X0 hx2
  have hb0 := ext_trans hx hx2
  have R0 : RdR u0 g (· ≠ gc) l false := ⟨A, c, box_below X1 hx2, hc, hr.ext hb0, fun hn ad ha e => by
    obtain ⟨ad', e', hlt, _⟩ := hr (by intro h; exact hn (by simpa [bvs] using h))
    rw [ha] at e'; injection e' with e'; subst e'; have := HC.out; omega⟩
  have B0 : u0.heap[gc]? = some (.cells conZero.toList.toArray 30 (0, 0)) := X2
  have I0 := hide (Inv.start l)
  have HCL := hide hc
  clear X0 X1 X2 hx hx2 hr hc HZ1
  have h0 := hl
  clear hl
  have CT := rtext R0 h0
  go_wp2_with (first
    | (go_at_call 132; refine CT.mono ?_; rintro e p1 ⟨s1, r1, o1, rfl, re1, R1, G1⟩)
    | refine wpList_store1 rfl (.tmp 11) (.tmp 10) rfl rfl sizeS gc 0 rfl (.string (str s1)) rfl rfl (conZero.toList) 30 (box_grown B0 G1 (by have := HG.out; have := HC.out; omega)) (by simp [patch, conZero]) ?_)
  intro u1 B1 g1 z1
  have Z1 := box_grown (box_grown Z0 G1 (by have := HG.out; omega)) g1 (by have := HC.out; omega)
  have hm1 := (Array.getElem?_eq_some_iff.1 B0).1
  have hb1 := (hb0.grown G1 hb0.size (fun q hq => by injection hq with hq; have := HG.out; omega)).grown g1 (Nat.le_trans hb0.size G1.size) (fun q hq => by injection hq with hq; have := HC.out; omega)
  have Q1 := (R1.weak (S' := (· ≠ gc)) (fun q hq _ => by omega)).grown g1 (fun e => by injection e with e; have := HG.out; have := HC.out; omega) (fun q hq e => by injection e with e; exact hq e.symm)
  have I1 := hide (I0.out.text (fun C => C.text) tail1 (fun C _ _ => rfl) (fun C hC _ => by have := hC.text; omega) re1)
  have h1 : r1.length ≤ 16777216 := Nat.le_trans ((resS_len re1).1) h0
  have F1 := hide (show (str s1).size ≤ 16777216 by rw [str_size]; have := (resS_len re1).2; omega)
  clear CT B0 Z0 R0 R1 G1 g1 z1 re1 I0 hb0 hm1
  have R1 := Q1
  clear Q1
  have CT := rnumber R1 h1
  go_wp2_with (first
    | (go_at_call 133; refine CT.mono ?_; rintro e p2 ⟨n2, r2, o2, rfl, re2, R2, G2⟩)
    | refine wpList_store1 rfl (.tmp 14) (.tmp 13) rfl rfl sizeI gc 1 rfl (.int .i64 n2) rfl rfl (patch (conZero.toList) 0 [.string (str s1)]) 30 (box_grown B1 G2 (by have := HG.out; have := HC.out; omega)) (by simp [patch, conZero]) ?_)
  intro u2 B2 g2 z2
  have Z2 := box_grown (box_grown Z1 G2 (by have := HG.out; omega)) g2 (by have := HC.out; omega)
  have hm2 := (Array.getElem?_eq_some_iff.1 B1).1
  have hb2 := (hb1.grown G2 hb1.size (fun q hq => by injection hq with hq; have := HG.out; omega)).grown g2 (Nat.le_trans hb1.size G2.size) (fun q hq => by injection hq with hq; have := HC.out; omega)
  have Q2 := (R2.weak (S' := (· ≠ gc)) (fun q hq _ => by omega)).grown g2 (fun e => by injection e with e; have := HG.out; have := HC.out; omega) (fun q hq e => by injection e with e; exact hq e.symm)
  have I2 := hide (I1.out.int (fun C => C.n) tail2 (fun C _ _ => rfl) (fun C hC _ => hC.n) re2)
  have h2 : r2.length ≤ 16777216 := Nat.le_trans (resI_len re2) h1
  have F2 := hide (res_I64 re2)
  clear CT B1 Z1 R1 R2 G2 g2 z2 re2 I1 hb1 hm2
  have R2 := Q2
  clear Q2
  have CT := rnumber R2 h2
  go_wp2_with (first
    | (go_at_call 133; refine CT.mono ?_; rintro e p3 ⟨n3, r3, o3, rfl, re3, R3, G3⟩)
    | refine wpList_store1 rfl (.tmp 17) (.tmp 16) rfl rfl sizeI gc 2 rfl (.int .i64 n3) rfl rfl (patch (patch (conZero.toList) 0 [.string (str s1)]) 1 [.int .i64 n2]) 30 (box_grown B2 G3 (by have := HG.out; have := HC.out; omega)) (by simp [patch, conZero]) ?_)
  intro u3 B3 g3 z3
  have Z3 := box_grown (box_grown Z2 G3 (by have := HG.out; omega)) g3 (by have := HC.out; omega)
  have hm3 := (Array.getElem?_eq_some_iff.1 B2).1
  have hb3 := (hb2.grown G3 hb2.size (fun q hq => by injection hq with hq; have := HG.out; omega)).grown g3 (Nat.le_trans hb2.size G3.size) (fun q hq => by injection hq with hq; have := HC.out; omega)
  have Q3 := (R3.weak (S' := (· ≠ gc)) (fun q hq _ => by omega)).grown g3 (fun e => by injection e with e; have := HG.out; have := HC.out; omega) (fun q hq e => by injection e with e; exact hq e.symm)
  have I3 := hide (I2.out.int (fun C => C.target) tail3 (fun C _ _ => rfl) (fun C hC _ => hC.target) re3)
  have h3 : r3.length ≤ 16777216 := Nat.le_trans (resI_len re3) h2
  have F3 := hide (res_I64 re3)
  clear CT B2 Z2 R2 R3 G3 g3 z3 re3 I2 hb2 hm3
  have R3 := Q3
  clear Q3
  have CT := rtruth R3 h3
  go_wp2_with (first
    | (go_at_call 134; refine CT.mono ?_; rintro e p4 ⟨b4, r4, o4, rfl, re4, R4, G4⟩)
    | refine wpList_store1 rfl (.tmp 20) (.tmp 19) rfl rfl sizeT1 gc 3 rfl (.bool b4) rfl rfl (patch (patch (patch (conZero.toList) 0 [.string (str s1)]) 1 [.int .i64 n2]) 2 [.int .i64 n3]) 30 (box_grown B3 G4 (by have := HG.out; have := HC.out; omega)) (by simp [patch, conZero]) ?_)
  intro u4 B4 g4 z4
  have Z4 := box_grown (box_grown Z3 G4 (by have := HG.out; omega)) g4 (by have := HC.out; omega)
  have hm4 := (Array.getElem?_eq_some_iff.1 B3).1
  have hb4 := (hb3.grown G4 hb3.size (fun q hq => by injection hq with hq; have := HG.out; omega)).grown g4 (Nat.le_trans hb3.size G4.size) (fun q hq => by injection hq with hq; have := HC.out; omega)
  have Q4 := (R4.weak (S' := (· ≠ gc)) (fun q hq _ => by omega)).grown g4 (fun e => by injection e with e; have := HG.out; have := HC.out; omega) (fun q hq e => by injection e with e; exact hq e.symm)
  have I4 := hide (I3.out.truth (fun C => C.thread) tail4 (fun C _ _ => rfl) re4)
  have h4 : r4.length ≤ 16777216 := Nat.le_trans (resB_len re4) h3
  clear CT B3 Z3 R3 R4 G4 g4 z4 re4 I3 hb3 hm4
  have R4 := Q4
  clear Q4
  have CT := rtext R4 h4
  go_wp2_with (first
    | (go_at_call 132; refine CT.mono ?_; rintro e p5 ⟨s5, r5, o5, rfl, re5, R5, G5⟩)
    | refine wpList_store1 rfl (.tmp 23) (.tmp 22) rfl rfl sizeS gc 4 rfl (.string (str s5)) rfl rfl (patch (patch (patch (patch (conZero.toList) 0 [.string (str s1)]) 1 [.int .i64 n2]) 2 [.int .i64 n3]) 3 [.bool b4]) 30 (box_grown B4 G5 (by have := HG.out; have := HC.out; omega)) (by simp [patch, conZero]) ?_)
  intro u5 B5 g5 z5
  have Z5 := box_grown (box_grown Z4 G5 (by have := HG.out; omega)) g5 (by have := HC.out; omega)
  have hm5 := (Array.getElem?_eq_some_iff.1 B4).1
  have hb5 := (hb4.grown G5 hb4.size (fun q hq => by injection hq with hq; have := HG.out; omega)).grown g5 (Nat.le_trans hb4.size G5.size) (fun q hq => by injection hq with hq; have := HC.out; omega)
  have Q5 := (R5.weak (S' := (· ≠ gc)) (fun q hq _ => by omega)).grown g5 (fun e => by injection e with e; have := HG.out; have := HC.out; omega) (fun q hq e => by injection e with e; exact hq e.symm)
  have I5 := hide (I4.out.text (fun C => C.via) tail5 (fun C _ _ => rfl) (fun C hC _ => by have := hC.via; omega) re5)
  have h5 : r5.length ≤ 16777216 := Nat.le_trans ((resS_len re5).1) h4
  have F5 := hide (show (str s5).size ≤ 16777216 by rw [str_size]; have := (resS_len re5).2; omega)
  clear CT B4 Z4 R4 R5 G5 g5 z5 re5 I4 hb4 hm5
  have R5 := Q5
  clear Q5
  have CT := rtexts R5 h5
  go_wp2_with (first
    | (go_at_call 135; refine CT.mono ?_; rintro e p6 ⟨v6, t6, r6, o6, rfl, sl6, re6, R6, G6⟩)
    | refine wpList_store1 rfl (.tmp 26) (.tmp 25) rfl rfl sizeT gc 5 rfl (v6) rfl sl6.one (patch (patch (patch (patch (patch (conZero.toList) 0 [.string (str s1)]) 1 [.int .i64 n2]) 2 [.int .i64 n3]) 3 [.bool b4]) 4 [.string (str s5)]) 30 (box_grown B5 G6 (by have := HG.out; have := HC.out; omega)) (by simp [patch, conZero]) ?_)
  intro u6 B6 g6 z6
  have Z6 := box_grown (box_grown Z5 G6 (by have := HG.out; omega)) g6 (by have := HC.out; omega)
  have hm6 := (Array.getElem?_eq_some_iff.1 B5).1
  have hb6 := (hb5.grown G6 hb5.size (fun q hq => by injection hq with hq; have := HG.out; omega)).grown g6 (Nat.le_trans hb5.size G6.size) (fun q hq => by injection hq with hq; have := HC.out; omega)
  have Q6 := (R6.weak (S' := (· ≠ gc)) (fun q hq _ => by omega)).grown g6 (fun e => by injection e with e; have := HG.out; have := HC.out; omega) (fun q hq e => by injection e with e; exact hq e.symm)
  have hgs5 : w.heap.size + 2 < u5.heap.size := by have := HC.out; have := HG.out; omega
  have sl6 := (sl6.weak (S' := fun b => w.heap.size + 2 < b) (fun q hq _ => by omega)).grown g6 (fun q hq e => by injection e with e; have := HC.out; omega)
  have I6 := hide (I5.out.texts (fun C => C.allow) tail6 (fun C _ _ => rfl) (fun C hC => ⟨by have := hC.allowL; omega, fun s hs => by have := hC.allow s hs; omega⟩) re6)
  have h6 : r6.length ≤ 16777216 := Nat.le_trans ((resSs_len re6).1) h5
  have F6 := hide (show (t6.map str).length ≤ 16777216 ∧ ∀ s ∈ t6.map str, s.size ≤ 16777216 from ⟨by rw [List.length_map]; have := (resSs_len re6).2.1; omega, fun s hs => by
    obtain ⟨q, hq, rfl⟩ := List.mem_map.1 hs
    rw [str_size]; have := (resSs_len re6).2.2 q hq; omega⟩)
  clear CT B5 Z5 R5 R6 G6 g6 z6 re6 I5 hb5 hm6
  have R6 := Q6
  clear Q6
  have CT := rtexts R6 h6
  go_wp2_with (first
    | (go_at_call 135; refine CT.mono ?_; rintro e p7 ⟨v7, t7, r7, o7, rfl, sl7, re7, R7, G7⟩)
    | refine wpList_store1 rfl (.tmp 29) (.tmp 28) rfl rfl sizeT gc 6 rfl (v7) rfl sl7.one (patch (patch (patch (patch (patch (patch (conZero.toList) 0 [.string (str s1)]) 1 [.int .i64 n2]) 2 [.int .i64 n3]) 3 [.bool b4]) 4 [.string (str s5)]) 5 [v6]) 30 (box_grown B6 G7 (by have := HG.out; have := HC.out; omega)) (by simp [patch, conZero]) ?_)
  intro u7 B7 g7 z7
  have Z7 := box_grown (box_grown Z6 G7 (by have := HG.out; omega)) g7 (by have := HC.out; omega)
  have hm7 := (Array.getElem?_eq_some_iff.1 B6).1
  have hb7 := (hb6.grown G7 hb6.size (fun q hq => by injection hq with hq; have := HG.out; omega)).grown g7 (Nat.le_trans hb6.size G7.size) (fun q hq => by injection hq with hq; have := HC.out; omega)
  have Q7 := (R7.weak (S' := (· ≠ gc)) (fun q hq _ => by omega)).grown g7 (fun e => by injection e with e; have := HG.out; have := HC.out; omega) (fun q hq e => by injection e with e; exact hq e.symm)
  have sl6 := (sl6.grown G7 (fun q hq e => by injection e with e; have := HG.out; omega)).grown g7 (fun q hq e => by injection e with e; have := HC.out; omega)
  have hgs6 : w.heap.size + 2 < u6.heap.size := by have := HC.out; have := HG.out; omega
  have sl7 := (sl7.weak (S' := fun b => w.heap.size + 2 < b) (fun q hq _ => by omega)).grown g7 (fun q hq e => by injection e with e; have := HC.out; omega)
  have I7 := hide (I6.out.texts (fun C => C.deny) tail7 (fun C _ _ => rfl) (fun C hC => ⟨by have := hC.denyL; omega, fun s hs => by have := hC.deny s hs; omega⟩) re7)
  have h7 : r7.length ≤ 16777216 := Nat.le_trans ((resSs_len re7).1) h6
  have F7 := hide (show (t7.map str).length ≤ 16777216 ∧ ∀ s ∈ t7.map str, s.size ≤ 16777216 from ⟨by rw [List.length_map]; have := (resSs_len re7).2.1; omega, fun s hs => by
    obtain ⟨q, hq, rfl⟩ := List.mem_map.1 hs
    rw [str_size]; have := (resSs_len re7).2.2 q hq; omega⟩)
  clear CT B6 Z6 R6 R7 G7 g7 z7 re7 I6 hb6 hm7
  have R7 := Q7
  clear Q7
  have I7' := hide (I7.out.imp (ok' := True) (fun _ => rfl) (fun _ _ => trivial) (fun C _ _ hq => ⟨hq, rfl⟩))
  clear I7
  have CT := rlevels R7 h7 I7'.out
  clear I7'
  go_upto_region 11 with (first
    | (go_at_call 136; refine CT.mono ?_; rintro e p8 ⟨cl, lv, r8, b8, rfl, HLR, HLF, R8, K8, h8, HI⟩)
    | refine wpList_storeB rfl (.tmp 32) (.tmp 31) rfl rfl strcL gc 7 rfl cl rfl HLR.length (by obtain ⟨vu, vk, rfl, s1, s2⟩ := HLR; intro u hu; simp only [levCells, List.mem_cons, List.not_mem_nil, or_false] at hu; rcases hu with rfl | rfl | rfl | rfl | rfl | rfl | rfl | rfl | rfl <;> first | rfl | exact s1.one | exact s2.one) (patch (patch (patch (patch (patch (patch (patch (conZero.toList) 0 [.string (str s1)]) 1 [.int .i64 n2]) 2 [.int .i64 n3]) 3 [.bool b4]) 4 [.string (str s5)]) 5 [v6]) 6 [v7]) 30 (box_grown B7 K8 (by have := HG.out; have := HC.out; omega)) (by simp [patch, conZero]) ?_)
  intro u8 B8 g8 z8
  obtain ⟨vu, vk, rfl, SU, SK⟩ := HLR
  have hm := (Array.getElem?_eq_some_iff.1 B7).1
  have Z8 := box_grown (box_grown Z7 K8 (by have := HG.out; omega)) g8 (by have := HC.out; omega)
  have hb8 := (hb7.grown K8 hb7.size (fun q hq => by injection hq with hq; have := HG.out; omega)).grown g8 (Nat.le_trans hb7.size K8.size) (fun q hq => by injection hq with hq; have := HC.out; omega)
  have hgs : w.heap.size + 2 < u7.heap.size := by have := HC.out; have := HG.out; omega
  have Q8 := (R8.weak (S' := (· ≠ gc)) (fun q hq _ => by omega)).grown g8 (fun e => by injection e with e; have := HG.out; have := HC.out; omega) (fun q hq e => by injection e with e; exact hq e.symm)
  have sl6 := (sl6.grown K8 (fun q hq e => by injection e with e; have := HG.out; omega)).grown g8 (fun q hq e => by injection e with e; have := HC.out; omega)
  have sl7 := (sl7.grown K8 (fun q hq e => by injection e with e; have := HG.out; omega)).grown g8 (fun q hq e => by injection e with e; have := HC.out; omega)
  have SU := (SU.weak (S' := fun b => w.heap.size + 2 < b) (fun q hq _ => by omega)).grown g8 (fun q hq e => by injection e with e; have := HC.out; omega)
  have SK := (SK.weak (S' := fun b => w.heap.size + 2 < b) (fun q hq _ => by omega)).grown g8 (fun q hq e => by injection e with e; have := HC.out; omega)
  obtain ⟨CC, hCC⟩ : ∃ CC : Con, CC = ⟨str s1, n2, n3, b4, str s5, t6.map str, t7.map str, lv⟩ := ⟨_, rfl⟩
  have HCC := hide hCC
  have hP : u8.heap[gc]? = some (.cells (conCells CC v6 v7 vu vk).toArray 30 (0, 0)) := by rw [hCC]; exact B8
  have HR : ConR u8 (fun b => w.heap.size + 2 < b) (conCells CC v6 v7 vu vk) CC := ⟨v6, v7, vu, vk, rfl, by rw [hCC]; exact sl6, by rw [hCC]; exact sl7, by rw [hCC]; exact SU, by rw [hCC]; exact SK⟩
  have HF := hide (show CC.fine by rw [hCC]; exact ⟨F1.out, F5.out, F2.out, F3.out, F6.out.1, F7.out.1, F6.out.2, F7.out.2, HLF⟩)
  have HE := hide (fun h : b8 = false => fun hr : r8 = [] => show l = encCon CC by
    have := (HI.1 h).1
    rw [hr, List.append_nil] at this
    rw [this, hCC]
    simp [encCon])
  have HNO := hide (fun h : b8 = true ∨ r8 ≠ [] => fun (C' : Con) (hC' : C'.told) (he : l = encCon C') => by
    obtain ⟨h1, _, h2⟩ := HI.2 C' hC' he
    rcases h with h | h
    · rw [h] at h1; cases h1
    · exact h h2)
  clear B8 sl6 sl7 SU SK hCC HI R8 K8 g8 z8 F1 F2 F3 F5 F6 F7 HLF CT B7 Z7 R7 hb7 hm hgs h7
  have HLn := hide HR.length
  have HOn := hide HR.one
  generalize hcs : conCells CC v6 v7 vu vk = cs at hP HR HLn HOn
  clear hcs
  have HP := hide hP
  obtain ⟨A8, c8, hB8, hc8, _, _⟩ := Q8
  have q0 := box_at hB8 (j := 0) rfl
  have q1 := box_at hB8 (j := 1) rfl
  have HRR := hide HR
  clear hB8 hP HR
  have yes : b8 = false → r8.length = 0 → _ := fun h h' => And.intro h (List.eq_nil_of_length_eq_zero h')
  clear yes
  cases b8 with
  | true =>
    go_wp2_with (refine wpList_storeB rfl (.tmp 2) (.tmp 45) rfl rfl strcC w.heap.size 0 rfl conZero.toList rfl rfl (by decide) conZero.toList 30 Z8 (by decide) ?_)
    intro u9 B9 g9 z9
    have hb9 := hb8.grown g9 hb8.size (fun q hq => by injection hq with hq; omega)
    clear q0 q1
    go_wp2_with fail
    refine bodyPost_cell26 strcC rfl w.heap.size rfl (.bool false) rfl rfl B9 (by decide) ⟨conZero.toList, Con.zero, false, rfl, conZero_R _ _, zero_fine, (fun h => by cases h), fun _ => ⟨rfl, HNO.out (.inl (by first | rfl | trivial))⟩, hb9⟩
  | false =>
    by_cases hz : r8.length = 0
    · have hz' := List.eq_nil_of_length_eq_zero hz
      subst hz'
      clear hz
      go_wp2_with (first
        | refine wpList_loadS rfl (.tmp 5) rfl strcC ⟨gc, 0, none⟩ rfl cs HLn.out (box_all HP.out) ?_
        | refine wpList_storeB rfl (.tmp 2) (.tmp 46) rfl rfl strcC w.heap.size 0 rfl cs rfl HLn.out HOn.out conZero.toList 30 Z8 (by decide) ?_)
      intro u9 B9 g9 z9
      rw [patch_all _ _ (by rw [HLn.out]; rfl)] at B9
      have hb9 := hb8.grown g9 hb8.size (fun q hq => by injection hq with hq; omega)
      clear q0 q1
      go_wp2_with fail
      refine bodyPost_cell26 strcC rfl w.heap.size rfl (.bool true) rfl rfl B9 (by simpa using HLn.out) ⟨cs, CC, true, rfl, ?_, HF.out, fun _ => HE.out (by first | rfl | trivial) (by first | rfl | trivial), (fun h => by cases h), hb9⟩
      exact (HRR.out.grown6 g9 (fun q hq e => by injection e with e; omega)).weak fun q hq _ => by omega
    · have hpos : 0 < r8.length := by omega
      have hne : r8 ≠ [] := fun e => hz (by rw [e]; rfl)
      have HNE := hide hne
      clear hz hne
      go_wp2_with (refine wpList_storeB rfl (.tmp 2) (.tmp 45) rfl rfl strcC w.heap.size 0 rfl conZero.toList rfl rfl (by decide) conZero.toList 30 Z8 (by decide) ?_)
      intro u9 B9 g9 z9
      have hb9 := hb8.grown g9 hb8.size (fun q hq => by injection hq with hq; omega)
      clear q0 q1
      go_wp2_with fail
      refine bodyPost_cell26 strcC rfl w.heap.size rfl (.bool false) rfl rfl B9 (by decide) ⟨conZero.toList, Con.zero, false, rfl, conZero_R _ _, zero_fine, (fun h => by cases h), fun _ => ⟨rfl, HNO.out (.inr HNE.out)⟩, hb9⟩
end Go.Proofs.YtnfbmhkjmkdmjaaGreat
