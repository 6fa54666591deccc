/-
  content's reader: levels.
-/
import Derived.Test.YtnfbmhkjmkdmjaaGreatDecP
import Derived.Test.YtnfbmhkjmkdmjaaGreatRdr
import Derived.Test.YtnfbmhkjmkdmjaaGreatPhases
import Derived.Deep.DeepCutAuto
set_option linter.unusedVariables false
set_option linter.unusedSimpArgs false
namespace Go.Proofs.YtnfbmhkjmkdmjaaGreat
open Go.RowKit
attribute [local go_sem] Addr.add_mid
/-- an owned row where another block grows -/
theorem own_apart6 {w w' : World} {base : Nat} {e : TypeId} {size n : Nat} {v : Value} {xs : List Value} {row : Option Nat} (h : w.ownsRow base e size v n xs) (hg : w.grownBy w' row) (hne : ∀ g, v.ownBlock = some g → row ≠ some g) : w'.ownsRow base e size v n xs := by
  refine ⟨h.1, ?_⟩
  rcases h.2 with h2 | ⟨g, cap, cur, rfl, hb, hh, r⟩
  · exact .inl h2
  · refine .inr ⟨g, cap, cur, rfl, hb, ?_, r⟩
    rw [hg.block g (Array.getElem?_eq_some_iff.1 hh).1 (fun e => hne g rfl e.symm)]
    exact hh
theorem own_block {w : World} {base : Nat} {e : TypeId} {size n : Nat} {v : Value} {xs : List Value} (h : w.ownsRow base e size v n xs) : ∀ g, v.ownBlock = some g → base ≤ g ∧ g < w.heap.size := by
  intro g hg
  rcases h.2 with ⟨rfl, _⟩ | ⟨g', cap, cur, rfl, hb, hh, r⟩
  · cases hg
  · injection hg with hg; subst hg; exact ⟨hb, (Array.getElem?_eq_some_iff.1 hh).1⟩
theorem own_one {w : World} {base : Nat} {e : TypeId} {size n : Nat} {v : Value} {xs : List Value} (h : w.ownsRow base e size v n xs) : v.oneCell' = true := by obtain ⟨A, c, rfl, _⟩ := own_form h; rfl
section
variable {P : Program} {w : World} {ops : Array Oper} {rest : List Oper} {o : Oper} {a : Act} {Q : Exit → Act → World → Prop} {t e : TypeId} {z : Value} {size bytes : Nat}
/-- 'append(out, x)', and in which block the row lies then -/
theorem wpList_append_at6 (hgd : o.guard = none) (s x : Operand) (ho : o.op = .call { callee := .builtin .append, args := #[s, x], argTypes := #[t, t] })
    (E : Elem P t e z size bytes) (base : Nat) (v : Value) (n : Nat) (xs : List Value) (hs : a.eval s = v) (hown : w.ownsRow base e size v n xs) (m : Nat) (cs : Array Value) (hcs : cs.size = m * size)
    (hx : a.eval x = .slice (some ⟨w.heap.size, 0, none⟩) m m) (h1 : ∀ u ∈ cs.toList, u.oneCell' = true) (hlen : n + m ≤ maxLen) (hby : (n + m) * bytes ≤ 140737488355328) (hbase : base ≤ w.heap.size)
    (h : ∀ v' w', w'.ownsRow base e size v' (n + m) (xs ++ cs.toList) → w.grownBy w' v.ownBlock → (v'.ownBlock = v.ownBlock ∨ v'.ownBlock = some (w.heap.size + 1)) → wpList P ops Q rest (a.put o.dst v') w') :
    wpList P ops Q (o :: rest) a (w.alloc (.cells cs e)) := by
  obtain ⟨i, hi, hz0, hz1, hz2⟩ := info_parts E.info
  refine wpList_append_own_at _ hgd s x t ho base e i z size bytes E.under hi hz0 hz1 hz2 E.zero E.pos v n xs hs (hown.alloc _) ⟨w.heap.size, 0, none⟩ m m cs.toList hx (by simpa using hcs) ?_ h1 hlen hby (Nat.le_trans hbase (by simp)) ?_
  · exact fun j u hu => by
      obtain ⟨ad, h1, _, h2⟩ := (Row.new (B := w.heap.size + 1) w cs e (0, 0) (by omega)).at hu
      injection h1 with h1; subst h1; exact h2
  · intro v' w' h1 h2 _ h4
    exact h v' w' h1 ⟨h2.os, h2.tape, h2.output, Nat.le_trans (by simp) h2.size, fun k hk hne => (h2.block k (by simp; omega) hne).trans (heap_alloc_old w _ hk)⟩ (by simpa using h4)
end
/-- the levels that are read: how far they are -/
def levUK (us : List (ByteArray × Int)) (ks : List (Int × Int)) (vu vk : Value) : List Value := levCells ⟨us, ks, 0, 0, 0, 0, 0, 0, 0⟩ vu vk
/-- old blocks but g's are as they were -/
def Kept (g : Nat) (w w' : World) : Prop := w.grownBy w' (some g)
theorem Kept.refl (g : Nat) (w : World) : Kept g w w := World.grownBy.refl _ _
theorem Kept.step {g : Nat} {w w1 w2 : World} (h : Kept g w w1) (k : w1.grownBy w2 (some g)) : Kept g w w2 := h.trans k
/-- a block that is not old grows -/
theorem Kept.new {g : Nat} {w w1 w2 : World} {row : Option Nat} (h : Kept g w w1) (k : w1.grownBy w2 row) (hr : ∀ b, row = some b → w.heap.size ≤ b) : Kept g w w2 :=
  ⟨k.os.trans h.os, k.tape.trans h.tape, k.output.trans h.output, Nat.le_trans h.size k.size, fun i hi hne => (k.block i (Nat.lt_of_lt_of_le hi h.size) (fun e => by have := hr i e.symm; omega)).trans (h.block i hi hne)⟩
theorem Kept.below {g : Nat} {w w1 w2 : World} (h : Kept g w w1) (k : Below w1.heap.size w1 w2) : Kept g w w2 := grown_below h k

def tailR (C : Con) : List UInt8 := (restL C.lv).flatMap encI
def base_ok (W w : World) : Prop := W.heap.size = w.heap.size + 2
/-- where the reading of the levels' lists is -/
def LevSt (g gr gl base : Nat) (w : World) (us : List (ByteArray × Int)) (ks : List (Int × Int)) (vu vk vo : Value) (r : List UInt8) (bad : Bool) (w' : World) : Prop :=
  w'.heap[gl]? = some (.cells (levUK us ks vu vk).toArray 28 (0, 0)) ∧ w'.heap[gr]? = some (.cells levZero 28 (0, 0)) ∧ RdR w' g (fun b => base ≤ b ∧ vo.ownBlock ≠ some b) r bad ∧ r.length ≤ 16777216 ∧ Kept g w w'

set_option maxRecDepth 100000 in
set_option maxHeartbeats 8000000 in
theorem rlevels {S : Nat → Prop} {g : Nat} {l pre r : List UInt8} {Q : Con → Prop} {bad : Bool} {w : World} (h : RdR w g S r bad) (hl : r.length ≤ 16777216) (hI : Inv l pre True Q tail7 r bad) :
    Calls Tryz.prog 136 #[.pointer (some ⟨g, 0, none⟩)] w (fun e w' => ∃ cs v r' bad', e = .returned (.agg cs.toArray) ∧ LevR w' (w.heap.size ≤ ·) cs v ∧ v.fine ∧ RdR w' g (w.heap.size ≤ ·) r' bad' ∧ Kept g w w' ∧ r'.length ≤ 16777216 ∧
      Inv l (pre ++ encLev v) True (fun C => Q C ∧ C.lv = v) (fun _ => []) r' bad') := by
  have hgl := h.lt
  have X0 := heap_alloc2_old w (.cells levZero 28) (.cells levZero 28)
  have X1 := heap_alloc2_new w (.cells levZero 28) (.cells levZero 28)
  have hx := below_two w (.cells levZero 28) (.cells levZero 28)
  have hz : ((w.alloc (.cells levZero 28)).alloc (.cells levZero 28)).heap.size = w.heap.size + 2 := by simp
  have R0 := h.ext hx
  have HI := hide hI
  clear hI h
  go_enter Tryz.func136, Tryz.ntmps136
  go_upto_region 2 with (refine wpList_zeroS rfl rfl strcL ?_)
  go_simp
  generalize hW : (w.alloc (.cells levZero 28)).alloc (.cells levZero 28) = W at X0 X1 hx hz R0 ⊢
  clear hW
  obtain ⟨gl, hgl1⟩ : ∃ gl, w.heap.size + 1 = gl := ⟨_, rfl⟩
  obtain ⟨gr, hgr1⟩ : ∃ gr, w.heap.size = gr := ⟨_, rfl⟩
  rw [hgl1] at X1 ⊢
  rw [hgr1] at X0 ⊢
  have HGL := hide hgl1; have HGR := hide hgr1; have HZ := hide hz
  have hK := grown_below (Kept.refl g w) hx
  clear hgl1 hgr1 hz
  -- the number of users
  have CC := rcount R0 hl
  go_upto_region 3 with (go_at_call 169; refine CC.mono ?_; rintro e w1 ⟨N, x, r1, ok1, gd, rfl, hres, hgd, hn0, hnx, hnle, R1, G1⟩)
  have hr1 := Nat.le_trans (resI_len hres) hl
  have HI1 := hide (Inv.count (N := N) (L := fun C => C.lv.users) (f := encU) (t2 := tailK) HI.out (fun C _ _ => tail7_eq C) (fun C hC => hC.usersL) hres (fun C hx1 hr => by
    rw [hgd]
    have h2 := flat_ge2 encU encU_ge C.lv.users
    have h3 : (C.lv.users.flatMap encU).length ≤ r1.length := by rw [hr, List.length_append]; omega
    simp only [Bool.or_eq_false_iff, decide_eq_false_iff_not]
    omega) hnx)
  have HI1' := hide HI1.out.zero
  clear CC hres hgd hn0 hnx HI1 HI R0
  have hw1 : W.heap.size ≤ w1.heap.size := G1.size
  have K1 : Kept g w w1 := Kept.step hK G1
  have Y1 : w1.heap[gl]? = some (.cells (levUK [] [] (.slice none 0 0) (.slice none 0 0)).toArray 28 (0, 0)) := box_grown X1 G1 (by have := HGL.out; omega)
  have Y0 := box_grown X0 G1 (by have := HGR.out; omega)
  have ST : LevSt g gr gl W.heap.size w [] [] (.slice none 0 0) (.slice none 0 0) (.slice none 0 0) r1 _ w1 := ⟨Y1, Y0, R1.weak fun b hb _ => ⟨hb, fun e => by cases e⟩, hr1, K1⟩
  obtain ⟨b1, hb1⟩ : ∃ b1, ((bad || !ok1) || gd) = b1 := ⟨_, rfl⟩
  rw [hb1] at ST HI1'
  have hb2 : base_ok W w := HZ.out
  have hNb : N ≤ 8388608 := by omega
  clear hb1 X0 X1 Y0 Y1 K1 R1 G1 hx hr1 hK
  go_loopw [8] (fun i wr => ∃ (j : Nat) (us : List (ByteArray × Int)) (vu : Value) (r : List UInt8) (b : Bool), j ≤ N ∧ i = .int .i64 (j : Int) ∧ us.length = j ∧ (∀ u ∈ us, u.1.size ≤ 16777216 ∧ I64 u.2) ∧ LevSt g gr gl W.heap.size w us [] vu (.slice none 0 0) vu r b wr ∧
      wr.ownsRow W.heap.size 97 2 vu us.length (ucs us) ∧ Hid (Inv l (pre ++ encI N ++ us.flatMap encU) True (fun C => (Q C ∧ C.lv.users.length = N) ∧ C.lv.users.take j = us) (fun C => (C.lv.users.drop j).flatMap encU ++ tailK C) r b)) (fun i _ => N - (intOf i).toNat)
  case atStart => exact ⟨0, [], _, r1, b1, Nat.zero_le _, rfl, rfl, fun u hu => by simp at hu, ST, World.ownsRow_nil _ _ _ _, HI1'.out⟩
  case round =>
  clear ST HI1'
  obtain ⟨j, us, vu, r, b, hj, rfl, hul, huf, hst, hown, HIN⟩ := hrel
  obtain ⟨Y1, Y0, R, hrl, K⟩ := hst
  have HUL := hide hul
  have HUF := hide huf
  clear hul huf
  have hwr : W.heap.size ≤ wr.heap.size := by
    have h2 := (Array.getElem?_eq_some_iff.1 Y1).1; have := hb2; unfold base_ok at this; have := HGL.out; omega
  by_cases hlt : j < N
  · have CT := rtext R hrl
    have hub := fun q hq => own_block hown q hq
    go_upto_region 5 with (go_at_call 132; refine CT.mono ?_; rintro e w2 ⟨s, r1, ok1, rfl, hres1, R1, G1⟩)
    have hl1 := resS_len hres1
    have hr1 : r1.length ≤ 16777216 := Nat.le_trans hl1.1 hrl
    have HS1 := hide (show (str s).size ≤ 16777216 by rw [str_size]; omega)
    clear hl1
    have Z1 := box_grown Y1 G1 (by have := HGL.out; omega)
    have Z0 := box_grown Y0 G1 (by have := HGR.out; omega)
    have O1 := own_apart6 hown G1 (fun q hq e => by injection e with e; have := (hub q hq).1; have := hb2; unfold base_ok at this; omega)
    have K1 : Kept g w w2 := K.step G1
    have hw2 := G1.size
    have HRES := hide hres1
    have R1' := R1.weak (S' := fun b => W.heap.size ≤ b ∧ vu.ownBlock ≠ some b) (fun q hq _ => ⟨by omega, fun e => by have := (hub q e).2; omega⟩)
    clear CT Y1 Y0 R R1 hown K G1 hres1
    -- the region
    have hxd : Below w2.heap.size w2 w2.drew := ext_drew (ext_refl w2)
    obtain ⟨wd, hWD⟩ : ∃ wd, wd = w2.drew := ⟨_, rfl⟩
    have hwd : W.heap.size ≤ wd.heap.size := by rw [hWD]; exact Nat.le_trans hwr hw2
    rw [← hWD] at hxd
    have T0 := box_below Z1 hxd
    replace Z0 := box_below Z0 hxd
    replace R1' := R1'.ext hxd
    replace O1 := own_below O1 hxd
    replace K1 := K1.below hxd
    have hub1 := fun q hq => own_block O1 q hq
    refine wp_region_phase (fun w' => w'.heap[gl]? = some (.cells (levUK us [] vu (.slice none 0 0)).toArray 28 (0, 0))) [9] (by kernel_rfl) ?_
    rw [show { w2 with drawn := w2.drawn + 1 } = wd from hWD.symm]
    clear hWD hxd hub hw2 Z1 hwr
    refine wpAnyP_take (i := 0) rfl (by kernel_rfl) (by kernel_rfl) (by kernel_rfl) (by kernel_rfl) (fun _ _ _ h => h) (yieldsIf_run (.pointer (some ⟨gl, 0, none⟩)) rfl (fun w' => by go_simp)) T0 ?_
    refine wpAnyP_take (i := 1) rfl (by kernel_rfl) (by kernel_rfl) (by kernel_rfl) (by kernel_rfl) (fun _ _ _ h => h) (yieldsIf_load rfl rfl Tryz.underlying25 rfl rfl (fun w' hT => box_at hT (j := 0) (u := vu) rfl)) T0 ?_
    refine wpAnyP_take (i := 2) rfl (by kernel_rfl) (by kernel_rfl) (by kernel_rfl) (by kernel_rfl) (fun _ _ _ h => h) (yieldsIf_run (.string (str s)) rfl (fun w' => by go_simp)) T0 ?_
    go_simp
    refine wpAnyP_take (i := 3) rfl (by kernel_rfl) (by kernel_rfl) (by kernel_rfl) (by kernel_rfl) (fun _ _ _ h => h) (yieldsIf_run (.pointer (some ⟨g, 0, none⟩)) rfl (fun w' => by go_simp)) T0 ?_
    go_simp
    refine wpAnyP_oneQ (i := 4) (by kernel_rfl) rfl ?_
    go_wp2_with (go_at_call 133; refine (rnumber R1' hr1).mono ?_; rintro e w3 ⟨y, r2, ok2, rfl, hres2, R2, G2⟩)
    have hr2 : r2.length ≤ 16777216 := Nat.le_trans (resI_len hres2) hr1
    have HY := hide (res_I64 hres2)
    have HRES2 := hide hres2
    have T3 := box_grown T0 G2 (by have := HGL.out; omega)
    replace Z0 := box_grown Z0 G2 (by have := HGR.out; omega)
    have O2 := own_apart6 O1 G2 (fun q hq e => by injection e with e; have := (hub1 q hq).1; have := hb2; unfold base_ok at this; omega)
    have K2 : Kept g w w3 := K1.step G2
    have hw3 := Nat.le_trans hwd G2.size
    have R2' := R2.weak (S' := fun b => W.heap.size ≤ b ∧ vu.ownBlock ≠ some b ∧ b < w3.heap.size) (fun q hq hl => ⟨by omega, fun e => by have := (hub1 q e).2; omega, hl⟩)
    clear R1' T0 O1 K1 R2 G2 hres2 hub1
    go_wp2_with fail
    refine nextQ T3 ?_
    go_simp
    refine wpAnyP_oneQ (i := 5) (by kernel_rfl) rfl ?_
    go_wp2_with fail
    refine nextQ T3 ?_
    go_simp
    refine wpAnyP_oneQ (i := 6) (by kernel_rfl) rfl ?_
    go_wp2_with fail
    refine nextQ (box_below T3 (ext_alloc (ext_refl w3) _)) ?_
    go_simp
    refine wpAnyP_oneQ (i := 7) (by kernel_rfl) rfl ?_
    have hlen : us.length ≤ 8388608 := by rw [HUL.out]; omega
    refine wpList_append_at6 rfl (.tmp 13) (.tmp 18) rfl elemU W.heap.size vu us.length (ucs us) rfl O2 1 #[.string (str s), .int .i64 y] rfl rfl (by simp [Value.oneCell']) (by unfold maxLen; omega) (by omega) hw3 ?_
    intro v5 w5 hown5 hg5 hblk
    have hub2 := fun q hq => own_block O2 q hq
    have R3 := (R2'.grown hg5 (fun e => by have := (hub2 _ e).1; have := hb2; unfold base_ok at this; omega) (fun q hq => hq.2.1)).weak (S' := fun b => W.heap.size ≤ b ∧ v5.ownBlock ≠ some b) (fun q hq _ => ⟨hq.1, fun e => by
      rcases hblk with h | h
      · exact hq.2.1 (h.symm.trans e)
      · rw [h] at e; injection e with e; have := hq.2.2; omega⟩)
    have T5 : w5.heap[gl]? = _ := (hg5.block gl (Array.getElem?_eq_some_iff.1 T3).1 (fun e => by have := (hub2 _ e.symm).1; have := hb2; unfold base_ok at this; have := HGL.out; omega)).trans T3
    have Z5 : w5.heap[gr]? = _ := (hg5.block gr (Array.getElem?_eq_some_iff.1 Z0).1 (fun e => by have := (hub2 _ e.symm).1; have := hb2; unfold base_ok at this; have := HGR.out; omega)).trans Z0
    have K5 : Kept g w w5 := K2.new hg5 (fun q hq => by have := (hub2 q hq).1; have := hb2; unfold base_ok at this; omega)
    clear R2' T3 Z0 K2 O2 hg5 hub2 hw3 hblk
    refine nextQ T5 ?_
    go_simp
    refine wpAnyP_oneQ (i := 8) (by kernel_rfl) rfl ?_
    go_wp2_with fail
    refine nextQ T5 ?_
    go_simp
    refine wpAnyP_oneQ (i := 9) (by kernel_rfl) rfl ?_
    refine wpList_store1 rfl (.tmp 20) (.tmp 19) rfl rfl sizeU gl 0 rfl v5 rfl (own_one hown5) (levUK us [] vu (.slice none 0 0)) 28 T5 (by simp [levUK, levCells]) ?_
    intro w6 B6 g6 hz6
    have hub5 := fun q hq => own_block hown5 q hq
    have Z6 := box_grown Z5 g6 (by have := HGL.out; have := HGR.out; omega)
    have O6 := own_apart6 hown5 g6 (fun q hq e => by injection e with e; have := (hub5 q hq).1; have := hb2; unfold base_ok at this; have := HGL.out; omega)
    have R6 := R3.grown g6 (fun e => by injection e with e; have := HGL.out; omega) (fun q hq e => by injection e with e; have := hq.1; have := hb2; unfold base_ok at this; have := HGL.out; omega)
    have K6 : Kept g w w6 := K5.new g6 (fun q hq => by injection hq with hq; have := HGL.out; omega)
    have hun : us.length + 1 = (us ++ [(str s, y)]).length := by simp
    have hucs : ucs us ++ (#[.string (str s), .int .i64 y] : Array Value).toList = ucs (us ++ [(str s, y)]) := by simp [ucs]
    rw [hucs, hun] at O6
    have HN := hide (Inv.user HIN.out hlt HRES.out HRES2.out)
    clear T5 Z5 R3 hown5 K5 g6 hz6 hub5 hucs hun
    refine nextQ_bad (by kernel_rfl) ?_
    go_simp
    refine wpAnyP_done (by kernel_rfl) ?_
    go_simp
    go_wp2_with fail
    go_roundw
    case rel => exact ⟨j + 1, us ++ [(str s, y)], v5, r2, _, by omega, by go_num, by rw [List.length_append, HUL.out]; rfl, (fun u hu => by
      rcases List.mem_append.1 hu with h | h
      · exact HUF.out u h
      · simp only [List.mem_cons, List.not_mem_nil, or_false] at h; subst h; exact ⟨HS1.out, HY.out⟩), ⟨B6, Z6, R6, hr2, K6⟩, O6, HN.out⟩
    case measure => (simp [intOf]; try omega)
  obtain rfl : j = N := by omega
  have HI2 := hide (HIN.out.listed HUL.out)
  have SU0 := Slc.own hown (by decide)
  have hbase := hb2
  have HNB1 := hide hNb
  clear HIN hown hlt hj hNb
  -- the number of kinds
  have CC := rcount R hrl
  go_upto_region 8 with (go_at_call 169; refine CC.mono ?_; rintro e w7 ⟨M, x, r7, ok7, gd, rfl, hres, hgd, hn0, hnx, hnle, R7, G7⟩)
  have hr7 := Nat.le_trans (resI_len hres) hrl
  have HI1 := hide (Inv.count (N := M) (L := fun C => C.lv.kinds) (f := encK) (t2 := tailR) HI2.out (fun C _ _ => rfl) (fun C hC => hC.kindsL) hres (fun C hx1 hr => by
    rw [hgd]
    have h2 := flat_ge2 encK encK_ge C.lv.kinds
    have h3 : (C.lv.kinds.flatMap encK).length ≤ r7.length := by rw [hr, List.length_append]; omega
    simp only [Bool.or_eq_false_iff, decide_eq_false_iff_not]
    omega) hnx)
  have HI1' := hide HI1.out.zero
  have K7 : Kept g w w7 := K.step G7
  have Y7 := box_grown Y1 G7 (by have := HGL.out; omega)
  have Y8 := box_grown Y0 G7 (by have := HGR.out; omega)
  have ST : LevSt g gr gl W.heap.size w us [] vu (.slice none 0 0) (.slice none 0 0) r7 _ w7 := ⟨Y7, Y8, R7.weak fun b hb _ => ⟨by omega, fun e => by cases e⟩, hr7, K7⟩
  have SU7 := (SU0.grown G7 (fun q hq e => by injection e with e; unfold base_ok at hbase; omega)).weak (S' := fun b => W.heap.size ≤ b ∧ (Value.slice none 0 0).ownBlock ≠ some b) (fun q hq _ => ⟨hq, fun e => by cases e⟩)
  obtain ⟨b7, hb7⟩ : ∃ b7, ((b || !ok7) || gd) = b7 := ⟨_, rfl⟩
  rw [hb7] at ST HI1'
  have hNb : M ≤ 8388608 := by omega
  have HFU := HUF; have HLU := HUL
  clear HUF HUL CC hres hgd hn0 hnx HI1 HI2 SU0 hb7 Y0 Y1 Y7 Y8 R K K7 R7 G7 hr7 hrl hwr hbase hnle
  go_loopw [24] (fun i wr => ∃ (j : Nat) (ks : List (Int × Int)) (vk : Value) (r : List UInt8) (b : Bool), j ≤ M ∧ i = .int .i64 (j : Int) ∧ ks.length = j ∧ (∀ u ∈ ks, I64 u.1 ∧ I64 u.2) ∧ LevSt g gr gl W.heap.size w us ks vu vk vk r b wr ∧
      wr.ownsRow W.heap.size 114 2 vk ks.length (kcs ks) ∧ Hid (Inv l (pre ++ encL encU us ++ encI M ++ ks.flatMap encK) True (fun C => ((Q C ∧ C.lv.users = us) ∧ C.lv.kinds.length = M) ∧ C.lv.kinds.take j = ks) (fun C => (C.lv.kinds.drop j).flatMap encK ++ tailR C) r b) ∧ Slc wr (fun b => W.heap.size ≤ b ∧ vk.ownBlock ≠ some b) vu 2 us.length (ucs us)) (fun i _ => M - (intOf i).toNat)
  case atStart => exact ⟨0, [], _, r7, b7, Nat.zero_le _, rfl, rfl, fun u hu => by simp at hu, ST, World.ownsRow_nil _ _ _ _, HI1'.out, SU7⟩
  case round =>
  clear ST HI1'
  obtain ⟨j, ks, vk, r, b, hj, rfl, hul, huf, hst, hown, HIN, SU⟩ := hrel
  obtain ⟨Y1, Y0, R, hrl, K⟩ := hst
  have HUL := hide hul
  have HUF := hide huf
  clear hul huf
  have hwr : W.heap.size ≤ wr.heap.size := by
    have h2 := (Array.getElem?_eq_some_iff.1 Y1).1; have := hb2; unfold base_ok at this; have := HGL.out; omega
  by_cases hlt : j < M
  · have CT := rnumber R hrl
    have hub := fun q hq => own_block hown q hq
    go_upto_region 10 with (go_at_call 133; refine CT.mono ?_; rintro e w2 ⟨s, r1, ok1, rfl, hres1, R1, G1⟩)
    have hr1 : r1.length ≤ 16777216 := Nat.le_trans (resI_len hres1) hrl
    have HS1 := hide (res_I64 hres1)
    replace SU := SU.grown G1 (fun q hq e => by injection e with e; have := hq.1; have := hb2; unfold base_ok at this; omega)
    have Z1 := box_grown Y1 G1 (by have := HGL.out; omega)
    have Z0 := box_grown Y0 G1 (by have := HGR.out; omega)
    have O1 := own_apart6 hown G1 (fun q hq e => by injection e with e; have := (hub q hq).1; have := hb2; unfold base_ok at this; omega)
    have K1 : Kept g w w2 := K.step G1
    have hw2 := G1.size
    have HRES := hide hres1
    have R1' := R1.weak (S' := fun b => W.heap.size ≤ b ∧ vk.ownBlock ≠ some b) (fun q hq _ => ⟨by omega, fun e => by have := (hub q e).2; omega⟩)
    clear CT Y1 Y0 R R1 hown K G1 hres1
    -- the region
    have hxd : Below w2.heap.size w2 w2.drew := ext_drew (ext_refl w2)
    obtain ⟨wd, hWD⟩ : ∃ wd, wd = w2.drew := ⟨_, rfl⟩
    have hwd : W.heap.size ≤ wd.heap.size := by rw [hWD]; exact Nat.le_trans hwr hw2
    rw [← hWD] at hxd
    have T0 := box_below Z1 hxd
    replace Z0 := box_below Z0 hxd
    replace R1' := R1'.ext hxd
    replace O1 := own_below O1 hxd
    replace K1 := K1.below hxd
    replace SU := SU.ext hxd
    have hub1 := fun q hq => own_block O1 q hq
    refine wp_region_phase (fun w' => w'.heap[gl]? = some (.cells (levUK us ks vu vk).toArray 28 (0, 0))) [9] (by kernel_rfl) ?_
    rw [show { w2 with drawn := w2.drawn + 1 } = wd from hWD.symm]
    clear hWD hxd hub hw2 Z1 hwr
    refine wpAnyP_take (i := 0) rfl (by kernel_rfl) (by kernel_rfl) (by kernel_rfl) (by kernel_rfl) (fun _ _ _ h => h) (yieldsIf_run (.pointer (some ⟨gl, 1, none⟩)) rfl (fun w' => by go_simp)) T0 ?_
    refine wpAnyP_take (i := 1) rfl (by kernel_rfl) (by kernel_rfl) (by kernel_rfl) (by kernel_rfl) (fun _ _ _ h => h) (yieldsIf_load rfl rfl Tryz.underlying26 rfl rfl (fun w' hT => box_at hT (j := 1) (u := vk) rfl)) T0 ?_
    refine wpAnyP_take (i := 2) rfl (by kernel_rfl) (by kernel_rfl) (by kernel_rfl) (by kernel_rfl) (fun _ _ _ h => h) (yieldsIf_run (.int .i64 s) rfl (fun w' => by go_simp)) T0 ?_
    go_simp
    refine wpAnyP_take (i := 3) rfl (by kernel_rfl) (by kernel_rfl) (by kernel_rfl) (by kernel_rfl) (fun _ _ _ h => h) (yieldsIf_run (.pointer (some ⟨g, 0, none⟩)) rfl (fun w' => by go_simp)) T0 ?_
    go_simp
    refine wpAnyP_oneQ (i := 4) (by kernel_rfl) rfl ?_
    go_wp2_with (go_at_call 133; refine (rnumber R1' hr1).mono ?_; rintro e w3 ⟨y, r2, ok2, rfl, hres2, R2, G2⟩)
    have hr2 : r2.length ≤ 16777216 := Nat.le_trans (resI_len hres2) hr1
    have HY := hide (res_I64 hres2)
    have HRES2 := hide hres2
    have T3 := box_grown T0 G2 (by have := HGL.out; omega)
    replace Z0 := box_grown Z0 G2 (by have := HGR.out; omega)
    have O2 := own_apart6 O1 G2 (fun q hq e => by injection e with e; have := (hub1 q hq).1; have := hb2; unfold base_ok at this; omega)
    have K2 : Kept g w w3 := K1.step G2
    have hw3 := Nat.le_trans hwd G2.size
    have R2' := R2.weak (S' := fun b => W.heap.size ≤ b ∧ vk.ownBlock ≠ some b ∧ b < w3.heap.size) (fun q hq hl => ⟨by omega, fun e => by have := (hub1 q e).2; omega, hl⟩)
    replace SU := SU.grown G2 (fun q hq e => by injection e with e; have := hq.1; have := hb2; unfold base_ok at this; omega)
    replace SU := SU.weak (S' := fun b => W.heap.size ≤ b ∧ vk.ownBlock ≠ some b ∧ b < w3.heap.size) (fun q hq hl => ⟨hq.1, hq.2, hl⟩)
    clear R1' T0 O1 K1 R2 G2 hres2 hub1
    go_wp2_with fail
    refine nextQ T3 ?_
    go_simp
    refine wpAnyP_oneQ (i := 5) (by kernel_rfl) rfl ?_
    go_wp2_with fail
    refine nextQ T3 ?_
    go_simp
    refine wpAnyP_oneQ (i := 6) (by kernel_rfl) rfl ?_
    go_wp2_with fail
    refine nextQ (box_below T3 (ext_alloc (ext_refl w3) _)) ?_
    go_simp
    refine wpAnyP_oneQ (i := 7) (by kernel_rfl) rfl ?_
    have hlen : ks.length ≤ 8388608 := by rw [HUL.out]; omega
    refine wpList_append_at6 rfl (.tmp 29) (.tmp 34) rfl elemK W.heap.size vk ks.length (kcs ks) rfl O2 1 #[.int .i64 s, .int .i64 y] rfl rfl (by simp [Value.oneCell']) (by unfold maxLen; omega) (by omega) hw3 ?_
    intro v5 w5 hown5 hg5 hblk
    have hub2 := fun q hq => own_block O2 q hq
    have R3 := (R2'.grown hg5 (fun e => by have := (hub2 _ e).1; have := hb2; unfold base_ok at this; omega) (fun q hq => hq.2.1)).weak (S' := fun b => W.heap.size ≤ b ∧ v5.ownBlock ≠ some b) (fun q hq _ => ⟨hq.1, fun e => by
      rcases hblk with h | h
      · exact hq.2.1 (h.symm.trans e)
      · rw [h] at e; injection e with e; have := hq.2.2; omega⟩)
    have T5 : w5.heap[gl]? = _ := (hg5.block gl (Array.getElem?_eq_some_iff.1 T3).1 (fun e => by have := (hub2 _ e.symm).1; have := hb2; unfold base_ok at this; have := HGL.out; omega)).trans T3
    have Z5 : w5.heap[gr]? = _ := (hg5.block gr (Array.getElem?_eq_some_iff.1 Z0).1 (fun e => by have := (hub2 _ e.symm).1; have := hb2; unfold base_ok at this; have := HGR.out; omega)).trans Z0
    have K5 : Kept g w w5 := K2.new hg5 (fun q hq => by have := (hub2 q hq).1; have := hb2; unfold base_ok at this; omega)
    have SU5 := (SU.grown hg5 (fun q hq => hq.2.1)).weak (S' := fun b => W.heap.size ≤ b ∧ v5.ownBlock ≠ some b) (fun q hq _ => ⟨hq.1, fun e => by
      rcases hblk with h | h
      · exact hq.2.1 (h.symm.trans e)
      · rw [h] at e; injection e with e; have := hq.2.2; omega⟩)
    clear SU
    clear R2' T3 Z0 K2 O2 hg5 hub2 hw3 hblk
    refine nextQ T5 ?_
    go_simp
    refine wpAnyP_oneQ (i := 8) (by kernel_rfl) rfl ?_
    go_wp2_with fail
    refine nextQ T5 ?_
    go_simp
    refine wpAnyP_oneQ (i := 9) (by kernel_rfl) rfl ?_
    refine wpList_store1 rfl (.tmp 36) (.tmp 35) rfl rfl sizeK gl 1 rfl v5 rfl (own_one hown5) (levUK us ks vu vk) 28 T5 (by simp [levUK, levCells]) ?_
    intro w6 B6 g6 hz6
    have hub5 := fun q hq => own_block hown5 q hq
    have Z6 := box_grown Z5 g6 (by have := HGL.out; have := HGR.out; omega)
    have O6 := own_apart6 hown5 g6 (fun q hq e => by injection e with e; have := (hub5 q hq).1; have := hb2; unfold base_ok at this; have := HGL.out; omega)
    have R6 := R3.grown g6 (fun e => by injection e with e; have := HGL.out; omega) (fun q hq e => by injection e with e; have := hq.1; have := hb2; unfold base_ok at this; have := HGL.out; omega)
    have K6 : Kept g w w6 := K5.new g6 (fun q hq => by injection hq with hq; have := HGL.out; omega)
    have SU6 := SU5.grown g6 (fun q hq e => by injection e with e; have := hq.1; have := hb2; unfold base_ok at this; have := HGL.out; omega)
    clear SU5
    have hun : ks.length + 1 = (ks ++ [(s, y)]).length := by simp
    have hucs : kcs ks ++ (#[.int .i64 s, .int .i64 y] : Array Value).toList = kcs (ks ++ [(s, y)]) := by simp [kcs]
    rw [hucs, hun] at O6
    have HN := hide (Inv.kind HIN.out hlt HRES.out HRES2.out)
    clear T5 Z5 R3 hown5 K5 g6 hz6 hub5 hucs hun
    refine nextQ_bad (by kernel_rfl) ?_
    go_simp
    refine wpAnyP_done (by kernel_rfl) ?_
    go_simp
    go_wp2_with fail
    go_roundw
    case rel => exact ⟨j + 1, ks ++ [(s, y)], v5, r2, _, by omega, by go_num, by rw [List.length_append, HUL.out]; rfl, (fun u hu => by
      rcases List.mem_append.1 hu with h | h
      · exact HUF.out u h
      · simp only [List.mem_cons, List.not_mem_nil, or_false] at h; subst h; exact ⟨HS1.out, HY.out⟩), ⟨B6, Z6, R6, hr2, K6⟩, O6, HN.out, SU6⟩
    case measure => (simp [intOf]; try omega)
  obtain rfl : j = M := by omega
  have HI2 := hide (HIN.out.listed HUL.out)
  have SK := Slc.own hown (by decide)
  have HNB2 := hide hNb
  clear HIN hown hlt hj hNb
  have hbase : W.heap.size = w.heap.size + 2 := hb2
  have HBASE := hide hbase
  clear hbase
  have SU0 := SU.weak (S' := fun b => W.heap.size ≤ b) (fun q hq _ => hq.1)
  have HWR := hide hwr
  clear SU hwr
  go_wp2_with (first | (go_at_call 133; first | ((with_reducible refine (rnumber R hrl).mono ?_); rintro e n1 ⟨x1, q1, o1, rfl, re1, P1, H1⟩; have hq1 := Nat.le_trans (resI_len re1) hrl) | ((with_reducible refine (rnumber P1 hq1).mono ?_); rintro e n2 ⟨x2, q2, o2, rfl, re2, P2, H2⟩; have hq2 := Nat.le_trans (resI_len re2) hq1) | ((with_reducible refine (rnumber P2 hq2).mono ?_); rintro e n3 ⟨x3, q3, o3, rfl, re3, P3, H3⟩; have hq3 := Nat.le_trans (resI_len re3) hq2)) | (refine wpList_store1 rfl (.tmp 44) (.tmp 39) rfl rfl sizeI gl 2 rfl (.int .i64 x1) rfl rfl (levUK us ks vu vk) 28 (box_grown (box_grown (box_grown (Y1) H1 (by have := HGL.out; omega)) H2 (by have := HGL.out; omega)) H3 (by have := HGL.out; omega)) (by simp [levUK, levCells, patch]) ?_))
  intro m1 B1 h1 z1
  have Z1 := box_grown (box_grown (box_grown (box_grown (Y0) H1 (by have := HGR.out; omega)) H2 (by have := HGR.out; omega)) H3 (by have := HGR.out; omega)) h1 (by have := HGL.out; have := HGR.out; omega)
  have K1 : Kept g w m1 := ((((K).step H1).step H2).step H3).new h1 (fun q hq => by injection hq with hq; have := HGL.out; omega)
  have SU1 := ((((SU0).grown H1 (fun q hq e => by injection e with e; have := HBASE.out; omega)).grown H2 (fun q hq e => by injection e with e; have := HBASE.out; omega)).grown H3 (fun q hq e => by injection e with e; have := HBASE.out; omega)).grown h1 (fun q hq e => by injection e with e; have := HBASE.out; have := HGL.out; omega)
  have SK1 := ((((SK).grown H1 (fun q hq e => by injection e with e; have := HBASE.out; omega)).grown H2 (fun q hq e => by injection e with e; have := HBASE.out; omega)).grown H3 (fun q hq e => by injection e with e; have := HBASE.out; omega)).grown h1 (fun q hq e => by injection e with e; have := HBASE.out; have := HGL.out; omega)
  have hsz1 : W.heap.size ≤ n2.heap.size := by have := HWR.out; have := H1.size; have := H2.size; omega
  have hm1 : W.heap.size ≤ m1.heap.size := by have := HWR.out; have := z1; have := H1.size; have := H2.size; have := H3.size; omega
  have P3b := (P3.weak (S' := fun b => W.heap.size ≤ b) (fun q hq _ => by omega)).grown h1 (fun e => by injection e with e; have := HGL.out; omega) (fun q hq e => by injection e with e; have := HBASE.out; have := HGL.out; omega)
  go_wp2_with (refine wpList_store1 rfl (.tmp 45) (.tmp 41) rfl rfl sizeI gl 3 rfl (.int .i64 x2) rfl rfl (patch (levUK us ks vu vk) 2 [.int .i64 x1]) 28 (B1) (by simp [levUK, levCells, patch]) ?_)
  intro m2 B2 h2 z2
  have hm2 : W.heap.size ≤ m2.heap.size := by have := z2; omega
  have Z2 := box_grown Z1 h2 (by have := HGL.out; have := HGR.out; omega)
  have K2 : Kept g w m2 := K1.new h2 (fun q hq => by injection hq with hq; have := HGL.out; omega)
  have SU2 := SU1.grown h2 (fun q hq e => by injection e with e; have := HBASE.out; have := HGL.out; omega)
  have SK2 := SK1.grown h2 (fun q hq e => by injection e with e; have := HBASE.out; have := HGL.out; omega)
  have P3b := P3b.grown h2 (fun e => by injection e with e; have := HGL.out; omega) (fun q hq e => by injection e with e; have := HBASE.out; have := HGL.out; omega)
  clear B1 h1 z1 Z1 K1 SU1 SK1
  go_wp2_with (refine wpList_store1 rfl (.tmp 46) (.tmp 43) rfl rfl sizeI gl 4 rfl (.int .i64 x3) rfl rfl (patch (patch (levUK us ks vu vk) 2 [.int .i64 x1]) 3 [.int .i64 x2]) 28 (B2) (by simp [levUK, levCells, patch]) ?_)
  intro m3 B3 h3 z3
  have hm3 : W.heap.size ≤ m3.heap.size := by have := z3; omega
  have Z3 := box_grown Z2 h3 (by have := HGL.out; have := HGR.out; omega)
  have K3 : Kept g w m3 := K2.new h3 (fun q hq => by injection hq with hq; have := HGL.out; omega)
  have SU3 := SU2.grown h3 (fun q hq e => by injection e with e; have := HBASE.out; have := HGL.out; omega)
  have SK3 := SK2.grown h3 (fun q hq e => by injection e with e; have := HBASE.out; have := HGL.out; omega)
  have P3b := P3b.grown h3 (fun e => by injection e with e; have := HGL.out; omega) (fun q hq e => by injection e with e; have := HBASE.out; have := HGL.out; omega)
  clear B2 h2 z2 Z2 K2 SU2 SK2
  have HM3 := hide (show W.heap.size ≤ m3.heap.size from hm3)
  go_wp2_with (first | (go_at_call 133; first | ((with_reducible refine (rnumber P3b hq3).mono ?_); rintro e n4 ⟨x4, q4, o4, rfl, re4, P4, H4⟩; have hq4 := Nat.le_trans (resI_len re4) hq3) | ((with_reducible refine (rnumber P4 hq4).mono ?_); rintro e n5 ⟨x5, q5, o5, rfl, re5, P5, H5⟩; have hq5 := Nat.le_trans (resI_len re5) hq4) | ((with_reducible refine (rnumber P5 hq5).mono ?_); rintro e n6 ⟨x6, q6, o6, rfl, re6, P6, H6⟩; have hq6 := Nat.le_trans (resI_len re6) hq5) | ((with_reducible refine (rnumber P6 hq6).mono ?_); rintro e n7 ⟨x7, q7, o7, rfl, re7, P7, H7⟩; have hq7 := Nat.le_trans (resI_len re7) hq6)) | (refine wpList_store1 rfl (.tmp 55) (.tmp 48) rfl rfl sizeI gl 5 rfl (.int .i64 x4) rfl rfl (patch (patch (patch (levUK us ks vu vk) 2 [.int .i64 x1]) 3 [.int .i64 x2]) 4 [.int .i64 x3]) 28 (box_grown (box_grown (box_grown (box_grown (B3) H4 (by have := HGL.out; omega)) H5 (by have := HGL.out; omega)) H6 (by have := HGL.out; omega)) H7 (by have := HGL.out; omega)) (by simp [levUK, levCells, patch]) ?_))
  intro m4 B4 h4 z4
  have Z4 := box_grown (box_grown (box_grown (box_grown (box_grown (Z3) H4 (by have := HGR.out; omega)) H5 (by have := HGR.out; omega)) H6 (by have := HGR.out; omega)) H7 (by have := HGR.out; omega)) h4 (by have := HGL.out; have := HGR.out; omega)
  have K4 : Kept g w m4 := (((((K3).step H4).step H5).step H6).step H7).new h4 (fun q hq => by injection hq with hq; have := HGL.out; omega)
  have SU4 := (((((SU3).grown H4 (fun q hq e => by injection e with e; have := HBASE.out; omega)).grown H5 (fun q hq e => by injection e with e; have := HBASE.out; omega)).grown H6 (fun q hq e => by injection e with e; have := HBASE.out; omega)).grown H7 (fun q hq e => by injection e with e; have := HBASE.out; omega)).grown h4 (fun q hq e => by injection e with e; have := HBASE.out; have := HGL.out; omega)
  have SK4 := (((((SK3).grown H4 (fun q hq e => by injection e with e; have := HBASE.out; omega)).grown H5 (fun q hq e => by injection e with e; have := HBASE.out; omega)).grown H6 (fun q hq e => by injection e with e; have := HBASE.out; omega)).grown H7 (fun q hq e => by injection e with e; have := HBASE.out; omega)).grown h4 (fun q hq e => by injection e with e; have := HBASE.out; have := HGL.out; omega)
  have hsz4 : W.heap.size ≤ n6.heap.size := by have := HM3.out; have := H4.size; have := H5.size; have := H6.size; omega
  have hm4 : W.heap.size ≤ m4.heap.size := by have := HM3.out; have := z4; have := H4.size; have := H5.size; have := H6.size; have := H7.size; omega
  have P7b := (P7.weak (S' := fun b => W.heap.size ≤ b) (fun q hq _ => by omega)).grown h4 (fun e => by injection e with e; have := HGL.out; omega) (fun q hq e => by injection e with e; have := HBASE.out; have := HGL.out; omega)
  go_wp2_with (refine wpList_store1 rfl (.tmp 56) (.tmp 50) rfl rfl sizeI gl 6 rfl (.int .i64 x5) rfl rfl (patch (patch (patch (patch (levUK us ks vu vk) 2 [.int .i64 x1]) 3 [.int .i64 x2]) 4 [.int .i64 x3]) 5 [.int .i64 x4]) 28 (B4) (by simp [levUK, levCells, patch]) ?_)
  intro m5 B5 h5 z5
  have hm5 : W.heap.size ≤ m5.heap.size := by have := z5; omega
  have Z5 := box_grown Z4 h5 (by have := HGL.out; have := HGR.out; omega)
  have K5 : Kept g w m5 := K4.new h5 (fun q hq => by injection hq with hq; have := HGL.out; omega)
  have SU5 := SU4.grown h5 (fun q hq e => by injection e with e; have := HBASE.out; have := HGL.out; omega)
  have SK5 := SK4.grown h5 (fun q hq e => by injection e with e; have := HBASE.out; have := HGL.out; omega)
  have P7b := P7b.grown h5 (fun e => by injection e with e; have := HGL.out; omega) (fun q hq e => by injection e with e; have := HBASE.out; have := HGL.out; omega)
  clear B4 h4 z4 Z4 K4 SU4 SK4
  go_wp2_with (refine wpList_store1 rfl (.tmp 57) (.tmp 52) rfl rfl sizeI gl 7 rfl (.int .i64 x6) rfl rfl (patch (patch (patch (patch (patch (levUK us ks vu vk) 2 [.int .i64 x1]) 3 [.int .i64 x2]) 4 [.int .i64 x3]) 5 [.int .i64 x4]) 6 [.int .i64 x5]) 28 (B5) (by simp [levUK, levCells, patch]) ?_)
  intro m6 B6 h6 z6
  have hm6 : W.heap.size ≤ m6.heap.size := by have := z6; omega
  have Z6 := box_grown Z5 h6 (by have := HGL.out; have := HGR.out; omega)
  have K6 : Kept g w m6 := K5.new h6 (fun q hq => by injection hq with hq; have := HGL.out; omega)
  have SU6 := SU5.grown h6 (fun q hq e => by injection e with e; have := HBASE.out; have := HGL.out; omega)
  have SK6 := SK5.grown h6 (fun q hq e => by injection e with e; have := HBASE.out; have := HGL.out; omega)
  have P7b := P7b.grown h6 (fun e => by injection e with e; have := HGL.out; omega) (fun q hq e => by injection e with e; have := HBASE.out; have := HGL.out; omega)
  clear B5 h5 z5 Z5 K5 SU5 SK5
  go_wp2_with (refine wpList_store1 rfl (.tmp 58) (.tmp 54) rfl rfl sizeI gl 8 rfl (.int .i64 x7) rfl rfl (patch (patch (patch (patch (patch (patch (levUK us ks vu vk) 2 [.int .i64 x1]) 3 [.int .i64 x2]) 4 [.int .i64 x3]) 5 [.int .i64 x4]) 6 [.int .i64 x5]) 7 [.int .i64 x6]) 28 (B6) (by simp [levUK, levCells, patch]) ?_)
  intro m7 B7 h7 z7
  have hm7 : W.heap.size ≤ m7.heap.size := by have := z7; omega
  have Z7 := box_grown Z6 h7 (by have := HGL.out; have := HGR.out; omega)
  have K7 : Kept g w m7 := K6.new h7 (fun q hq => by injection hq with hq; have := HGL.out; omega)
  have SU7 := SU6.grown h7 (fun q hq e => by injection e with e; have := HBASE.out; have := HGL.out; omega)
  have SK7 := SK6.grown h7 (fun q hq e => by injection e with e; have := HBASE.out; have := HGL.out; omega)
  have P7b := P7b.grown h7 (fun e => by injection e with e; have := HGL.out; omega) (fun q hq e => by injection e with e; have := HBASE.out; have := HGL.out; omega)
  clear B6 h6 z6 Z6 K6 SU6 SK6
  have HF := hide (Inv.seven (HI2.out) told_rest re1 re2 re3 re4 re5 re6 re7)
  have HX := hide (And.intro (res_I64 re1) (And.intro (res_I64 re2) (And.intro (res_I64 re3) (And.intro (res_I64 re4) (And.intro (res_I64 re5) (And.intro (res_I64 re6) (res_I64 re7)))))))
  clear re1 re2 re3 re4 re5 re6 re7
  have B7' : m7.heap[gl]? = some (.cells (levCells ⟨us, ks, x1, x2, x3, x4, x5, x6, x7⟩ vu vk).toArray 28 (0, 0)) := B7
  have o1 := SU7.one
  have o2 := SK7.one
  have oo : ∀ u ∈ levCells ⟨us, ks, x1, x2, x3, x4, x5, x6, x7⟩ vu vk, u.oneCell' = true := by
    intro u hu'
    simp only [levCells, List.mem_cons, List.not_mem_nil, or_false] at hu'
    rcases hu' with rfl | rfl | rfl | rfl | rfl | rfl | rfl | rfl | rfl <;> first | rfl | exact o1 | exact o2
  clear B7 o1 o2
  generalize hC : levCells ⟨us, ks, x1, x2, x3, x4, x5, x6, x7⟩ vu vk = C at B7' oo
  have HC := hide hC
  have HL := hide (show C.length = 9 by rw [← hC]; rfl)
  have HB7 := hide B7'
  clear hC B7'
  go_wp2_with (first
    | refine wpList_loadS rfl (.tmp 3) rfl strcL ⟨gl, 0, none⟩ rfl C HL.out (box_all HB7.out) ?_
    | refine wpList_storeB rfl (.tmp 2) (.tmp 59) rfl rfl strcL gr 0 rfl C rfl HL.out oo levZero.toList 28 Z7 (by decide) ?_)
  intro m8 B8 h8 z8
  rw [patch_all _ _ (by rw [HL.out]; rfl)] at B8
  have K8 : Kept g w m8 := K7.new h8 (fun q hq => by injection hq with hq; have := HGR.out; omega)
  have SU8 := SU7.grown h8 (fun q hq e => by injection e with e; have := HBASE.out; have := HGR.out; omega)
  have SK8 := SK7.grown h8 (fun q hq e => by injection e with e; have := HBASE.out; have := HGR.out; omega)
  have P8 := P7b.grown h8 (fun e => by injection e with e; have := HGR.out; omega) (fun q hq e => by injection e with e; have := HBASE.out; have := HGR.out; omega)
  clear h8 z8 K7 SU7 SK7 P7b Z7
  go_wp2_with fail
  refine bodyPost_cell strcL rfl gr rfl rfl B8 (by simpa using HL.out) ⟨C, ⟨us, ks, x1, x2, x3, x4, x5, x6, x7⟩, q7, _, rfl, ⟨vu, vk, HC.out.symm, SU8.weak fun q hq _ => by have := HBASE.out; omega, SK8.weak fun q hq _ => by have := HBASE.out; omega⟩, ?_, P8.weak fun q hq _ => by have := HBASE.out; omega, K8, hq7, ?_⟩
  · obtain ⟨y1, y2, y3, y4, y5, y6, y7⟩ := HX.out
    refine ⟨by have := HLU.out; have := HNB1.out; show us.length ≤ _; omega, by have := HUL.out; have := HNB2.out; show ks.length ≤ _; omega, HFU.out, HUF.out, fun n hn => ?_⟩
    simp only [restL, List.mem_cons, List.not_mem_nil, or_false] at hn
    rcases hn with rfl | rfl | rfl | rfl | rfl | rfl | rfl <;> assumption
  · refine HF.out.imp (fun _ => ?_) (fun _ h => h) (fun C' _ _ hq => ⟨⟨hq.1.1.1, ?_⟩, rfl⟩)
    · simp [encLev]
    · obtain ⟨⟨⟨_, h1⟩, h2⟩, h3⟩ := hq
      have h4 : C'.lv = ⟨C'.lv.users, C'.lv.kinds, C'.lv.user, C'.lv.message, C'.lv.state, C'.lv.invite, C'.lv.kick, C'.lv.ban, C'.lv.redact⟩ := rfl
      simp only [restL, List.cons.injEq, and_true] at h3
      obtain ⟨e1, e2, e3, e4, e5, e6, e7⟩ := h3
      rw [h4, h1, h2, e1, e2, e3, e4, e5, e6, e7]
end Go.Proofs.YtnfbmhkjmkdmjaaGreat
