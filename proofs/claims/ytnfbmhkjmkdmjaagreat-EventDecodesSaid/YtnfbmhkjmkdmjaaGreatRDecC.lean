/-
  fedchatref06: levels.
  fedchatref06: Decode.
-/
import Derived.Test.YtnfbmhkjmkdmjaaGreatRLev
import Derived.Test.YtnfbmhkjmkdmjaaGreatRefAny
import Derived.Deep.DeepCutAuto
import Derived.Test.YtnfbmhkjmkdmjaaGreatDecC
set_option linter.unusedVariables false
set_option linter.unusedSimpArgs false
namespace Go.Proofs.YtnfbmhkjmkdmjaaGreat
section
open Go.RowKit
attribute [local go_sem] Addr.add_mid
section
variable {P : Program} {fn : Func} {R : Ending → World → Prop} {a : Act} {w : World} {t : TypeId} {z C : Array Value} {n : Nat} {p q q2 : Tmp}
theorem bodyPost_cell3 (G : Strc P t z n) (hres : fn.results = #[.cell p t, .tmp q, .tmp q2]) (g : Nat) (hp : a.tmps.getD p undef = .pointer (some ⟨g, 0, none⟩)) (u u2 : Value) (hq : a.tmps.getD q undef = u) (hq2 : a.tmps.getD q2 undef = u2) (hd : a.defers = []) (hg : w.heap[g]? = some (.cells C t (0, 0))) (hC : C.size = n)
    (hR : R (.returned (.tuple #[.agg C, u, u2])) w) : bodyPost P fn R .ret a w := by
  obtain ⟨d, hu, hrow⟩ := G.row
  refine bodyPost_ret ?_ hd hR
  have hp' : a.tmps[p]?.getD undef = .pointer (some ⟨g, 0, none⟩) := by simpa using hp
  have hq' : a.tmps[q]?.getD undef = u := by simpa using hq
  have hq2' : a.tmps[q2]?.getD undef = u2 := by simpa using hq2
  have hl := run_loadVar_row w g t t C (0, 0) d hg hu (by cases d <;> simp_all) (by rw [G.size, hC])
  simp [results, hres, hp', hq', hq2', asAddr, hl]
end
section
variable {l pre : List UInt8} {ok : Prop} {Q : Con → Prop} {t : Con → List UInt8} {r r1 r2 : List UInt8} {bad ok1 ok2 : Bool} {N j : Nat}
theorem Inv.no (h : Inv l pre ok Q t r bad) (hb : bad = true) : ∀ C : Con, C.told → l ≠ encCon C := fun C hC he => by
  have := (h.2 C hC he).1
  rw [hb] at this; cases this
theorem resI_any (r : List UInt8) : ∃ x r' ok, Res (getI r) 0 x r' ok := by
  cases h : getI r with
  | none => exact ⟨_, _, _, Res.no⟩
  | some p => exact ⟨p.1, p.2, _, Res.yes⟩
theorem Inv.user_no {t2 : Con → List UInt8} {us : List (ByteArray × Int)} {s : List UInt8} (h : Inv l (pre ++ us.flatMap encU) True (fun C => (Q C ∧ C.lv.users.length = N) ∧ C.lv.users.take j = us) (fun C => (C.lv.users.drop j).flatMap encU ++ t2 C) r bad)
    (hj : j < N) (h1 : Res (getS r) [] s r1 false) : ∀ C : Con, C.told → l ≠ encCon C := by
  obtain ⟨y, r2, ok2, h2⟩ := resI_any r1
  exact (h.user hj h1 h2).no (by simp)
theorem Inv.kind_no {t2 : Con → List UInt8} {us : List (Int × Int)} {s : Int} (h : Inv l (pre ++ us.flatMap encK) True (fun C => (Q C ∧ C.lv.kinds.length = N) ∧ C.lv.kinds.take j = us) (fun C => (C.lv.kinds.drop j).flatMap encK ++ t2 C) r bad)
    (hj : j < N) (h1 : Res (getI r) 0 s r1 false) : ∀ C : Con, C.told → l ≠ encCon C := by
  obtain ⟨y, r2, ok2, h2⟩ := resI_any r1
  exact (h.kind hj h1 h2).no (by simp)
theorem told_restL {C : Con} (hC : C.told) : ∀ n ∈ restL C.lv, I64 n := by
  obtain ⟨y1, y2, y3, y4, y5, y6, y7⟩ := hC.rest
  intro n hn
  simp only [restL, List.mem_cons, List.not_mem_nil, or_false] at hn
  rcases hn with rfl | rfl | rfl | rfl | rfl | rfl | rfl <;> assumption
theorem Inv.restk {ys : List Int} {y : Int} (h : Inv l (pre ++ ys.flatMap encI) True (fun C => Q C ∧ (restL C.lv).take j = ys) (fun C => ((restL C.lv).drop j).flatMap encI) r bad) (hj : j < 7) (h1 : Res (getI r) 0 y r1 ok1) :
    Inv l (pre ++ (ys ++ [y]).flatMap encI) True (fun C => Q C ∧ (restL C.lv).take (j + 1) = ys ++ [y]) (fun C => ((restL C.lv).drop (j + 1)).flatMap encI) r1 (bad || !ok1) := by
  have hg : ∀ C : Con, ∃ h : j < (restL C.lv).length, (restL C.lv).getD j 0 = (restL C.lv)[j] := fun C => ⟨hj, by rw [List.getD_eq_getElem?_getD, List.getElem?_eq_getElem (show j < (restL C.lv).length from hj)]; rfl⟩
  have a := h.int (fun C => (restL C.lv).getD j 0) (fun C => ((restL C.lv).drop (j + 1)).flatMap encI) (fun C hC hq => by
      obtain ⟨hk, he⟩ := hg C
      rw [he, List.drop_eq_getElem_cons hk, List.flatMap_cons]) (fun C hC hq => by
      obtain ⟨hk, he⟩ := hg C
      rw [he]; exact told_restL hC _ (List.getElem_mem hk)) h1
  refine a.imp (fun _ => by rw [List.flatMap_append]; simp) (fun _ _ => trivial) (fun C hC hb hq => ⟨⟨hq.1.1, ?_⟩, rfl⟩)
  obtain ⟨hk, he⟩ := hg C
  refine take_snoc' hq.1.2 ?_
  rw [List.getElem?_eq_getElem hk]
  congr 1
  rw [← he]; exact hq.2
end
theorem levUK_one {us : List (ByteArray × Int)} {ks : List (Int × Int)} {vu vk : Value} (hu : vu.oneCell' = true) (hk : vk.oneCell' = true) : ∀ u ∈ levUK us ks vu vk, u.oneCell' = true := by
  intro u h
  simp only [levUK, levCells, List.mem_cons, List.not_mem_nil, or_false] at h
  rcases h with rfl | rfl | rfl | rfl | rfl | rfl | rfl | rfl | rfl <;> first | rfl | assumption
def sevZero : Array Value := #[.int .i64 0, .int .i64 0, .int .i64 0, .int .i64 0, .int .i64 0, .int .i64 0, .int .i64 0]
theorem strcA7 : Strc Tryz.prog 115 sevZero 7 := ⟨⟨_, Tryz.underlying115, rfl⟩, by kernel_rfl, rfl⟩
def sevC (ys : List Int) : List Value := ivs ys ++ List.replicate (7 - ys.length) (.int .i64 0)
theorem sevC_step {ys : List Int} {y : Int} (h : ys.length < 7) : patch (sevC ys) ys.length [.int .i64 y] = sevC (ys ++ [y]) := by
  match ys, h with
  | [], _ => rfl
  | [_], _ => rfl
  | [_, _], _ => rfl
  | [_, _, _], _ => rfl
  | [_, _, _, _], _ => rfl
  | [_, _, _, _, _], _ => rfl
  | [_, _, _, _, _, _], _ => rfl
  | _ :: _ :: _ :: _ :: _ :: _ :: _ :: _, h => simp only [List.length_cons] at h; omega
theorem seven_of {ys : List Int} (h : ys.length = 7) : ∃ a b c d e f g, ys = [a, b, c, d, e, f, g] := by
  match ys, h with
  | [a, b, c, d, e, f, g], _ => exact ⟨a, b, c, d, e, f, g, rfl⟩
/-- where the reference's reading of the lists is -/
def RSt (B gr gl : Nat) (w : World) (us : List (ByteArray × Int)) (ks : List (Int × Int)) (vu vk : Value) (A : Option Addr) (r : List UInt8) (w' : World) : Prop :=
  w'.heap[gl]? = some (.cells (levUK us ks vu vk).toArray 28 (0, 0)) ∧ w'.heap[gr]? = some (.cells levZero 28 (0, 0)) ∧ Row w' B A (bvs r) ∧ r.length ≤ 16777216 ∧ Below w.heap.size w w'
/-- what the reference's levels hands back -/
def RLevV (l pre : List UInt8) (Q : Con → Prop) (w : World) (e : Ending) (w' : World) : Prop :=
  ∃ cs v A' c' r' ok, e = .returned (.tuple #[.agg cs.toArray, .slice A' (List.length r') c', .bool ok]) ∧ cs.length = 9 ∧ (∀ u ∈ cs, u.oneCell' = true) ∧ Below w.heap.size w w' ∧
    (ok = true → LevR w' (w.heap.size ≤ ·) cs v ∧ v.fine ∧ Inv l (pre ++ encLev v) True (fun C => Q C ∧ C.lv = v) (fun _ => []) r' false) ∧ (ok = false → ∀ C : Con, C.told → l ≠ encCon C)

set_option maxRecDepth 100000 in
set_option maxHeartbeats 8000000 in
theorem r6levels {B : Nat} {A : Option Addr} {c : Nat} {l pre r : List UInt8} {Q : Con → Prop} {w : World} (hB : B ≤ w.heap.size) (hr : Row w B A (bvs r)) (hc : r.length ≤ c) (hl : r.length ≤ 16777216) (hI : Inv l pre True Q tail7 r false) :
    Calls Tryz.prog 141 #[.slice A r.length c] w (RLevV l pre Q w) := by
  have X0 := heap_alloc2_old w (.cells levZero 28) (.cells levZero 28)
  have X1 := heap_alloc2_new w (.cells levZero 28) (.cells levZero 28)
  have hx := below_two w (.cells levZero 28) (.cells levZero 28)
  have hz : ((w.alloc (.cells levZero 28)).alloc (.cells levZero 28)).heap.size = w.heap.size + 2 := by simp
  have R0 := hr.below (hx.mono hB)
  have HI := hide hI
  clear hI hr
  go_enter Tryz.func141, Tryz.ntmps141
  go_upto_region 2 with (refine wpList_zeroS rfl rfl strcL ?_)
  go_simp
  generalize hW : (w.alloc (.cells levZero 28)).alloc (.cells levZero 28) = W at X0 X1 hx hz R0 ⊢
  clear hW
  obtain ⟨gl, hgl1⟩ : ∃ gl, w.heap.size + 1 = gl := ⟨_, rfl⟩
  obtain ⟨gr, hgr1⟩ : ∃ gr, w.heap.size = gr := ⟨_, rfl⟩
  rw [hgl1] at X1 ⊢
  rw [hgr1] at X0 ⊢
  have HGL := hide hgl1; have HGR := hide hgr1; have HZ := hide hz
  clear hgl1 hgr1 hz
  have HBW := hide (show B ≤ W.heap.size by have := HZ.out; omega)
  have CC := RGetInt_at HBW.out R0 hc hl
  go_upto_region 3 with (go_at_call 76; refine CC.mono ?_; rintro e w1 ⟨x, r1, ok1, ⟨A1, c1, rfl, R1, hc1, k1⟩, hres⟩)
  have hr1 := Nat.le_trans (resI_len hres) hl
  have HX := hide (res_I64 hres)
  obtain ⟨N, hN⟩ : ∃ N, x.toNat = N := ⟨_, rfl⟩
  have HI1 := hide (Inv.count (N := N) (L := fun C => C.lv.users) (f := encU) (t2 := tailK) (gd := decide (x < 0)) HI.out (fun C _ _ => tail7_eq C) (fun C hC => hC.usersL) hres (fun C hx1 hr => by
    simp only [decide_eq_false_iff_not]; omega) (fun hb => by
    simp only [Bool.or_eq_false_iff, decide_eq_false_iff_not] at hb
    omega))
  have hb1 := ext_trans hx k1
  have Y1 : w1.heap[gl]? = some (.cells (levUK [] [] (.slice none 0 0) (.slice none 0 0)).toArray 28 (0, 0)) := box_below X1 k1
  have Y0 := box_below X0 k1
  have hlen : r1.length ≤ r.length := resI_len hres
  clear CC HI X0 X1 hx R0 hl hc
  cases ok1 with
  | false =>
    have HW := hide (HI1.out.no (by simp))
    clear HI1 hres
    go_wp2_with (first
      | refine wpList_loadS rfl (.tmp 5) rfl strcL ⟨gl, 0, none⟩ rfl (levUK [] [] (.slice none 0 0) (.slice none 0 0)) rfl (box_all Y1) ?_
      | refine wpList_storeB rfl (.tmp 2) (.tmp 39) rfl rfl strcL gr 0 rfl (levUK [] [] (.slice none 0 0) (.slice none 0 0)) rfl rfl (levUK_one rfl rfl) levZero.toList 28 Y0 (by decide) ?_)
    intro u9 B9 g9 z9
    have hb9 := hb1.grown g9 hb1.size (fun q hq => by injection hq with hq; have := HGR.out; omega)
    replace B9 : u9.heap[gr]? = some (.cells (levUK [] [] (.slice none 0 0) (.slice none 0 0)).toArray 28 (0, 0)) := B9
    go_wp2_with fail
    exact bodyPost_cell3 strcL rfl gr rfl (.slice none 0 0) (.bool false) rfl rfl rfl B9 rfl ⟨levUK [] [] (.slice none 0 0) (.slice none 0 0), Lev.zero, none, 0, [], false, rfl, rfl, levUK_one rfl rfl, hb9, (fun h => by cases h), fun _ => HW.out⟩
  | true =>
  by_cases hneg : x < 0
  · have HW := hide (HI1.out.no (by simp [hneg]))
    clear HI1 hres
    go_wp2_with (first
      | refine wpList_loadS rfl (.tmp 5) rfl strcL ⟨gl, 0, none⟩ rfl (levUK [] [] (.slice none 0 0) (.slice none 0 0)) rfl (box_all Y1) ?_
      | refine wpList_storeB rfl (.tmp 2) (.tmp 39) rfl rfl strcL gr 0 rfl (levUK [] [] (.slice none 0 0) (.slice none 0 0)) rfl rfl (levUK_one rfl rfl) levZero.toList 28 Y0 (by decide) ?_)
    intro u9 B9 g9 z9
    have hb9 := hb1.grown g9 hb1.size (fun q hq => by injection hq with hq; have := HGR.out; omega)
    replace B9 : u9.heap[gr]? = some (.cells (levUK [] [] (.slice none 0 0) (.slice none 0 0)).toArray 28 (0, 0)) := B9
    go_wp2_with fail
    exact bodyPost_cell3 strcL rfl gr rfl (.slice none 0 0) (.bool false) rfl rfl rfl B9 rfl ⟨levUK [] [] (.slice none 0 0) (.slice none 0 0), Lev.zero, none, 0, [], false, rfl, rfl, levUK_one rfl rfl, hb9, (fun h => by cases h), fun _ => HW.out⟩
  have hxN : x = (N : Int) := by omega
  have hpos : ¬ (N : Int) < 0 := by omega
  subst hxN
  have HI1' := hide (HI1.out.zero.imp (bad := _) (fun _ => rfl) (fun _ h => h) (fun C _ _ hq => ⟨hq, rfl⟩))
  have hbf : ((false || !true) || decide ((N : Int) < 0)) = false := by simp
  rw [hbf] at HI1'
  clear hres hneg hN HI1 hbf
  have ST : RSt B gr gl w [] [] (.slice none 0 0) (.slice none 0 0) A1 r1 w1 := ⟨Y1, Y0, R1, hr1, hb1⟩
  have hW1 := k1.size
  have HW1 := hide hW1
  clear Y1 Y0 R1 hb1 k1 hr1 hW1
  go_wp2_with fail
  go_loopw [0, 8] (fun b i wr => ∃ (j : Nat) (us : List (ByteArray × Int)) (vu : Value) (A : Option Addr) (c : Nat) (r : List UInt8), j ≤ N ∧ i = .int .i64 (j : Int) ∧ b = .slice A r.length c ∧ us.length = j ∧ r.length ≤ c ∧ 2 * us.length + r.length ≤ 16777216 ∧ (∀ u ∈ us, u.1.size ≤ 16777216 ∧ I64 u.2) ∧ RSt B gr gl w us [] vu (.slice none 0 0) A r wr ∧
      wr.ownsRow W.heap.size 97 2 vu us.length (ucs us) ∧ Hid (Inv l (pre ++ encI N ++ us.flatMap encU) True (fun C => (Q C ∧ C.lv.users.length = N) ∧ C.lv.users.take j = us) (fun C => (C.lv.users.drop j).flatMap encU ++ tailK C) r false)) (fun _ i _ => N - (intOf i).toNat)
  case atStart => exact ⟨0, [], _, A1, c1, r1, Nat.zero_le _, rfl, rfl, rfl, hc1, by have := ST.2.2.2.1; simpa using this, fun u hu => by simp at hu, ST, World.ownsRow_nil _ _ _ _, HI1'.out⟩
  case round =>
  clear ST HI1' hc1 hlen
  obtain ⟨j, us, vu, A, c, r, hj, rfl, rfl, hul, hc, hsum, huf, hst, hown, HIN⟩ := hrel
  obtain ⟨Y1, Y0, R, hrl, hbr⟩ := hst
  have HUL := hide hul
  have HUF := hide huf
  clear hul huf
  have hwr : W.heap.size ≤ wr.heap.size := by
    have h2 := (Array.getElem?_eq_some_iff.1 Y1).1; have := HZ.out; have := HGL.out; omega
  have ho1 := own_one hown
  by_cases hlt : j < N
  · have CT := RGetText_at (Nat.le_trans HBW.out hwr) R hc hrl
    go_upto_region 9 with (go_at_call 74; refine CT.mono ?_; rintro e w2 ⟨s, r1, ok1, ⟨A1, c1, rfl, R1, hc1, k1⟩, hres1⟩)
    have hl1 := resS_len hres1
    have hr1 : r1.length ≤ 16777216 := Nat.le_trans hl1.1 hrl
    have HS1 := hide (show (str s).size ≤ 16777216 by rw [str_size]; omega)
    clear hl1
    have Z1 := box_below Y1 k1
    have Z0 := box_below Y0 k1
    have O1 := own_below hown k1
    have hb1 := ext_trans hbr k1
    have hw2 := Nat.le_trans hwr k1.size
    clear CT Y1 Y0 R hown hbr k1
    cases ok1 with
    | false =>
      have HW := hide (HIN.out.user_no hlt hres1)
      clear hres1
      go_wp2_with (first
        | refine wpList_loadS rfl (.tmp 5) rfl strcL ⟨gl, 0, none⟩ rfl (levUK us [] vu (.slice none 0 0)) rfl (box_all Z1) ?_
        | refine wpList_storeB rfl (.tmp 2) (.tmp 53) rfl rfl strcL gr 0 rfl (levUK us [] vu (.slice none 0 0)) rfl rfl (levUK_one ho1 rfl) levZero.toList 28 Z0 (by decide) ?_)
      intro u9 B9 g9 z9
      have hb9 := hb1.grown g9 hb1.size (fun q hq => by injection hq with hq; have := HGR.out; omega)
      replace B9 : u9.heap[gr]? = some (.cells (levUK us [] vu (.slice none 0 0)).toArray 28 (0, 0)) := B9
      go_wp2_with fail
      exact bodyPost_cell3 strcL rfl gr rfl (.slice none 0 0) (.bool false) rfl rfl rfl B9 rfl ⟨levUK us [] vu (.slice none 0 0), Lev.zero, none, 0, [], false, rfl, rfl, levUK_one ho1 rfl, hb9, (fun h => by cases h), fun _ => HW.out⟩
    | true =>
    have CT := RGetInt_at (Nat.le_trans HBW.out hw2) R1 hc1 hr1
    have hcut1 : r1.length < r.length := by
      rcases hres1 with ⟨_, h⟩ | ⟨h, _⟩
      · have := getS_can _ _ _ h; rw [this.1, List.length_append]; have := encS_pos (str s); omega
      · cases h
    have HRES := hide hres1
    clear hres1
    go_upto_region 12 with (go_at_call 76; refine CT.mono ?_; rintro e w3 ⟨y, r2, ok2, ⟨A2, c2, rfl, R2, hc2, k2⟩, hres2⟩)
    have hr2 : r2.length ≤ 16777216 := Nat.le_trans (resI_len hres2) hr1
    have HY := hide (res_I64 hres2)
    have HN := hide (Inv.user HIN.out hlt HRES.out hres2)
    have Z1 := box_below Z1 k2
    have Z0 := box_below Z0 k2
    have O1 := own_below O1 k2
    have hb1 := ext_trans hb1 k2
    have hw2 := Nat.le_trans hw2 k2.size
    clear CT R1 k2
    cases ok2 with
    | false =>
      have HW := hide (HN.out.no (by simp))
      clear hres2
      go_wp2_with (first
        | refine wpList_loadS rfl (.tmp 5) rfl strcL ⟨gl, 0, none⟩ rfl (levUK us [] vu (.slice none 0 0)) rfl (box_all Z1) ?_
        | refine wpList_storeB rfl (.tmp 2) (.tmp 62) rfl rfl strcL gr 0 rfl (levUK us [] vu (.slice none 0 0)) rfl rfl (levUK_one ho1 rfl) levZero.toList 28 Z0 (by decide) ?_)
      intro u9 B9 g9 z9
      have hb9 := hb1.grown g9 hb1.size (fun q hq => by injection hq with hq; have := HGR.out; omega)
      replace B9 : u9.heap[gr]? = some (.cells (levUK us [] vu (.slice none 0 0)).toArray 28 (0, 0)) := B9
      go_wp2_with fail
      exact bodyPost_cell3 strcL rfl gr rfl (.slice none 0 0) (.bool false) rfl rfl rfl B9 rfl ⟨levUK us [] vu (.slice none 0 0), Lev.zero, none, 0, [], false, rfl, rfl, levUK_one ho1 rfl, hb9, (fun h => by cases h), fun _ => HW.out⟩
    | true =>
    have hcut2 : r2.length < r1.length := by
      rcases hres2 with ⟨_, h⟩ | ⟨h, _⟩
      · have := getI_can _ _ _ h; rw [this.1, List.length_append]; have := encI_pos y; omega
      · cases h
    have hlen : us.length ≤ 8388608 := by omega
    have hjb : j ≤ 8388608 := by have := HUL.out; omega
    have q0 : w3.cell? ⟨gl, 0, none⟩ = some vu := box_at Z1 (j := 0) rfl
    clear hres2
    go_wp2_with (first | (at_builtin; go_must (refine wpList_append_at6 rfl (.tmp 64) (.tmp 68) rfl elemU W.heap.size vu us.length (ucs us) rfl O1 1 #[.string (str s), .int .i64 y] rfl rfl (by simp [Value.oneCell']) (by unfold maxLen; omega) (by omega) hw2 ?_)))
    intro v5 w5 hown5 hg5 hblk
    have hub2 := fun q hq => own_block O1 q hq
    have T5 : w5.heap[gl]? = _ := (hg5.block gl (Array.getElem?_eq_some_iff.1 Z1).1 (fun e => by have := (hub2 _ e.symm).1; have := HZ.out; have := HGL.out; omega)).trans Z1
    have Z5 : w5.heap[gr]? = _ := (hg5.block gr (Array.getElem?_eq_some_iff.1 Z0).1 (fun e => by have := (hub2 _ e.symm).1; have := HZ.out; have := HGR.out; omega)).trans Z0
    have R5 := R2.grown hg5 (Nat.le_trans HBW.out hw2) (fun q hq => by have := (hub2 q hq).1; have := HBW.out; omega)
    have hb5 := hb1.grown hg5 hb1.size (fun q hq => by have := (hub2 q hq).1; have := HZ.out; omega)
    have hw5 := Nat.le_trans hw2 hg5.size
    clear R2 Z1 Z0 O1 hb1 hg5 hub2 q0
    go_wp2_with (refine wpList_store1 rfl (.tmp 70) (.tmp 69) rfl rfl sizeU gl 0 rfl v5 rfl (own_one hown5) (levUK us [] vu (.slice none 0 0)) 28 T5 (by simp [levUK, levCells]) ?_)
    intro w6 B6 g6 hz6
    have hub5 := fun q hq => own_block hown5 q hq
    have Z6 := box_grown Z5 g6 (by have := HGL.out; have := HGR.out; omega)
    have O6 := own_apart6 hown5 g6 (fun q hq e => by injection e with e; have := (hub5 q hq).1; have := HZ.out; have := HGL.out; omega)
    have R6 := R5.grown g6 (Nat.le_trans HBW.out hw5) (fun q hq => by injection hq with hq; have := HGL.out; omega)
    have hb6 := hb5.grown g6 hb5.size (fun q hq => by injection hq with hq; have := HGL.out; omega)
    have hun : us.length + 1 = (us ++ [(str s, y)]).length := by simp
    have hucs : ucs us ++ (#[.string (str s), .int .i64 y] : Array Value).toList = ucs (us ++ [(str s, y)]) := by simp [ucs]
    rw [hucs, hun] at O6
    have B6' : w6.heap[gl]? = some (.cells (levUK (us ++ [(str s, y)]) [] v5 (.slice none 0 0)).toArray 28 (0, 0)) := B6
    have hN2 := HN.out
    simp only [Bool.not_true, Bool.or_false, Bool.false_or] at hN2
    have HN' := hide hN2
    clear T5 Z5 R5 hown5 hb5 g6 hz6 hub5 hucs hun B6 hN2 HN
    go_wp2_with fail
    go_roundw
    case rel => exact ⟨j + 1, us ++ [(str s, y)], v5, A2, c2, r2, by omega, by go_num, rfl, by rw [List.length_append, HUL.out]; rfl, hc2, by rw [List.length_append, List.length_singleton]; omega, (fun u hu => by
      rcases List.mem_append.1 hu with h | h
      · exact HUF.out u h
      · simp only [List.mem_cons, List.not_mem_nil, or_false] at h; subst h; exact ⟨HS1.out, HY.out⟩), ⟨B6', Z6, R6, hr2, hb6⟩, O6, HN'.out⟩
    case measure => (simp [intOf]; try omega)
  obtain rfl : j = N := by omega
  have HI2 := hide (HIN.out.listed HUL.out)
  have SU0 := Slc.own hown (by decide)
  have huL : us.length ≤ 8388608 := by omega
  have HLU := HUL; have HFU := HUF
  clear HIN hown hlt hj HUL HUF hsum hpos
  -- the number of kinds
  have CC := RGetInt_at (Nat.le_trans HBW.out hwr) R hc hrl
  go_upto_region 17 with (go_at_call 76; refine CC.mono ?_; rintro e w7 ⟨x, r7, ok7, ⟨A7, c7, rfl, R7, hc7, k7⟩, hres⟩)
  have hr7 := Nat.le_trans (resI_len hres) hrl
  have HX2 := hide (res_I64 hres)
  obtain ⟨M, hM⟩ : ∃ M, x.toNat = M := ⟨_, rfl⟩
  have HI3 := hide (Inv.count (N := M) (L := fun C => C.lv.kinds) (f := encK) (t2 := tailR) (gd := decide (x < 0)) HI2.out (fun C _ _ => rfl) (fun C hC => hC.kindsL) hres (fun C hx1 hr => by
    simp only [decide_eq_false_iff_not]; omega) (fun hb => by
    simp only [Bool.or_eq_false_iff, decide_eq_false_iff_not] at hb
    omega))
  have hb7 := ext_trans hbr k7
  have Y7 := box_below Y1 k7
  have Y8 := box_below Y0 k7
  have SU7 := SU0.ext k7
  have hw7 := Nat.le_trans hwr k7.size
  clear CC HI2 Y1 Y0 R hbr k7 SU0 hwr hrl hc
  cases ok7 with
  | false =>
    have HW := hide (HI3.out.no (by simp))
    clear HI3 hres
    go_wp2_with (first
      | refine wpList_loadS rfl (.tmp 5) rfl strcL ⟨gl, 0, none⟩ rfl (levUK us [] vu (.slice none 0 0)) rfl (box_all Y7) ?_
      | refine wpList_storeB rfl (.tmp 2) (.tmp 84) rfl rfl strcL gr 0 rfl (levUK us [] vu (.slice none 0 0)) rfl rfl (levUK_one ho1 rfl) levZero.toList 28 Y8 (by decide) ?_)
    intro u9 B9 g9 z9
    have hb9 := hb7.grown g9 hb7.size (fun q hq => by injection hq with hq; have := HGR.out; omega)
    replace B9 : u9.heap[gr]? = some (.cells (levUK us [] vu (.slice none 0 0)).toArray 28 (0, 0)) := B9
    go_wp2_with fail
    exact bodyPost_cell3 strcL rfl gr rfl (.slice none 0 0) (.bool false) rfl rfl rfl B9 rfl ⟨levUK us [] vu (.slice none 0 0), Lev.zero, none, 0, [], false, rfl, rfl, levUK_one ho1 rfl, hb9, (fun h => by cases h), fun _ => HW.out⟩
  | true =>
  by_cases hneg : x < 0
  · have HW := hide (HI3.out.no (by simp [hneg]))
    clear HI3 hres
    go_wp2_with (first
      | refine wpList_loadS rfl (.tmp 5) rfl strcL ⟨gl, 0, none⟩ rfl (levUK us [] vu (.slice none 0 0)) rfl (box_all Y7) ?_
      | refine wpList_storeB rfl (.tmp 2) (.tmp 84) rfl rfl strcL gr 0 rfl (levUK us [] vu (.slice none 0 0)) rfl rfl (levUK_one ho1 rfl) levZero.toList 28 Y8 (by decide) ?_)
    intro u9 B9 g9 z9
    have hb9 := hb7.grown g9 hb7.size (fun q hq => by injection hq with hq; have := HGR.out; omega)
    replace B9 : u9.heap[gr]? = some (.cells (levUK us [] vu (.slice none 0 0)).toArray 28 (0, 0)) := B9
    go_wp2_with fail
    exact bodyPost_cell3 strcL rfl gr rfl (.slice none 0 0) (.bool false) rfl rfl rfl B9 rfl ⟨levUK us [] vu (.slice none 0 0), Lev.zero, none, 0, [], false, rfl, rfl, levUK_one ho1 rfl, hb9, (fun h => by cases h), fun _ => HW.out⟩
  have hxM : x = (M : Int) := by omega
  have hpos : ¬ (M : Int) < 0 := by omega
  subst hxM
  have HI1' := hide HI3.out.zero
  have hbf : ((false || !true) || decide ((M : Int) < 0)) = false := by simp
  rw [hbf] at HI1'
  clear hres hneg hM HI3 hbf
  have ST : RSt B gr gl w us [] vu (.slice none 0 0) A7 r7 w7 := ⟨Y7, Y8, R7, hr7, hb7⟩
  have SUW := SU7.weak (S' := fun b => W.heap.size ≤ b ∧ (Value.slice none 0 0).ownBlock ≠ some b) (fun q hq _ => ⟨hq, fun e => by cases e⟩)
  clear Y7 Y8 R7 hb7 hr7 hw7 SU7
  go_wp2_with fail
  go_loopw [0, 15] (fun b i wr => ∃ (j : Nat) (ks : List (Int × Int)) (vk : Value) (A : Option Addr) (c : Nat) (r : List UInt8), j ≤ M ∧ i = .int .i64 (j : Int) ∧ b = .slice A r.length c ∧ ks.length = j ∧ r.length ≤ c ∧ 2 * ks.length + r.length ≤ 16777216 ∧ (∀ u ∈ ks, I64 u.1 ∧ I64 u.2) ∧ RSt B gr gl w us ks vu vk A r wr ∧
      wr.ownsRow W.heap.size 114 2 vk ks.length (kcs ks) ∧ Hid (Inv l (pre ++ encL encU us ++ encI M ++ ks.flatMap encK) True (fun C => ((Q C ∧ C.lv.users = us) ∧ C.lv.kinds.length = M) ∧ C.lv.kinds.take j = ks) (fun C => (C.lv.kinds.drop j).flatMap encK ++ tailR C) r false) ∧ Slc wr (fun b => W.heap.size ≤ b ∧ vk.ownBlock ≠ some b) vu 2 us.length (ucs us)) (fun _ i _ => M - (intOf i).toNat)
  case atStart => exact ⟨0, [], _, A7, c7, r7, Nat.zero_le _, rfl, rfl, rfl, hc7, by have := ST.2.2.2.1; simpa using this, fun u hu => by simp at hu, ST, World.ownsRow_nil _ _ _ _, HI1'.out, SUW⟩
  case round =>
  clear ST HI1' hc7 SUW
  obtain ⟨j, ks, vk, A, c, r, hj, rfl, rfl, hul, hc, hsum, huf, hst, hown, HIN, SU⟩ := hrel
  obtain ⟨Y1, Y0, R, hrl, hbr⟩ := hst
  have HUL := hide hul
  have HUF := hide huf
  clear hul huf
  have hwr : W.heap.size ≤ wr.heap.size := by
    have h2 := (Array.getElem?_eq_some_iff.1 Y1).1; have := HZ.out; have := HGL.out; omega
  have ho2 := own_one hown
  by_cases hlt : j < M
  · have CT := RGetInt_at (Nat.le_trans HBW.out hwr) R hc hrl
    go_upto_region 23 with (go_at_call 76; refine CT.mono ?_; rintro e w2 ⟨s, r1, ok1, ⟨A1, c1, rfl, R1, hc1, k1⟩, hres1⟩)
    have hr1 : r1.length ≤ 16777216 := Nat.le_trans (resI_len hres1) hrl
    have HS1 := hide (res_I64 hres1)
    have Z1 := box_below Y1 k1
    have Z0 := box_below Y0 k1
    have O1 := own_below hown k1
    have SU := SU.ext k1
    have hb1 := ext_trans hbr k1
    have hw2 := Nat.le_trans hwr k1.size
    clear CT Y1 Y0 R hown hbr k1
    cases ok1 with
    | false =>
      have HW := hide (HIN.out.kind_no hlt hres1)
      clear hres1
      go_wp2_with (first
        | refine wpList_loadS rfl (.tmp 5) rfl strcL ⟨gl, 0, none⟩ rfl (levUK us ks vu vk) rfl (box_all Z1) ?_
        | refine wpList_storeB rfl (.tmp 2) (.tmp 98) rfl rfl strcL gr 0 rfl (levUK us ks vu vk) rfl rfl (levUK_one ho1 ho2) levZero.toList 28 Z0 (by decide) ?_)
      intro u9 B9 g9 z9
      have hb9 := hb1.grown g9 hb1.size (fun q hq => by injection hq with hq; have := HGR.out; omega)
      replace B9 : u9.heap[gr]? = some (.cells (levUK us ks vu vk).toArray 28 (0, 0)) := B9
      go_wp2_with fail
      exact bodyPost_cell3 strcL rfl gr rfl (.slice none 0 0) (.bool false) rfl rfl rfl B9 rfl ⟨levUK us ks vu vk, Lev.zero, none, 0, [], false, rfl, rfl, levUK_one ho1 ho2, hb9, (fun h => by cases h), fun _ => HW.out⟩
    | true =>
    have CT := RGetInt_at (Nat.le_trans HBW.out hw2) R1 hc1 hr1
    have hcut1 : r1.length < r.length := by
      rcases hres1 with ⟨_, h⟩ | ⟨h, _⟩
      · have := getI_can _ _ _ h; rw [this.1, List.length_append]; have := encI_pos s; omega
      · cases h
    have HRES := hide hres1
    clear hres1
    go_upto_region 26 with (go_at_call 76; refine CT.mono ?_; rintro e w3 ⟨y, r2, ok2, ⟨A2, c2, rfl, R2, hc2, k2⟩, hres2⟩)
    have hr2 : r2.length ≤ 16777216 := Nat.le_trans (resI_len hres2) hr1
    have HY := hide (res_I64 hres2)
    have HN := hide (Inv.kind HIN.out hlt HRES.out hres2)
    have Z1 := box_below Z1 k2
    have Z0 := box_below Z0 k2
    have O1 := own_below O1 k2
    have SU := SU.ext k2
    have hb1 := ext_trans hb1 k2
    have hw2 := Nat.le_trans hw2 k2.size
    clear CT R1 k2
    cases ok2 with
    | false =>
      have HW := hide (HN.out.no (by simp))
      clear hres2
      go_wp2_with (first
        | refine wpList_loadS rfl (.tmp 5) rfl strcL ⟨gl, 0, none⟩ rfl (levUK us ks vu vk) rfl (box_all Z1) ?_
        | refine wpList_storeB rfl (.tmp 2) (.tmp 107) rfl rfl strcL gr 0 rfl (levUK us ks vu vk) rfl rfl (levUK_one ho1 ho2) levZero.toList 28 Z0 (by decide) ?_)
      intro u9 B9 g9 z9
      have hb9 := hb1.grown g9 hb1.size (fun q hq => by injection hq with hq; have := HGR.out; omega)
      replace B9 : u9.heap[gr]? = some (.cells (levUK us ks vu vk).toArray 28 (0, 0)) := B9
      go_wp2_with fail
      exact bodyPost_cell3 strcL rfl gr rfl (.slice none 0 0) (.bool false) rfl rfl rfl B9 rfl ⟨levUK us ks vu vk, Lev.zero, none, 0, [], false, rfl, rfl, levUK_one ho1 ho2, hb9, (fun h => by cases h), fun _ => HW.out⟩
    | true =>
    have SU := SU.weak (S' := fun b => W.heap.size ≤ b ∧ vk.ownBlock ≠ some b ∧ b < w3.heap.size) (fun q hq hl => ⟨hq.1, hq.2, hl⟩)
    have hcut2 : r2.length < r1.length := by
      rcases hres2 with ⟨_, h⟩ | ⟨h, _⟩
      · have := getI_can _ _ _ h; rw [this.1, List.length_append]; have := encI_pos y; omega
      · cases h
    have hlen : ks.length ≤ 8388608 := by omega
    have hjb : j ≤ 8388608 := by have := HUL.out; omega
    have q0 : w3.cell? ⟨gl, 1, none⟩ = some vk := box_at Z1 (j := 1) rfl
    clear hres2
    go_wp2_with (first | (at_builtin; go_must (refine wpList_append_at6 rfl (.tmp 109) (.tmp 113) rfl elemK W.heap.size vk ks.length (kcs ks) rfl O1 1 #[.int .i64 s, .int .i64 y] rfl rfl (by simp [Value.oneCell']) (by unfold maxLen; omega) (by omega) hw2 ?_)))
    intro v5 w5 hown5 hg5 hblk
    have hub2 := fun q hq => own_block O1 q hq
    have T5 : w5.heap[gl]? = _ := (hg5.block gl (Array.getElem?_eq_some_iff.1 Z1).1 (fun e => by have := (hub2 _ e.symm).1; have := HZ.out; have := HGL.out; omega)).trans Z1
    have Z5 : w5.heap[gr]? = _ := (hg5.block gr (Array.getElem?_eq_some_iff.1 Z0).1 (fun e => by have := (hub2 _ e.symm).1; have := HZ.out; have := HGR.out; omega)).trans Z0
    have R5 := R2.grown hg5 (Nat.le_trans HBW.out hw2) (fun q hq => by have := (hub2 q hq).1; have := HBW.out; omega)
    have hb5 := hb1.grown hg5 hb1.size (fun q hq => by have := (hub2 q hq).1; have := HZ.out; omega)
    have hw5 := Nat.le_trans hw2 hg5.size
    have SU5 := (SU.grown hg5 (fun q hq => hq.2.1)).weak (S' := fun b => W.heap.size ≤ b ∧ v5.ownBlock ≠ some b) (fun q hq _ => ⟨hq.1, fun e => by
      rcases hblk with h | h
      · exact hq.2.1 (h.symm.trans e)
      · rw [h] at e; injection e with e; have := hq.2.2; omega⟩)
    clear R2 Z1 Z0 O1 hb1 hg5 hub2 q0 SU
    go_wp2_with (refine wpList_store1 rfl (.tmp 115) (.tmp 114) rfl rfl sizeK gl 1 rfl v5 rfl (own_one hown5) (levUK us ks vu vk) 28 T5 (by simp [levUK, levCells]) ?_)
    intro w6 B6 g6 hz6
    have hub5 := fun q hq => own_block hown5 q hq
    have Z6 := box_grown Z5 g6 (by have := HGL.out; have := HGR.out; omega)
    have O6 := own_apart6 hown5 g6 (fun q hq e => by injection e with e; have := (hub5 q hq).1; have := HZ.out; have := HGL.out; omega)
    have R6 := R5.grown g6 (Nat.le_trans HBW.out hw5) (fun q hq => by injection hq with hq; have := HGL.out; omega)
    have SU6 := SU5.grown g6 (fun q hq e => by injection e with e; have := hq.1; have := HZ.out; have := HGL.out; omega)
    have hb6 := hb5.grown g6 hb5.size (fun q hq => by injection hq with hq; have := HGL.out; omega)
    have hun : ks.length + 1 = (ks ++ [(s, y)]).length := by simp
    have hucs : kcs ks ++ (#[.int .i64 s, .int .i64 y] : Array Value).toList = kcs (ks ++ [(s, y)]) := by simp [kcs]
    rw [hucs, hun] at O6
    have B6' : w6.heap[gl]? = some (.cells (levUK us (ks ++ [(s, y)]) vu v5).toArray 28 (0, 0)) := B6
    have hN2 := HN.out
    simp only [Bool.not_true, Bool.or_false, Bool.false_or] at hN2
    have HN' := hide hN2
    clear T5 Z5 R5 hown5 hb5 g6 hz6 hub5 hucs hun B6 hN2 HN SU5
    go_wp2_with fail
    go_roundw
    case rel => exact ⟨j + 1, ks ++ [(s, y)], v5, A2, c2, r2, by omega, by go_num, rfl, by rw [List.length_append, HUL.out]; rfl, hc2, by rw [List.length_append, List.length_singleton]; omega, (fun u hu => by
      rcases List.mem_append.1 hu with h | h
      · exact HUF.out u h
      · simp only [List.mem_cons, List.not_mem_nil, or_false] at h; subst h; exact ⟨HS1.out, HY.out⟩), ⟨B6', Z6, R6, hr2, hb6⟩, O6, HN'.out, SU6⟩
    case measure => (simp [intOf]; try omega)
  obtain rfl : j = M := by omega
  have HI2 := hide (HIN.out.listed HUL.out)
  have SK := Slc.own hown (by decide)
  have hkL : ks.length ≤ 8388608 := by omega
  clear HIN hown hlt hj hsum hpos
  have SU0 := SU.weak (S' := fun b => W.heap.size ≤ b) (fun q hq _ => hq.1)
  clear SU
  -- the seven numbers
  have HI4 := hide (show Inv l (pre ++ encL encU us ++ encL encK ks ++ ([] : List Int).flatMap encI) True (fun C => ((Q C ∧ C.lv.users = us) ∧ C.lv.kinds = ks) ∧ (restL C.lv).take 0 = []) (fun C => ((restL C.lv).drop 0).flatMap encI) r false from HI2.out.imp (fun _ => by simp) (fun _ h => h) (fun C _ _ hq => ⟨⟨hq, by simp⟩, rfl⟩))
  clear HI2
  obtain ⟨gx, hgx⟩ : ∃ gx, wr.heap.size = gx := ⟨_, rfl⟩
  have SU0 := SU0.weak (S' := fun b => W.heap.size ≤ b ∧ b < gx) (fun q hq hl => ⟨hq, by omega⟩)
  have SK := SK.weak (S' := fun b => W.heap.size ≤ b ∧ b < gx) (fun q hq hl => ⟨hq, by omega⟩)
  go_upto_region 31 with (refine wpList_zeroS rfl rfl strcA7 ?_)
  go_simp
  have X2 := heap_alloc_new wr (.cells sevZero 115)
  have kx := ext_alloc (ext_refl wr) (.cells sevZero 115)
  generalize wr.alloc (.cells sevZero 115) = W2 at X2 kx ⊢
  have hwx : W.heap.size ≤ gx := by omega
  rw [hgx] at X2
  have HGX := hide hwx
  have Y1 := box_below Y1 kx
  have Y0 := box_below Y0 kx
  have R := R.below (kx.mono (Nat.le_trans HBW.out hwr))
  have SU0 := SU0.ext kx
  have SK := SK.ext kx
  have hbr := ext_trans hbr kx
  have X2' : W2.heap[gx]? = some (.cells (sevC []).toArray 115 (0, 0)) := X2
  have ST : RSt B gr gl w us ks vu vk A r W2 := ⟨Y1, Y0, R, hrl, hbr⟩
  clear X2 kx hwx hgx hwr Y1 Y0 R hrl hbr
  go_wp2_with fail
  go_loopw [0, 23] (fun b i wr => ∃ (k : Nat) (ys : List Int) (A : Option Addr) (c : Nat) (r : List UInt8), k ≤ 7 ∧ i = .int .i64 (k : Int) ∧ b = .slice A r.length c ∧ ys.length = k ∧ r.length ≤ c ∧ (∀ n ∈ ys, I64 n) ∧ wr.heap[gx]? = some (.cells (sevC ys).toArray 115 (0, 0)) ∧ RSt B gr gl w us ks vu vk A r wr ∧
      Hid (Inv l (pre ++ encL encU us ++ encL encK ks ++ ys.flatMap encI) True (fun C => ((Q C ∧ C.lv.users = us) ∧ C.lv.kinds = ks) ∧ (restL C.lv).take k = ys) (fun C => ((restL C.lv).drop k).flatMap encI) r false) ∧ Slc wr (fun b => W.heap.size ≤ b ∧ b < gx) vu 2 us.length (ucs us) ∧ Slc wr (fun b => W.heap.size ≤ b ∧ b < gx) vk 2 ks.length (kcs ks)) (fun _ i _ => 7 - (intOf i).toNat)
  case atStart => exact ⟨0, [], _, c, r, by omega, rfl, rfl, rfl, hc, (fun n hn => by simp at hn), X2', ST, HI4.out, SU0, SK⟩
  case round =>
  clear X2' ST HI4 SU0 SK hc
  obtain ⟨k, ys, A, c, r, hk, rfl, rfl, hyl, hc, hyf, BX, hst, HIN, SU, SK⟩ := hrel
  obtain ⟨Y1, Y0, R, hrl, hbr⟩ := hst
  have HYL := hide hyl
  have HYF := hide hyf
  clear hyl hyf
  have hwr : W.heap.size ≤ wr.heap.size := by
    have h2 := (Array.getElem?_eq_some_iff.1 Y1).1; have := HZ.out; have := HGL.out; omega
  by_cases hlt : k < 7
  · have CT := RGetInt_at (Nat.le_trans HBW.out hwr) R hc hrl
    go_upto_region 35 with (go_at_call 76; refine CT.mono ?_; rintro e w2 ⟨y, r1, ok1, ⟨A1, c1, rfl, R1, hc1, k1⟩, hres1⟩)
    have hr1 : r1.length ≤ 16777216 := Nat.le_trans (resI_len hres1) hrl
    have HY := hide (res_I64 hres1)
    have HN := hide (Inv.restk HIN.out hlt hres1)
    have Z1 := box_below Y1 k1
    have Z0 := box_below Y0 k1
    have BX := box_below BX k1
    have SU := SU.ext k1
    have SK := SK.ext k1
    have hb1 := ext_trans hbr k1
    have hw2 := Nat.le_trans hwr k1.size
    clear CT Y1 Y0 R hbr k1 hres1
    cases ok1 with
    | false =>
      have HW := hide (HN.out.no (by simp))
      go_wp2_with (first
        | refine wpList_loadS rfl (.tmp 5) rfl strcL ⟨gl, 0, none⟩ rfl (levUK us ks vu vk) rfl (box_all Z1) ?_
        | refine wpList_storeB rfl (.tmp 2) (.tmp 129) rfl rfl strcL gr 0 rfl (levUK us ks vu vk) rfl rfl (levUK_one ho1 ho2) levZero.toList 28 Z0 (by decide) ?_)
      intro u9 B9 g9 z9
      have hb9 := hb1.grown g9 hb1.size (fun q hq => by injection hq with hq; have := HGR.out; omega)
      replace B9 : u9.heap[gr]? = some (.cells (levUK us ks vu vk).toArray 28 (0, 0)) := B9
      go_wp2_with fail
      exact bodyPost_cell3 strcL rfl gr rfl (.slice none 0 0) (.bool false) rfl rfl rfl B9 rfl ⟨levUK us ks vu vk, Lev.zero, none, 0, [], false, rfl, rfl, levUK_one ho1 ho2, hb9, (fun h => by cases h), fun _ => HW.out⟩
    | true =>
    have hsl : (sevC ys).length = 7 := by unfold sevC; rw [List.length_append, List.length_replicate, ivs_length, HYL.out]; omega
    have HSL := hide hsl
    clear hsl
    go_wp2_with (refine wpList_store1 rfl (.tmp 133) (.tmp 131) rfl rfl sizeI gx k (by first | rfl | (go_simp)) (.int .i64 y) rfl rfl (sevC ys) 115 BX (by rw [HSL.out]; omega) ?_)
    intro w6 B6 g6 hz6
    have hst : patch (sevC ys) k [.int .i64 y] = sevC (ys ++ [y]) := by rw [← HYL.out]; exact sevC_step (by rw [HYL.out]; exact hlt)
    rw [hst] at B6
    have Z6 := box_grown Z1 g6 (by have := HGX.out; have := HZ.out; have := HGL.out; omega)
    have Z7 := box_grown Z0 g6 (by have := HGX.out; have := HZ.out; have := HGR.out; omega)
    have R6 := R1.grown g6 (Nat.le_trans HBW.out hw2) (fun q hq => by injection hq with hq; have := HGX.out; have := HBW.out; omega)
    have SU6 := SU.grown g6 (fun q hq e => by injection e with e; have := hq.2; omega)
    have SK6 := SK.grown g6 (fun q hq e => by injection e with e; have := hq.2; omega)
    have hb6 := hb1.grown g6 hb1.size (fun q hq => by injection hq with hq; have := HGX.out; have := HZ.out; omega)
    have hN2 := HN.out
    simp only [Bool.not_true, Bool.or_false] at hN2
    have HN' := hide hN2
    clear Z1 Z0 R1 SU SK hb1 g6 hz6 hst BX hN2 HN
    go_wp2_with fail
    go_roundw
    case rel => exact ⟨k + 1, ys ++ [y], A1, c1, r1, by omega, by go_num, rfl, by rw [List.length_append, HYL.out]; rfl, hc1, (fun n hn => by
      rcases List.mem_append.1 hn with h | h
      · exact HYF.out n h
      · simp only [List.mem_cons, List.not_mem_nil, or_false] at h; subst h; exact HY.out), B6, ⟨Z6, Z7, R6, hr1, hb6⟩, HN'.out, SU6, SK6⟩
    case measure => (simp [intOf]; try omega)
  obtain rfl : k = 7 := by omega
  obtain ⟨x1, x2, x3, x4, x5, x6, x7, rfl⟩ := seven_of HYL.out
  have BX : wr.heap[gx]? = some (.cells #[.int .i64 x1, .int .i64 x2, .int .i64 x3, .int .i64 x4, .int .i64 x5, .int .i64 x6, .int .i64 x7] 115 (0, 0)) := BX
  clear hlt hk
  go_upto_region 38 with fail
  have hxd : Below wr.heap.size wr { wr with drawn := wr.drawn + 1 } := ext_drew (ext_refl wr)
  refine wp_region_phase (fun w' => w'.heap[gx]? = some (.cells #[.int .i64 x1, .int .i64 x2, .int .i64 x3, .int .i64 x4, .int .i64 x5, .int .i64 x6, .int .i64 x7] 115 (0, 0))) [] (by kernel_rfl) ?_
  have T0 := box_below BX hxd
  have B0 := box_below Y1 hxd
  have Z0 := box_below Y0 hxd
  have SU0 := SU.ext hxd
  have SK0 := SK.ext hxd
  have hb0 := ext_trans hbr hxd
  generalize { wr with drawn := wr.drawn + 1 } = m0 at T0 B0 Z0 SU0 SK0 hb0 ⊢
  clear hxd BX Y1 Y0 SU SK hbr R
  refine wpAnyP_take (i := 0) rfl (by kernel_rfl) (by kernel_rfl) (by kernel_rfl) (by kernel_rfl) (fun _ _ _ h => h) (yieldsIf_run (.pointer (some ⟨gx, 0, none⟩)) rfl (fun w' => by go_simp)) T0 ?_
  refine wpAnyP_take (i := 1) rfl (by kernel_rfl) (by kernel_rfl) (by kernel_rfl) (by kernel_rfl) (fun _ _ _ h => h) (yieldsIf_load rfl rfl Tryz.underlying3 rfl rfl (fun w' hT => box_at hT (j := 0) (u := .int .i64 x1) rfl)) T0 ?_
  go_simp
  refine wpAnyP_take (i := 2) rfl (by kernel_rfl) (by kernel_rfl) (by kernel_rfl) (by kernel_rfl) (fun _ _ _ h => h) (yieldsIf_run (.pointer (some ⟨gx, 1, none⟩)) rfl (fun w' => by go_simp)) T0 ?_
  refine wpAnyP_take (i := 3) rfl (by kernel_rfl) (by kernel_rfl) (by kernel_rfl) (by kernel_rfl) (fun _ _ _ h => h) (yieldsIf_load rfl rfl Tryz.underlying3 rfl rfl (fun w' hT => box_at hT (j := 1) (u := .int .i64 x2) rfl)) T0 ?_
  go_simp
  refine wpAnyP_take (i := 4) rfl (by kernel_rfl) (by kernel_rfl) (by kernel_rfl) (by kernel_rfl) (fun _ _ _ h => h) (yieldsIf_run (.pointer (some ⟨gx, 2, none⟩)) rfl (fun w' => by go_simp)) T0 ?_
  refine wpAnyP_take (i := 5) rfl (by kernel_rfl) (by kernel_rfl) (by kernel_rfl) (by kernel_rfl) (fun _ _ _ h => h) (yieldsIf_load rfl rfl Tryz.underlying3 rfl rfl (fun w' hT => box_at hT (j := 2) (u := .int .i64 x3) rfl)) T0 ?_
  go_simp
  refine wpAnyP_take (i := 6) rfl (by kernel_rfl) (by kernel_rfl) (by kernel_rfl) (by kernel_rfl) (fun _ _ _ h => h) (yieldsIf_run (.pointer (some ⟨gx, 3, none⟩)) rfl (fun w' => by go_simp)) T0 ?_
  refine wpAnyP_take (i := 7) rfl (by kernel_rfl) (by kernel_rfl) (by kernel_rfl) (by kernel_rfl) (fun _ _ _ h => h) (yieldsIf_load rfl rfl Tryz.underlying3 rfl rfl (fun w' hT => box_at hT (j := 3) (u := .int .i64 x4) rfl)) T0 ?_
  go_simp
  refine wpAnyP_take (i := 8) rfl (by kernel_rfl) (by kernel_rfl) (by kernel_rfl) (by kernel_rfl) (fun _ _ _ h => h) (yieldsIf_run (.pointer (some ⟨gx, 4, none⟩)) rfl (fun w' => by go_simp)) T0 ?_
  refine wpAnyP_take (i := 9) rfl (by kernel_rfl) (by kernel_rfl) (by kernel_rfl) (by kernel_rfl) (fun _ _ _ h => h) (yieldsIf_load rfl rfl Tryz.underlying3 rfl rfl (fun w' hT => box_at hT (j := 4) (u := .int .i64 x5) rfl)) T0 ?_
  go_simp
  refine wpAnyP_take (i := 10) rfl (by kernel_rfl) (by kernel_rfl) (by kernel_rfl) (by kernel_rfl) (fun _ _ _ h => h) (yieldsIf_run (.pointer (some ⟨gx, 5, none⟩)) rfl (fun w' => by go_simp)) T0 ?_
  refine wpAnyP_take (i := 11) rfl (by kernel_rfl) (by kernel_rfl) (by kernel_rfl) (by kernel_rfl) (fun _ _ _ h => h) (yieldsIf_load rfl rfl Tryz.underlying3 rfl rfl (fun w' hT => box_at hT (j := 5) (u := .int .i64 x6) rfl)) T0 ?_
  go_simp
  refine wpAnyP_take (i := 12) rfl (by kernel_rfl) (by kernel_rfl) (by kernel_rfl) (by kernel_rfl) (fun _ _ _ h => h) (yieldsIf_run (.pointer (some ⟨gx, 6, none⟩)) rfl (fun w' => by go_simp)) T0 ?_
  refine wpAnyP_take (i := 13) rfl (by kernel_rfl) (by kernel_rfl) (by kernel_rfl) (by kernel_rfl) (fun _ _ _ h => h) (yieldsIf_load rfl rfl Tryz.underlying3 rfl rfl (fun w' hT => box_at hT (j := 6) (u := .int .i64 x7) rfl)) T0 ?_
  go_simp
  refine wpAnyP_take (i := 14) rfl (by kernel_rfl) (by kernel_rfl) (by kernel_rfl) (by kernel_rfl) (fun _ _ _ h => h) (yieldsIf_run (.pointer (some ⟨gl, 2, none⟩)) rfl (fun w' => by go_simp)) T0 ?_
  go_simp
  refine wpAnyP_oneQ (i := 15) (by kernel_rfl) rfl ?_
  refine wpList_store1 rfl (.tmp 148) (.tmp 135) rfl rfl sizeI gl 2 rfl (.int .i64 x1) rfl rfl (levUK us ks vu vk) 28 B0 (by simp [levUK, levCells, patch]) ?_
  intro m1 B1 g1 z1
  have T1 := box_grown T0 g1 (by have := HGX.out; have := HGL.out; have := HZ.out; omega)
  have Z1 := box_grown Z0 g1 (by have := HGR.out; have := HGL.out; omega)
  have SU1 := SU0.grown g1 (fun q hq e => by injection e with e; have := hq.1; have := HGL.out; have := HZ.out; omega)
  have SK1 := SK0.grown g1 (fun q hq e => by injection e with e; have := hq.1; have := HGL.out; have := HZ.out; omega)
  have hb1 := hb0.grown g1 hb0.size (fun q hq => by injection hq with hq; have := HGL.out; omega)
  clear T0 Z0 SU0 SK0 hb0 B0 g1 z1
  refine nextQ T1 ?_
  go_simp
  refine wpAnyP_take (i := 16) rfl (by kernel_rfl) (by kernel_rfl) (by kernel_rfl) (by kernel_rfl) (fun _ _ _ h => h) (yieldsIf_run (.pointer (some ⟨gl, 3, none⟩)) rfl (fun w' => by go_simp)) T1 ?_
  go_simp
  refine wpAnyP_oneQ (i := 17) (by kernel_rfl) rfl ?_
  refine wpList_store1 rfl (.tmp 149) (.tmp 137) rfl rfl sizeI gl 3 rfl (.int .i64 x2) rfl rfl (patch (levUK us ks vu vk) 2 [.int .i64 x1]) 28 B1 (by simp [levUK, levCells, patch]) ?_
  intro m2 B2 g2 z2
  have T2 := box_grown T1 g2 (by have := HGX.out; have := HGL.out; have := HZ.out; omega)
  have Z2 := box_grown Z1 g2 (by have := HGR.out; have := HGL.out; omega)
  have SU2 := SU1.grown g2 (fun q hq e => by injection e with e; have := hq.1; have := HGL.out; have := HZ.out; omega)
  have SK2 := SK1.grown g2 (fun q hq e => by injection e with e; have := hq.1; have := HGL.out; have := HZ.out; omega)
  have hb2 := hb1.grown g2 hb1.size (fun q hq => by injection hq with hq; have := HGL.out; omega)
  clear T1 Z1 SU1 SK1 hb1 B1 g2 z2
  refine nextQ T2 ?_
  go_simp
  refine wpAnyP_take (i := 18) rfl (by kernel_rfl) (by kernel_rfl) (by kernel_rfl) (by kernel_rfl) (fun _ _ _ h => h) (yieldsIf_run (.pointer (some ⟨gl, 4, none⟩)) rfl (fun w' => by go_simp)) T2 ?_
  go_simp
  refine wpAnyP_oneQ (i := 19) (by kernel_rfl) rfl ?_
  refine wpList_store1 rfl (.tmp 150) (.tmp 139) rfl rfl sizeI gl 4 rfl (.int .i64 x3) rfl rfl (patch (patch (levUK us ks vu vk) 2 [.int .i64 x1]) 3 [.int .i64 x2]) 28 B2 (by simp [levUK, levCells, patch]) ?_
  intro m3 B3 g3 z3
  have T3 := box_grown T2 g3 (by have := HGX.out; have := HGL.out; have := HZ.out; omega)
  have Z3 := box_grown Z2 g3 (by have := HGR.out; have := HGL.out; omega)
  have SU3 := SU2.grown g3 (fun q hq e => by injection e with e; have := hq.1; have := HGL.out; have := HZ.out; omega)
  have SK3 := SK2.grown g3 (fun q hq e => by injection e with e; have := hq.1; have := HGL.out; have := HZ.out; omega)
  have hb3 := hb2.grown g3 hb2.size (fun q hq => by injection hq with hq; have := HGL.out; omega)
  clear T2 Z2 SU2 SK2 hb2 B2 g3 z3
  refine nextQ T3 ?_
  go_simp
  refine wpAnyP_take (i := 20) rfl (by kernel_rfl) (by kernel_rfl) (by kernel_rfl) (by kernel_rfl) (fun _ _ _ h => h) (yieldsIf_run (.pointer (some ⟨gl, 5, none⟩)) rfl (fun w' => by go_simp)) T3 ?_
  go_simp
  refine wpAnyP_oneQ (i := 21) (by kernel_rfl) rfl ?_
  refine wpList_store1 rfl (.tmp 151) (.tmp 141) rfl rfl sizeI gl 5 rfl (.int .i64 x4) rfl rfl (patch (patch (patch (levUK us ks vu vk) 2 [.int .i64 x1]) 3 [.int .i64 x2]) 4 [.int .i64 x3]) 28 B3 (by simp [levUK, levCells, patch]) ?_
  intro m4 B4 g4 z4
  have T4 := box_grown T3 g4 (by have := HGX.out; have := HGL.out; have := HZ.out; omega)
  have Z4 := box_grown Z3 g4 (by have := HGR.out; have := HGL.out; omega)
  have SU4 := SU3.grown g4 (fun q hq e => by injection e with e; have := hq.1; have := HGL.out; have := HZ.out; omega)
  have SK4 := SK3.grown g4 (fun q hq e => by injection e with e; have := hq.1; have := HGL.out; have := HZ.out; omega)
  have hb4 := hb3.grown g4 hb3.size (fun q hq => by injection hq with hq; have := HGL.out; omega)
  clear T3 Z3 SU3 SK3 hb3 B3 g4 z4
  refine nextQ T4 ?_
  go_simp
  refine wpAnyP_take (i := 22) rfl (by kernel_rfl) (by kernel_rfl) (by kernel_rfl) (by kernel_rfl) (fun _ _ _ h => h) (yieldsIf_run (.pointer (some ⟨gl, 6, none⟩)) rfl (fun w' => by go_simp)) T4 ?_
  go_simp
  refine wpAnyP_oneQ (i := 23) (by kernel_rfl) rfl ?_
  refine wpList_store1 rfl (.tmp 152) (.tmp 143) rfl rfl sizeI gl 6 rfl (.int .i64 x5) rfl rfl (patch (patch (patch (patch (levUK us ks vu vk) 2 [.int .i64 x1]) 3 [.int .i64 x2]) 4 [.int .i64 x3]) 5 [.int .i64 x4]) 28 B4 (by simp [levUK, levCells, patch]) ?_
  intro m5 B5 g5 z5
  have T5 := box_grown T4 g5 (by have := HGX.out; have := HGL.out; have := HZ.out; omega)
  have Z5 := box_grown Z4 g5 (by have := HGR.out; have := HGL.out; omega)
  have SU5 := SU4.grown g5 (fun q hq e => by injection e with e; have := hq.1; have := HGL.out; have := HZ.out; omega)
  have SK5 := SK4.grown g5 (fun q hq e => by injection e with e; have := hq.1; have := HGL.out; have := HZ.out; omega)
  have hb5 := hb4.grown g5 hb4.size (fun q hq => by injection hq with hq; have := HGL.out; omega)
  clear T4 Z4 SU4 SK4 hb4 B4 g5 z5
  refine nextQ T5 ?_
  go_simp
  refine wpAnyP_take (i := 24) rfl (by kernel_rfl) (by kernel_rfl) (by kernel_rfl) (by kernel_rfl) (fun _ _ _ h => h) (yieldsIf_run (.pointer (some ⟨gl, 7, none⟩)) rfl (fun w' => by go_simp)) T5 ?_
  go_simp
  refine wpAnyP_oneQ (i := 25) (by kernel_rfl) rfl ?_
  refine wpList_store1 rfl (.tmp 153) (.tmp 145) rfl rfl sizeI gl 7 rfl (.int .i64 x6) rfl rfl (patch (patch (patch (patch (patch (levUK us ks vu vk) 2 [.int .i64 x1]) 3 [.int .i64 x2]) 4 [.int .i64 x3]) 5 [.int .i64 x4]) 6 [.int .i64 x5]) 28 B5 (by simp [levUK, levCells, patch]) ?_
  intro m6 B6 g6 z6
  have T6 := box_grown T5 g6 (by have := HGX.out; have := HGL.out; have := HZ.out; omega)
  have Z6 := box_grown Z5 g6 (by have := HGR.out; have := HGL.out; omega)
  have SU6 := SU5.grown g6 (fun q hq e => by injection e with e; have := hq.1; have := HGL.out; have := HZ.out; omega)
  have SK6 := SK5.grown g6 (fun q hq e => by injection e with e; have := hq.1; have := HGL.out; have := HZ.out; omega)
  have hb6 := hb5.grown g6 hb5.size (fun q hq => by injection hq with hq; have := HGL.out; omega)
  clear T5 Z5 SU5 SK5 hb5 B5 g6 z6
  refine nextQ T6 ?_
  go_simp
  refine wpAnyP_take (i := 26) rfl (by kernel_rfl) (by kernel_rfl) (by kernel_rfl) (by kernel_rfl) (fun _ _ _ h => h) (yieldsIf_run (.pointer (some ⟨gl, 8, none⟩)) rfl (fun w' => by go_simp)) T6 ?_
  go_simp
  refine wpAnyP_oneQ (i := 27) (by kernel_rfl) rfl ?_
  refine wpList_store1 rfl (.tmp 154) (.tmp 147) rfl rfl sizeI gl 8 rfl (.int .i64 x7) rfl rfl (patch (patch (patch (patch (patch (patch (levUK us ks vu vk) 2 [.int .i64 x1]) 3 [.int .i64 x2]) 4 [.int .i64 x3]) 5 [.int .i64 x4]) 6 [.int .i64 x5]) 7 [.int .i64 x6]) 28 B6 (by simp [levUK, levCells, patch]) ?_
  intro m7 B7 g7 z7
  have T7 := box_grown T6 g7 (by have := HGX.out; have := HGL.out; have := HZ.out; omega)
  have Z7 := box_grown Z6 g7 (by have := HGR.out; have := HGL.out; omega)
  have SU7 := SU6.grown g7 (fun q hq e => by injection e with e; have := hq.1; have := HGL.out; have := HZ.out; omega)
  have SK7 := SK6.grown g7 (fun q hq e => by injection e with e; have := hq.1; have := HGL.out; have := HZ.out; omega)
  have hb7 := hb6.grown g7 hb6.size (fun q hq => by injection hq with hq; have := HGL.out; omega)
  clear T6 Z6 SU6 SK6 hb6 B6 g7 z7
  refine nextQ T7 ?_
  go_simp
  refine wpAnyP_done (by kernel_rfl) ?_
  have B7' : m7.heap[gl]? = some (.cells (levCells ⟨us, ks, x1, x2, x3, x4, x5, x6, x7⟩ vu vk).toArray 28 (0, 0)) := B7
  have oo : ∀ u ∈ levCells ⟨us, ks, x1, x2, x3, x4, x5, x6, x7⟩ vu vk, u.oneCell' = true := by
    intro u hu'
    simp only [levCells, List.mem_cons, List.not_mem_nil, or_false] at hu'
    rcases hu' with rfl | rfl | rfl | rfl | rfl | rfl | rfl | rfl | rfl <;> first | rfl | exact ho1 | exact ho2
  clear B7 T7
  generalize hC : levCells ⟨us, ks, x1, x2, x3, x4, x5, x6, x7⟩ vu vk = C at B7' oo
  have HC := hide hC
  have HL := hide (show C.length = 9 by rw [← hC]; rfl)
  have HB7 := hide B7'
  clear hC B7'
  go_wp2_with (first
    | refine wpList_loadS rfl (.tmp 5) rfl strcL ⟨gl, 0, none⟩ rfl C HL.out (box_all HB7.out) ?_
    | refine wpList_storeB rfl (.tmp 2) (.tmp 155) rfl rfl strcL gr 0 rfl C rfl HL.out oo levZero.toList 28 Z7 (by decide) ?_)
  intro m8 B8 h8 z8
  rw [patch_all _ _ (by rw [HL.out]; rfl)] at B8
  have hb8 := hb7.grown h8 hb7.size (fun q hq => by injection hq with hq; have := HGR.out; omega)
  have SU8 := SU7.grown h8 (fun q hq e => by injection e with e; have := hq.1; have := HZ.out; have := HGR.out; omega)
  have SK8 := SK7.grown h8 (fun q hq e => by injection e with e; have := hq.1; have := HZ.out; have := HGR.out; omega)
  clear h8 z8 SU7 SK7 Z7 hb7
  go_wp2_with fail
  refine bodyPost_cell3 strcL rfl gr rfl (.slice A r.length c) (.bool true) rfl rfl rfl B8 (by simpa using HL.out) ⟨C, ⟨us, ks, x1, x2, x3, x4, x5, x6, x7⟩, A, c, r, true, rfl, HL.out, oo, hb8, fun _ => ⟨⟨vu, vk, HC.out.symm, SU8.weak fun q hq _ => by have := HZ.out; have := hq.1; omega, SK8.weak fun q hq _ => by have := HZ.out; have := hq.1; omega⟩, ?_, ?_⟩, fun h => by cases h⟩
  · refine ⟨by show us.length ≤ _; omega, by show ks.length ≤ _; omega, HFU.out, HUF.out, fun n hn => HYF.out n ?_⟩
    simpa only [restL] using hn
  · refine HIN.out.imp (fun _ => ?_) (fun _ h => h) (fun C' _ _ hq => ⟨⟨hq.1.1.1, ?_⟩, rfl⟩)
    · simp [encLev]
    · obtain ⟨⟨⟨_, h1⟩, h2⟩, h3⟩ := hq
      have h4 : C'.lv = ⟨C'.lv.users, C'.lv.kinds, C'.lv.user, C'.lv.message, C'.lv.state, C'.lv.invite, C'.lv.kick, C'.lv.ban, C'.lv.redact⟩ := rfl
      have h3 : restL C'.lv = [x1, x2, x3, x4, x5, x6, x7] := h3
      simp only [restL, List.cons.injEq, and_true] at h3
      obtain ⟨e1, e2, e3, e4, e5, e6, e7⟩ := h3
      rw [h4, h1, h2, e1, e2, e3, e4, e5, e6, e7]
end

section
open Go.RowKit
attribute [local go_sem] Addr.add_mid
def boolZ : Array Value := #[.bool false, .bool false, .bool false, .bool false, .bool false, .bool false, .bool false]
theorem strcB7 : Strc Tryz.prog 137 boolZ 7 := ⟨⟨_, Tryz.underlying137, rfl⟩, by kernel_rfl, rfl⟩
theorem sls_slc {w : World} {base : Nat} {v : Value} {x : List (List UInt8)} (h : w.ownsRow base 9 1 v (sls x).length (sls x)) : Slc w (base ≤ ·) v 1 (x.map str).length (svs (x.map str)) := by
  have := Slc.own h (by decide)
  rw [← sls_svs, List.length_map]
  rwa [show (sls x).length = x.length by simp [sls]] at this

set_option maxRecDepth 100000 in
set_option maxHeartbeats 16000000 in
theorem R6Decode_any {A : Option Addr} {c : Nat} {l : List UInt8} {w : World} (hr : Row w w.heap.size A (bvs l)) (hc : l.length ≤ c) (hl : l.length ≤ 16777216) :
    Calls Tryz.prog 75 #[.slice A l.length c] w (DecV l w) := by
  have X0 := heap_alloc_new w (.cells conZero 30)
  have hx0 := ext_alloc (ext_refl w) (.cells conZero 30)
  go_enter Tryz.func75, Tryz.ntmps75
  go_upto_region 1 with (refine wpList_zeroS rfl rfl strcC ?_)
  go_simp
  generalize hW : w.alloc (.cells conZero 30) = Wa at X0 hx0 ⊢
  have hz0 : Wa.heap.size = w.heap.size + 1 := by rw [← hW]; simp
  have HZ0 := hide hz0
  clear hW hz0
  go_upto_region 2 with (refine wpList_zeroS rfl rfl strcC ?_)
  go_simp
  have X1 := heap_alloc_new Wa (.cells conZero 30)
  have hx1 := ext_alloc (ext_refl Wa) (.cells conZero 30)
  have hz1 : (Wa.alloc (.cells conZero 30)).heap.size = Wa.heap.size + 1 := by simp
  generalize Wa.alloc (.cells conZero 30) = Wb at X1 hx1 hz1 ⊢
  generalize hG : Wa.heap.size = gc at X1 hz1 ⊢
  have HC := hide (show gc = w.heap.size + 1 by rw [← hG]; exact HZ0.out)
  have HZ1 := hide (show Wb.heap.size = gc + 1 from hz1)
  have hx := ext_trans hx0 hx1
  replace X0 := box_below X0 hx1
  clear hz1 hG hx0 hx1 HZ0
  go_upto_region 3 with (refine wpList_zeroS rfl rfl strcB7 ?_)
  go_simp
  have X2 := heap_alloc_new Wb (.cells boolZ 137)
  have hx2 := ext_alloc (ext_refl Wb) (.cells boolZ 137)
  generalize Wb.alloc (.cells boolZ 137) = u0 at X2 hx2 ⊢
  generalize hG : Wb.heap.size = gi at X2 ⊢
  have HG := hide (show gi = w.heap.size + 2 by rw [← hG, HZ1.out, HC.out])
  clear hG
  have Z0 := box_below X0 hx2
  have hb0 := ext_trans hx hx2
  have R0 : Row u0 w.heap.size A (bvs l) := hr.below hb0
  have B0 : u0.heap[gc]? = some (.cells conZero.toList.toArray 30 (0, 0)) := box_below X1 hx2
  have G0 : u0.heap[gi]? = some (.cells [.bool false, .bool false, .bool false, .bool false, .bool false, .bool false, .bool false].toArray 137 (0, 0)) := X2
  have I0 := hide (Inv.start l)
  have h0 := hl
  have c0 := hc
  clear X0 X1 X2 hx hx2 hr hc hl HZ1
  have CT := RGetText_at hb0.size R0 c0 h0
  go_wp2_with (first
    | (go_at_call 74; refine CT.mono ?_; rintro e p1 ⟨s1, r1, o1, ⟨A1, k1, rfl, R1, c1, kb1⟩, re1⟩)
    | refine wpList_store1 rfl (.tmp 14) (.tmp 11) rfl rfl sizeS gc 0 rfl (.string (str s1)) rfl rfl (conZero.toList) 30 (box_below B0 kb1) (by simp [patch, conZero]) ?_)
  intro m1 B1 g1 z1
  have hs1 := Nat.le_trans hb0.size kb1.size
  have Y1 := box_grown (box_below Z0 kb1) g1 (by have := HC.out; omega)
  have GI := box_grown (box_below G0 kb1) g1 (by have := HC.out; have := HG.out; omega)
  have hm1 := (ext_trans hb0 kb1).grown g1 hs1 (fun q hq => by injection hq with hq; have := HC.out; omega)
  have Q1 := R1.grown g1 hs1 (fun q hq => by injection hq with hq; have := HC.out; omega)
  have I1 := hide (I0.out.text (fun C => C.text) tail1 (fun C _ _ => rfl) (fun C hC _ => by have := hC.text; omega) re1)
  have h1 : r1.length ≤ 16777216 := Nat.le_trans ((resS_len re1).1) h0
  have F1 := hide (show (str s1).size ≤ 16777216 by rw [str_size]; have := (resS_len re1).2; omega)
  clear CT B0 Z0 G0 R0 R1 kb1 g1 z1 re1 I0 hb0 hs1 c0
  go_wp2_with (refine wpList_store1 rfl (.tmp 15) (.tmp 13) rfl rfl sizeT1 gi 0 rfl (.bool o1) rfl rfl ([.bool false, .bool false, .bool false, .bool false, .bool false, .bool false, .bool false]) 137 GI (by decide) ?_)
  intro u1 G1 j1 y1
  replace G1 : u1.heap[gi]? = some (.cells ([.bool o1, .bool false, .bool false, .bool false, .bool false, .bool false, .bool false]).toArray 137 (0, 0)) := G1
  have Z1 := box_grown Y1 j1 (by have := HG.out; omega)
  have B1 := box_grown B1 j1 (by have := HC.out; have := HG.out; omega)
  have hb1 := hm1.grown j1 hm1.size (fun q hq => by injection hq with hq; have := HG.out; omega)
  have R1 := Q1.grown j1 hm1.size (fun q hq => by injection hq with hq; have := HG.out; omega)
  clear Y1 GI hm1 Q1 j1 y1
  cases o1 with
  | false =>
    have HW := hide (I1.out.no (by simp))
    clear I1 R1 B1
    have q0 := box_at G1 (j := 0) rfl
    have q1 := box_at G1 (j := 1) rfl
    have q2 := box_at G1 (j := 2) rfl
    have q3 := box_at G1 (j := 3) rfl
    have q4 := box_at G1 (j := 4) rfl
    have q5 := box_at G1 (j := 5) rfl
    have q6 := box_at G1 (j := 6) rfl
    clear G1
    go_wp2_with (refine wpList_storeB rfl (.tmp 2) (.tmp 79) rfl rfl strcC w.heap.size 0 rfl conZero.toList rfl rfl (by decide) conZero.toList 30 Z1 (by decide) ?_)
    intro u9 B9 g9 z9
    have hb9 := hb1.grown g9 hb1.size (fun q hq => by injection hq with hq; omega)
    go_wp2_with fail
    exact bodyPost_cell26 strcC rfl w.heap.size rfl (.bool false) rfl rfl B9 (by decide) ⟨conZero.toList, Con.zero, false, rfl, conZero_R _ _, zero_fine, (fun h => by cases h), fun _ => ⟨rfl, HW.out⟩, hb9⟩
  | true =>
  have q0 := box_at G1 (j := 0) rfl
  have I1' := I1.out
  simp only [Bool.not_true, Bool.or_false, Bool.false_or] at I1'
  have I1 := hide I1'
  clear I1'
  have CT := RGetInt_at hb1.size R1 c1 h1
  go_wp2_with (first
    | (go_at_call 76; refine CT.mono ?_; rintro e p2 ⟨n2, r2, o2, ⟨A2, k2, rfl, R2, c2, kb2⟩, re2⟩)
    | refine wpList_store1 rfl (.tmp 24) (.tmp 21) rfl rfl sizeI gc 1 rfl (.int .i64 n2) rfl rfl (patch (conZero.toList) 0 [.string (str s1)]) 30 (box_below B1 kb2) (by simp [patch, conZero]) ?_)
  intro m2 B2 g2 z2
  have hs2 := Nat.le_trans hb1.size kb2.size
  have Y2 := box_grown (box_below Z1 kb2) g2 (by have := HC.out; omega)
  have GI := box_grown (box_below G1 kb2) g2 (by have := HC.out; have := HG.out; omega)
  have hm2 := (ext_trans hb1 kb2).grown g2 hs2 (fun q hq => by injection hq with hq; have := HC.out; omega)
  have Q2 := R2.grown g2 hs2 (fun q hq => by injection hq with hq; have := HC.out; omega)
  have I2 := hide (I1.out.int (fun C => C.n) tail2 (fun C _ _ => rfl) (fun C hC _ => hC.n) re2)
  have h2 : r2.length ≤ 16777216 := Nat.le_trans (resI_len re2) h1
  have F2 := hide (res_I64 re2)
  clear CT B1 Z1 G1 R1 R2 kb2 g2 z2 re2 I1 hb1 hs2 c1
  go_wp2_with (refine wpList_store1 rfl (.tmp 25) (.tmp 23) rfl rfl sizeT1 gi 1 rfl (.bool o2) rfl rfl ([.bool true, .bool false, .bool false, .bool false, .bool false, .bool false, .bool false]) 137 GI (by decide) ?_)
  intro u2 G2 j2 y2
  replace G2 : u2.heap[gi]? = some (.cells ([.bool true, .bool o2, .bool false, .bool false, .bool false, .bool false, .bool false]).toArray 137 (0, 0)) := G2
  have Z2 := box_grown Y2 j2 (by have := HG.out; omega)
  have B2 := box_grown B2 j2 (by have := HC.out; have := HG.out; omega)
  have hb2 := hm2.grown j2 hm2.size (fun q hq => by injection hq with hq; have := HG.out; omega)
  have R2 := Q2.grown j2 hm2.size (fun q hq => by injection hq with hq; have := HG.out; omega)
  clear Y2 GI hm2 Q2 j2 y2
  cases o2 with
  | false =>
    have HW := hide (I2.out.no (by simp))
    clear I2 R2 B2
    have q1 := box_at G2 (j := 1) rfl
    have q2 := box_at G2 (j := 2) rfl
    have q3 := box_at G2 (j := 3) rfl
    have q4 := box_at G2 (j := 4) rfl
    have q5 := box_at G2 (j := 5) rfl
    have q6 := box_at G2 (j := 6) rfl
    clear G2
    go_wp2_with (refine wpList_storeB rfl (.tmp 2) (.tmp 79) rfl rfl strcC w.heap.size 0 rfl conZero.toList rfl rfl (by decide) conZero.toList 30 Z2 (by decide) ?_)
    intro u9 B9 g9 z9
    have hb9 := hb2.grown g9 hb2.size (fun q hq => by injection hq with hq; omega)
    go_wp2_with fail
    exact bodyPost_cell26 strcC rfl w.heap.size rfl (.bool false) rfl rfl B9 (by decide) ⟨conZero.toList, Con.zero, false, rfl, conZero_R _ _, zero_fine, (fun h => by cases h), fun _ => ⟨rfl, HW.out⟩, hb9⟩
  | true =>
  have q0 := box_at G2 (j := 1) rfl
  have I2' := I2.out
  simp only [Bool.not_true, Bool.or_false, Bool.false_or] at I2'
  have I2 := hide I2'
  clear I2'
  have CT := RGetInt_at hb2.size R2 c2 h2
  go_wp2_with (first
    | (go_at_call 76; refine CT.mono ?_; rintro e p3 ⟨n3, r3, o3, ⟨A3, k3, rfl, R3, c3, kb3⟩, re3⟩)
    | refine wpList_store1 rfl (.tmp 34) (.tmp 31) rfl rfl sizeI gc 2 rfl (.int .i64 n3) rfl rfl (patch (patch (conZero.toList) 0 [.string (str s1)]) 1 [.int .i64 n2]) 30 (box_below B2 kb3) (by simp [patch, conZero]) ?_)
  intro m3 B3 g3 z3
  have hs3 := Nat.le_trans hb2.size kb3.size
  have Y3 := box_grown (box_below Z2 kb3) g3 (by have := HC.out; omega)
  have GI := box_grown (box_below G2 kb3) g3 (by have := HC.out; have := HG.out; omega)
  have hm3 := (ext_trans hb2 kb3).grown g3 hs3 (fun q hq => by injection hq with hq; have := HC.out; omega)
  have Q3 := R3.grown g3 hs3 (fun q hq => by injection hq with hq; have := HC.out; omega)
  have I3 := hide (I2.out.int (fun C => C.target) tail3 (fun C _ _ => rfl) (fun C hC _ => hC.target) re3)
  have h3 : r3.length ≤ 16777216 := Nat.le_trans (resI_len re3) h2
  have F3 := hide (res_I64 re3)
  clear CT B2 Z2 G2 R2 R3 kb3 g3 z3 re3 I2 hb2 hs3 c2
  go_wp2_with (refine wpList_store1 rfl (.tmp 35) (.tmp 33) rfl rfl sizeT1 gi 2 rfl (.bool o3) rfl rfl ([.bool true, .bool true, .bool false, .bool false, .bool false, .bool false, .bool false]) 137 GI (by decide) ?_)
  intro u3 G3 j3 y3
  replace G3 : u3.heap[gi]? = some (.cells ([.bool true, .bool true, .bool o3, .bool false, .bool false, .bool false, .bool false]).toArray 137 (0, 0)) := G3
  have Z3 := box_grown Y3 j3 (by have := HG.out; omega)
  have B3 := box_grown B3 j3 (by have := HC.out; have := HG.out; omega)
  have hb3 := hm3.grown j3 hm3.size (fun q hq => by injection hq with hq; have := HG.out; omega)
  have R3 := Q3.grown j3 hm3.size (fun q hq => by injection hq with hq; have := HG.out; omega)
  clear Y3 GI hm3 Q3 j3 y3
  cases o3 with
  | false =>
    have HW := hide (I3.out.no (by simp))
    clear I3 R3 B3
    have q2 := box_at G3 (j := 2) rfl
    have q3 := box_at G3 (j := 3) rfl
    have q4 := box_at G3 (j := 4) rfl
    have q5 := box_at G3 (j := 5) rfl
    have q6 := box_at G3 (j := 6) rfl
    clear G3
    go_wp2_with (refine wpList_storeB rfl (.tmp 2) (.tmp 79) rfl rfl strcC w.heap.size 0 rfl conZero.toList rfl rfl (by decide) conZero.toList 30 Z3 (by decide) ?_)
    intro u9 B9 g9 z9
    have hb9 := hb3.grown g9 hb3.size (fun q hq => by injection hq with hq; omega)
    go_wp2_with fail
    exact bodyPost_cell26 strcC rfl w.heap.size rfl (.bool false) rfl rfl B9 (by decide) ⟨conZero.toList, Con.zero, false, rfl, conZero_R _ _, zero_fine, (fun h => by cases h), fun _ => ⟨rfl, HW.out⟩, hb9⟩
  | true =>
  have q0 := box_at G3 (j := 2) rfl
  have I3' := I3.out
  simp only [Bool.not_true, Bool.or_false, Bool.false_or] at I3'
  have I3 := hide I3'
  clear I3'
  have CT := RGetBool_at hb3.size R3 c3 h3
  go_wp2_with (first
    | (go_at_call 138; refine CT.mono ?_; rintro e p4 ⟨b4, r4, o4, ⟨A4, k4, rfl, R4, c4, kb4⟩, re4⟩)
    | refine wpList_store1 rfl (.tmp 44) (.tmp 41) rfl rfl sizeT1 gc 3 rfl (.bool b4) rfl rfl (patch (patch (patch (conZero.toList) 0 [.string (str s1)]) 1 [.int .i64 n2]) 2 [.int .i64 n3]) 30 (box_below B3 kb4) (by simp [patch, conZero]) ?_)
  intro m4 B4 g4 z4
  have hs4 := Nat.le_trans hb3.size kb4.size
  have Y4 := box_grown (box_below Z3 kb4) g4 (by have := HC.out; omega)
  have GI := box_grown (box_below G3 kb4) g4 (by have := HC.out; have := HG.out; omega)
  have hm4 := (ext_trans hb3 kb4).grown g4 hs4 (fun q hq => by injection hq with hq; have := HC.out; omega)
  have Q4 := R4.grown g4 hs4 (fun q hq => by injection hq with hq; have := HC.out; omega)
  have I4 := hide (I3.out.truth (fun C => C.thread) tail4 (fun C _ _ => rfl) re4)
  have h4 : r4.length ≤ 16777216 := Nat.le_trans (resB_len re4) h3
  clear CT B3 Z3 G3 R3 R4 kb4 g4 z4 re4 I3 hb3 hs4 c3
  go_wp2_with (refine wpList_store1 rfl (.tmp 45) (.tmp 43) rfl rfl sizeT1 gi 3 rfl (.bool o4) rfl rfl ([.bool true, .bool true, .bool true, .bool false, .bool false, .bool false, .bool false]) 137 GI (by decide) ?_)
  intro u4 G4 j4 y4
  replace G4 : u4.heap[gi]? = some (.cells ([.bool true, .bool true, .bool true, .bool o4, .bool false, .bool false, .bool false]).toArray 137 (0, 0)) := G4
  have Z4 := box_grown Y4 j4 (by have := HG.out; omega)
  have B4 := box_grown B4 j4 (by have := HC.out; have := HG.out; omega)
  have hb4 := hm4.grown j4 hm4.size (fun q hq => by injection hq with hq; have := HG.out; omega)
  have R4 := Q4.grown j4 hm4.size (fun q hq => by injection hq with hq; have := HG.out; omega)
  clear Y4 GI hm4 Q4 j4 y4
  cases o4 with
  | false =>
    have HW := hide (I4.out.no (by simp))
    clear I4 R4 B4
    have q3 := box_at G4 (j := 3) rfl
    have q4 := box_at G4 (j := 4) rfl
    have q5 := box_at G4 (j := 5) rfl
    have q6 := box_at G4 (j := 6) rfl
    clear G4
    go_wp2_with (refine wpList_storeB rfl (.tmp 2) (.tmp 79) rfl rfl strcC w.heap.size 0 rfl conZero.toList rfl rfl (by decide) conZero.toList 30 Z4 (by decide) ?_)
    intro u9 B9 g9 z9
    have hb9 := hb4.grown g9 hb4.size (fun q hq => by injection hq with hq; omega)
    go_wp2_with fail
    exact bodyPost_cell26 strcC rfl w.heap.size rfl (.bool false) rfl rfl B9 (by decide) ⟨conZero.toList, Con.zero, false, rfl, conZero_R _ _, zero_fine, (fun h => by cases h), fun _ => ⟨rfl, HW.out⟩, hb9⟩
  | true =>
  have q0 := box_at G4 (j := 3) rfl
  have I4' := I4.out
  simp only [Bool.not_true, Bool.or_false, Bool.false_or] at I4'
  have I4 := hide I4'
  clear I4'
  have CT := RGetText_at hb4.size R4 c4 h4
  go_wp2_with (first
    | (go_at_call 74; refine CT.mono ?_; rintro e p5 ⟨s5, r5, o5, ⟨A5, k5, rfl, R5, c5, kb5⟩, re5⟩)
    | refine wpList_store1 rfl (.tmp 54) (.tmp 51) rfl rfl sizeS gc 4 rfl (.string (str s5)) rfl rfl (patch (patch (patch (patch (conZero.toList) 0 [.string (str s1)]) 1 [.int .i64 n2]) 2 [.int .i64 n3]) 3 [.bool b4]) 30 (box_below B4 kb5) (by simp [patch, conZero]) ?_)
  intro m5 B5 g5 z5
  have hs5 := Nat.le_trans hb4.size kb5.size
  have Y5 := box_grown (box_below Z4 kb5) g5 (by have := HC.out; omega)
  have GI := box_grown (box_below G4 kb5) g5 (by have := HC.out; have := HG.out; omega)
  have hm5 := (ext_trans hb4 kb5).grown g5 hs5 (fun q hq => by injection hq with hq; have := HC.out; omega)
  have Q5 := R5.grown g5 hs5 (fun q hq => by injection hq with hq; have := HC.out; omega)
  have I5 := hide (I4.out.text (fun C => C.via) tail5 (fun C _ _ => rfl) (fun C hC _ => by have := hC.via; omega) re5)
  have h5 : r5.length ≤ 16777216 := Nat.le_trans ((resS_len re5).1) h4
  have F5 := hide (show (str s5).size ≤ 16777216 by rw [str_size]; have := (resS_len re5).2; omega)
  clear CT B4 Z4 G4 R4 R5 kb5 g5 z5 re5 I4 hb4 hs5 c4
  go_wp2_with (refine wpList_store1 rfl (.tmp 55) (.tmp 53) rfl rfl sizeT1 gi 4 rfl (.bool o5) rfl rfl ([.bool true, .bool true, .bool true, .bool true, .bool false, .bool false, .bool false]) 137 GI (by decide) ?_)
  intro u5 G5 j5 y5
  replace G5 : u5.heap[gi]? = some (.cells ([.bool true, .bool true, .bool true, .bool true, .bool o5, .bool false, .bool false]).toArray 137 (0, 0)) := G5
  have Z5 := box_grown Y5 j5 (by have := HG.out; omega)
  have B5 := box_grown B5 j5 (by have := HC.out; have := HG.out; omega)
  have hb5 := hm5.grown j5 hm5.size (fun q hq => by injection hq with hq; have := HG.out; omega)
  have R5 := Q5.grown j5 hm5.size (fun q hq => by injection hq with hq; have := HG.out; omega)
  clear Y5 GI hm5 Q5 j5 y5
  cases o5 with
  | false =>
    have HW := hide (I5.out.no (by simp))
    clear I5 R5 B5
    have q4 := box_at G5 (j := 4) rfl
    have q5 := box_at G5 (j := 5) rfl
    have q6 := box_at G5 (j := 6) rfl
    clear G5
    go_wp2_with (refine wpList_storeB rfl (.tmp 2) (.tmp 79) rfl rfl strcC w.heap.size 0 rfl conZero.toList rfl rfl (by decide) conZero.toList 30 Z5 (by decide) ?_)
    intro u9 B9 g9 z9
    have hb9 := hb5.grown g9 hb5.size (fun q hq => by injection hq with hq; omega)
    go_wp2_with fail
    exact bodyPost_cell26 strcC rfl w.heap.size rfl (.bool false) rfl rfl B9 (by decide) ⟨conZero.toList, Con.zero, false, rfl, conZero_R _ _, zero_fine, (fun h => by cases h), fun _ => ⟨rfl, HW.out⟩, hb9⟩
  | true =>
  have q0 := box_at G5 (j := 4) rfl
  have I5' := I5.out
  simp only [Bool.not_true, Bool.or_false, Bool.false_or] at I5'
  have I5 := hide I5'
  clear I5'
  have CT := RGetTexts_at hb5.size R5 c5 h5
  go_wp2_with (first
    | (go_at_call 140; refine CT.mono ?_; rintro e p6 ⟨t6, r6, o6, ⟨v6, A6, k6, rfl, ow6, R6, c6, kb6⟩, re6⟩)
    | refine wpList_store1 rfl (.tmp 64) (.tmp 61) rfl rfl sizeT gc 5 rfl (v6) rfl (own_one ow6) (patch (patch (patch (patch (patch (conZero.toList) 0 [.string (str s1)]) 1 [.int .i64 n2]) 2 [.int .i64 n3]) 3 [.bool b4]) 4 [.string (str s5)]) 30 (box_below B5 kb6) (by simp [patch, conZero]) ?_)
  intro m6 B6 g6 z6
  have hs6 := Nat.le_trans hb5.size kb6.size
  have Y6 := box_grown (box_below Z5 kb6) g6 (by have := HC.out; omega)
  have GI := box_grown (box_below G5 kb6) g6 (by have := HC.out; have := HG.out; omega)
  have hm6 := (ext_trans hb5 kb6).grown g6 hs6 (fun q hq => by injection hq with hq; have := HC.out; omega)
  have Q6 := R6.grown g6 hs6 (fun q hq => by injection hq with hq; have := HC.out; omega)
  have hgi6 : w.heap.size + 2 < u5.heap.size := by have h2 := (Array.getElem?_eq_some_iff.1 G5).1; have := HG.out; omega
  have sl6 := ((sls_slc ow6).weak (S' := fun b => w.heap.size + 2 < b) (fun q hq _ => by omega)).grown g6 (fun q hq e => by injection e with e; have := HC.out; omega)
  have I6 := hide (I5.out.texts (fun C => C.allow) tail6 (fun C _ _ => rfl) (fun C hC => ⟨by have := hC.allowL; omega, fun s hs => by have := hC.allow s hs; omega⟩) re6)
  have h6 : r6.length ≤ 16777216 := Nat.le_trans ((resSs_len re6).1) h5
  have F6 := hide (show (t6.map str).length ≤ 16777216 ∧ ∀ s ∈ t6.map str, s.size ≤ 16777216 from ⟨by rw [List.length_map]; have := (resSs_len re6).2.1; omega, fun s hs => by
    obtain ⟨q, hq, rfl⟩ := List.mem_map.1 hs
    rw [str_size]; have := (resSs_len re6).2.2 q hq; omega⟩)
  clear CT B5 Z5 G5 R5 R6 kb6 g6 z6 re6 I5 hb5 hs6 c5 ow6 hgi6
  go_wp2_with (refine wpList_store1 rfl (.tmp 65) (.tmp 63) rfl rfl sizeT1 gi 5 rfl (.bool o6) rfl rfl ([.bool true, .bool true, .bool true, .bool true, .bool true, .bool false, .bool false]) 137 GI (by decide) ?_)
  intro u6 G6 j6 y6
  replace G6 : u6.heap[gi]? = some (.cells ([.bool true, .bool true, .bool true, .bool true, .bool true, .bool o6, .bool false]).toArray 137 (0, 0)) := G6
  have Z6 := box_grown Y6 j6 (by have := HG.out; omega)
  have B6 := box_grown B6 j6 (by have := HC.out; have := HG.out; omega)
  have hb6 := hm6.grown j6 hm6.size (fun q hq => by injection hq with hq; have := HG.out; omega)
  have R6 := Q6.grown j6 hm6.size (fun q hq => by injection hq with hq; have := HG.out; omega)
  have sl6 := sl6.grown j6 (fun q hq e => by injection e with e; have := HG.out; omega)
  clear Y6 GI hm6 Q6 j6 y6
  cases o6 with
  | false =>
    have HW := hide (I6.out.no (by simp))
    clear I6 R6 B6
    have q5 := box_at G6 (j := 5) rfl
    have q6 := box_at G6 (j := 6) rfl
    clear G6
    go_wp2_with (refine wpList_storeB rfl (.tmp 2) (.tmp 79) rfl rfl strcC w.heap.size 0 rfl conZero.toList rfl rfl (by decide) conZero.toList 30 Z6 (by decide) ?_)
    intro u9 B9 g9 z9
    have hb9 := hb6.grown g9 hb6.size (fun q hq => by injection hq with hq; omega)
    go_wp2_with fail
    exact bodyPost_cell26 strcC rfl w.heap.size rfl (.bool false) rfl rfl B9 (by decide) ⟨conZero.toList, Con.zero, false, rfl, conZero_R _ _, zero_fine, (fun h => by cases h), fun _ => ⟨rfl, HW.out⟩, hb9⟩
  | true =>
  have q0 := box_at G6 (j := 5) rfl
  have I6' := I6.out
  simp only [Bool.not_true, Bool.or_false, Bool.false_or] at I6'
  have I6 := hide I6'
  clear I6'
  have CT := RGetTexts_at hb6.size R6 c6 h6
  go_wp2_with (first
    | (go_at_call 140; refine CT.mono ?_; rintro e p7 ⟨t7, r7, o7, ⟨v7, A7, k7, rfl, ow7, R7, c7, kb7⟩, re7⟩)
    | refine wpList_store1 rfl (.tmp 74) (.tmp 71) rfl rfl sizeT gc 6 rfl (v7) rfl (own_one ow7) (patch (patch (patch (patch (patch (patch (conZero.toList) 0 [.string (str s1)]) 1 [.int .i64 n2]) 2 [.int .i64 n3]) 3 [.bool b4]) 4 [.string (str s5)]) 5 [v6]) 30 (box_below B6 kb7) (by simp [patch, conZero]) ?_)
  intro m7 B7 g7 z7
  have hs7 := Nat.le_trans hb6.size kb7.size
  have Y7 := box_grown (box_below Z6 kb7) g7 (by have := HC.out; omega)
  have GI := box_grown (box_below G6 kb7) g7 (by have := HC.out; have := HG.out; omega)
  have hm7 := (ext_trans hb6 kb7).grown g7 hs7 (fun q hq => by injection hq with hq; have := HC.out; omega)
  have Q7 := R7.grown g7 hs7 (fun q hq => by injection hq with hq; have := HC.out; omega)
  have hgi7 : w.heap.size + 2 < u6.heap.size := by have h2 := (Array.getElem?_eq_some_iff.1 G6).1; have := HG.out; omega
  have sl7 := ((sls_slc ow7).weak (S' := fun b => w.heap.size + 2 < b) (fun q hq _ => by omega)).grown g7 (fun q hq e => by injection e with e; have := HC.out; omega)
  have sl6 := (sl6.ext kb7).grown g7 (fun q hq e => by injection e with e; have := HC.out; omega)
  have I7 := hide (I6.out.texts (fun C => C.deny) tail7 (fun C _ _ => rfl) (fun C hC => ⟨by have := hC.denyL; omega, fun s hs => by have := hC.deny s hs; omega⟩) re7)
  have h7 : r7.length ≤ 16777216 := Nat.le_trans ((resSs_len re7).1) h6
  have F7 := hide (show (t7.map str).length ≤ 16777216 ∧ ∀ s ∈ t7.map str, s.size ≤ 16777216 from ⟨by rw [List.length_map]; have := (resSs_len re7).2.1; omega, fun s hs => by
    obtain ⟨q, hq, rfl⟩ := List.mem_map.1 hs
    rw [str_size]; have := (resSs_len re7).2.2 q hq; omega⟩)
  clear CT B6 Z6 G6 R6 R7 kb7 g7 z7 re7 I6 hb6 hs7 c6 ow7 hgi7
  go_wp2_with (refine wpList_store1 rfl (.tmp 75) (.tmp 73) rfl rfl sizeT1 gi 6 rfl (.bool o7) rfl rfl ([.bool true, .bool true, .bool true, .bool true, .bool true, .bool true, .bool false]) 137 GI (by decide) ?_)
  intro u7 G7 j7 y7
  replace G7 : u7.heap[gi]? = some (.cells ([.bool true, .bool true, .bool true, .bool true, .bool true, .bool true, .bool o7]).toArray 137 (0, 0)) := G7
  have Z7 := box_grown Y7 j7 (by have := HG.out; omega)
  have B7 := box_grown B7 j7 (by have := HC.out; have := HG.out; omega)
  have hb7 := hm7.grown j7 hm7.size (fun q hq => by injection hq with hq; have := HG.out; omega)
  have R7 := Q7.grown j7 hm7.size (fun q hq => by injection hq with hq; have := HG.out; omega)
  have sl6 := sl6.grown j7 (fun q hq e => by injection e with e; have := HG.out; omega)
  have sl7 := sl7.grown j7 (fun q hq e => by injection e with e; have := HG.out; omega)
  clear Y7 GI hm7 Q7 j7 y7
  cases o7 with
  | false =>
    have HW := hide (I7.out.no (by simp))
    clear I7 R7 B7
    have q6 := box_at G7 (j := 6) rfl
    clear G7
    go_wp2_with (refine wpList_storeB rfl (.tmp 2) (.tmp 79) rfl rfl strcC w.heap.size 0 rfl conZero.toList rfl rfl (by decide) conZero.toList 30 Z7 (by decide) ?_)
    intro u9 B9 g9 z9
    have hb9 := hb7.grown g9 hb7.size (fun q hq => by injection hq with hq; omega)
    go_wp2_with fail
    exact bodyPost_cell26 strcC rfl w.heap.size rfl (.bool false) rfl rfl B9 (by decide) ⟨conZero.toList, Con.zero, false, rfl, conZero_R _ _, zero_fine, (fun h => by cases h), fun _ => ⟨rfl, HW.out⟩, hb9⟩
  | true =>
  have q0 := box_at G7 (j := 6) rfl
  have I7' := I7.out
  simp only [Bool.not_true, Bool.or_false, Bool.false_or] at I7'
  have I7 := hide I7'
  clear I7'
  have I7' := hide (I7.out.imp (ok' := True) (fun _ => rfl) (fun _ _ => trivial) (fun C _ _ hq => ⟨hq, rfl⟩))
  clear I7
  have CT := r6levels hb7.size R7 c7 h7 I7'.out
  clear I7'
  have hgl7 : w.heap.size + 2 < u7.heap.size := by have h2 := (Array.getElem?_eq_some_iff.1 G7).1; have := HG.out; omega
  go_upto_region 19 with (first
    | (go_at_call 141; refine CT.mono ?_; rintro e p8 ⟨cl, lv, A8, k8, r8, o8, rfl, hcl, hone, kb8, hy, hn⟩; have HCL := hide hcl; have HON := hide hone; clear hcl hone; have HY := hide hy; have HN := hide hn; clear hy hn)
    | refine wpList_newS rfl rfl strcL rfl (.tmp 6) (.tmp 83) rfl rfl rfl cl.toArray rfl (by simpa using HCL.out) (by simpa using HON.out) ?_)
  have X8 := heap_alloc_new p8 (.cells cl.toArray 28)
  have x8 := ext_alloc (ext_refl p8) (.cells cl.toArray 28)
  have kb9 := ext_trans kb8 x8
  have HX8 := hide x8
  have hgl8 : w.heap.size + 2 < p8.heap.size := Nat.lt_of_lt_of_le hgl7 kb8.size
  generalize p8.alloc (.cells cl.toArray 28) = u8 at X8 x8 kb9 HX8 ⊢
  obtain ⟨gv, hgv⟩ : ∃ gv, p8.heap.size = gv := ⟨_, rfl⟩
  rw [hgv] at X8 hgl8
  have Z8 := box_below Z7 kb9
  have B8 := box_below B7 kb9
  have hb8 := ext_trans hb7 kb9
  have sl6 := sl6.ext kb9
  have sl7 := sl7.ext kb9
  have HV := hide hgv
  clear CT G7 R7 q0 Z7 B7 hb7 x8
  cases o8 with
  | false =>
    have HW := hide (HN.out (by first | rfl | trivial))
    go_wp2_with (refine wpList_storeB rfl (.tmp 2) (.tmp 93) rfl rfl strcC w.heap.size 0 rfl conZero.toList rfl rfl (by decide) conZero.toList 30 Z8 (by decide) ?_)
    intro u9 B9 g9 z9
    have hb9 := hb8.grown g9 hb8.size (fun q hq => by injection hq with hq; omega)
    go_wp2_with fail
    exact bodyPost_cell26 strcC rfl w.heap.size rfl (.bool false) rfl rfl B9 (by decide) ⟨conZero.toList, Con.zero, false, rfl, conZero_R _ _, zero_fine, (fun h => by cases h), fun _ => ⟨rfl, HW.out⟩, hb9⟩
  | true =>
  by_cases hz : r8.length = 0
  rotate_left
  · have HW := hide (fun (C' : Con) (hC' : C'.told) (he : l = encCon C') => hz (by rw [((HY.out (by first | rfl | trivial)).2.2.2 C' hC' he).2.2]; rfl))
    have hpos : 0 < r8.length := by omega
    clear hz
    go_wp2_with (refine wpList_storeB rfl (.tmp 2) (.tmp 93) rfl rfl strcC w.heap.size 0 rfl conZero.toList rfl rfl (by decide) conZero.toList 30 Z8 (by decide) ?_)
    intro u9 B9 g9 z9
    have hb9 := hb8.grown g9 hb8.size (fun q hq => by injection hq with hq; omega)
    go_wp2_with fail
    exact bodyPost_cell26 strcC rfl w.heap.size rfl (.bool false) rfl rfl B9 (by decide) ⟨conZero.toList, Con.zero, false, rfl, conZero_R _ _, zero_fine, (fun h => by cases h), fun _ => ⟨rfl, HW.out⟩, hb9⟩
  have HX8b := hide X8
  clear X8
  go_wp2_with (first
    | refine wpList_loadS rfl (.tmp 6) rfl strcL ⟨gv, 0, none⟩ (by first | rfl | (simp only [HV.out]; rfl)) cl HCL.out (box_all HX8b.out) ?_
    | refine wpList_storeB rfl (.tmp 95) (.tmp 94) rfl rfl strcL gc 7 rfl cl rfl HCL.out HON.out (patch (patch (patch (patch (patch (patch (patch (conZero.toList) 0 [.string (str s1)]) 1 [.int .i64 n2]) 2 [.int .i64 n3]) 3 [.bool b4]) 4 [.string (str s5)]) 5 [v6]) 6 [v7]) 30 B8 (by simp [patch, conZero]) ?_)
  intro m9 B9 g9 z9
  obtain ⟨HLR, HLF, HI⟩ := HY.out (by first | rfl | trivial)
  have HLR := (HLR.ext HX8.out)
  obtain ⟨vu, vk, rfl, SU, SK⟩ := HLR
  have hb9 := hb8.grown g9 hb8.size (fun q hq => by injection hq with hq; have := HC.out; omega)
  have Z9 := box_grown Z8 g9 (by have := HC.out; omega)
  have sl6 := sl6.grown g9 (fun q hq e => by injection e with e; have := HC.out; omega)
  have sl7 := sl7.grown g9 (fun q hq e => by injection e with e; have := HC.out; omega)
  have SU := (SU.weak (S' := fun b => w.heap.size + 2 < b) (fun q hq _ => by omega)).grown g9 (fun q hq e => by injection e with e; have := HC.out; omega)
  have SK := (SK.weak (S' := fun b => w.heap.size + 2 < b) (fun q hq _ => by omega)).grown g9 (fun q hq e => by injection e with e; have := HC.out; omega)
  obtain ⟨CC, hCC⟩ : ∃ CC : Con, CC = ⟨str s1, n2, n3, b4, str s5, t6.map str, t7.map str, lv⟩ := ⟨_, rfl⟩
  have hP : m9.heap[gc]? = some (.cells (conCells CC v6 v7 vu vk).toArray 30 (0, 0)) := by rw [hCC]; exact B9
  have HR : ConR m9 (fun b => w.heap.size + 2 < b) (conCells CC v6 v7 vu vk) CC := ⟨v6, v7, vu, vk, rfl, by rw [hCC]; exact sl6, by rw [hCC]; exact sl7, by rw [hCC]; exact SU, by rw [hCC]; exact SK⟩
  have HF := hide (show CC.fine by rw [hCC]; exact ⟨F1.out, F5.out, F2.out, F3.out, F6.out.1, F7.out.1, F6.out.2, F7.out.2, HLF⟩)
  have HE := hide (show l = encCon CC by
    have := (HI.1 rfl).1
    rw [List.eq_nil_of_length_eq_zero hz, List.append_nil] at this
    rw [this, hCC]
    simp [encCon])
  have HLn := hide HR.length
  have HOn := hide HR.one
  generalize hcs : conCells CC v6 v7 vu vk = cs at hP HR HLn HOn
  have HP := hide hP
  have HRR := hide HR
  clear hcs hP HR hCC HI HLF B9 g9 z9 sl6 sl7 SU SK F1 F2 F3 F5 F6 F7 Z8 B8 hb8
  go_wp2_with (first
    | refine wpList_loadS rfl (.tmp 4) rfl strcC ⟨gc, 0, none⟩ rfl cs HLn.out (box_all HP.out) ?_
    | refine wpList_storeB rfl (.tmp 2) (.tmp 96) rfl rfl strcC w.heap.size 0 rfl cs rfl HLn.out HOn.out conZero.toList 30 Z9 (by decide) ?_)
  intro u9 B9 g9 z9
  rw [patch_all _ _ (by rw [HLn.out]; rfl)] at B9
  have hb9 := hb9.grown g9 hb9.size (fun q hq => by injection hq with hq; omega)
  go_wp2_with fail
  refine bodyPost_cell26 strcC rfl w.heap.size rfl (.bool true) rfl rfl B9 (by simpa using HLn.out) ⟨cs, CC, true, rfl, ?_, HF.out, fun _ => HE.out, (fun h => by cases h), hb9⟩
  exact (HRR.out.grown6 g9 (fun q hq e => by injection e with e; omega)).weak fun q hq _ => by omega
end
end Go.Proofs.YtnfbmhkjmkdmjaaGreat
