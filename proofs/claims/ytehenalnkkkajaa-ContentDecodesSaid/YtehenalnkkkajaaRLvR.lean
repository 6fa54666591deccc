/-
  fedchatref06: levels.
-/
import Derived.Test.YtehenalnkkkajaaRLev
import Derived.Test.YtehenalnkkkajaaRefAny
import Derived.Deep.DeepCutAuto
set_option linter.unusedVariables false
set_option linter.unusedSimpArgs false
namespace Go.Proofs.Ytehenalnkkkajaa
open Go.RowKit
attribute [local go_sem] Addr.add_mid
section
variable {P : Program} {fn : Func} {R : Ending → World → Prop} {a : Act} {w : World} {t : TypeId} {z C : Array Value} {n : Nat} {p q q2 : Tmp}
theorem bodyPost_cell3 (G : Strc P t z n) (hres : fn.results = #[.cell p t, .tmp q, .tmp q2]) (g : Nat) (hp : a.tmps.getD p undef = .pointer (some ⟨g, 0, none⟩)) (u u2 : Value) (hq : a.tmps.getD q undef = u) (hq2 : a.tmps.getD q2 undef = u2) (hd : a.defers = []) (hg : w.heap[g]? = some (.cells C t (0, 0))) (hC : C.size = n)
    (hR : R (.returned (.tuple #[.agg C, u, u2])) w) : bodyPost P fn R .ret a w := by
  obtain ⟨d, hu, hrow⟩ := G.row
  refine bodyPost_ret ?_ hd hR
  have hp' : a.tmps[p]?.getD undef = .pointer (some ⟨g, 0, none⟩) := by simpa using hp
  have hq' : a.tmps[q]?.getD undef = u := by simpa using hq
  have hq2' : a.tmps[q2]?.getD undef = u2 := by simpa using hq2
  have hl := run_loadVar_row w g t t C (0, 0) d hg hu (by cases d <;> simp_all) (by rw [G.size, hC])
  simp [results, hres, hp', hq', hq2', asAddr, hl]
end
section
variable {l pre : List UInt8} {ok : Prop} {Q : Con → Prop} {t : Con → List UInt8} {r r1 r2 : List UInt8} {bad ok1 ok2 : Bool} {N j : Nat}
theorem Inv.no (h : Inv l pre ok Q t r bad) (hb : bad = true) : ∀ C : Con, C.told → l ≠ encCon C := fun C hC he => by
  have := (h.2 C hC he).1
  rw [hb] at this; cases this
theorem resI_any (r : List UInt8) : ∃ x r' ok, Res (getI r) 0 x r' ok := by
  cases h : getI r with
  | none => exact ⟨_, _, _, Res.no⟩
  | some p => exact ⟨p.1, p.2, _, Res.yes⟩
theorem Inv.user_no {t2 : Con → List UInt8} {us : List (ByteArray × Int)} {s : List UInt8} (h : Inv l (pre ++ us.flatMap encU) True (fun C => (Q C ∧ C.lv.users.length = N) ∧ C.lv.users.take j = us) (fun C => (C.lv.users.drop j).flatMap encU ++ t2 C) r bad)
    (hj : j < N) (h1 : Res (getS r) [] s r1 false) : ∀ C : Con, C.told → l ≠ encCon C := by
  obtain ⟨y, r2, ok2, h2⟩ := resI_any r1
  exact (h.user hj h1 h2).no (by simp)
theorem Inv.kind_no {t2 : Con → List UInt8} {us : List (Int × Int)} {s : Int} (h : Inv l (pre ++ us.flatMap encK) True (fun C => (Q C ∧ C.lv.kinds.length = N) ∧ C.lv.kinds.take j = us) (fun C => (C.lv.kinds.drop j).flatMap encK ++ t2 C) r bad)
    (hj : j < N) (h1 : Res (getI r) 0 s r1 false) : ∀ C : Con, C.told → l ≠ encCon C := by
  obtain ⟨y, r2, ok2, h2⟩ := resI_any r1
  exact (h.kind hj h1 h2).no (by simp)
theorem told_restL {C : Con} (hC : C.told) : ∀ n ∈ restL C.lv, I64 n := by
  obtain ⟨y1, y2, y3, y4, y5, y6, y7⟩ := hC.rest
  intro n hn
  simp only [restL, List.mem_cons, List.not_mem_nil, or_false] at hn
  rcases hn with rfl | rfl | rfl | rfl | rfl | rfl | rfl <;> assumption
theorem Inv.restk {ys : List Int} {y : Int} (h : Inv l (pre ++ ys.flatMap encI) True (fun C => Q C ∧ (restL C.lv).take j = ys) (fun C => ((restL C.lv).drop j).flatMap encI) r bad) (hj : j < 7) (h1 : Res (getI r) 0 y r1 ok1) :
    Inv l (pre ++ (ys ++ [y]).flatMap encI) True (fun C => Q C ∧ (restL C.lv).take (j + 1) = ys ++ [y]) (fun C => ((restL C.lv).drop (j + 1)).flatMap encI) r1 (bad || !ok1) := by
  have hg : ∀ C : Con, ∃ h : j < (restL C.lv).length, (restL C.lv).getD j 0 = (restL C.lv)[j] := fun C => ⟨hj, by rw [List.getD_eq_getElem?_getD, List.getElem?_eq_getElem (show j < (restL C.lv).length from hj)]; rfl⟩
  have a := h.int (fun C => (restL C.lv).getD j 0) (fun C => ((restL C.lv).drop (j + 1)).flatMap encI) (fun C hC hq => by
      obtain ⟨hk, he⟩ := hg C
      rw [he, List.drop_eq_getElem_cons hk, List.flatMap_cons]) (fun C hC hq => by
      obtain ⟨hk, he⟩ := hg C
      rw [he]; exact told_restL hC _ (List.getElem_mem hk)) h1
  refine a.imp (fun _ => by rw [List.flatMap_append]; simp) (fun _ _ => trivial) (fun C hC hb hq => ⟨⟨hq.1.1, ?_⟩, rfl⟩)
  obtain ⟨hk, he⟩ := hg C
  refine take_snoc' hq.1.2 ?_
  rw [List.getElem?_eq_getElem hk]
  congr 1
  rw [← he]; exact hq.2
end
theorem levUK_one {us : List (ByteArray × Int)} {ks : List (Int × Int)} {vu vk : Value} (hu : vu.oneCell' = true) (hk : vk.oneCell' = true) : ∀ u ∈ levUK us ks vu vk, u.oneCell' = true := by
  intro u h
  simp only [levUK, levCells, List.mem_cons, List.not_mem_nil, or_false] at h
  rcases h with rfl | rfl | rfl | rfl | rfl | rfl | rfl | rfl | rfl <;> first | rfl | assumption
def sevZero : Array Value := #[.int .i64 0, .int .i64 0, .int .i64 0, .int .i64 0, .int .i64 0, .int .i64 0, .int .i64 0]
theorem strcA7 : Strc Try.prog 52 sevZero 7 := ⟨⟨_, Try.underlying52, rfl⟩, by kernel_rfl, rfl⟩
def sevC (ys : List Int) : List Value := ivs ys ++ List.replicate (7 - ys.length) (.int .i64 0)
theorem sevC_step {ys : List Int} {y : Int} (h : ys.length < 7) : patch (sevC ys) ys.length [.int .i64 y] = sevC (ys ++ [y]) := by
  match ys, h with
  | [], _ => rfl
  | [_], _ => rfl
  | [_, _], _ => rfl
  | [_, _, _], _ => rfl
  | [_, _, _, _], _ => rfl
  | [_, _, _, _, _], _ => rfl
  | [_, _, _, _, _, _], _ => rfl
  | _ :: _ :: _ :: _ :: _ :: _ :: _ :: _, h => simp only [List.length_cons] at h; omega
theorem seven_of {ys : List Int} (h : ys.length = 7) : ∃ a b c d e f g, ys = [a, b, c, d, e, f, g] := by
  match ys, h with
  | [a, b, c, d, e, f, g], _ => exact ⟨a, b, c, d, e, f, g, rfl⟩
/-- where the reference's reading of the lists is -/
def RSt (B gr gl : Nat) (w : World) (us : List (ByteArray × Int)) (ks : List (Int × Int)) (vu vk : Value) (A : Option Addr) (r : List UInt8) (w' : World) : Prop :=
  w'.heap[gl]? = some (.cells (levUK us ks vu vk).toArray 25 (0, 0)) ∧ w'.heap[gr]? = some (.cells levZero 25 (0, 0)) ∧ Row w' B A (bvs r) ∧ r.length ≤ 16777216 ∧ Below w.heap.size w w'
/-- what the reference's levels hands back -/
def RLevV (l pre : List UInt8) (Q : Con → Prop) (w : World) (e : Ending) (w' : World) : Prop :=
  ∃ cs v A' c' r' ok, e = .returned (.tuple #[.agg cs.toArray, .slice A' (List.length r') c', .bool ok]) ∧ cs.length = 9 ∧ (∀ u ∈ cs, u.oneCell' = true) ∧ Below w.heap.size w w' ∧
    (ok = true → LevR w' (w.heap.size ≤ ·) cs v ∧ v.fine ∧ Inv l (pre ++ encLev v) True (fun C => Q C ∧ C.lv = v) (fun _ => []) r' false) ∧ (ok = false → ∀ C : Con, C.told → l ≠ encCon C)

set_option maxRecDepth 100000 in
set_option maxHeartbeats 8000000 in
theorem r6levels {B : Nat} {A : Option Addr} {c : Nat} {l pre r : List UInt8} {Q : Con → Prop} {w : World} (hB : B ≤ w.heap.size) (hr : Row w B A (bvs r)) (hc : r.length ≤ c) (hl : r.length ≤ 16777216) (hI : Inv l pre True Q tail7 r false) :
    Calls Try.prog 65 #[.slice A r.length c] w (RLevV l pre Q w) := by
  have X0 := heap_alloc2_old w (.cells levZero 25) (.cells levZero 25)
  have X1 := heap_alloc2_new w (.cells levZero 25) (.cells levZero 25)
  have hx := below_two w (.cells levZero 25) (.cells levZero 25)
  have hz : ((w.alloc (.cells levZero 25)).alloc (.cells levZero 25)).heap.size = w.heap.size + 2 := by simp
  have R0 := hr.below (hx.mono hB)
  have HI := hide hI
  clear hI hr
  go_enter Try.func65, Try.ntmps65
  go_upto_region 2 with (refine wpList_zeroS rfl rfl strcL ?_)
  go_simp
  generalize hW : (w.alloc (.cells levZero 25)).alloc (.cells levZero 25) = W at X0 X1 hx hz R0 ⊢
  clear hW
  obtain ⟨gl, hgl1⟩ : ∃ gl, w.heap.size + 1 = gl := ⟨_, rfl⟩
  obtain ⟨gr, hgr1⟩ : ∃ gr, w.heap.size = gr := ⟨_, rfl⟩
  rw [hgl1] at X1 ⊢
  rw [hgr1] at X0 ⊢
  have HGL := hide hgl1; have HGR := hide hgr1; have HZ := hide hz
  clear hgl1 hgr1 hz
  have HBW := hide (show B ≤ W.heap.size by have := HZ.out; omega)
  have CC := RGetInt_at HBW.out R0 hc hl
  go_upto_region 3 with (go_at_call 62; refine CC.mono ?_; rintro e w1 ⟨x, r1, ok1, ⟨A1, c1, rfl, R1, hc1, k1⟩, hres⟩)
  have hr1 := Nat.le_trans (resI_len hres) hl
  have HX := hide (res_I64 hres)
  obtain ⟨N, hN⟩ : ∃ N, x.toNat = N := ⟨_, rfl⟩
  have HI1 := hide (Inv.count (N := N) (L := fun C => C.lv.users) (f := encU) (t2 := tailK) (gd := decide (x < 0)) HI.out (fun C _ _ => tail7_eq C) (fun C hC => hC.usersL) hres (fun C hx1 hr => by
    simp only [decide_eq_false_iff_not]; omega) (fun hb => by
    simp only [Bool.or_eq_false_iff, decide_eq_false_iff_not] at hb
    omega))
  have hb1 := ext_trans hx k1
  have Y1 : w1.heap[gl]? = some (.cells (levUK [] [] (.slice none 0 0) (.slice none 0 0)).toArray 25 (0, 0)) := box_below X1 k1
  have Y0 := box_below X0 k1
  have hlen : r1.length ≤ r.length := resI_len hres
  clear CC HI X0 X1 hx R0 hl hc
  cases ok1 with
  | false =>
    have HW := hide (HI1.out.no (by simp))
    clear HI1 hres
    go_wp2_with (first
      | refine wpList_loadS rfl (.tmp 5) rfl strcL ⟨gl, 0, none⟩ rfl (levUK [] [] (.slice none 0 0) (.slice none 0 0)) rfl (box_all Y1) ?_
      | refine wpList_storeB rfl (.tmp 2) (.tmp 39) rfl rfl strcL gr 0 rfl (levUK [] [] (.slice none 0 0) (.slice none 0 0)) rfl rfl (levUK_one rfl rfl) levZero.toList 25 Y0 (by decide) ?_)
    intro u9 B9 g9 z9
    have hb9 := hb1.grown g9 hb1.size (fun q hq => by injection hq with hq; have := HGR.out; omega)
    replace B9 : u9.heap[gr]? = some (.cells (levUK [] [] (.slice none 0 0) (.slice none 0 0)).toArray 25 (0, 0)) := B9
    go_wp2_with fail
    exact bodyPost_cell3 strcL rfl gr rfl (.slice none 0 0) (.bool false) rfl rfl rfl B9 rfl ⟨levUK [] [] (.slice none 0 0) (.slice none 0 0), Lev.zero, none, 0, [], false, rfl, rfl, levUK_one rfl rfl, hb9, (fun h => by cases h), fun _ => HW.out⟩
  | true =>
  by_cases hneg : x < 0
  · have HW := hide (HI1.out.no (by simp [hneg]))
    clear HI1 hres
    go_wp2_with (first
      | refine wpList_loadS rfl (.tmp 5) rfl strcL ⟨gl, 0, none⟩ rfl (levUK [] [] (.slice none 0 0) (.slice none 0 0)) rfl (box_all Y1) ?_
      | refine wpList_storeB rfl (.tmp 2) (.tmp 39) rfl rfl strcL gr 0 rfl (levUK [] [] (.slice none 0 0) (.slice none 0 0)) rfl rfl (levUK_one rfl rfl) levZero.toList 25 Y0 (by decide) ?_)
    intro u9 B9 g9 z9
    have hb9 := hb1.grown g9 hb1.size (fun q hq => by injection hq with hq; have := HGR.out; omega)
    replace B9 : u9.heap[gr]? = some (.cells (levUK [] [] (.slice none 0 0) (.slice none 0 0)).toArray 25 (0, 0)) := B9
    go_wp2_with fail
    exact bodyPost_cell3 strcL rfl gr rfl (.slice none 0 0) (.bool false) rfl rfl rfl B9 rfl ⟨levUK [] [] (.slice none 0 0) (.slice none 0 0), Lev.zero, none, 0, [], false, rfl, rfl, levUK_one rfl rfl, hb9, (fun h => by cases h), fun _ => HW.out⟩
  have hxN : x = (N : Int) := by omega
  have hpos : ¬ (N : Int) < 0 := by omega
  subst hxN
  have HI1' := hide (HI1.out.zero.imp (bad := _) (fun _ => rfl) (fun _ h => h) (fun C _ _ hq => ⟨hq, rfl⟩))
  have hbf : ((false || !true) || decide ((N : Int) < 0)) = false := by simp
  rw [hbf] at HI1'
  clear hres hneg hN HI1 hbf
  have ST : RSt B gr gl w [] [] (.slice none 0 0) (.slice none 0 0) A1 r1 w1 := ⟨Y1, Y0, R1, hr1, hb1⟩
  have hW1 := k1.size
  have HW1 := hide hW1
  clear Y1 Y0 R1 hb1 k1 hr1 hW1
  go_wp2_with fail
  go_loopw [0, 8] (fun b i wr => ∃ (j : Nat) (us : List (ByteArray × Int)) (vu : Value) (A : Option Addr) (c : Nat) (r : List UInt8), j ≤ N ∧ i = .int .i64 (j : Int) ∧ b = .slice A r.length c ∧ us.length = j ∧ r.length ≤ c ∧ 2 * us.length + r.length ≤ 16777216 ∧ (∀ u ∈ us, u.1.size ≤ 16777216 ∧ I64 u.2) ∧ RSt B gr gl w us [] vu (.slice none 0 0) A r wr ∧
      wr.ownsRow W.heap.size 49 2 vu us.length (ucs us) ∧ Hid (Inv l (pre ++ encI N ++ us.flatMap encU) True (fun C => (Q C ∧ C.lv.users.length = N) ∧ C.lv.users.take j = us) (fun C => (C.lv.users.drop j).flatMap encU ++ tailK C) r false)) (fun _ i _ => N - (intOf i).toNat)
  case atStart => exact ⟨0, [], _, A1, c1, r1, Nat.zero_le _, rfl, rfl, rfl, hc1, by have := ST.2.2.2.1; simpa using this, fun u hu => by simp at hu, ST, World.ownsRow_nil _ _ _ _, HI1'.out⟩
  case round =>
  clear ST HI1' hc1 hlen
  obtain ⟨j, us, vu, A, c, r, hj, rfl, rfl, hul, hc, hsum, huf, hst, hown, HIN⟩ := hrel
  obtain ⟨Y1, Y0, R, hrl, hbr⟩ := hst
  have HUL := hide hul
  have HUF := hide huf
  clear hul huf
  have hwr : W.heap.size ≤ wr.heap.size := by
    have h2 := (Array.getElem?_eq_some_iff.1 Y1).1; have := HZ.out; have := HGL.out; omega
  have ho1 := own_one hown
  by_cases hlt : j < N
  · have CT := RGetText_at (Nat.le_trans HBW.out hwr) R hc hrl
    go_upto_region 9 with (go_at_call 61; refine CT.mono ?_; rintro e w2 ⟨s, r1, ok1, ⟨A1, c1, rfl, R1, hc1, k1⟩, hres1⟩)
    have hl1 := resS_len hres1
    have hr1 : r1.length ≤ 16777216 := Nat.le_trans hl1.1 hrl
    have HS1 := hide (show (str s).size ≤ 16777216 by rw [str_size]; omega)
    clear hl1
    have Z1 := box_below Y1 k1
    have Z0 := box_below Y0 k1
    have O1 := own_below hown k1
    have hb1 := ext_trans hbr k1
    have hw2 := Nat.le_trans hwr k1.size
    clear CT Y1 Y0 R hown hbr k1
    cases ok1 with
    | false =>
      have HW := hide (HIN.out.user_no hlt hres1)
      clear hres1
      go_wp2_with (first
        | refine wpList_loadS rfl (.tmp 5) rfl strcL ⟨gl, 0, none⟩ rfl (levUK us [] vu (.slice none 0 0)) rfl (box_all Z1) ?_
        | refine wpList_storeB rfl (.tmp 2) (.tmp 53) rfl rfl strcL gr 0 rfl (levUK us [] vu (.slice none 0 0)) rfl rfl (levUK_one ho1 rfl) levZero.toList 25 Z0 (by decide) ?_)
      intro u9 B9 g9 z9
      have hb9 := hb1.grown g9 hb1.size (fun q hq => by injection hq with hq; have := HGR.out; omega)
      replace B9 : u9.heap[gr]? = some (.cells (levUK us [] vu (.slice none 0 0)).toArray 25 (0, 0)) := B9
      go_wp2_with fail
      exact bodyPost_cell3 strcL rfl gr rfl (.slice none 0 0) (.bool false) rfl rfl rfl B9 rfl ⟨levUK us [] vu (.slice none 0 0), Lev.zero, none, 0, [], false, rfl, rfl, levUK_one ho1 rfl, hb9, (fun h => by cases h), fun _ => HW.out⟩
    | true =>
    have CT := RGetInt_at (Nat.le_trans HBW.out hw2) R1 hc1 hr1
    have hcut1 : r1.length < r.length := by
      rcases hres1 with ⟨_, h⟩ | ⟨h, _⟩
      · have := getS_can _ _ _ h; rw [this.1, List.length_append]; have := encS_pos (str s); omega
      · cases h
    have HRES := hide hres1
    clear hres1
    go_upto_region 12 with (go_at_call 62; refine CT.mono ?_; rintro e w3 ⟨y, r2, ok2, ⟨A2, c2, rfl, R2, hc2, k2⟩, hres2⟩)
    have hr2 : r2.length ≤ 16777216 := Nat.le_trans (resI_len hres2) hr1
    have HY := hide (res_I64 hres2)
    have HN := hide (Inv.user HIN.out hlt HRES.out hres2)
    have Z1 := box_below Z1 k2
    have Z0 := box_below Z0 k2
    have O1 := own_below O1 k2
    have hb1 := ext_trans hb1 k2
    have hw2 := Nat.le_trans hw2 k2.size
    clear CT R1 k2
    cases ok2 with
    | false =>
      have HW := hide (HN.out.no (by simp))
      clear hres2
      go_wp2_with (first
        | refine wpList_loadS rfl (.tmp 5) rfl strcL ⟨gl, 0, none⟩ rfl (levUK us [] vu (.slice none 0 0)) rfl (box_all Z1) ?_
        | refine wpList_storeB rfl (.tmp 2) (.tmp 62) rfl rfl strcL gr 0 rfl (levUK us [] vu (.slice none 0 0)) rfl rfl (levUK_one ho1 rfl) levZero.toList 25 Z0 (by decide) ?_)
      intro u9 B9 g9 z9
      have hb9 := hb1.grown g9 hb1.size (fun q hq => by injection hq with hq; have := HGR.out; omega)
      replace B9 : u9.heap[gr]? = some (.cells (levUK us [] vu (.slice none 0 0)).toArray 25 (0, 0)) := B9
      go_wp2_with fail
      exact bodyPost_cell3 strcL rfl gr rfl (.slice none 0 0) (.bool false) rfl rfl rfl B9 rfl ⟨levUK us [] vu (.slice none 0 0), Lev.zero, none, 0, [], false, rfl, rfl, levUK_one ho1 rfl, hb9, (fun h => by cases h), fun _ => HW.out⟩
    | true =>
    have hcut2 : r2.length < r1.length := by
      rcases hres2 with ⟨_, h⟩ | ⟨h, _⟩
      · have := getI_can _ _ _ h; rw [this.1, List.length_append]; have := encI_pos y; omega
      · cases h
    have hlen : us.length ≤ 8388608 := by omega
    have hjb : j ≤ 8388608 := by have := HUL.out; omega
    have q0 : w3.cell? ⟨gl, 0, none⟩ = some vu := box_at Z1 (j := 0) rfl
    clear hres2
    go_wp2_with (first | (at_builtin; go_must (refine wpList_append_at6 rfl (.tmp 64) (.tmp 68) rfl elemU W.heap.size vu us.length (ucs us) rfl O1 1 #[.string (str s), .int .i64 y] rfl rfl (by simp [Value.oneCell']) (by unfold maxLen; omega) (by omega) hw2 ?_)))
    intro v5 w5 hown5 hg5 hblk
    have hub2 := fun q hq => own_block O1 q hq
    have T5 : w5.heap[gl]? = _ := (hg5.block gl (Array.getElem?_eq_some_iff.1 Z1).1 (fun e => by have := (hub2 _ e.symm).1; have := HZ.out; have := HGL.out; omega)).trans Z1
    have Z5 : w5.heap[gr]? = _ := (hg5.block gr (Array.getElem?_eq_some_iff.1 Z0).1 (fun e => by have := (hub2 _ e.symm).1; have := HZ.out; have := HGR.out; omega)).trans Z0
    have R5 := R2.grown hg5 (Nat.le_trans HBW.out hw2) (fun q hq => by have := (hub2 q hq).1; have := HBW.out; omega)
    have hb5 := hb1.grown hg5 hb1.size (fun q hq => by have := (hub2 q hq).1; have := HZ.out; omega)
    have hw5 := Nat.le_trans hw2 hg5.size
    clear R2 Z1 Z0 O1 hb1 hg5 hub2 q0
    go_wp2_with (refine wpList_store1 rfl (.tmp 70) (.tmp 69) rfl rfl sizeU gl 0 rfl v5 rfl (own_one hown5) (levUK us [] vu (.slice none 0 0)) 25 T5 (by simp [levUK, levCells]) ?_)
    intro w6 B6 g6 hz6
    have hub5 := fun q hq => own_block hown5 q hq
    have Z6 := box_grown Z5 g6 (by have := HGL.out; have := HGR.out; omega)
    have O6 := own_apart6 hown5 g6 (fun q hq e => by injection e with e; have := (hub5 q hq).1; have := HZ.out; have := HGL.out; omega)
    have R6 := R5.grown g6 (Nat.le_trans HBW.out hw5) (fun q hq => by injection hq with hq; have := HGL.out; omega)
    have hb6 := hb5.grown g6 hb5.size (fun q hq => by injection hq with hq; have := HGL.out; omega)
    have hun : us.length + 1 = (us ++ [(str s, y)]).length := by simp
    have hucs : ucs us ++ (#[.string (str s), .int .i64 y] : Array Value).toList = ucs (us ++ [(str s, y)]) := by simp [ucs]
    rw [hucs, hun] at O6
    have B6' : w6.heap[gl]? = some (.cells (levUK (us ++ [(str s, y)]) [] v5 (.slice none 0 0)).toArray 25 (0, 0)) := B6
    have hN2 := HN.out
    simp only [Bool.not_true, Bool.or_false, Bool.false_or] at hN2
    have HN' := hide hN2
    clear T5 Z5 R5 hown5 hb5 g6 hz6 hub5 hucs hun B6 hN2 HN
    go_wp2_with fail
    go_roundw
    case rel => exact ⟨j + 1, us ++ [(str s, y)], v5, A2, c2, r2, by omega, by go_num, rfl, by rw [List.length_append, HUL.out]; rfl, hc2, by rw [List.length_append, List.length_singleton]; omega, (fun u hu => by
      rcases List.mem_append.1 hu with h | h
      · exact HUF.out u h
      · simp only [List.mem_cons, List.not_mem_nil, or_false] at h; subst h; exact ⟨HS1.out, HY.out⟩), ⟨B6', Z6, R6, hr2, hb6⟩, O6, HN'.out⟩
    case measure => (simp [intOf]; try omega)
  obtain rfl : j = N := by omega
  have HI2 := hide (HIN.out.listed HUL.out)
  have SU0 := Slc.own hown (by decide)
  have huL : us.length ≤ 8388608 := by omega
  have HLU := HUL; have HFU := HUF
  clear HIN hown hlt hj HUL HUF hsum hpos
  -- the number of kinds
  have CC := RGetInt_at (Nat.le_trans HBW.out hwr) R hc hrl
  go_upto_region 17 with (go_at_call 62; refine CC.mono ?_; rintro e w7 ⟨x, r7, ok7, ⟨A7, c7, rfl, R7, hc7, k7⟩, hres⟩)
  have hr7 := Nat.le_trans (resI_len hres) hrl
  have HX2 := hide (res_I64 hres)
  obtain ⟨M, hM⟩ : ∃ M, x.toNat = M := ⟨_, rfl⟩
  have HI3 := hide (Inv.count (N := M) (L := fun C => C.lv.kinds) (f := encK) (t2 := tailR) (gd := decide (x < 0)) HI2.out (fun C _ _ => rfl) (fun C hC => hC.kindsL) hres (fun C hx1 hr => by
    simp only [decide_eq_false_iff_not]; omega) (fun hb => by
    simp only [Bool.or_eq_false_iff, decide_eq_false_iff_not] at hb
    omega))
  have hb7 := ext_trans hbr k7
  have Y7 := box_below Y1 k7
  have Y8 := box_below Y0 k7
  have SU7 := SU0.ext k7
  have hw7 := Nat.le_trans hwr k7.size
  clear CC HI2 Y1 Y0 R hbr k7 SU0 hwr hrl hc
  cases ok7 with
  | false =>
    have HW := hide (HI3.out.no (by simp))
    clear HI3 hres
    go_wp2_with (first
      | refine wpList_loadS rfl (.tmp 5) rfl strcL ⟨gl, 0, none⟩ rfl (levUK us [] vu (.slice none 0 0)) rfl (box_all Y7) ?_
      | refine wpList_storeB rfl (.tmp 2) (.tmp 84) rfl rfl strcL gr 0 rfl (levUK us [] vu (.slice none 0 0)) rfl rfl (levUK_one ho1 rfl) levZero.toList 25 Y8 (by decide) ?_)
    intro u9 B9 g9 z9
    have hb9 := hb7.grown g9 hb7.size (fun q hq => by injection hq with hq; have := HGR.out; omega)
    replace B9 : u9.heap[gr]? = some (.cells (levUK us [] vu (.slice none 0 0)).toArray 25 (0, 0)) := B9
    go_wp2_with fail
    exact bodyPost_cell3 strcL rfl gr rfl (.slice none 0 0) (.bool false) rfl rfl rfl B9 rfl ⟨levUK us [] vu (.slice none 0 0), Lev.zero, none, 0, [], false, rfl, rfl, levUK_one ho1 rfl, hb9, (fun h => by cases h), fun _ => HW.out⟩
  | true =>
  by_cases hneg : x < 0
  · have HW := hide (HI3.out.no (by simp [hneg]))
    clear HI3 hres
    go_wp2_with (first
      | refine wpList_loadS rfl (.tmp 5) rfl strcL ⟨gl, 0, none⟩ rfl (levUK us [] vu (.slice none 0 0)) rfl (box_all Y7) ?_
      | refine wpList_storeB rfl (.tmp 2) (.tmp 84) rfl rfl strcL gr 0 rfl (levUK us [] vu (.slice none 0 0)) rfl rfl (levUK_one ho1 rfl) levZero.toList 25 Y8 (by decide) ?_)
    intro u9 B9 g9 z9
    have hb9 := hb7.grown g9 hb7.size (fun q hq => by injection hq with hq; have := HGR.out; omega)
    replace B9 : u9.heap[gr]? = some (.cells (levUK us [] vu (.slice none 0 0)).toArray 25 (0, 0)) := B9
    go_wp2_with fail
    exact bodyPost_cell3 strcL rfl gr rfl (.slice none 0 0) (.bool false) rfl rfl rfl B9 rfl ⟨levUK us [] vu (.slice none 0 0), Lev.zero, none, 0, [], false, rfl, rfl, levUK_one ho1 rfl, hb9, (fun h => by cases h), fun _ => HW.out⟩
  have hxM : x = (M : Int) := by omega
  have hpos : ¬ (M : Int) < 0 := by omega
  subst hxM
  have HI1' := hide HI3.out.zero
  have hbf : ((false || !true) || decide ((M : Int) < 0)) = false := by simp
  rw [hbf] at HI1'
  clear hres hneg hM HI3 hbf
  have ST : RSt B gr gl w us [] vu (.slice none 0 0) A7 r7 w7 := ⟨Y7, Y8, R7, hr7, hb7⟩
  have SUW := SU7.weak (S' := fun b => W.heap.size ≤ b ∧ (Value.slice none 0 0).ownBlock ≠ some b) (fun q hq _ => ⟨hq, fun e => by cases e⟩)
  clear Y7 Y8 R7 hb7 hr7 hw7 SU7
  go_wp2_with fail
  go_loopw [0, 15] (fun b i wr => ∃ (j : Nat) (ks : List (Int × Int)) (vk : Value) (A : Option Addr) (c : Nat) (r : List UInt8), j ≤ M ∧ i = .int .i64 (j : Int) ∧ b = .slice A r.length c ∧ ks.length = j ∧ r.length ≤ c ∧ 2 * ks.length + r.length ≤ 16777216 ∧ (∀ u ∈ ks, I64 u.1 ∧ I64 u.2) ∧ RSt B gr gl w us ks vu vk A r wr ∧
      wr.ownsRow W.heap.size 58 2 vk ks.length (kcs ks) ∧ Hid (Inv l (pre ++ encL encU us ++ encI M ++ ks.flatMap encK) True (fun C => ((Q C ∧ C.lv.users = us) ∧ C.lv.kinds.length = M) ∧ C.lv.kinds.take j = ks) (fun C => (C.lv.kinds.drop j).flatMap encK ++ tailR C) r false) ∧ Slc wr (fun b => W.heap.size ≤ b ∧ vk.ownBlock ≠ some b) vu 2 us.length (ucs us)) (fun _ i _ => M - (intOf i).toNat)
  case atStart => exact ⟨0, [], _, A7, c7, r7, Nat.zero_le _, rfl, rfl, rfl, hc7, by have := ST.2.2.2.1; simpa using this, fun u hu => by simp at hu, ST, World.ownsRow_nil _ _ _ _, HI1'.out, SUW⟩
  case round =>
  clear ST HI1' hc7 SUW
  obtain ⟨j, ks, vk, A, c, r, hj, rfl, rfl, hul, hc, hsum, huf, hst, hown, HIN, SU⟩ := hrel
  obtain ⟨Y1, Y0, R, hrl, hbr⟩ := hst
  have HUL := hide hul
  have HUF := hide huf
  clear hul huf
  have hwr : W.heap.size ≤ wr.heap.size := by
    have h2 := (Array.getElem?_eq_some_iff.1 Y1).1; have := HZ.out; have := HGL.out; omega
  have ho2 := own_one hown
  by_cases hlt : j < M
  · have CT := RGetInt_at (Nat.le_trans HBW.out hwr) R hc hrl
    go_upto_region 23 with (go_at_call 62; refine CT.mono ?_; rintro e w2 ⟨s, r1, ok1, ⟨A1, c1, rfl, R1, hc1, k1⟩, hres1⟩)
    have hr1 : r1.length ≤ 16777216 := Nat.le_trans (resI_len hres1) hrl
    have HS1 := hide (res_I64 hres1)
    have Z1 := box_below Y1 k1
    have Z0 := box_below Y0 k1
    have O1 := own_below hown k1
    have SU := SU.ext k1
    have hb1 := ext_trans hbr k1
    have hw2 := Nat.le_trans hwr k1.size
    clear CT Y1 Y0 R hown hbr k1
    cases ok1 with
    | false =>
      have HW := hide (HIN.out.kind_no hlt hres1)
      clear hres1
      go_wp2_with (first
        | refine wpList_loadS rfl (.tmp 5) rfl strcL ⟨gl, 0, none⟩ rfl (levUK us ks vu vk) rfl (box_all Z1) ?_
        | refine wpList_storeB rfl (.tmp 2) (.tmp 98) rfl rfl strcL gr 0 rfl (levUK us ks vu vk) rfl rfl (levUK_one ho1 ho2) levZero.toList 25 Z0 (by decide) ?_)
      intro u9 B9 g9 z9
      have hb9 := hb1.grown g9 hb1.size (fun q hq => by injection hq with hq; have := HGR.out; omega)
      replace B9 : u9.heap[gr]? = some (.cells (levUK us ks vu vk).toArray 25 (0, 0)) := B9
      go_wp2_with fail
      exact bodyPost_cell3 strcL rfl gr rfl (.slice none 0 0) (.bool false) rfl rfl rfl B9 rfl ⟨levUK us ks vu vk, Lev.zero, none, 0, [], false, rfl, rfl, levUK_one ho1 ho2, hb9, (fun h => by cases h), fun _ => HW.out⟩
    | true =>
    have CT := RGetInt_at (Nat.le_trans HBW.out hw2) R1 hc1 hr1
    have hcut1 : r1.length < r.length := by
      rcases hres1 with ⟨_, h⟩ | ⟨h, _⟩
      · have := getI_can _ _ _ h; rw [this.1, List.length_append]; have := encI_pos s; omega
      · cases h
    have HRES := hide hres1
    clear hres1
    go_upto_region 26 with (go_at_call 62; refine CT.mono ?_; rintro e w3 ⟨y, r2, ok2, ⟨A2, c2, rfl, R2, hc2, k2⟩, hres2⟩)
    have hr2 : r2.length ≤ 16777216 := Nat.le_trans (resI_len hres2) hr1
    have HY := hide (res_I64 hres2)
    have HN := hide (Inv.kind HIN.out hlt HRES.out hres2)
    have Z1 := box_below Z1 k2
    have Z0 := box_below Z0 k2
    have O1 := own_below O1 k2
    have SU := SU.ext k2
    have hb1 := ext_trans hb1 k2
    have hw2 := Nat.le_trans hw2 k2.size
    clear CT R1 k2
    cases ok2 with
    | false =>
      have HW := hide (HN.out.no (by simp))
      clear hres2
      go_wp2_with (first
        | refine wpList_loadS rfl (.tmp 5) rfl strcL ⟨gl, 0, none⟩ rfl (levUK us ks vu vk) rfl (box_all Z1) ?_
        | refine wpList_storeB rfl (.tmp 2) (.tmp 107) rfl rfl strcL gr 0 rfl (levUK us ks vu vk) rfl rfl (levUK_one ho1 ho2) levZero.toList 25 Z0 (by decide) ?_)
      intro u9 B9 g9 z9
      have hb9 := hb1.grown g9 hb1.size (fun q hq => by injection hq with hq; have := HGR.out; omega)
      replace B9 : u9.heap[gr]? = some (.cells (levUK us ks vu vk).toArray 25 (0, 0)) := B9
      go_wp2_with fail
      exact bodyPost_cell3 strcL rfl gr rfl (.slice none 0 0) (.bool false) rfl rfl rfl B9 rfl ⟨levUK us ks vu vk, Lev.zero, none, 0, [], false, rfl, rfl, levUK_one ho1 ho2, hb9, (fun h => by cases h), fun _ => HW.out⟩
    | true =>
    have SU := SU.weak (S' := fun b => W.heap.size ≤ b ∧ vk.ownBlock ≠ some b ∧ b < w3.heap.size) (fun q hq hl => ⟨hq.1, hq.2, hl⟩)
    have hcut2 : r2.length < r1.length := by
      rcases hres2 with ⟨_, h⟩ | ⟨h, _⟩
      · have := getI_can _ _ _ h; rw [this.1, List.length_append]; have := encI_pos y; omega
      · cases h
    have hlen : ks.length ≤ 8388608 := by omega
    have hjb : j ≤ 8388608 := by have := HUL.out; omega
    have q0 : w3.cell? ⟨gl, 1, none⟩ = some vk := box_at Z1 (j := 1) rfl
    clear hres2
    go_wp2_with (first | (at_builtin; go_must (refine wpList_append_at6 rfl (.tmp 109) (.tmp 113) rfl elemK W.heap.size vk ks.length (kcs ks) rfl O1 1 #[.int .i64 s, .int .i64 y] rfl rfl (by simp [Value.oneCell']) (by unfold maxLen; omega) (by omega) hw2 ?_)))
    intro v5 w5 hown5 hg5 hblk
    have hub2 := fun q hq => own_block O1 q hq
    have T5 : w5.heap[gl]? = _ := (hg5.block gl (Array.getElem?_eq_some_iff.1 Z1).1 (fun e => by have := (hub2 _ e.symm).1; have := HZ.out; have := HGL.out; omega)).trans Z1
    have Z5 : w5.heap[gr]? = _ := (hg5.block gr (Array.getElem?_eq_some_iff.1 Z0).1 (fun e => by have := (hub2 _ e.symm).1; have := HZ.out; have := HGR.out; omega)).trans Z0
    have R5 := R2.grown hg5 (Nat.le_trans HBW.out hw2) (fun q hq => by have := (hub2 q hq).1; have := HBW.out; omega)
    have hb5 := hb1.grown hg5 hb1.size (fun q hq => by have := (hub2 q hq).1; have := HZ.out; omega)
    have hw5 := Nat.le_trans hw2 hg5.size
    have SU5 := (SU.grown hg5 (fun q hq => hq.2.1)).weak (S' := fun b => W.heap.size ≤ b ∧ v5.ownBlock ≠ some b) (fun q hq _ => ⟨hq.1, fun e => by
      rcases hblk with h | h
      · exact hq.2.1 (h.symm.trans e)
      · rw [h] at e; injection e with e; have := hq.2.2; omega⟩)
    clear R2 Z1 Z0 O1 hb1 hg5 hub2 q0 SU
    go_wp2_with (refine wpList_store1 rfl (.tmp 115) (.tmp 114) rfl rfl sizeK gl 1 rfl v5 rfl (own_one hown5) (levUK us ks vu vk) 25 T5 (by simp [levUK, levCells]) ?_)
    intro w6 B6 g6 hz6
    have hub5 := fun q hq => own_block hown5 q hq
    have Z6 := box_grown Z5 g6 (by have := HGL.out; have := HGR.out; omega)
    have O6 := own_apart6 hown5 g6 (fun q hq e => by injection e with e; have := (hub5 q hq).1; have := HZ.out; have := HGL.out; omega)
    have R6 := R5.grown g6 (Nat.le_trans HBW.out hw5) (fun q hq => by injection hq with hq; have := HGL.out; omega)
    have SU6 := SU5.grown g6 (fun q hq e => by injection e with e; have := hq.1; have := HZ.out; have := HGL.out; omega)
    have hb6 := hb5.grown g6 hb5.size (fun q hq => by injection hq with hq; have := HGL.out; omega)
    have hun : ks.length + 1 = (ks ++ [(s, y)]).length := by simp
    have hucs : kcs ks ++ (#[.int .i64 s, .int .i64 y] : Array Value).toList = kcs (ks ++ [(s, y)]) := by simp [kcs]
    rw [hucs, hun] at O6
    have B6' : w6.heap[gl]? = some (.cells (levUK us (ks ++ [(s, y)]) vu v5).toArray 25 (0, 0)) := B6
    have hN2 := HN.out
    simp only [Bool.not_true, Bool.or_false, Bool.false_or] at hN2
    have HN' := hide hN2
    clear T5 Z5 R5 hown5 hb5 g6 hz6 hub5 hucs hun B6 hN2 HN SU5
    go_wp2_with fail
    go_roundw
    case rel => exact ⟨j + 1, ks ++ [(s, y)], v5, A2, c2, r2, by omega, by go_num, rfl, by rw [List.length_append, HUL.out]; rfl, hc2, by rw [List.length_append, List.length_singleton]; omega, (fun u hu => by
      rcases List.mem_append.1 hu with h | h
      · exact HUF.out u h
      · simp only [List.mem_cons, List.not_mem_nil, or_false] at h; subst h; exact ⟨HS1.out, HY.out⟩), ⟨B6', Z6, R6, hr2, hb6⟩, O6, HN'.out, SU6⟩
    case measure => (simp [intOf]; try omega)
  obtain rfl : j = M := by omega
  have HI2 := hide (HIN.out.listed HUL.out)
  have SK := Slc.own hown (by decide)
  have hkL : ks.length ≤ 8388608 := by omega
  clear HIN hown hlt hj hsum hpos
  have SU0 := SU.weak (S' := fun b => W.heap.size ≤ b) (fun q hq _ => hq.1)
  clear SU
  -- the seven numbers
  have HI4 := hide (show Inv l (pre ++ encL encU us ++ encL encK ks ++ ([] : List Int).flatMap encI) True (fun C => ((Q C ∧ C.lv.users = us) ∧ C.lv.kinds = ks) ∧ (restL C.lv).take 0 = []) (fun C => ((restL C.lv).drop 0).flatMap encI) r false from HI2.out.imp (fun _ => by simp) (fun _ h => h) (fun C _ _ hq => ⟨⟨hq, by simp⟩, rfl⟩))
  clear HI2
  obtain ⟨gx, hgx⟩ : ∃ gx, wr.heap.size = gx := ⟨_, rfl⟩
  have SU0 := SU0.weak (S' := fun b => W.heap.size ≤ b ∧ b < gx) (fun q hq hl => ⟨hq, by omega⟩)
  have SK := SK.weak (S' := fun b => W.heap.size ≤ b ∧ b < gx) (fun q hq hl => ⟨hq, by omega⟩)
  go_upto_region 31 with (refine wpList_zeroS rfl rfl strcA7 ?_)
  go_simp
  have X2 := heap_alloc_new wr (.cells sevZero 52)
  have kx := ext_alloc (ext_refl wr) (.cells sevZero 52)
  generalize wr.alloc (.cells sevZero 52) = W2 at X2 kx ⊢
  have hwx : W.heap.size ≤ gx := by omega
  rw [hgx] at X2
  have HGX := hide hwx
  have Y1 := box_below Y1 kx
  have Y0 := box_below Y0 kx
  have R := R.below (kx.mono (Nat.le_trans HBW.out hwr))
  have SU0 := SU0.ext kx
  have SK := SK.ext kx
  have hbr := ext_trans hbr kx
  have X2' : W2.heap[gx]? = some (.cells (sevC []).toArray 52 (0, 0)) := X2
  have ST : RSt B gr gl w us ks vu vk A r W2 := ⟨Y1, Y0, R, hrl, hbr⟩
  clear X2 kx hwx hgx hwr Y1 Y0 R hrl hbr
  go_wp2_with fail
  go_loopw [0, 23] (fun b i wr => ∃ (k : Nat) (ys : List Int) (A : Option Addr) (c : Nat) (r : List UInt8), k ≤ 7 ∧ i = .int .i64 (k : Int) ∧ b = .slice A r.length c ∧ ys.length = k ∧ r.length ≤ c ∧ (∀ n ∈ ys, I64 n) ∧ wr.heap[gx]? = some (.cells (sevC ys).toArray 52 (0, 0)) ∧ RSt B gr gl w us ks vu vk A r wr ∧
      Hid (Inv l (pre ++ encL encU us ++ encL encK ks ++ ys.flatMap encI) True (fun C => ((Q C ∧ C.lv.users = us) ∧ C.lv.kinds = ks) ∧ (restL C.lv).take k = ys) (fun C => ((restL C.lv).drop k).flatMap encI) r false) ∧ Slc wr (fun b => W.heap.size ≤ b ∧ b < gx) vu 2 us.length (ucs us) ∧ Slc wr (fun b => W.heap.size ≤ b ∧ b < gx) vk 2 ks.length (kcs ks)) (fun _ i _ => 7 - (intOf i).toNat)
  case atStart => exact ⟨0, [], _, c, r, by omega, rfl, rfl, rfl, hc, (fun n hn => by simp at hn), X2', ST, HI4.out, SU0, SK⟩
  case round =>
  clear X2' ST HI4 SU0 SK hc
  obtain ⟨k, ys, A, c, r, hk, rfl, rfl, hyl, hc, hyf, BX, hst, HIN, SU, SK⟩ := hrel
  obtain ⟨Y1, Y0, R, hrl, hbr⟩ := hst
  have HYL := hide hyl
  have HYF := hide hyf
  clear hyl hyf
  have hwr : W.heap.size ≤ wr.heap.size := by
    have h2 := (Array.getElem?_eq_some_iff.1 Y1).1; have := HZ.out; have := HGL.out; omega
  by_cases hlt : k < 7
  · have CT := RGetInt_at (Nat.le_trans HBW.out hwr) R hc hrl
    go_upto_region 35 with (go_at_call 62; refine CT.mono ?_; rintro e w2 ⟨y, r1, ok1, ⟨A1, c1, rfl, R1, hc1, k1⟩, hres1⟩)
    have hr1 : r1.length ≤ 16777216 := Nat.le_trans (resI_len hres1) hrl
    have HY := hide (res_I64 hres1)
    have HN := hide (Inv.restk HIN.out hlt hres1)
    have Z1 := box_below Y1 k1
    have Z0 := box_below Y0 k1
    have BX := box_below BX k1
    have SU := SU.ext k1
    have SK := SK.ext k1
    have hb1 := ext_trans hbr k1
    have hw2 := Nat.le_trans hwr k1.size
    clear CT Y1 Y0 R hbr k1 hres1
    cases ok1 with
    | false =>
      have HW := hide (HN.out.no (by simp))
      go_wp2_with (first
        | refine wpList_loadS rfl (.tmp 5) rfl strcL ⟨gl, 0, none⟩ rfl (levUK us ks vu vk) rfl (box_all Z1) ?_
        | refine wpList_storeB rfl (.tmp 2) (.tmp 129) rfl rfl strcL gr 0 rfl (levUK us ks vu vk) rfl rfl (levUK_one ho1 ho2) levZero.toList 25 Z0 (by decide) ?_)
      intro u9 B9 g9 z9
      have hb9 := hb1.grown g9 hb1.size (fun q hq => by injection hq with hq; have := HGR.out; omega)
      replace B9 : u9.heap[gr]? = some (.cells (levUK us ks vu vk).toArray 25 (0, 0)) := B9
      go_wp2_with fail
      exact bodyPost_cell3 strcL rfl gr rfl (.slice none 0 0) (.bool false) rfl rfl rfl B9 rfl ⟨levUK us ks vu vk, Lev.zero, none, 0, [], false, rfl, rfl, levUK_one ho1 ho2, hb9, (fun h => by cases h), fun _ => HW.out⟩
    | true =>
    have hsl : (sevC ys).length = 7 := by unfold sevC; rw [List.length_append, List.length_replicate, ivs_length, HYL.out]; omega
    have HSL := hide hsl
    clear hsl
    go_wp2_with (refine wpList_store1 rfl (.tmp 133) (.tmp 131) rfl rfl sizeI gx k (by first | rfl | (go_simp)) (.int .i64 y) rfl rfl (sevC ys) 52 BX (by rw [HSL.out]; omega) ?_)
    intro w6 B6 g6 hz6
    have hst : patch (sevC ys) k [.int .i64 y] = sevC (ys ++ [y]) := by rw [← HYL.out]; exact sevC_step (by rw [HYL.out]; exact hlt)
    rw [hst] at B6
    have Z6 := box_grown Z1 g6 (by have := HGX.out; have := HZ.out; have := HGL.out; omega)
    have Z7 := box_grown Z0 g6 (by have := HGX.out; have := HZ.out; have := HGR.out; omega)
    have R6 := R1.grown g6 (Nat.le_trans HBW.out hw2) (fun q hq => by injection hq with hq; have := HGX.out; have := HBW.out; omega)
    have SU6 := SU.grown g6 (fun q hq e => by injection e with e; have := hq.2; omega)
    have SK6 := SK.grown g6 (fun q hq e => by injection e with e; have := hq.2; omega)
    have hb6 := hb1.grown g6 hb1.size (fun q hq => by injection hq with hq; have := HGX.out; have := HZ.out; omega)
    have hN2 := HN.out
    simp only [Bool.not_true, Bool.or_false] at hN2
    have HN' := hide hN2
    clear Z1 Z0 R1 SU SK hb1 g6 hz6 hst BX hN2 HN
    go_wp2_with fail
    go_roundw
    case rel => exact ⟨k + 1, ys ++ [y], A1, c1, r1, by omega, by go_num, rfl, by rw [List.length_append, HYL.out]; rfl, hc1, (fun n hn => by
      rcases List.mem_append.1 hn with h | h
      · exact HYF.out n h
      · simp only [List.mem_cons, List.not_mem_nil, or_false] at h; subst h; exact HY.out), B6, ⟨Z6, Z7, R6, hr1, hb6⟩, HN'.out, SU6, SK6⟩
    case measure => (simp [intOf]; try omega)
  obtain rfl : k = 7 := by omega
  obtain ⟨x1, x2, x3, x4, x5, x6, x7, rfl⟩ := seven_of HYL.out
  have BX : wr.heap[gx]? = some (.cells #[.int .i64 x1, .int .i64 x2, .int .i64 x3, .int .i64 x4, .int .i64 x5, .int .i64 x6, .int .i64 x7] 52 (0, 0)) := BX
  clear hlt hk
  go_upto_region 38 with fail
  have hxd : Below wr.heap.size wr { wr with drawn := wr.drawn + 1 } := ext_drew (ext_refl wr)
  refine wp_region_phase (fun w' => w'.heap[gx]? = some (.cells #[.int .i64 x1, .int .i64 x2, .int .i64 x3, .int .i64 x4, .int .i64 x5, .int .i64 x6, .int .i64 x7] 52 (0, 0))) [] (by kernel_rfl) ?_
  have T0 := box_below BX hxd
  have B0 := box_below Y1 hxd
  have Z0 := box_below Y0 hxd
  have SU0 := SU.ext hxd
  have SK0 := SK.ext hxd
  have hb0 := ext_trans hbr hxd
  generalize { wr with drawn := wr.drawn + 1 } = m0 at T0 B0 Z0 SU0 SK0 hb0 ⊢
  clear hxd BX Y1 Y0 SU SK hbr R
  refine wpAnyP_take (i := 0) rfl (by kernel_rfl) (by kernel_rfl) (by kernel_rfl) (by kernel_rfl) (fun _ _ _ h => h) (yieldsIf_run (.pointer (some ⟨gx, 0, none⟩)) rfl (fun w' => by go_simp)) T0 ?_
  refine wpAnyP_take (i := 1) rfl (by kernel_rfl) (by kernel_rfl) (by kernel_rfl) (by kernel_rfl) (fun _ _ _ h => h) (yieldsIf_load rfl rfl Try.underlying3 rfl rfl (fun w' hT => box_at hT (j := 0) (u := .int .i64 x1) rfl)) T0 ?_
  go_simp
  refine wpAnyP_take (i := 2) rfl (by kernel_rfl) (by kernel_rfl) (by kernel_rfl) (by kernel_rfl) (fun _ _ _ h => h) (yieldsIf_run (.pointer (some ⟨gx, 1, none⟩)) rfl (fun w' => by go_simp)) T0 ?_
  refine wpAnyP_take (i := 3) rfl (by kernel_rfl) (by kernel_rfl) (by kernel_rfl) (by kernel_rfl) (fun _ _ _ h => h) (yieldsIf_load rfl rfl Try.underlying3 rfl rfl (fun w' hT => box_at hT (j := 1) (u := .int .i64 x2) rfl)) T0 ?_
  go_simp
  refine wpAnyP_take (i := 4) rfl (by kernel_rfl) (by kernel_rfl) (by kernel_rfl) (by kernel_rfl) (fun _ _ _ h => h) (yieldsIf_run (.pointer (some ⟨gx, 2, none⟩)) rfl (fun w' => by go_simp)) T0 ?_
  refine wpAnyP_take (i := 5) rfl (by kernel_rfl) (by kernel_rfl) (by kernel_rfl) (by kernel_rfl) (fun _ _ _ h => h) (yieldsIf_load rfl rfl Try.underlying3 rfl rfl (fun w' hT => box_at hT (j := 2) (u := .int .i64 x3) rfl)) T0 ?_
  go_simp
  refine wpAnyP_take (i := 6) rfl (by kernel_rfl) (by kernel_rfl) (by kernel_rfl) (by kernel_rfl) (fun _ _ _ h => h) (yieldsIf_run (.pointer (some ⟨gx, 3, none⟩)) rfl (fun w' => by go_simp)) T0 ?_
  refine wpAnyP_take (i := 7) rfl (by kernel_rfl) (by kernel_rfl) (by kernel_rfl) (by kernel_rfl) (fun _ _ _ h => h) (yieldsIf_load rfl rfl Try.underlying3 rfl rfl (fun w' hT => box_at hT (j := 3) (u := .int .i64 x4) rfl)) T0 ?_
  go_simp
  refine wpAnyP_take (i := 8) rfl (by kernel_rfl) (by kernel_rfl) (by kernel_rfl) (by kernel_rfl) (fun _ _ _ h => h) (yieldsIf_run (.pointer (some ⟨gx, 4, none⟩)) rfl (fun w' => by go_simp)) T0 ?_
  refine wpAnyP_take (i := 9) rfl (by kernel_rfl) (by kernel_rfl) (by kernel_rfl) (by kernel_rfl) (fun _ _ _ h => h) (yieldsIf_load rfl rfl Try.underlying3 rfl rfl (fun w' hT => box_at hT (j := 4) (u := .int .i64 x5) rfl)) T0 ?_
  go_simp
  refine wpAnyP_take (i := 10) rfl (by kernel_rfl) (by kernel_rfl) (by kernel_rfl) (by kernel_rfl) (fun _ _ _ h => h) (yieldsIf_run (.pointer (some ⟨gx, 5, none⟩)) rfl (fun w' => by go_simp)) T0 ?_
  refine wpAnyP_take (i := 11) rfl (by kernel_rfl) (by kernel_rfl) (by kernel_rfl) (by kernel_rfl) (fun _ _ _ h => h) (yieldsIf_load rfl rfl Try.underlying3 rfl rfl (fun w' hT => box_at hT (j := 5) (u := .int .i64 x6) rfl)) T0 ?_
  go_simp
  refine wpAnyP_take (i := 12) rfl (by kernel_rfl) (by kernel_rfl) (by kernel_rfl) (by kernel_rfl) (fun _ _ _ h => h) (yieldsIf_run (.pointer (some ⟨gx, 6, none⟩)) rfl (fun w' => by go_simp)) T0 ?_
  refine wpAnyP_take (i := 13) rfl (by kernel_rfl) (by kernel_rfl) (by kernel_rfl) (by kernel_rfl) (fun _ _ _ h => h) (yieldsIf_load rfl rfl Try.underlying3 rfl rfl (fun w' hT => box_at hT (j := 6) (u := .int .i64 x7) rfl)) T0 ?_
  go_simp
  refine wpAnyP_take (i := 14) rfl (by kernel_rfl) (by kernel_rfl) (by kernel_rfl) (by kernel_rfl) (fun _ _ _ h => h) (yieldsIf_run (.pointer (some ⟨gl, 2, none⟩)) rfl (fun w' => by go_simp)) T0 ?_
  go_simp
  refine wpAnyP_oneQ (i := 15) (by kernel_rfl) rfl ?_
  refine wpList_store1 rfl (.tmp 148) (.tmp 135) rfl rfl sizeI gl 2 rfl (.int .i64 x1) rfl rfl (levUK us ks vu vk) 25 B0 (by simp [levUK, levCells, patch]) ?_
  intro m1 B1 g1 z1
  have T1 := box_grown T0 g1 (by have := HGX.out; have := HGL.out; have := HZ.out; omega)
  have Z1 := box_grown Z0 g1 (by have := HGR.out; have := HGL.out; omega)
  have SU1 := SU0.grown g1 (fun q hq e => by injection e with e; have := hq.1; have := HGL.out; have := HZ.out; omega)
  have SK1 := SK0.grown g1 (fun q hq e => by injection e with e; have := hq.1; have := HGL.out; have := HZ.out; omega)
  have hb1 := hb0.grown g1 hb0.size (fun q hq => by injection hq with hq; have := HGL.out; omega)
  clear T0 Z0 SU0 SK0 hb0 B0 g1 z1
  refine nextQ T1 ?_
  go_simp
  refine wpAnyP_take (i := 16) rfl (by kernel_rfl) (by kernel_rfl) (by kernel_rfl) (by kernel_rfl) (fun _ _ _ h => h) (yieldsIf_run (.pointer (some ⟨gl, 3, none⟩)) rfl (fun w' => by go_simp)) T1 ?_
  go_simp
  refine wpAnyP_oneQ (i := 17) (by kernel_rfl) rfl ?_
  refine wpList_store1 rfl (.tmp 149) (.tmp 137) rfl rfl sizeI gl 3 rfl (.int .i64 x2) rfl rfl (patch (levUK us ks vu vk) 2 [.int .i64 x1]) 25 B1 (by simp [levUK, levCells, patch]) ?_
  intro m2 B2 g2 z2
  have T2 := box_grown T1 g2 (by have := HGX.out; have := HGL.out; have := HZ.out; omega)
  have Z2 := box_grown Z1 g2 (by have := HGR.out; have := HGL.out; omega)
  have SU2 := SU1.grown g2 (fun q hq e => by injection e with e; have := hq.1; have := HGL.out; have := HZ.out; omega)
  have SK2 := SK1.grown g2 (fun q hq e => by injection e with e; have := hq.1; have := HGL.out; have := HZ.out; omega)
  have hb2 := hb1.grown g2 hb1.size (fun q hq => by injection hq with hq; have := HGL.out; omega)
  clear T1 Z1 SU1 SK1 hb1 B1 g2 z2
  refine nextQ T2 ?_
  go_simp
  refine wpAnyP_take (i := 18) rfl (by kernel_rfl) (by kernel_rfl) (by kernel_rfl) (by kernel_rfl) (fun _ _ _ h => h) (yieldsIf_run (.pointer (some ⟨gl, 4, none⟩)) rfl (fun w' => by go_simp)) T2 ?_
  go_simp
  refine wpAnyP_oneQ (i := 19) (by kernel_rfl) rfl ?_
  refine wpList_store1 rfl (.tmp 150) (.tmp 139) rfl rfl sizeI gl 4 rfl (.int .i64 x3) rfl rfl (patch (patch (levUK us ks vu vk) 2 [.int .i64 x1]) 3 [.int .i64 x2]) 25 B2 (by simp [levUK, levCells, patch]) ?_
  intro m3 B3 g3 z3
  have T3 := box_grown T2 g3 (by have := HGX.out; have := HGL.out; have := HZ.out; omega)
  have Z3 := box_grown Z2 g3 (by have := HGR.out; have := HGL.out; omega)
  have SU3 := SU2.grown g3 (fun q hq e => by injection e with e; have := hq.1; have := HGL.out; have := HZ.out; omega)
  have SK3 := SK2.grown g3 (fun q hq e => by injection e with e; have := hq.1; have := HGL.out; have := HZ.out; omega)
  have hb3 := hb2.grown g3 hb2.size (fun q hq => by injection hq with hq; have := HGL.out; omega)
  clear T2 Z2 SU2 SK2 hb2 B2 g3 z3
  refine nextQ T3 ?_
  go_simp
  refine wpAnyP_take (i := 20) rfl (by kernel_rfl) (by kernel_rfl) (by kernel_rfl) (by kernel_rfl) (fun _ _ _ h => h) (yieldsIf_run (.pointer (some ⟨gl, 5, none⟩)) rfl (fun w' => by go_simp)) T3 ?_
  go_simp
  refine wpAnyP_oneQ (i := 21) (by kernel_rfl) rfl ?_
  refine wpList_store1 rfl (.tmp 151) (.tmp 141) rfl rfl sizeI gl 5 rfl (.int .i64 x4) rfl rfl (patch (patch (patch (levUK us ks vu vk) 2 [.int .i64 x1]) 3 [.int .i64 x2]) 4 [.int .i64 x3]) 25 B3 (by simp [levUK, levCells, patch]) ?_
  intro m4 B4 g4 z4
  have T4 := box_grown T3 g4 (by have := HGX.out; have := HGL.out; have := HZ.out; omega)
  have Z4 := box_grown Z3 g4 (by have := HGR.out; have := HGL.out; omega)
  have SU4 := SU3.grown g4 (fun q hq e => by injection e with e; have := hq.1; have := HGL.out; have := HZ.out; omega)
  have SK4 := SK3.grown g4 (fun q hq e => by injection e with e; have := hq.1; have := HGL.out; have := HZ.out; omega)
  have hb4 := hb3.grown g4 hb3.size (fun q hq => by injection hq with hq; have := HGL.out; omega)
  clear T3 Z3 SU3 SK3 hb3 B3 g4 z4
  refine nextQ T4 ?_
  go_simp
  refine wpAnyP_take (i := 22) rfl (by kernel_rfl) (by kernel_rfl) (by kernel_rfl) (by kernel_rfl) (fun _ _ _ h => h) (yieldsIf_run (.pointer (some ⟨gl, 6, none⟩)) rfl (fun w' => by go_simp)) T4 ?_
  go_simp
  refine wpAnyP_oneQ (i := 23) (by kernel_rfl) rfl ?_
  refine wpList_store1 rfl (.tmp 152) (.tmp 143) rfl rfl sizeI gl 6 rfl (.int .i64 x5) rfl rfl (patch (patch (patch (patch (levUK us ks vu vk) 2 [.int .i64 x1]) 3 [.int .i64 x2]) 4 [.int .i64 x3]) 5 [.int .i64 x4]) 25 B4 (by simp [levUK, levCells, patch]) ?_
  intro m5 B5 g5 z5
  have T5 := box_grown T4 g5 (by have := HGX.out; have := HGL.out; have := HZ.out; omega)
  have Z5 := box_grown Z4 g5 (by have := HGR.out; have := HGL.out; omega)
  have SU5 := SU4.grown g5 (fun q hq e => by injection e with e; have := hq.1; have := HGL.out; have := HZ.out; omega)
  have SK5 := SK4.grown g5 (fun q hq e => by injection e with e; have := hq.1; have := HGL.out; have := HZ.out; omega)
  have hb5 := hb4.grown g5 hb4.size (fun q hq => by injection hq with hq; have := HGL.out; omega)
  clear T4 Z4 SU4 SK4 hb4 B4 g5 z5
  refine nextQ T5 ?_
  go_simp
  refine wpAnyP_take (i := 24) rfl (by kernel_rfl) (by kernel_rfl) (by kernel_rfl) (by kernel_rfl) (fun _ _ _ h => h) (yieldsIf_run (.pointer (some ⟨gl, 7, none⟩)) rfl (fun w' => by go_simp)) T5 ?_
  go_simp
  refine wpAnyP_oneQ (i := 25) (by kernel_rfl) rfl ?_
  refine wpList_store1 rfl (.tmp 153) (.tmp 145) rfl rfl sizeI gl 7 rfl (.int .i64 x6) rfl rfl (patch (patch (patch (patch (patch (levUK us ks vu vk) 2 [.int .i64 x1]) 3 [.int .i64 x2]) 4 [.int .i64 x3]) 5 [.int .i64 x4]) 6 [.int .i64 x5]) 25 B5 (by simp [levUK, levCells, patch]) ?_
  intro m6 B6 g6 z6
  have T6 := box_grown T5 g6 (by have := HGX.out; have := HGL.out; have := HZ.out; omega)
  have Z6 := box_grown Z5 g6 (by have := HGR.out; have := HGL.out; omega)
  have SU6 := SU5.grown g6 (fun q hq e => by injection e with e; have := hq.1; have := HGL.out; have := HZ.out; omega)
  have SK6 := SK5.grown g6 (fun q hq e => by injection e with e; have := hq.1; have := HGL.out; have := HZ.out; omega)
  have hb6 := hb5.grown g6 hb5.size (fun q hq => by injection hq with hq; have := HGL.out; omega)
  clear T5 Z5 SU5 SK5 hb5 B5 g6 z6
  refine nextQ T6 ?_
  go_simp
  refine wpAnyP_take (i := 26) rfl (by kernel_rfl) (by kernel_rfl) (by kernel_rfl) (by kernel_rfl) (fun _ _ _ h => h) (yieldsIf_run (.pointer (some ⟨gl, 8, none⟩)) rfl (fun w' => by go_simp)) T6 ?_
  go_simp
  refine wpAnyP_oneQ (i := 27) (by kernel_rfl) rfl ?_
  refine wpList_store1 rfl (.tmp 154) (.tmp 147) rfl rfl sizeI gl 8 rfl (.int .i64 x7) rfl rfl (patch (patch (patch (patch (patch (patch (levUK us ks vu vk) 2 [.int .i64 x1]) 3 [.int .i64 x2]) 4 [.int .i64 x3]) 5 [.int .i64 x4]) 6 [.int .i64 x5]) 7 [.int .i64 x6]) 25 B6 (by simp [levUK, levCells, patch]) ?_
  intro m7 B7 g7 z7
  have T7 := box_grown T6 g7 (by have := HGX.out; have := HGL.out; have := HZ.out; omega)
  have Z7 := box_grown Z6 g7 (by have := HGR.out; have := HGL.out; omega)
  have SU7 := SU6.grown g7 (fun q hq e => by injection e with e; have := hq.1; have := HGL.out; have := HZ.out; omega)
  have SK7 := SK6.grown g7 (fun q hq e => by injection e with e; have := hq.1; have := HGL.out; have := HZ.out; omega)
  have hb7 := hb6.grown g7 hb6.size (fun q hq => by injection hq with hq; have := HGL.out; omega)
  clear T6 Z6 SU6 SK6 hb6 B6 g7 z7
  refine nextQ T7 ?_
  go_simp
  refine wpAnyP_done (by kernel_rfl) ?_
  have B7' : m7.heap[gl]? = some (.cells (levCells ⟨us, ks, x1, x2, x3, x4, x5, x6, x7⟩ vu vk).toArray 25 (0, 0)) := B7
  have oo : ∀ u ∈ levCells ⟨us, ks, x1, x2, x3, x4, x5, x6, x7⟩ vu vk, u.oneCell' = true := by
    intro u hu'
    simp only [levCells, List.mem_cons, List.not_mem_nil, or_false] at hu'
    rcases hu' with rfl | rfl | rfl | rfl | rfl | rfl | rfl | rfl | rfl <;> first | rfl | exact ho1 | exact ho2
  clear B7 T7
  generalize hC : levCells ⟨us, ks, x1, x2, x3, x4, x5, x6, x7⟩ vu vk = C at B7' oo
  have HC := hide hC
  have HL := hide (show C.length = 9 by rw [← hC]; rfl)
  have HB7 := hide B7'
  clear hC B7'
  go_wp2_with (first
    | refine wpList_loadS rfl (.tmp 5) rfl strcL ⟨gl, 0, none⟩ rfl C HL.out (box_all HB7.out) ?_
    | refine wpList_storeB rfl (.tmp 2) (.tmp 155) rfl rfl strcL gr 0 rfl C rfl HL.out oo levZero.toList 25 Z7 (by decide) ?_)
  intro m8 B8 h8 z8
  rw [patch_all _ _ (by rw [HL.out]; rfl)] at B8
  have hb8 := hb7.grown h8 hb7.size (fun q hq => by injection hq with hq; have := HGR.out; omega)
  have SU8 := SU7.grown h8 (fun q hq e => by injection e with e; have := hq.1; have := HZ.out; have := HGR.out; omega)
  have SK8 := SK7.grown h8 (fun q hq e => by injection e with e; have := hq.1; have := HZ.out; have := HGR.out; omega)
  clear h8 z8 SU7 SK7 Z7 hb7
  go_wp2_with fail
  refine bodyPost_cell3 strcL rfl gr rfl (.slice A r.length c) (.bool true) rfl rfl rfl B8 (by simpa using HL.out) ⟨C, ⟨us, ks, x1, x2, x3, x4, x5, x6, x7⟩, A, c, r, true, rfl, HL.out, oo, hb8, fun _ => ⟨⟨vu, vk, HC.out.symm, SU8.weak fun q hq _ => by have := HZ.out; have := hq.1; omega, SK8.weak fun q hq _ => by have := HZ.out; have := hq.1; omega⟩, ?_, ?_⟩, fun h => by cases h⟩
  · refine ⟨by show us.length ≤ _; omega, by show ks.length ≤ _; omega, HFU.out, HUF.out, fun n hn => HYF.out n ?_⟩
    simpa only [restL] using hn
  · refine HIN.out.imp (fun _ => ?_) (fun _ h => h) (fun C' _ _ hq => ⟨⟨hq.1.1.1, ?_⟩, rfl⟩)
    · simp [encLev]
    · obtain ⟨⟨⟨_, h1⟩, h2⟩, h3⟩ := hq
      have h4 : C'.lv = ⟨C'.lv.users, C'.lv.kinds, C'.lv.user, C'.lv.message, C'.lv.state, C'.lv.invite, C'.lv.kick, C'.lv.ban, C'.lv.redact⟩ := rfl
      have h3 : restL C'.lv = [x1, x2, x3, x4, x5, x6, x7] := h3
      simp only [restL, List.cons.injEq, and_true] at h3
      obtain ⟨e1, e2, e3, e4, e5, e6, e7⟩ := h3
      rw [h4, h1, h2, e1, e2, e3, e4, e5, e6, e7]
end Go.Proofs.Ytehenalnkkkajaa
