/-
  Both Relays.
-/
import Derived.Test.YtimdcnickfaddaaGhD
import Derived.Test.YtimdcnickfaddaaSames6
import Derived.Deep.DeepCutAuto
set_option linter.unusedVariables false
set_option linter.unusedSimpArgs false
namespace Go.Proofs.Ytimdcnickfaddaa
open Go.RowKit Go.Maps
section
variable {P : Program} {fn : Func} {R : Ending → World → Prop} {a : Act} {w : World} {t : TypeId} {z C : Array Value} {n : Nat} {p q r : Tmp}
theorem bodyPost_mid (G : Strc P t z n) (hres : fn.results = #[.tmp r, .cell p t, .tmp q]) (g : Nat) (hp : a.tmps.getD p undef = .pointer (some ⟨g, 0, none⟩)) (u v : Value) (hq : a.tmps.getD q undef = u) (hv : a.tmps.getD r undef = v) (hd : a.defers = []) (hg : w.heap[g]? = some (.cells C t (0, 0))) (hC : C.size = n)
    (hR : R (.returned (.tuple #[v, .agg C, u])) w) : bodyPost P fn R .ret a w := by
  obtain ⟨d, hu, hrow⟩ := G.row
  refine bodyPost_ret ?_ hd hR
  have hp' : a.tmps[p]?.getD undef = .pointer (some ⟨g, 0, none⟩) := by simpa using hp
  have hq' : a.tmps[q]?.getD undef = u := by simpa using hq
  have hv' : a.tmps[r]?.getD undef = v := by simpa using hv
  have hl := run_loadVar_row w g t t C (0, 0) d hg hu (by cases d <;> simp_all) (by rw [G.size, hC])
  simp [results, hres, hp', hq', hv', asAddr, hl]
end
section
attribute [local go_sem] Addr.add_mid
def levNil : Lev := ⟨[], [], 0, 0, 0, 0, 0, 0, 0⟩
/-- what is relayed of a content -/
def relC (m : Con) : Con := ⟨m.text, 0, if 0 < m.target then m.target else 0, if 0 < m.target then m.thread else false, ⟨#[]⟩, [], [], levNil⟩
def conNil : Con := ⟨⟨#[]⟩, 0, 0, false, ⟨#[]⟩, [], [], levNil⟩
def nilS : Value := .slice none 0 0
def nilCells (c : Con) : Array Value := #[.string c.text, .int .i64 c.n, .int .i64 c.target, .bool c.thread, .string c.via, nilS, nilS, nilS, nilS, .int .i64 c.lv.user, .int .i64 c.lv.message, .int .i64 c.lv.state, .int .i64 c.lv.invite, .int .i64 c.lv.kick, .int .i64 c.lv.ban, .int .i64 c.lv.redact]
theorem strcN : Strc Try.prog 49 (nilCells conNil) 16 := ⟨⟨_, Try.underlying49, rfl⟩, by kernel_rfl, rfl⟩
/-- what Relay hands back -/
def relayV (o : Option Gh) (m : Con) : Value := match o with
  | none => .tuple #[.string ⟨#[]⟩, .agg (nilCells conNil), .int .i64 5]
  | some g => if 400 < m.text.size then .tuple #[.string ⟨#[]⟩, .agg (nilCells conNil), .int .i64 7] else .tuple #[.string g.user, .agg (nilCells (relC m)), .int .i64 0]
theorem nil_one (c : Con) : ∀ u ∈ (nilCells c).toList, u.oneCell' = true := by
  intro u hu
  simp [nilCells, nilS] at hu
  rcases hu with rfl | rfl | rfl | rfl | rfl | rfl | rfl | rfl | rfl | rfl | rfl | rfl | rfl <;> rfl
theorem patch_one (a : List Value) (h : a.length = 16) (c : Con) : patch a 0 (nilCells c).toList = (nilCells c).toList := by
  have e : (nilCells c).toList.length = 16 := rfl
  rw [patch_all _ _ (by rw [e, h])]
theorem info_int : (Try.prog.info? 3).map (·.size) = some 1 := by kernel_rfl
theorem info_bool : (Try.prog.info? 4).map (·.size) = some 1 := by kernel_rfl
def mCells (m : Con) (va vd vu vk : Value) : List Value := [.string m.text, .int .i64 m.n, .int .i64 m.target, .bool m.thread, .string m.via, va, vd, vu, vk, .int .i64 m.lv.user, .int .i64 m.lv.message, .int .i64 m.lv.state, .int .i64 m.lv.invite, .int .i64 m.lv.kick, .int .i64 m.lv.ban, .int .i64 m.lv.redact]
/-- the text alone -/
def textC (m : Con) : Con := ⟨m.text, 0, 0, false, ⟨#[]⟩, [], [], levNil⟩
theorem rel_no {m : Con} (h : ¬ 0 < m.target) : nilCells (relC m) = nilCells (textC m) := by unfold relC; rw [if_neg h, if_neg h]; rfl
theorem rel_yes {m : Con} (h : 0 < m.target) : patch (patch (nilCells (textC m)).toList 2 [.int .i64 m.target]) 3 [.bool m.thread] = (nilCells (relC m)).toList := by unfold relC; rw [if_pos h, if_pos h]; rfl
set_option maxRecDepth 100000 in
set_option maxHeartbeats 6000000 in
theorem br_Relay (A : Option Addr) (c : Nat) (l : List Gh) (m : Con) (va vd vu vk : Value) (net name : ByteArray) (w : World) (hr : Row w w.heap.size A (ghs l)) (hl : l.length ≤ 1000) (hs : SmallG 1000 l) (h1 : net.size ≤ 1000) (h2 : name.size ≤ 1000) :
    Calls Try.prog 26 #[.slice A l.length c, .agg (mCells m va vd vu vk).toArray, .string net, .string name] w (fun e w' => e = .returned (relayV (findG (idOf net name) l) m) ∧ Below w.heap.size w w') := by
  have CU := fun W (hb : Below w.heap.size w W) => br_users A c l W (hr.ext hb) hl hs
  have HM1 : net.size ≤ maxLen := by unfold maxLen; omega
  have HM2 : name.size ≤ maxLen := by unfold maxLen; omega
  cases hf : findG (idOf net name) l with
  | none =>
    have HV := hide (show relayV none m = .tuple #[.string ⟨#[]⟩, .agg (nilCells conNil), .int .i64 5] from rfl)
    go_enter Try.func26, Try.ntmps26
    go_wp2_with fail
    refine (CU _ (below_two w _ _)).mono ?_
    rintro e W ⟨b, rfl, hm, hbW⟩
    have hlk := hm.look net name HM1 HM2
    rw [hf] at hlk
    simp only [lookV, keyV] at hlk
    have B1 := box_below (heap_alloc2_old w (.cells (mCells m va vd vu vk).toArray 49) (.cells (nilCells conNil).toList.toArray 49)) hbW
    have B2 := box_below (heap_alloc2_new w (.cells (mCells m va vd vu vk).toArray 49) (.cells (nilCells conNil).toList.toArray 49)) hbW
    have hb1 : Below w.heap.size w W := ext_trans (below_two w _ _) hbW
    have hlt1 : w.heap.size + 1 < W.heap.size := (Array.getElem?_eq_some_iff.1 B2).1
    go_wp2_with (refine wpList_storeB rfl (.tmp 9) (.tmp 25) rfl rfl strcN (w.heap.size + 1) 0 rfl (nilCells conNil).toList rfl rfl (nil_one _) (nilCells conNil).toList 49 B2 (by decide) ?_)
    intro w7 hB7 hg7 _
    rw [patch_one _ rfl] at hB7
    have hb7 := hb1.grown hg7 hb1.size (fun q hq => by injection hq with hq; omega)
    go_wp2
    exact bodyPost_mid strcN rfl (w.heap.size + 1) rfl (.int .i64 5) (.string ⟨#[]⟩) rfl rfl rfl hB7 rfl ⟨rfl, hb7⟩
  | some g =>
    have HF := hide hf
    go_enter Try.func26, Try.ntmps26
    go_wp2_with fail
    refine (CU _ (below_two w _ _)).mono ?_
    rintro e W ⟨b, rfl, hm, hbW⟩
    have hlk := hm.look net name HM1 HM2
    rw [hf] at hlk
    simp only [lookV, keyV] at hlk
    have B1 := box_below (heap_alloc2_old w (.cells (mCells m va vd vu vk).toArray 49) (.cells (nilCells conNil).toList.toArray 49)) hbW
    have B2 := box_below (heap_alloc2_new w (.cells (mCells m va vd vu vk).toArray 49) (.cells (nilCells conNil).toList.toArray 49)) hbW
    have hb1 : Below w.heap.size w W := ext_trans (below_two w _ _) hbW
    have hlt1 : w.heap.size + 1 < W.heap.size := (Array.getElem?_eq_some_iff.1 B2).1
    have r0 : W.cell? ⟨w.heap.size, 0, none⟩ = some (.string m.text) := box_at B1 rfl
    by_cases ht : 400 < m.text.size
    · have HV := hide (show relayV (some g) m = .tuple #[.string ⟨#[]⟩, .agg (nilCells conNil), .int .i64 7] from by show (if 400 < m.text.size then _ else _) = _; rw [if_pos ht])
      go_wp2_with (refine wpList_storeB rfl (.tmp 9) (.tmp 30) rfl rfl strcN (w.heap.size + 1) 0 rfl (nilCells conNil).toList rfl rfl (nil_one _) (nilCells conNil).toList 49 B2 (by decide) ?_)
      intro w7 hB7 hg7 _
      rw [patch_one _ rfl] at hB7
      have hb7 := hb1.grown hg7 hb1.size (fun q hq => by injection hq with hq; omega)
      go_wp2
      exact bodyPost_mid strcN rfl (w.heap.size + 1) rfl (.int .i64 7) (.string ⟨#[]⟩) rfl rfl rfl hB7 rfl ⟨by rw [HV.out], hb7⟩
    · have HV := hide (show relayV (some g) m = .tuple #[.string g.user, .agg (nilCells (relC m)), .int .i64 0] from by show (if 400 < m.text.size then _ else _) = _; rw [if_neg ht])
      go_upto_region 7 with fail
      change Code.wp _ _ _ _ (W.alloc (.cells (nilCells (textC m)).toList.toArray 49))
      have B3 := heap_alloc_new W (.cells (nilCells (textC m)).toList.toArray 49)
      have B4 := box_below B1 (ext_alloc (ext_refl W) (.cells (nilCells (textC m)).toList.toArray 49))
      have B5 := box_below B2 (ext_alloc (ext_refl W) (.cells (nilCells (textC m)).toList.toArray 49))
      have hbX := ext_alloc hb1 (.cells (nilCells (textC m)).toList.toArray 49)
      generalize (W.alloc (.cells (nilCells (textC m)).toList.toArray 49)) = X at B3 B4 B5 hbX ⊢
      clear B1 B2 hb1 r0 ht CU hm hlk hbW
      obtain ⟨g3, hg3⟩ : ∃ g3, W.heap.size = g3 := ⟨_, rfl⟩
      rw [hg3] at B3 hlt1 ⊢
      clear hg3
      have r2 : X.cell? ⟨w.heap.size, 2, none⟩ = some (.int .i64 m.target) := box_at B4 rfl
      by_cases hp : 0 < m.target
      · go_wp2_with fail
        clear r2
        refine wp_region_phase (fun w' => w'.heap[w.heap.size]? = some (.cells (mCells m va vd vu vk).toArray 49 (0, 0))) [7] (by kernel_rfl) ?_
        have T1 : ({ X with drawn := X.drawn + 1 } : World).heap[w.heap.size]? = some (.cells (mCells m va vd vu vk).toArray 49 (0, 0)) := B4
        have B3 : ({ X with drawn := X.drawn + 1 } : World).heap[g3]? = some (.cells (nilCells (textC m)).toList.toArray 49 (0, 0)) := B3
        have B5 : ({ X with drawn := X.drawn + 1 } : World).heap[w.heap.size + 1]? = some (.cells (nilCells conNil).toList.toArray 49 (0, 0)) := B5
        have hbY : Below _ _ { X with drawn := X.drawn + 1 } := ext_drew hbX
        generalize ({ X with drawn := X.drawn + 1 } : World) = Y at T1 B3 B5 hbY ⊢
        clear B4 hbX
        refine wpAnyP_take (i := 0) rfl (by kernel_rfl) (by kernel_rfl) (by kernel_rfl) (by kernel_rfl) (fun _ _ _ h => h) (yieldsIf_run (.pointer (some ⟨w.heap.size, 2, none⟩)) rfl (fun w' => by go_simp)) T1 ?_
        refine wpAnyP_take (i := 2) rfl (by kernel_rfl) (by kernel_rfl) (by kernel_rfl) (by kernel_rfl) (fun _ _ _ h => h) (yieldsIf_run (.pointer (some ⟨w.heap.size, 3, none⟩)) rfl (fun w' => by go_simp)) T1 ?_
        go_simp
        refine wpAnyP_take (i := 1) rfl (by kernel_rfl) (by kernel_rfl) (by kernel_rfl) (by kernel_rfl) (fun _ _ _ h => h) (yieldsIf_load rfl rfl Try.underlying3 rfl rfl (fun w' hT => box_at hT rfl)) T1 ?_
        refine wpAnyP_take (i := 3) rfl (by kernel_rfl) (by kernel_rfl) (by kernel_rfl) (by kernel_rfl) (fun _ _ _ h => h) (yieldsIf_load rfl rfl Try.underlying4 rfl rfl (fun w' hT => box_at hT rfl)) T1 ?_
        go_simp
        refine wpAnyP_take (i := 4) rfl (by kernel_rfl) (by kernel_rfl) (by kernel_rfl) (by kernel_rfl) (fun _ _ _ h => h) (yieldsIf_run (.pointer (some ⟨g3, 2, none⟩)) rfl (fun w' => by go_simp)) T1 ?_
        go_simp
        refine wpAnyP_oneQ (i := 5) (by kernel_rfl) rfl ?_
        refine wpList_store1 rfl (.tmp 41) (.tmp 38) rfl rfl info_int g3 2 rfl (.int .i64 m.target) rfl rfl (nilCells (textC m)).toList 49 B3 (by show 3 ≤ 16; decide) ?_
        intro w5 hB5 hg5 hz5
        have T2 := box_grown T1 hg5 (by omega)
        have B6 := box_grown B5 hg5 (by omega)
        have hb5 := hbY.grown hg5 hbY.size (fun q hq => by injection hq with hq; omega)
        clear T1 B5 hbY B3 hg5 hz5
        refine nextQ T2 ?_
        go_simp
        refine wpAnyP_oneQ (i := 6) (by kernel_rfl) rfl ?_
        go_wp2_with fail
        refine nextQ T2 ?_
        go_simp
        refine wpAnyP_oneQ (i := 7) (by kernel_rfl) rfl ?_
        refine wpList_store1 rfl (.tmp 42) (.tmp 40) rfl rfl info_bool g3 3 rfl (.bool m.thread) rfl rfl _ 49 hB5 (by show 4 ≤ 16; decide) ?_
        intro w7 hB7 hg7 hz7
        rw [rel_yes hp] at hB7
        have B7 := box_grown B6 hg7 (by omega)
        have hb7 := hb5.grown hg7 hb5.size (fun q hq => by injection hq with hq; omega)
        clear T2 B6 hb5 hB5 hg7 hz7
        refine nextQ_bad (by kernel_rfl) ?_
        go_simp
        refine wpAnyP_done (by kernel_rfl) ?_
        go_simp
        go_wp2_with fail
        have hbX := hb7
        have B3 := hB7
        have B5 := B7
        clear hb7 hB7 B7
        refine wp_region_phase (fun w' => w'.heap[g3]? = some (.cells (nilCells (relC m)).toList.toArray 49 (0, 0))) [3] (by kernel_rfl) ?_
        have T1 : ({ w7 with drawn := w7.drawn + 1 } : World).heap[g3]? = some (.cells (nilCells (relC m)).toList.toArray 49 (0, 0)) := B3
        have B6 : ({ w7 with drawn := w7.drawn + 1 } : World).heap[w.heap.size + 1]? = some (.cells (nilCells conNil).toList.toArray 49 (0, 0)) := B5
        have hbZ : Below _ _ { w7 with drawn := w7.drawn + 1 } := ext_drew hbX
        generalize ({ w7 with drawn := w7.drawn + 1 } : World) = Z at T1 B6 hbZ ⊢
        clear B3 B5 hbX
        refine wpAnyP_take (i := 0) rfl (by kernel_rfl) (by kernel_rfl) (by kernel_rfl) (by kernel_rfl) (fun _ _ _ h => h) (yieldsIf_run (.string g.user) rfl (fun w' => by go_simp)) T1 ?_
        refine wpAnyP_take (i := 1) rfl (by kernel_rfl) (by kernel_rfl) (by kernel_rfl) (by kernel_rfl) (fun _ _ _ h => h) (yieldsIf_loadS rfl (.tmp 13) rfl strcN ⟨g3, 0, none⟩ rfl (nilCells (relC m)).toList rfl (fun w' hT => box_all hT)) T1 ?_
        go_simp
        refine wpAnyP_take (i := 2) rfl (by kernel_rfl) (by kernel_rfl) (by kernel_rfl) (by kernel_rfl) (fun _ _ _ h => h) (yieldsIf_run (.string g.user) rfl (fun w' => by go_simp)) T1 ?_
        go_simp
        refine wpAnyP_oneQ (i := 3) (by kernel_rfl) rfl ?_
        refine wpList_storeB rfl (.tmp 9) (.tmp 44) rfl rfl strcN (w.heap.size + 1) 0 rfl (nilCells (relC m)).toList rfl rfl (nil_one _) (nilCells conNil).toList 49 B6 (by decide) ?_
        intro w9 hB9 hg9 _
        rw [patch_one _ rfl] at hB9
        have hb9 := hbZ.grown hg9 hbZ.size (fun q hq => by injection hq with hq; omega)
        refine nextQ_bad (by kernel_rfl) ?_
        go_simp
        refine wpAnyP_oneQ (i := 4) (by kernel_rfl) rfl ?_
        go_wp2_with fail
        refine nextQ_bad (by kernel_rfl) ?_
        go_simp
        refine wpAnyP_done (by kernel_rfl) ?_
        go_simp
        go_wp2_with fail
        exact bodyPost_mid strcN rfl (w.heap.size + 1) rfl (.int .i64 0) (.string g.user) rfl rfl rfl hB9 rfl ⟨by rw [HV.out], hb9⟩
      · rw [← rel_no hp] at B3
        go_wp2_with fail
        clear r2 B4
        refine wp_region_phase (fun w' => w'.heap[g3]? = some (.cells (nilCells (relC m)).toList.toArray 49 (0, 0))) [3] (by kernel_rfl) ?_
        have T1 : ({ X with drawn := X.drawn + 1 } : World).heap[g3]? = some (.cells (nilCells (relC m)).toList.toArray 49 (0, 0)) := B3
        have B6 : ({ X with drawn := X.drawn + 1 } : World).heap[w.heap.size + 1]? = some (.cells (nilCells conNil).toList.toArray 49 (0, 0)) := B5
        have hbZ : Below _ _ { X with drawn := X.drawn + 1 } := ext_drew hbX
        generalize ({ X with drawn := X.drawn + 1 } : World) = Z at T1 B6 hbZ ⊢
        clear B3 B5 hbX
        refine wpAnyP_take (i := 0) rfl (by kernel_rfl) (by kernel_rfl) (by kernel_rfl) (by kernel_rfl) (fun _ _ _ h => h) (yieldsIf_run (.string g.user) rfl (fun w' => by go_simp)) T1 ?_
        refine wpAnyP_take (i := 1) rfl (by kernel_rfl) (by kernel_rfl) (by kernel_rfl) (by kernel_rfl) (fun _ _ _ h => h) (yieldsIf_loadS rfl (.tmp 13) rfl strcN ⟨g3, 0, none⟩ rfl (nilCells (relC m)).toList rfl (fun w' hT => box_all hT)) T1 ?_
        go_simp
        refine wpAnyP_take (i := 2) rfl (by kernel_rfl) (by kernel_rfl) (by kernel_rfl) (by kernel_rfl) (fun _ _ _ h => h) (yieldsIf_run (.string g.user) rfl (fun w' => by go_simp)) T1 ?_
        go_simp
        refine wpAnyP_oneQ (i := 3) (by kernel_rfl) rfl ?_
        refine wpList_storeB rfl (.tmp 9) (.tmp 44) rfl rfl strcN (w.heap.size + 1) 0 rfl (nilCells (relC m)).toList rfl rfl (nil_one _) (nilCells conNil).toList 49 B6 (by decide) ?_
        intro w9 hB9 hg9 _
        rw [patch_one _ rfl] at hB9
        have hb9 := hbZ.grown hg9 hbZ.size (fun q hq => by injection hq with hq; omega)
        refine nextQ_bad (by kernel_rfl) ?_
        go_simp
        refine wpAnyP_oneQ (i := 4) (by kernel_rfl) rfl ?_
        go_wp2_with fail
        refine nextQ_bad (by kernel_rfl) ?_
        go_simp
        refine wpAnyP_done (by kernel_rfl) ?_
        go_simp
        go_wp2_with fail
        exact bodyPost_mid strcN rfl (w.heap.size + 1) rfl (.int .i64 0) (.string g.user) rfl rfl rfl hB9 rfl ⟨by rw [HV.out], hb9⟩
set_option maxRecDepth 100000 in
set_option maxHeartbeats 6000000 in
theorem r51_Relay (A : Option Addr) (c : Nat) (l : List Gh) (m : Con) (va vd vu vk : Value) (net name : ByteArray) (w : World) (hr : Row w w.heap.size A (ghs l)) (hl : l.length ≤ 1000) (hs : SmallG 1000 l) (h1 : net.size ≤ 1000) (h2 : name.size ≤ 1000) :
    Calls Try.prog 27 #[.slice A l.length c, .agg (mCells m va vd vu vk).toArray, .string net, .string name] w (fun e w' => e = .returned (relayV (findG (idOf net name) l) m) ∧ Below w.heap.size w w') := by
  have CU := fun W (hb : Below w.heap.size w W) => r51_find A c l net name W (hr.ext hb) hl
  have HM1 : net.size ≤ maxLen := by unfold maxLen; omega
  have HM2 : name.size ≤ maxLen := by unfold maxLen; omega
  cases hf : findG (idOf net name) l with
  | none =>
    have HV := hide (show relayV none m = .tuple #[.string ⟨#[]⟩, .agg (nilCells conNil), .int .i64 5] from rfl)
    go_enter Try.func27, Try.ntmps27
    have B1 := heap_alloc2_old w (.cells (mCells m va vd vu vk).toArray 49) (.cells (nilCells conNil).toList.toArray 49)
    have B2 := heap_alloc2_new w (.cells (mCells m va vd vu vk).toArray 49) (.cells (nilCells conNil).toList.toArray 49)
    have hb1 := below_two w (.cells (mCells m va vd vu vk).toArray 49) (.cells (nilCells conNil).toList.toArray 49)
    go_upto_region 1 with fail
    change Code.wp _ _ _ _ ((w.alloc (.cells (mCells m va vd vu vk).toArray 49)).alloc (.cells (nilCells conNil).toList.toArray 49))
    generalize ((w.alloc (.cells (mCells m va vd vu vk).toArray 49)).alloc (.cells (nilCells conNil).toList.toArray 49)) = W at *
    have C1 := CU W hb1
    have hlt1 : w.heap.size + 1 < W.heap.size := (Array.getElem?_eq_some_iff.1 B2).1
    rw [show findI (idOf net name) l = -1 from by unfold findI; rw [hf]; rfl] at C1
    go_wp2_with (first | (go_at_call 46; refine C1.mono ?_; rintro e W2 ⟨rfl, hW2⟩; rw [hW2]; clear hW2 W2) | (refine wpList_storeB rfl (.tmp 9) (.tmp 19) rfl rfl strcN (w.heap.size + 1) 0 rfl (nilCells conNil).toList rfl rfl (nil_one _) (nilCells conNil).toList 49 B2 (by decide) ?_))
    intro w7 hB7 hg7 _
    rw [patch_one _ rfl] at hB7
    have hb7 := hb1.grown hg7 hb1.size (fun q hq => by injection hq with hq; omega)
    go_wp2
    exact bodyPost_mid strcN rfl (w.heap.size + 1) rfl (.int .i64 5) (.string ⟨#[]⟩) rfl rfl rfl hB7 rfl ⟨rfl, hb7⟩
  | some g =>
    have HF := hide hf
    obtain ⟨k, hk, hgk, hfi⟩ := findG_ix hf
    obtain ⟨b, o, rfl, hb, hc⟩ := gh_cells hr hk
    rw [hgk] at hc
    go_enter Try.func27, Try.ntmps27
    have B1 := heap_alloc2_old w (.cells (mCells m va vd vu vk).toArray 49) (.cells (nilCells conNil).toList.toArray 49)
    have B2 := heap_alloc2_new w (.cells (mCells m va vd vu vk).toArray 49) (.cells (nilCells conNil).toList.toArray 49)
    have hb1 := below_two w (.cells (mCells m va vd vu vk).toArray 49) (.cells (nilCells conNil).toList.toArray 49)
    go_upto_region 1 with fail
    change Code.wp _ _ _ _ ((w.alloc (.cells (mCells m va vd vu vk).toArray 49)).alloc (.cells (nilCells conNil).toList.toArray 49))
    generalize ((w.alloc (.cells (mCells m va vd vu vk).toArray 49)).alloc (.cells (nilCells conNil).toList.toArray 49)) = W at *
    have C1 := CU W hb1
    have hlt1 : w.heap.size + 1 < W.heap.size := (Array.getElem?_eq_some_iff.1 B2).1
    have r0 : W.cell? ⟨w.heap.size, 0, none⟩ = some (.string m.text) := box_at B1 rfl
    rw [show findI (idOf net name) l = (k : Int) from hfi] at C1
    by_cases ht : 400 < m.text.size
    · have HV := hide (show relayV (some g) m = .tuple #[.string ⟨#[]⟩, .agg (nilCells conNil), .int .i64 7] from by show (if 400 < m.text.size then _ else _) = _; rw [if_pos ht])
      go_wp2_with (first | (go_at_call 46; refine C1.mono ?_; rintro e W2 ⟨rfl, hW2⟩; rw [hW2]; clear hW2 W2) | (refine wpList_storeB rfl (.tmp 9) (.tmp 24) rfl rfl strcN (w.heap.size + 1) 0 rfl (nilCells conNil).toList rfl rfl (nil_one _) (nilCells conNil).toList 49 B2 (by decide) ?_))
      intro w7 hB7 hg7 _
      rw [patch_one _ rfl] at hB7
      have hb7 := hb1.grown hg7 hb1.size (fun q hq => by injection hq with hq; omega)
      go_wp2
      exact bodyPost_mid strcN rfl (w.heap.size + 1) rfl (.int .i64 7) (.string ⟨#[]⟩) rfl rfl rfl hB7 rfl ⟨by rw [HV.out], hb7⟩
    · have HV := hide (show relayV (some g) m = .tuple #[.string g.user, .agg (nilCells (relC m)), .int .i64 0] from by show (if 400 < m.text.size then _ else _) = _; rw [if_neg ht])
      go_upto_region 7 with (go_at_call 46; refine C1.mono ?_; rintro e W2 ⟨rfl, hW2⟩; rw [hW2]; clear hW2 W2)
      change Code.wp _ _ _ _ (W.alloc (.cells (nilCells (textC m)).toList.toArray 49))
      have B3 := heap_alloc_new W (.cells (nilCells (textC m)).toList.toArray 49)
      have B4 := box_below B1 (ext_alloc (ext_refl W) (.cells (nilCells (textC m)).toList.toArray 49))
      have B5 := box_below B2 (ext_alloc (ext_refl W) (.cells (nilCells (textC m)).toList.toArray 49))
      have hbX := ext_alloc hb1 (.cells (nilCells (textC m)).toList.toArray 49)
      generalize (W.alloc (.cells (nilCells (textC m)).toList.toArray 49)) = X at B3 B4 B5 hbX ⊢
      clear B1 B2 hb1 r0 ht CU C1
      obtain ⟨g3, hg3⟩ : ∃ g3, W.heap.size = g3 := ⟨_, rfl⟩
      rw [hg3] at B3 hlt1 ⊢
      clear hg3
      have r2 : X.cell? ⟨w.heap.size, 2, none⟩ = some (.int .i64 m.target) := box_at B4 rfl
      by_cases hp : 0 < m.target
      · go_wp2_with fail
        clear r2
        refine wp_region_phase (fun w' => w'.heap[w.heap.size]? = some (.cells (mCells m va vd vu vk).toArray 49 (0, 0))) [7] (by kernel_rfl) ?_
        have T1 : ({ X with drawn := X.drawn + 1 } : World).heap[w.heap.size]? = some (.cells (mCells m va vd vu vk).toArray 49 (0, 0)) := B4
        have B3 : ({ X with drawn := X.drawn + 1 } : World).heap[g3]? = some (.cells (nilCells (textC m)).toList.toArray 49 (0, 0)) := B3
        have B5 : ({ X with drawn := X.drawn + 1 } : World).heap[w.heap.size + 1]? = some (.cells (nilCells conNil).toList.toArray 49 (0, 0)) := B5
        have hbY : Below _ _ { X with drawn := X.drawn + 1 } := ext_drew hbX
        generalize ({ X with drawn := X.drawn + 1 } : World) = Y at T1 B3 B5 hbY ⊢
        clear B4 hbX
        refine wpAnyP_take (i := 0) rfl (by kernel_rfl) (by kernel_rfl) (by kernel_rfl) (by kernel_rfl) (fun _ _ _ h => h) (yieldsIf_run (.pointer (some ⟨w.heap.size, 2, none⟩)) rfl (fun w' => by go_simp)) T1 ?_
        refine wpAnyP_take (i := 2) rfl (by kernel_rfl) (by kernel_rfl) (by kernel_rfl) (by kernel_rfl) (fun _ _ _ h => h) (yieldsIf_run (.pointer (some ⟨w.heap.size, 3, none⟩)) rfl (fun w' => by go_simp)) T1 ?_
        go_simp
        refine wpAnyP_take (i := 1) rfl (by kernel_rfl) (by kernel_rfl) (by kernel_rfl) (by kernel_rfl) (fun _ _ _ h => h) (yieldsIf_load rfl rfl Try.underlying3 rfl rfl (fun w' hT => box_at hT rfl)) T1 ?_
        refine wpAnyP_take (i := 3) rfl (by kernel_rfl) (by kernel_rfl) (by kernel_rfl) (by kernel_rfl) (fun _ _ _ h => h) (yieldsIf_load rfl rfl Try.underlying4 rfl rfl (fun w' hT => box_at hT rfl)) T1 ?_
        go_simp
        refine wpAnyP_take (i := 4) rfl (by kernel_rfl) (by kernel_rfl) (by kernel_rfl) (by kernel_rfl) (fun _ _ _ h => h) (yieldsIf_run (.pointer (some ⟨g3, 2, none⟩)) rfl (fun w' => by go_simp)) T1 ?_
        go_simp
        refine wpAnyP_oneQ (i := 5) (by kernel_rfl) rfl ?_
        refine wpList_store1 rfl (.tmp 35) (.tmp 32) rfl rfl info_int g3 2 rfl (.int .i64 m.target) rfl rfl (nilCells (textC m)).toList 49 B3 (by show 3 ≤ 16; decide) ?_
        intro w5 hB5 hg5 hz5
        have T2 := box_grown T1 hg5 (by omega)
        have B6 := box_grown B5 hg5 (by omega)
        have hb5 := hbY.grown hg5 hbY.size (fun q hq => by injection hq with hq; omega)
        clear T1 B5 hbY B3 hg5 hz5
        refine nextQ T2 ?_
        go_simp
        refine wpAnyP_oneQ (i := 6) (by kernel_rfl) rfl ?_
        go_wp2_with fail
        refine nextQ T2 ?_
        go_simp
        refine wpAnyP_oneQ (i := 7) (by kernel_rfl) rfl ?_
        refine wpList_store1 rfl (.tmp 36) (.tmp 34) rfl rfl info_bool g3 3 rfl (.bool m.thread) rfl rfl _ 49 hB5 (by show 4 ≤ 16; decide) ?_
        intro w7 hB7 hg7 hz7
        rw [rel_yes hp] at hB7
        have B7 := box_grown B6 hg7 (by omega)
        have hb7 := hb5.grown hg7 hb5.size (fun q hq => by injection hq with hq; omega)
        clear T2 B6 hb5 hB5 hg7 hz7
        refine nextQ_bad (by kernel_rfl) ?_
        go_simp
        refine wpAnyP_done (by kernel_rfl) ?_
        go_simp
        go_wp2_with fail
        have hbX := hb7
        have B3 := hB7
        have B5 := B7
        clear hb7 hB7 B7
        refine wp_region_phase (fun w' => w'.heap[g3]? = some (.cells (nilCells (relC m)).toList.toArray 49 (0, 0)) ∧ w'.cell? ⟨b, o + k * 3 + 2, none⟩ = some (.string g.user)) [7] (by kernel_rfl) ?_
        have T1 : ({ w7 with drawn := w7.drawn + 1 } : World).heap[g3]? = some (.cells (nilCells (relC m)).toList.toArray 49 (0, 0)) := B3
        have B6 : ({ w7 with drawn := w7.drawn + 1 } : World).heap[w.heap.size + 1]? = some (.cells (nilCells conNil).toList.toArray 49 (0, 0)) := B5
        have hbZ : Below _ _ { w7 with drawn := w7.drawn + 1 } := ext_drew hbX
        have hcz := (hc.ext hbZ hb) 2 (.string g.user) rfl
        rw [Addr.add_mid] at hcz
        generalize ({ w7 with drawn := w7.drawn + 1 } : World) = Z at T1 B6 hbZ hcz ⊢
        clear B3 B5 hbX
        refine wpAnyP_take (i := 0) rfl (by kernel_rfl) (by kernel_rfl) (by kernel_rfl) (by kernel_rfl) (fun _ _ _ h => h) (yieldsIf_run (.slice (some ⟨b, o, none⟩) l.length c) rfl (fun w' => by go_simp)) ⟨T1, hcz⟩ ?_
        refine wpAnyP_take (i := 1) rfl (by kernel_rfl) (by kernel_rfl) (by kernel_rfl) (by kernel_rfl) (fun _ _ _ h => h) (yieldsIf_run (.int .i64 (k : Int)) rfl (fun w' => by go_simp)) ⟨T1, hcz⟩ ?_
        go_simp
        refine wpAnyP_take (i := 2) rfl (by kernel_rfl) (by kernel_rfl) (by kernel_rfl) (by kernel_rfl) (fun _ _ _ h => h) (yieldsIf_run (.pointer (some ⟨b, o + k * 3, none⟩)) rfl (fun w' => by go_simp)) ⟨T1, hcz⟩ ?_
        go_simp
        refine wpAnyP_take (i := 3) rfl (by kernel_rfl) (by kernel_rfl) (by kernel_rfl) (by kernel_rfl) (fun _ _ _ h => h) (yieldsIf_run (.pointer (some ⟨b, o + k * 3 + 2, none⟩)) rfl (fun w' => by go_simp)) ⟨T1, hcz⟩ ?_
        go_simp
        refine wpAnyP_take (i := 4) rfl (by kernel_rfl) (by kernel_rfl) (by kernel_rfl) (by kernel_rfl) (fun _ _ _ h => h) (yieldsIf_load rfl rfl Try.underlying9 rfl rfl (fun w' hT => hT.2)) ⟨T1, hcz⟩ ?_
        refine wpAnyP_take (i := 5) rfl (by kernel_rfl) (by kernel_rfl) (by kernel_rfl) (by kernel_rfl) (fun _ _ _ h => h) (yieldsIf_loadS rfl (.tmp 12) rfl strcN ⟨g3, 0, none⟩ rfl (nilCells (relC m)).toList rfl (fun w' hT => box_all hT.1)) ⟨T1, hcz⟩ ?_
        go_simp
        refine wpAnyP_take (i := 6) rfl (by kernel_rfl) (by kernel_rfl) (by kernel_rfl) (by kernel_rfl) (fun _ _ _ h => h) (yieldsIf_run (.string g.user) rfl (fun w' => by go_simp)) ⟨T1, hcz⟩ ?_
        go_simp
        refine wpAnyP_oneQ (i := 7) (by kernel_rfl) rfl ?_
        refine wpList_storeB rfl (.tmp 9) (.tmp 42) rfl rfl strcN (w.heap.size + 1) 0 rfl (nilCells (relC m)).toList rfl rfl (nil_one _) (nilCells conNil).toList 49 B6 (by decide) ?_
        intro w9 hB9 hg9 _
        rw [patch_one _ rfl] at hB9
        have hb9 := hbZ.grown hg9 hbZ.size (fun q hq => by injection hq with hq; omega)
        refine nextQ_bad (by kernel_rfl) ?_
        go_simp
        refine wpAnyP_oneQ (i := 8) (by kernel_rfl) rfl ?_
        go_wp2_with fail
        refine nextQ_bad (by kernel_rfl) ?_
        go_simp
        refine wpAnyP_done (by kernel_rfl) ?_
        go_simp
        go_wp2_with fail
        exact bodyPost_mid strcN rfl (w.heap.size + 1) rfl (.int .i64 0) (.string g.user) rfl rfl rfl hB9 rfl ⟨by rw [HV.out], hb9⟩
      · rw [← rel_no hp] at B3
        go_wp2_with fail
        clear r2 B4
        refine wp_region_phase (fun w' => w'.heap[g3]? = some (.cells (nilCells (relC m)).toList.toArray 49 (0, 0)) ∧ w'.cell? ⟨b, o + k * 3 + 2, none⟩ = some (.string g.user)) [7] (by kernel_rfl) ?_
        have T1 : ({ X with drawn := X.drawn + 1 } : World).heap[g3]? = some (.cells (nilCells (relC m)).toList.toArray 49 (0, 0)) := B3
        have B6 : ({ X with drawn := X.drawn + 1 } : World).heap[w.heap.size + 1]? = some (.cells (nilCells conNil).toList.toArray 49 (0, 0)) := B5
        have hbZ : Below _ _ { X with drawn := X.drawn + 1 } := ext_drew hbX
        have hcz := (hc.ext hbZ hb) 2 (.string g.user) rfl
        rw [Addr.add_mid] at hcz
        generalize ({ X with drawn := X.drawn + 1 } : World) = Z at T1 B6 hbZ hcz ⊢
        clear B3 B5 hbX
        refine wpAnyP_take (i := 0) rfl (by kernel_rfl) (by kernel_rfl) (by kernel_rfl) (by kernel_rfl) (fun _ _ _ h => h) (yieldsIf_run (.slice (some ⟨b, o, none⟩) l.length c) rfl (fun w' => by go_simp)) ⟨T1, hcz⟩ ?_
        refine wpAnyP_take (i := 1) rfl (by kernel_rfl) (by kernel_rfl) (by kernel_rfl) (by kernel_rfl) (fun _ _ _ h => h) (yieldsIf_run (.int .i64 (k : Int)) rfl (fun w' => by go_simp)) ⟨T1, hcz⟩ ?_
        go_simp
        refine wpAnyP_take (i := 2) rfl (by kernel_rfl) (by kernel_rfl) (by kernel_rfl) (by kernel_rfl) (fun _ _ _ h => h) (yieldsIf_run (.pointer (some ⟨b, o + k * 3, none⟩)) rfl (fun w' => by go_simp)) ⟨T1, hcz⟩ ?_
        go_simp
        refine wpAnyP_take (i := 3) rfl (by kernel_rfl) (by kernel_rfl) (by kernel_rfl) (by kernel_rfl) (fun _ _ _ h => h) (yieldsIf_run (.pointer (some ⟨b, o + k * 3 + 2, none⟩)) rfl (fun w' => by go_simp)) ⟨T1, hcz⟩ ?_
        go_simp
        refine wpAnyP_take (i := 4) rfl (by kernel_rfl) (by kernel_rfl) (by kernel_rfl) (by kernel_rfl) (fun _ _ _ h => h) (yieldsIf_load rfl rfl Try.underlying9 rfl rfl (fun w' hT => hT.2)) ⟨T1, hcz⟩ ?_
        refine wpAnyP_take (i := 5) rfl (by kernel_rfl) (by kernel_rfl) (by kernel_rfl) (by kernel_rfl) (fun _ _ _ h => h) (yieldsIf_loadS rfl (.tmp 12) rfl strcN ⟨g3, 0, none⟩ rfl (nilCells (relC m)).toList rfl (fun w' hT => box_all hT.1)) ⟨T1, hcz⟩ ?_
        go_simp
        refine wpAnyP_take (i := 6) rfl (by kernel_rfl) (by kernel_rfl) (by kernel_rfl) (by kernel_rfl) (fun _ _ _ h => h) (yieldsIf_run (.string g.user) rfl (fun w' => by go_simp)) ⟨T1, hcz⟩ ?_
        go_simp
        refine wpAnyP_oneQ (i := 7) (by kernel_rfl) rfl ?_
        refine wpList_storeB rfl (.tmp 9) (.tmp 42) rfl rfl strcN (w.heap.size + 1) 0 rfl (nilCells (relC m)).toList rfl rfl (nil_one _) (nilCells conNil).toList 49 B6 (by decide) ?_
        intro w9 hB9 hg9 _
        rw [patch_one _ rfl] at hB9
        have hb9 := hbZ.grown hg9 hbZ.size (fun q hq => by injection hq with hq; omega)
        refine nextQ_bad (by kernel_rfl) ?_
        go_simp
        refine wpAnyP_oneQ (i := 8) (by kernel_rfl) rfl ?_
        go_wp2_with fail
        refine nextQ_bad (by kernel_rfl) ?_
        go_simp
        refine wpAnyP_done (by kernel_rfl) ?_
        go_simp
        go_wp2_with fail
        exact bodyPost_mid strcN rfl (w.heap.size + 1) rfl (.int .i64 0) (.string g.user) rfl rfl rfl hB9 rfl ⟨by rw [HV.out], hb9⟩
end
end Go.Proofs.Ytimdcnickfaddaa
