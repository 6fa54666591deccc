/-
  The reference's Decode of an event: names, places, Decode.
-/
import Derived.Test.YtnfbmhkjmkdmjaaGreatEvDec
import Derived.Test.YtnfbmhkjmkdmjaaGreatRefAny
import Derived.Test.YtnfbmhkjmkdmjaaGreatRDecC
set_option linter.unusedVariables false
set_option linter.unusedSimpArgs false
namespace Go.Proofs.YtnfbmhkjmkdmjaaGreat
open Go.RowKit
attribute [local go_sem] Addr.add_mid
theorem Row.grownB {w w' : World} {B k : Nat} {A : Option Addr} {xs : List Value} (h : Row w B A xs) (hg : w.grownBy w' (some k)) (hk : B ≤ k) (hB : B ≤ w.heap.size) : Row w' B A xs := fun hn => by
  obtain ⟨ad, ha, hb, hc⟩ := h hn
  refine ⟨ad, ha, hb, fun j u hu => ?_⟩
  rw [← hc j u hu]
  exact World.cell?_of_block (by rw [block_of_add]; exact hg.block _ (by omega) (by intro e; injection e with e; omega))
theorem Row.extB {w w' : World} {B : Nat} {A : Option Addr} {xs : List Value} (h : Row w B A xs) (hg : Below w.heap.size w w') (hB : B ≤ w.heap.size) : Row w' B A xs := fun hn => by
  obtain ⟨ad, ha, hb, hc⟩ := h hn
  refine ⟨ad, ha, hb, fun j u hu => ?_⟩
  rw [← hc j u hu]
  exact World.cell?_of_block (by rw [block_of_add]; exact hg.block _ (by omega))
theorem Rds.spoilt {l : List UInt8} {d : Rd} {n : Nat} {r : List UInt8} (h : Rds l d n r true) (m : Nat) (r' : List UInt8) : Rds l d m r' true := InvE.spoilt h _ _ _ _ _
theorem Rds.never {l : List UInt8} {d : Rd} {n : Nat} {r : List UInt8} (h : Rds l d n r true) {e : Ev} (h1 : e.told) (h2 : l = encEv e) : False := by
  have := (h.2 e h1 h2).1
  cases this
section
variable {P : Program} {fn : Func} {R : Ending → World → Prop} {a : Act} {w : World} {t : TypeId} {z C : Array Value} {n : Nat} {p q q2 : Tmp}
theorem bodyPost_cellQQ (G : Strc P t z n) (hres : fn.results = #[.cell p t, .tmp q, .tmp q2]) (g : Nat) (hp : a.tmps.getD p undef = .pointer (some ⟨g, 0, none⟩)) (u u2 : Value) (hq : a.tmps.getD q undef = u) (hq2 : a.tmps.getD q2 undef = u2) (hd : a.defers = []) (hg : w.heap[g]? = some (.cells C t (0, 0))) (hC : C.size = n)
    (hR : R (.returned (.tuple #[.agg C, u, u2])) w) : bodyPost P fn R .ret a w := by
  obtain ⟨d, hu, hrow⟩ := G.row
  refine bodyPost_ret ?_ hd hR
  have hp' : a.tmps[p]?.getD undef = .pointer (some ⟨g, 0, none⟩) := by simpa using hp
  have hq' : a.tmps[q]?.getD undef = u := by simpa using hq
  have hq2' : a.tmps[q2]?.getD undef = u2 := by simpa using hq2
  have hl := run_loadVar_row w g t t C (0, 0) d hg hu (by cases d <;> simp_all) (by rw [G.size, hC])
  simp [results, hres, hp', hq', hq2', asAddr, hl]
end
def NamesV (B : Nat) (ST : Nat → Prop) (E0 : Ev) (l : List UInt8) (w : World) (e : Ending) (w' : World) : Prop :=
  ∃ (cs : List Value) (E : Ev) (v : Value) (r : List UInt8) (ok : Bool) (x0 : Int) (x1 : List UInt8) (x2 : List UInt8) (x3 : Int) (x4 : Bool) (x5 : List UInt8), e = .returned (.tuple #[.agg cs.toArray, v, .bool ok]) ∧ EvR w' ST cs E ∧ (∃ A c, v = .slice A r.length c ∧ r.length ≤ c ∧ Row w' B A (bvs r)) ∧ r.length ≤ l.length ∧
    (∀ (l0 : List UInt8) (d : Rd), d.id = x0 → d.room = x1 → d.sender = x2 → d.kind = x3 → d.state = x4 → d.key = x5 → Rds l0 d 0 l false → Rds l0 d 6 r (!ok)) ∧ (ok = true → E = { E0 with id := x0, room := str x1, sender := str x2, kind := x3, state := x4, key := str x5 }) ∧ Below w.heap.size w w'
def PlacesV (B : Nat) (ST : Nat → Prop) (E0 : Ev) (l : List UInt8) (w : World) (e : Ending) (w' : World) : Prop :=
  ∃ (cs : List Value) (E : Ev) (v : Value) (r : List UInt8) (ok : Bool) (x6 : Int) (x7 : Int) (x8 : List Int) (x9 : List Int), e = .returned (.tuple #[.agg cs.toArray, v, .bool ok]) ∧ EvR w' ST cs E ∧ (∃ A c, v = .slice A r.length c ∧ r.length ≤ c ∧ Row w' B A (bvs r)) ∧ r.length ≤ l.length ∧
    (∀ (l0 : List UInt8) (d : Rd), d.time = x6 → d.depth = x7 → d.prev = x8 → d.auth = x9 → Rds l0 d 6 l false → Rds l0 d 10 r (!ok)) ∧ (ok = true → E = { E0 with time := x6, depth := x7, prev := x8, auth := x9 }) ∧ Below w.heap.size w w'
set_option maxRecDepth 100000 in
set_option maxHeartbeats 20000000 in
theorem Rnames_any {B : Nat} {A : Option Addr} {c : Nat} {l : List UInt8} {w : World} (hB : B ≤ w.heap.size) (hrow : Row w B A (bvs l)) (hcr : l.length ≤ c) (hrl : l.length ≤ 16777216) :
    Calls Tryz.prog 72 #[.slice A l.length c] w (NamesV B (w.heap.size ≤ ·) Ev.zero l w) := by
  have BR := heap_alloc2_old w (.cells evZero 34) (.cells evZero 34)
  have BE : ((w.alloc (.cells evZero 34)).alloc (.cells evZero 34)).heap[w.heap.size + 1]? = some (.cells evZero.toList.toArray 34 (0, 0)) := heap_alloc2_new w (.cells evZero 34) (.cells evZero 34)
  have KB := below_two w (.cells evZero 34) (.cells evZero 34)
  have hsz : ((w.alloc (.cells evZero 34)).alloc (.cells evZero 34)).heap.size = w.heap.size + 2 := by simp
  have hz1 : (w.alloc (.cells evZero 34)).heap.size = w.heap.size + 1 := by simp
  have hrow := hrow.extB KB hB
  have R : EvR ((w.alloc (.cells evZero 34)).alloc (.cells evZero 34)) (fun b => w.heap.size + 2 ≤ b) evZero.toList Ev.zero := evZero_R _ _
  go_enter Tryz.func72, Tryz.ntmps72
  go_upto_region 4 with (refine wpList_zeroS rfl rfl strcE ?_)
  generalize (w.alloc (.cells evZero 34)).alloc (.cells evZero 34) = W at BR BE KB hsz hrow R ⊢
  clear hz1
  obtain ⟨g, hg⟩ : ∃ g, w.heap.size = g := ⟨_, rfl⟩
  rw [hg] at BR BE KB hsz R hB
  try simp only [hg]
  have HGG := hide hg
  clear hg
  have hs : g + 2 ≤ W.heap.size := by omega
  have hBu : B ≤ W.heap.size := by omega
  obtain ⟨ca0, hcsx⟩ : ∃ x, evZero.toList = x := ⟨_, rfl⟩
  rw [hcsx] at R BE
  clear hcsx hsz
  have hrx : l.length ≤ l.length := Nat.le_refl _
  obtain ⟨SS, hSSd⟩ : ∃ S : Nat → Prop, S = (fun b => g + 2 ≤ b) := ⟨_, rfl⟩
  rw [← hSSd] at R
  have hSS : ∀ b, g + 2 ≤ b → SS b := fun b h => by rw [hSSd]; exact h
  have hSE : ∀ b, SS b → b ≠ g + 1 := fun b h => by rw [hSSd] at h; omega
  have hSR : ∀ b, SS b → b ≠ g := fun b h => by rw [hSSd] at h; omega
  have hST : ∀ b, SS b → w.heap.size ≤ b := fun b h => by rw [hSSd] at h; have := HGG.out; omega
  clear hSSd
  have HR := hide R; clear R
  have HBR := hide BR; clear BR
  have CN := RGetInt_at (B := B) hBu hrow hcr hrl
  have hHL := hide HR.out.length
  go_wp2_with (first
    | (go_at_call 76; refine CN.mono ?_; rintro y u0 ⟨x0, r0, ok, ⟨A0, c0, rfl, hrow, hcr, hbk⟩, hres⟩; have BE1 := box_below BE hbk)
    | refine wpList_store1 rfl (.tmp 14) (.tmp 11) rfl rfl sizeI (g + 1) 0 rfl (.int .i64 x0) rfl rfl ca0 34 BE1 (by rw [hHL.out]; simp) ?_)
  intro y0 B2 g2 zz
  have hrl : r0.length ≤ 16777216 := Nat.le_trans (resI_len hres) hrl
  have hrx : r0.length ≤ l.length := Nat.le_trans (resI_len hres) hrx
  have hRES0 := hide hres
  have hs1 : g + 2 ≤ u0.heap.size := Nat.le_trans hs hbk.size
  have R := ((HR.out.ext hbk).grown g2 (fun b hb e => by injection e with e; exact hSE b hb e.symm)).q0 x0
  have hrow := hrow.grownB g2 (by omega) (by omega)
  have KB := (KB.trans (hbk.mono (by omega))).grown g2 (by omega) (fun q hq => by injection hq with hq; omega)
  have BR := box_grown (box_below HBR.out hbk) g2 (by omega)
  have hs : g + 2 ≤ y0.heap.size := by have := g2.size; omega
  have hBu : B ≤ y0.heap.size := by omega
  clear hres hbk BE1 BE HR HBR g2 zz CN hHL
  obtain ⟨ca1, hcsy⟩ : ∃ x, patch ca0 0 [.int .i64 x0] = x := ⟨_, rfl⟩
  rw [hcsy] at R B2
  clear hcsy
  have BE := B2
  clear B2
  have HR := hide R; clear R
  have HBR := hide BR; clear BR
  cases ok
  case false =>
    have HRD := hide (show ∀ (l0 : List UInt8) (d : Rd), d.id = x0 → Rds l0 d 0 l false → Rds l0 d 6 [] true from fun l0 d e0 h0 => by
      have H1 : Rds l0 d 1 r0 true := h0.s0 (okb := false) (fun _ => by rw [e0]; exact hRES0.out)
      exact H1.spoilt _ _)
    have HLx := hide HR.out.length; have HOx := hide HR.out.one
    have HBE := hide BE; have HBR1 := HBR.out
    go_wp2_with (first
      | refine wpList_loadS rfl (.tmp 5) rfl strcE ⟨(g + 1), 0, none⟩ rfl ca1 HLx.out (box_all HBE.out) ?_
      | refine wpList_storeB rfl (.tmp 2) (.tmp 17) rfl rfl strcE g 0 rfl ca1 rfl HLx.out HOx.out evZero.toList 34 HBR1 (by decide) ?_)
    intro wa Ba ga za
    rw [patch_all _ _ (by rw [HLx.out]; rfl)] at Ba
    have Ra := (HR.out.grown ga (fun b hb e => by injection e with e; exact hSR b hb e.symm)).weak (S' := fun b => w.heap.size ≤ b) (fun b hb _ => hST b hb)
    have Ka := KB.grown ga (by have := KB.size; omega) (fun q hq => by injection hq with hq; omega)
    clear HR KB HBE HBR1 HBR
    go_wp2_with fail
    refine bodyPost_cellQQ strcE rfl g rfl (.slice none 0 0) (.bool false) rfl rfl rfl Ba (by rw [List.size_toArray]; exact HLx.out) ⟨ca1, _, .slice none 0 0, [], false, x0, [], [], 0, false, [], rfl, Ra, ⟨none, 0, rfl, Nat.le_refl _, Row.nil⟩, Nat.zero_le _, fun l0 d e0 e1 e2 e3 e4 e5 h0 => HRD.out l0 d e0 h0, (fun h => by cases h), ?_⟩
    first | exact Ka | (rw [HGG.out]; exact Ka)
  have CN := RGetText_at (B := B) hBu hrow hcr hrl
  have hHL := hide HR.out.length
  go_wp2_with (first
    | (go_at_call 74; refine CN.mono ?_; rintro y u1 ⟨x1, r1, ok, ⟨A1, c1, rfl, hrow, hcr, hbk⟩, hres⟩; have BE1 := box_below BE hbk)
    | refine wpList_store1 rfl (.tmp 24) (.tmp 21) rfl rfl sizeS (g + 1) 1 rfl (.string (str x1)) rfl rfl ca1 34 BE1 (by rw [hHL.out]; simp) ?_)
  intro y1 B2 g2 zz
  have hrl : r1.length ≤ 16777216 := Nat.le_trans ((resS_len hres).1) hrl
  have hrx : r1.length ≤ l.length := Nat.le_trans ((resS_len hres).1) hrx
  have hRES1 := hide hres
  have hs1 : g + 2 ≤ u1.heap.size := Nat.le_trans hs hbk.size
  have R := ((HR.out.ext hbk).grown g2 (fun b hb e => by injection e with e; exact hSE b hb e.symm)).q1 (str x1)
  have hrow := hrow.grownB g2 (by omega) (by omega)
  have KB := (KB.trans (hbk.mono (by omega))).grown g2 (by omega) (fun q hq => by injection hq with hq; omega)
  have BR := box_grown (box_below HBR.out hbk) g2 (by omega)
  have hs : g + 2 ≤ y1.heap.size := by have := g2.size; omega
  have hBu : B ≤ y1.heap.size := by omega
  clear hres hbk BE1 BE HR HBR g2 zz CN hHL
  obtain ⟨ca2, hcsy⟩ : ∃ x, patch ca1 1 [.string (str x1)] = x := ⟨_, rfl⟩
  rw [hcsy] at R B2
  clear hcsy
  have BE := B2
  clear B2
  have HR := hide R; clear R
  have HBR := hide BR; clear BR
  cases ok
  case false =>
    have HRD := hide (show ∀ (l0 : List UInt8) (d : Rd), d.id = x0 → d.room = x1 → Rds l0 d 0 l false → Rds l0 d 6 [] true from fun l0 d e0 e1 h0 => by
      have H1 : Rds l0 d 1 r0 false := h0.s0 (okb := true) (fun _ => by rw [e0]; exact hRES0.out)
      have H2 : Rds l0 d 2 r1 true := H1.s1 (okb := false) (fun _ => by rw [e1]; exact hRES1.out)
      exact H2.spoilt _ _)
    have HLx := hide HR.out.length; have HOx := hide HR.out.one
    have HBE := hide BE; have HBR1 := HBR.out
    go_wp2_with (first
      | refine wpList_loadS rfl (.tmp 5) rfl strcE ⟨(g + 1), 0, none⟩ rfl ca2 HLx.out (box_all HBE.out) ?_
      | refine wpList_storeB rfl (.tmp 2) (.tmp 27) rfl rfl strcE g 0 rfl ca2 rfl HLx.out HOx.out evZero.toList 34 HBR1 (by decide) ?_)
    intro wa Ba ga za
    rw [patch_all _ _ (by rw [HLx.out]; rfl)] at Ba
    have Ra := (HR.out.grown ga (fun b hb e => by injection e with e; exact hSR b hb e.symm)).weak (S' := fun b => w.heap.size ≤ b) (fun b hb _ => hST b hb)
    have Ka := KB.grown ga (by have := KB.size; omega) (fun q hq => by injection hq with hq; omega)
    clear HR KB HBE HBR1 HBR
    go_wp2_with fail
    refine bodyPost_cellQQ strcE rfl g rfl (.slice none 0 0) (.bool false) rfl rfl rfl Ba (by rw [List.size_toArray]; exact HLx.out) ⟨ca2, _, .slice none 0 0, [], false, x0, x1, [], 0, false, [], rfl, Ra, ⟨none, 0, rfl, Nat.le_refl _, Row.nil⟩, Nat.zero_le _, fun l0 d e0 e1 e2 e3 e4 e5 h0 => HRD.out l0 d e0 e1 h0, (fun h => by cases h), ?_⟩
    first | exact Ka | (rw [HGG.out]; exact Ka)
  have CN := RGetText_at (B := B) hBu hrow hcr hrl
  have hHL := hide HR.out.length
  go_wp2_with (first
    | (go_at_call 74; refine CN.mono ?_; rintro y u2 ⟨x2, r2, ok, ⟨A2, c2, rfl, hrow, hcr, hbk⟩, hres⟩; have BE1 := box_below BE hbk)
    | refine wpList_store1 rfl (.tmp 34) (.tmp 31) rfl rfl sizeS (g + 1) 2 rfl (.string (str x2)) rfl rfl ca2 34 BE1 (by rw [hHL.out]; simp) ?_)
  intro y2 B2 g2 zz
  have hrl : r2.length ≤ 16777216 := Nat.le_trans ((resS_len hres).1) hrl
  have hrx : r2.length ≤ l.length := Nat.le_trans ((resS_len hres).1) hrx
  have hRES2 := hide hres
  have hs1 : g + 2 ≤ u2.heap.size := Nat.le_trans hs hbk.size
  have R := ((HR.out.ext hbk).grown g2 (fun b hb e => by injection e with e; exact hSE b hb e.symm)).q2 (str x2)
  have hrow := hrow.grownB g2 (by omega) (by omega)
  have KB := (KB.trans (hbk.mono (by omega))).grown g2 (by omega) (fun q hq => by injection hq with hq; omega)
  have BR := box_grown (box_below HBR.out hbk) g2 (by omega)
  have hs : g + 2 ≤ y2.heap.size := by have := g2.size; omega
  have hBu : B ≤ y2.heap.size := by omega
  clear hres hbk BE1 BE HR HBR g2 zz CN hHL
  obtain ⟨ca3, hcsy⟩ : ∃ x, patch ca2 2 [.string (str x2)] = x := ⟨_, rfl⟩
  rw [hcsy] at R B2
  clear hcsy
  have BE := B2
  clear B2
  have HR := hide R; clear R
  have HBR := hide BR; clear BR
  cases ok
  case false =>
    have HRD := hide (show ∀ (l0 : List UInt8) (d : Rd), d.id = x0 → d.room = x1 → d.sender = x2 → Rds l0 d 0 l false → Rds l0 d 6 [] true from fun l0 d e0 e1 e2 h0 => by
      have H1 : Rds l0 d 1 r0 false := h0.s0 (okb := true) (fun _ => by rw [e0]; exact hRES0.out)
      have H2 : Rds l0 d 2 r1 false := H1.s1 (okb := true) (fun _ => by rw [e1]; exact hRES1.out)
      have H3 : Rds l0 d 3 r2 true := H2.s2 (okb := false) (fun _ => by rw [e2]; exact hRES2.out)
      exact H3.spoilt _ _)
    have HLx := hide HR.out.length; have HOx := hide HR.out.one
    have HBE := hide BE; have HBR1 := HBR.out
    go_wp2_with (first
      | refine wpList_loadS rfl (.tmp 5) rfl strcE ⟨(g + 1), 0, none⟩ rfl ca3 HLx.out (box_all HBE.out) ?_
      | refine wpList_storeB rfl (.tmp 2) (.tmp 37) rfl rfl strcE g 0 rfl ca3 rfl HLx.out HOx.out evZero.toList 34 HBR1 (by decide) ?_)
    intro wa Ba ga za
    rw [patch_all _ _ (by rw [HLx.out]; rfl)] at Ba
    have Ra := (HR.out.grown ga (fun b hb e => by injection e with e; exact hSR b hb e.symm)).weak (S' := fun b => w.heap.size ≤ b) (fun b hb _ => hST b hb)
    have Ka := KB.grown ga (by have := KB.size; omega) (fun q hq => by injection hq with hq; omega)
    clear HR KB HBE HBR1 HBR
    go_wp2_with fail
    refine bodyPost_cellQQ strcE rfl g rfl (.slice none 0 0) (.bool false) rfl rfl rfl Ba (by rw [List.size_toArray]; exact HLx.out) ⟨ca3, _, .slice none 0 0, [], false, x0, x1, x2, 0, false, [], rfl, Ra, ⟨none, 0, rfl, Nat.le_refl _, Row.nil⟩, Nat.zero_le _, fun l0 d e0 e1 e2 e3 e4 e5 h0 => HRD.out l0 d e0 e1 e2 h0, (fun h => by cases h), ?_⟩
    first | exact Ka | (rw [HGG.out]; exact Ka)
  have CN := RGetInt_at (B := B) hBu hrow hcr hrl
  have hHL := hide HR.out.length
  go_wp2_with (go_at_call 76; refine CN.mono ?_)
  rintro y u3 ⟨x3, r3, ok, ⟨A3, c3, rfl, hrow, hcr, hbk⟩, hres⟩
  have hrl : r3.length ≤ 16777216 := Nat.le_trans (resI_len hres) hrl
  have hrx : r3.length ≤ l.length := Nat.le_trans (resI_len hres) hrx
  have hRES3 := hide hres
  have hs1 : g + 2 ≤ u3.heap.size := Nat.le_trans hs hbk.size
  have R := HR.out.ext hbk
  have KB := KB.trans (hbk.mono (by omega))
  have BR := box_below HBR.out hbk
  have BE := box_below BE hbk
  have hs := hs1
  have hBu : B ≤ u3.heap.size := by omega
  clear hres hbk HR HBR CN hHL
  obtain ⟨ca4, hcsy⟩ : ∃ x, ca3 = x := ⟨_, rfl⟩
  rw [hcsy] at R BE
  clear hcsy
  have HR := hide R; clear R
  have HBR := hide BR; clear BR
  cases ok
  case false =>
    have HRD := hide (show ∀ (l0 : List UInt8) (d : Rd), d.id = x0 → d.room = x1 → d.sender = x2 → d.kind = x3 → Rds l0 d 0 l false → Rds l0 d 6 [] true from fun l0 d e0 e1 e2 e3 h0 => by
      have H1 : Rds l0 d 1 r0 false := h0.s0 (okb := true) (fun _ => by rw [e0]; exact hRES0.out)
      have H2 : Rds l0 d 2 r1 false := H1.s1 (okb := true) (fun _ => by rw [e1]; exact hRES1.out)
      have H3 : Rds l0 d 3 r2 false := H2.s2 (okb := true) (fun _ => by rw [e2]; exact hRES2.out)
      have H4 : Rds l0 d 4 r3 true := H3.s3 (okb := false) (fun _ => by rw [e3]; exact hRES3.out)
      exact H4.spoilt _ _)
    have HLx := hide HR.out.length; have HOx := hide HR.out.one
    have HBE := hide BE; have HBR1 := HBR.out
    go_wp2_with (first
      | refine wpList_loadS rfl (.tmp 5) rfl strcE ⟨(g + 1), 0, none⟩ rfl ca4 HLx.out (box_all HBE.out) ?_
      | refine wpList_storeB rfl (.tmp 2) (.tmp 46) rfl rfl strcE g 0 rfl ca4 rfl HLx.out HOx.out evZero.toList 34 HBR1 (by decide) ?_)
    intro wa Ba ga za
    rw [patch_all _ _ (by rw [HLx.out]; rfl)] at Ba
    have Ra := (HR.out.grown ga (fun b hb e => by injection e with e; exact hSR b hb e.symm)).weak (S' := fun b => w.heap.size ≤ b) (fun b hb _ => hST b hb)
    have Ka := KB.grown ga (by have := KB.size; omega) (fun q hq => by injection hq with hq; omega)
    clear HR KB HBE HBR1 HBR
    go_wp2_with fail
    refine bodyPost_cellQQ strcE rfl g rfl (.slice none 0 0) (.bool false) rfl rfl rfl Ba (by rw [List.size_toArray]; exact HLx.out) ⟨ca4, _, .slice none 0 0, [], false, x0, x1, x2, x3, false, [], rfl, Ra, ⟨none, 0, rfl, Nat.le_refl _, Row.nil⟩, Nat.zero_le _, fun l0 d e0 e1 e2 e3 e4 e5 h0 => HRD.out l0 d e0 e1 e2 e3 h0, (fun h => by cases h), ?_⟩
    first | exact Ka | (rw [HGG.out]; exact Ka)
  have hHL := hide HR.out.length
  go_wp2_with (refine wpList_store1 rfl (.tmp 48) (.tmp 47) rfl rfl sizeK7 (g + 1) 3 rfl (.int .i64 x3) rfl rfl ca4 34 BE (by rw [hHL.out]; simp) ?_)
  intro y3 B2 g2 zz
  have R := (HR.out.grown g2 (fun b hb e => by injection e with e; exact hSE b hb e.symm)).q3 x3
  have hrow := hrow.grownB g2 (by omega) (by omega)
  have KB := KB.grown g2 (by omega) (fun q hq => by injection hq with hq; omega)
  have BR := box_grown HBR.out g2 (by omega)
  have hs : g + 2 ≤ y3.heap.size := by have := g2.size; omega
  have hBu : B ≤ y3.heap.size := by omega
  clear BE HR HBR g2 zz hHL
  obtain ⟨cb, hcsy⟩ : ∃ x, patch ca4 3 [.int .i64 x3] = x := ⟨_, rfl⟩
  rw [hcsy] at R B2
  clear hcsy
  have BE := B2
  clear B2
  clear ca4
  obtain ⟨ca4, hcsy⟩ : ∃ x, cb = x := ⟨_, rfl⟩
  rw [hcsy] at R BE
  clear hcsy
  have HR := hide R; clear R
  have HBR := hide BR; clear BR
  have CN := RGetBool_at (B := B) hBu hrow hcr hrl
  have hHL := hide HR.out.length
  go_wp2_with (first
    | (go_at_call 138; refine CN.mono ?_; rintro y u4 ⟨x4, r4, ok, ⟨A4, c4, rfl, hrow, hcr, hbk⟩, hres⟩; have BE1 := box_below BE hbk)
    | refine wpList_store1 rfl (.tmp 55) (.tmp 52) rfl rfl sizeT1 (g + 1) 4 rfl (.bool x4) rfl rfl ca4 34 BE1 (by rw [hHL.out]; simp) ?_)
  intro y4 B2 g2 zz
  have hrl : r4.length ≤ 16777216 := Nat.le_trans (resB_len hres) hrl
  have hrx : r4.length ≤ l.length := Nat.le_trans (resB_len hres) hrx
  have hRES4 := hide hres
  have hs1 : g + 2 ≤ u4.heap.size := Nat.le_trans hs hbk.size
  have R := ((HR.out.ext hbk).grown g2 (fun b hb e => by injection e with e; exact hSE b hb e.symm)).q4 x4
  have hrow := hrow.grownB g2 (by omega) (by omega)
  have KB := (KB.trans (hbk.mono (by omega))).grown g2 (by omega) (fun q hq => by injection hq with hq; omega)
  have BR := box_grown (box_below HBR.out hbk) g2 (by omega)
  have hs : g + 2 ≤ y4.heap.size := by have := g2.size; omega
  have hBu : B ≤ y4.heap.size := by omega
  clear hres hbk BE1 BE HR HBR g2 zz CN hHL
  obtain ⟨ca5, hcsy⟩ : ∃ x, patch ca4 4 [.bool x4] = x := ⟨_, rfl⟩
  rw [hcsy] at R B2
  clear hcsy
  have BE := B2
  clear B2
  have HR := hide R; clear R
  have HBR := hide BR; clear BR
  cases ok
  case false =>
    have HRD := hide (show ∀ (l0 : List UInt8) (d : Rd), d.id = x0 → d.room = x1 → d.sender = x2 → d.kind = x3 → d.state = x4 → Rds l0 d 0 l false → Rds l0 d 6 [] true from fun l0 d e0 e1 e2 e3 e4 h0 => by
      have H1 : Rds l0 d 1 r0 false := h0.s0 (okb := true) (fun _ => by rw [e0]; exact hRES0.out)
      have H2 : Rds l0 d 2 r1 false := H1.s1 (okb := true) (fun _ => by rw [e1]; exact hRES1.out)
      have H3 : Rds l0 d 3 r2 false := H2.s2 (okb := true) (fun _ => by rw [e2]; exact hRES2.out)
      have H4 : Rds l0 d 4 r3 false := H3.s3 (okb := true) (fun _ => by rw [e3]; exact hRES3.out)
      have H5 : Rds l0 d 5 r4 true := H4.s4 (okb := false) (fun _ => by rw [e4]; exact hRES4.out)
      exact H5.spoilt _ _)
    have HLx := hide HR.out.length; have HOx := hide HR.out.one
    have HBE := hide BE; have HBR1 := HBR.out
    go_wp2_with (first
      | refine wpList_loadS rfl (.tmp 5) rfl strcE ⟨(g + 1), 0, none⟩ rfl ca5 HLx.out (box_all HBE.out) ?_
      | refine wpList_storeB rfl (.tmp 2) (.tmp 58) rfl rfl strcE g 0 rfl ca5 rfl HLx.out HOx.out evZero.toList 34 HBR1 (by decide) ?_)
    intro wa Ba ga za
    rw [patch_all _ _ (by rw [HLx.out]; rfl)] at Ba
    have Ra := (HR.out.grown ga (fun b hb e => by injection e with e; exact hSR b hb e.symm)).weak (S' := fun b => w.heap.size ≤ b) (fun b hb _ => hST b hb)
    have Ka := KB.grown ga (by have := KB.size; omega) (fun q hq => by injection hq with hq; omega)
    clear HR KB HBE HBR1 HBR
    go_wp2_with fail
    refine bodyPost_cellQQ strcE rfl g rfl (.slice none 0 0) (.bool false) rfl rfl rfl Ba (by rw [List.size_toArray]; exact HLx.out) ⟨ca5, _, .slice none 0 0, [], false, x0, x1, x2, x3, x4, [], rfl, Ra, ⟨none, 0, rfl, Nat.le_refl _, Row.nil⟩, Nat.zero_le _, fun l0 d e0 e1 e2 e3 e4 e5 h0 => HRD.out l0 d e0 e1 e2 e3 e4 h0, (fun h => by cases h), ?_⟩
    first | exact Ka | (rw [HGG.out]; exact Ka)
  have CN := RGetText_at (B := B) hBu hrow hcr hrl
  have hHL := hide HR.out.length
  go_wp2_with (first
    | (go_at_call 74; refine CN.mono ?_; rintro y u5 ⟨x5, r5, ok, ⟨A5, c5, rfl, hrow, hcr, hbk⟩, hres⟩; have BE1 := box_below BE hbk)
    | refine wpList_store1 rfl (.tmp 65) (.tmp 62) rfl rfl sizeS (g + 1) 5 rfl (.string (str x5)) rfl rfl ca5 34 BE1 (by rw [hHL.out]; simp) ?_)
  intro y5 B2 g2 zz
  have hrl : r5.length ≤ 16777216 := Nat.le_trans ((resS_len hres).1) hrl
  have hrx : r5.length ≤ l.length := Nat.le_trans ((resS_len hres).1) hrx
  have hRES5 := hide hres
  have hs1 : g + 2 ≤ u5.heap.size := Nat.le_trans hs hbk.size
  have R := ((HR.out.ext hbk).grown g2 (fun b hb e => by injection e with e; exact hSE b hb e.symm)).q5 (str x5)
  have hrow := hrow.grownB g2 (by omega) (by omega)
  have KB := (KB.trans (hbk.mono (by omega))).grown g2 (by omega) (fun q hq => by injection hq with hq; omega)
  have BR := box_grown (box_below HBR.out hbk) g2 (by omega)
  have hs : g + 2 ≤ y5.heap.size := by have := g2.size; omega
  have hBu : B ≤ y5.heap.size := by omega
  clear hres hbk BE1 BE HR HBR g2 zz CN hHL
  obtain ⟨ca6, hcsy⟩ : ∃ x, patch ca5 5 [.string (str x5)] = x := ⟨_, rfl⟩
  rw [hcsy] at R B2
  clear hcsy
  have BE := B2
  clear B2
  have HR := hide R; clear R
  have HBR := hide BR; clear BR
  cases ok
  case false =>
    have HRD := hide (show ∀ (l0 : List UInt8) (d : Rd), d.id = x0 → d.room = x1 → d.sender = x2 → d.kind = x3 → d.state = x4 → d.key = x5 → Rds l0 d 0 l false → Rds l0 d 6 [] true from fun l0 d e0 e1 e2 e3 e4 e5 h0 => by
      have H1 : Rds l0 d 1 r0 false := h0.s0 (okb := true) (fun _ => by rw [e0]; exact hRES0.out)
      have H2 : Rds l0 d 2 r1 false := H1.s1 (okb := true) (fun _ => by rw [e1]; exact hRES1.out)
      have H3 : Rds l0 d 3 r2 false := H2.s2 (okb := true) (fun _ => by rw [e2]; exact hRES2.out)
      have H4 : Rds l0 d 4 r3 false := H3.s3 (okb := true) (fun _ => by rw [e3]; exact hRES3.out)
      have H5 : Rds l0 d 5 r4 false := H4.s4 (okb := true) (fun _ => by rw [e4]; exact hRES4.out)
      have H6 : Rds l0 d 6 r5 true := H5.s5 (okb := false) (fun _ => by rw [e5]; exact hRES5.out)
      exact H6.spoilt _ _)
    have HLx := hide HR.out.length; have HOx := hide HR.out.one
    have HBE := hide BE; have HBR1 := HBR.out
    go_wp2_with (first
      | refine wpList_loadS rfl (.tmp 5) rfl strcE ⟨(g + 1), 0, none⟩ rfl ca6 HLx.out (box_all HBE.out) ?_
      | refine wpList_storeB rfl (.tmp 2) (.tmp 68) rfl rfl strcE g 0 rfl ca6 rfl HLx.out HOx.out evZero.toList 34 HBR1 (by decide) ?_)
    intro wa Ba ga za
    rw [patch_all _ _ (by rw [HLx.out]; rfl)] at Ba
    have Ra := (HR.out.grown ga (fun b hb e => by injection e with e; exact hSR b hb e.symm)).weak (S' := fun b => w.heap.size ≤ b) (fun b hb _ => hST b hb)
    have Ka := KB.grown ga (by have := KB.size; omega) (fun q hq => by injection hq with hq; omega)
    clear HR KB HBE HBR1 HBR
    go_wp2_with fail
    refine bodyPost_cellQQ strcE rfl g rfl (.slice none 0 0) (.bool false) rfl rfl rfl Ba (by rw [List.size_toArray]; exact HLx.out) ⟨ca6, _, .slice none 0 0, [], false, x0, x1, x2, x3, x4, x5, rfl, Ra, ⟨none, 0, rfl, Nat.le_refl _, Row.nil⟩, Nat.zero_le _, fun l0 d e0 e1 e2 e3 e4 e5 h0 => HRD.out l0 d e0 e1 e2 e3 e4 e5 h0, (fun h => by cases h), ?_⟩
    first | exact Ka | (rw [HGG.out]; exact Ka)
  have HRD := hide (show ∀ (l0 : List UInt8) (d : Rd), d.id = x0 → d.room = x1 → d.sender = x2 → d.kind = x3 → d.state = x4 → d.key = x5 → Rds l0 d 0 l false → Rds l0 d 6 r5 false from fun l0 d e0 e1 e2 e3 e4 e5 h0 => by
    have H1 : Rds l0 d 1 r0 false := h0.s0 (okb := true) (fun _ => by rw [e0]; exact hRES0.out)
    have H2 : Rds l0 d 2 r1 false := H1.s1 (okb := true) (fun _ => by rw [e1]; exact hRES1.out)
    have H3 : Rds l0 d 3 r2 false := H2.s2 (okb := true) (fun _ => by rw [e2]; exact hRES2.out)
    have H4 : Rds l0 d 4 r3 false := H3.s3 (okb := true) (fun _ => by rw [e3]; exact hRES3.out)
    have H5 : Rds l0 d 5 r4 false := H4.s4 (okb := true) (fun _ => by rw [e4]; exact hRES4.out)
    have H6 : Rds l0 d 6 r5 false := H5.s5 (okb := true) (fun _ => by rw [e5]; exact hRES5.out)
    exact H6)
  have HLx := hide HR.out.length; have HOx := hide HR.out.one
  have HBE := hide BE; have HBR1 := HBR.out
  go_wp2_with (first
    | refine wpList_loadS rfl (.tmp 5) rfl strcE ⟨(g + 1), 0, none⟩ rfl ca6 HLx.out (box_all HBE.out) ?_
    | refine wpList_storeB rfl (.tmp 2) (.tmp 69) rfl rfl strcE g 0 rfl ca6 rfl HLx.out HOx.out evZero.toList 34 HBR1 (by decide) ?_)
  intro wa Ba ga za
  rw [patch_all _ _ (by rw [HLx.out]; rfl)] at Ba
  have Ra := (HR.out.grown ga (fun b hb e => by injection e with e; exact hSR b hb e.symm)).weak (S' := fun b => w.heap.size ≤ b) (fun b hb _ => hST b hb)
  have hrow := hrow.grownB ga (by omega) (by omega)
  have Ka := KB.grown ga (by have := KB.size; omega) (fun q hq => by injection hq with hq; omega)
  have HEX := hide hrow; have HCR := hide hcr; have HRX := hide hrx
  clear HR KB HBE HBR1 HBR hrow hcr
  go_wp2_with fail
  refine bodyPost_cellQQ strcE rfl g rfl (.slice A5 r5.length c5) (.bool true) rfl rfl rfl Ba (by rw [List.size_toArray]; exact HLx.out) ⟨ca6, _, .slice A5 r5.length c5, r5, true, x0, x1, x2, x3, x4, x5, rfl, Ra, ⟨A5, c5, rfl, HCR.out, HEX.out⟩, HRX.out, fun l0 d e0 e1 e2 e3 e4 e5 h0 => HRD.out l0 d e0 e1 e2 e3 e4 e5 h0, fun _ => rfl, ?_⟩
  first | exact Ka | (rw [HGG.out]; exact Ka)
set_option maxRecDepth 100000 in
set_option maxHeartbeats 20000000 in
theorem Rplaces_any {B : Nat} {S : Nat → Prop} {A : Option Addr} {c : Nat} {l : List UInt8} {cs : List Value} {E0 : Ev} {w : World} (hE : EvR w S cs E0) (hB : B ≤ w.heap.size) (hrow : Row w B A (bvs l)) (hcr : l.length ≤ c) (hrl : l.length ≤ 16777216) :
    Calls Tryz.prog 73 #[.agg cs.toArray, .slice A l.length c] w (PlacesV B (fun b => S b ∨ w.heap.size ≤ b) E0 l w) := by
  have BE := heap_alloc2_old w (.cells cs.toArray 34) (.cells evZero 34)
  have BR := heap_alloc2_new w (.cells cs.toArray 34) (.cells evZero 34)
  have KB := below_two w (.cells cs.toArray 34) (.cells evZero 34)
  have hsz : ((w.alloc (.cells cs.toArray 34)).alloc (.cells evZero 34)).heap.size = w.heap.size + 2 := by simp
  have hrow := hrow.extB KB hB
  have R := (hE.weak (S' := fun b => (S b ∧ b < w.heap.size) ∨ w.heap.size + 2 ≤ b) (fun b h1 h2 => .inl ⟨h1, h2⟩)).ext KB
  clear hE
  go_enter Tryz.func73, Tryz.ntmps73
  go_upto_region 2 with (refine wpList_zeroS rfl rfl strcE ?_)
  generalize (w.alloc (.cells cs.toArray 34)).alloc (.cells evZero 34) = W at BR BE KB hsz hrow R ⊢
  obtain ⟨g, hg⟩ : ∃ g, w.heap.size = g := ⟨_, rfl⟩
  rw [hg] at BR BE KB hsz R hB
  try simp only [hg]
  have HGG := hide hg
  clear hg
  have hs : g + 2 ≤ W.heap.size := by omega
  have hBu : B ≤ W.heap.size := by omega
  obtain ⟨ca6, hcsx⟩ : ∃ x, cs = x := ⟨_, rfl⟩
  rw [hcsx] at R BE
  clear hsz
  have hrx : l.length ≤ l.length := Nat.le_refl _
  obtain ⟨SS, hSSd⟩ : ∃ T : Nat → Prop, T = (fun b => (S b ∧ b < g) ∨ g + 2 ≤ b) := ⟨_, rfl⟩
  rw [← hSSd] at R
  have hSS : ∀ b, g + 2 ≤ b → SS b := fun b h => by rw [hSSd]; exact .inr h
  have hSE : ∀ b, SS b → b ≠ g := fun b h => by rw [hSSd] at h; omega
  have hSR : ∀ b, SS b → b ≠ g + 1 := fun b h => by rw [hSSd] at h; omega
  have hST : ∀ b, SS b → (S b ∨ w.heap.size ≤ b) := fun b h => by
    rw [hSSd] at h
    have := HGG.out
    rcases h with h | h
    · exact .inl h.1
    · exact .inr (by omega)
  clear hSSd hcsx
  have HR := hide R; clear R
  have HBR := hide BR; clear BR
  have CN := RGetInt_at (B := B) hBu hrow hcr hrl
  have hHL := hide HR.out.length
  go_wp2_with (first
    | (go_at_call 76; refine CN.mono ?_; rintro y u6 ⟨x6, r6, ok, ⟨A6, c6, rfl, hrow, hcr, hbk⟩, hres⟩; have BE1 := box_below BE hbk)
    | refine wpList_store1 rfl (.tmp 14) (.tmp 11) rfl rfl sizeI g 6 rfl (.int .i64 x6) rfl rfl ca6 34 BE1 (by rw [hHL.out]; simp) ?_)
  intro y6 B2 g2 zz
  have hrl : r6.length ≤ 16777216 := Nat.le_trans (resI_len hres) hrl
  have hrx : r6.length ≤ l.length := Nat.le_trans (resI_len hres) hrx
  have hRES6 := hide hres
  have hs1 : g + 2 ≤ u6.heap.size := Nat.le_trans hs hbk.size
  have R := ((HR.out.ext hbk).grown g2 (fun b hb e => by injection e with e; exact hSE b hb e.symm)).q6 x6
  have hrow := hrow.grownB g2 (by omega) (by omega)
  have KB := (KB.trans (hbk.mono (by omega))).grown g2 (by omega) (fun q hq => by injection hq with hq; omega)
  have BR := box_grown (box_below HBR.out hbk) g2 (by omega)
  have hs : g + 2 ≤ y6.heap.size := by have := g2.size; omega
  have hBu : B ≤ y6.heap.size := by omega
  clear hres hbk BE1 BE HR HBR g2 zz CN hHL
  obtain ⟨ca7, hcsy⟩ : ∃ x, patch ca6 6 [.int .i64 x6] = x := ⟨_, rfl⟩
  rw [hcsy] at R B2
  clear hcsy
  have BE := B2
  clear B2
  have HR := hide R; clear R
  have HBR := hide BR; clear BR
  cases ok
  case false =>
    have HRD := hide (show ∀ (l0 : List UInt8) (d : Rd), d.time = x6 → Rds l0 d 6 l false → Rds l0 d 10 [] true from fun l0 d e6 h0 => by
      have H7 : Rds l0 d 7 r6 true := h0.s6 (okb := false) (fun _ => by rw [e6]; exact hRES6.out)
      exact H7.spoilt _ _)
    have HLx := hide HR.out.length; have HOx := hide HR.out.one
    have HBE := hide BE; have HBR1 := HBR.out
    go_wp2_with (first
      | refine wpList_loadS rfl (.tmp 2) rfl strcE ⟨g, 0, none⟩ rfl ca7 HLx.out (box_all HBE.out) ?_
      | refine wpList_storeB rfl (.tmp 4) (.tmp 17) rfl rfl strcE (g + 1) 0 rfl ca7 rfl HLx.out HOx.out evZero.toList 34 HBR1 (by decide) ?_)
    intro wa Ba ga za
    rw [patch_all _ _ (by rw [HLx.out]; rfl)] at Ba
    have Ra := (HR.out.grown ga (fun b hb e => by injection e with e; exact hSR b hb e.symm)).weak (S' := fun b => S b ∨ w.heap.size ≤ b) (fun b hb _ => hST b hb)
    have Ka := KB.grown ga (by have := KB.size; omega) (fun q hq => by injection hq with hq; omega)
    clear HR KB HBE HBR1 HBR
    go_wp2_with fail
    refine bodyPost_cellQQ strcE rfl (g + 1) rfl (.slice none 0 0) (.bool false) rfl rfl rfl Ba (by rw [List.size_toArray]; exact HLx.out) ⟨ca7, _, .slice none 0 0, [], false, x6, 0, [], [], rfl, Ra, ⟨none, 0, rfl, Nat.le_refl _, Row.nil⟩, Nat.zero_le _, fun l0 d e6 e7 e8 e9 h0 => HRD.out l0 d e6 h0, (fun h => by cases h), ?_⟩
    first | exact Ka | (rw [HGG.out]; exact Ka)
  have CN := RGetInt_at (B := B) hBu hrow hcr hrl
  have hHL := hide HR.out.length
  go_wp2_with (first
    | (go_at_call 76; refine CN.mono ?_; rintro y u7 ⟨x7, r7, ok, ⟨A7, c7, rfl, hrow, hcr, hbk⟩, hres⟩; have BE1 := box_below BE hbk)
    | refine wpList_store1 rfl (.tmp 24) (.tmp 21) rfl rfl sizeI g 7 rfl (.int .i64 x7) rfl rfl ca7 34 BE1 (by rw [hHL.out]; simp) ?_)
  intro y7 B2 g2 zz
  have hrl : r7.length ≤ 16777216 := Nat.le_trans (resI_len hres) hrl
  have hrx : r7.length ≤ l.length := Nat.le_trans (resI_len hres) hrx
  have hRES7 := hide hres
  have hs1 : g + 2 ≤ u7.heap.size := Nat.le_trans hs hbk.size
  have R := ((HR.out.ext hbk).grown g2 (fun b hb e => by injection e with e; exact hSE b hb e.symm)).q7 x7
  have hrow := hrow.grownB g2 (by omega) (by omega)
  have KB := (KB.trans (hbk.mono (by omega))).grown g2 (by omega) (fun q hq => by injection hq with hq; omega)
  have BR := box_grown (box_below HBR.out hbk) g2 (by omega)
  have hs : g + 2 ≤ y7.heap.size := by have := g2.size; omega
  have hBu : B ≤ y7.heap.size := by omega
  clear hres hbk BE1 BE HR HBR g2 zz CN hHL
  obtain ⟨ca8, hcsy⟩ : ∃ x, patch ca7 7 [.int .i64 x7] = x := ⟨_, rfl⟩
  rw [hcsy] at R B2
  clear hcsy
  have BE := B2
  clear B2
  have HR := hide R; clear R
  have HBR := hide BR; clear BR
  cases ok
  case false =>
    have HRD := hide (show ∀ (l0 : List UInt8) (d : Rd), d.time = x6 → d.depth = x7 → Rds l0 d 6 l false → Rds l0 d 10 [] true from fun l0 d e6 e7 h0 => by
      have H7 : Rds l0 d 7 r6 false := h0.s6 (okb := true) (fun _ => by rw [e6]; exact hRES6.out)
      have H8 : Rds l0 d 8 r7 true := H7.s7 (okb := false) (fun _ => by rw [e7]; exact hRES7.out)
      exact H8.spoilt _ _)
    have HLx := hide HR.out.length; have HOx := hide HR.out.one
    have HBE := hide BE; have HBR1 := HBR.out
    go_wp2_with (first
      | refine wpList_loadS rfl (.tmp 2) rfl strcE ⟨g, 0, none⟩ rfl ca8 HLx.out (box_all HBE.out) ?_
      | refine wpList_storeB rfl (.tmp 4) (.tmp 27) rfl rfl strcE (g + 1) 0 rfl ca8 rfl HLx.out HOx.out evZero.toList 34 HBR1 (by decide) ?_)
    intro wa Ba ga za
    rw [patch_all _ _ (by rw [HLx.out]; rfl)] at Ba
    have Ra := (HR.out.grown ga (fun b hb e => by injection e with e; exact hSR b hb e.symm)).weak (S' := fun b => S b ∨ w.heap.size ≤ b) (fun b hb _ => hST b hb)
    have Ka := KB.grown ga (by have := KB.size; omega) (fun q hq => by injection hq with hq; omega)
    clear HR KB HBE HBR1 HBR
    go_wp2_with fail
    refine bodyPost_cellQQ strcE rfl (g + 1) rfl (.slice none 0 0) (.bool false) rfl rfl rfl Ba (by rw [List.size_toArray]; exact HLx.out) ⟨ca8, _, .slice none 0 0, [], false, x6, x7, [], [], rfl, Ra, ⟨none, 0, rfl, Nat.le_refl _, Row.nil⟩, Nat.zero_le _, fun l0 d e6 e7 e8 e9 h0 => HRD.out l0 d e6 e7 h0, (fun h => by cases h), ?_⟩
    first | exact Ka | (rw [HGG.out]; exact Ka)
  have CN := RGetInts_at (B := B) hBu hrow hcr hrl
  have hHL := hide HR.out.length
  go_wp2_with (first
    | (go_at_call 139; refine CN.mono ?_; rintro y u8 ⟨x8, r8, ok, ⟨v8, A8, c8, rfl, hownt, hrow, hcr, hbk⟩, hres⟩; have BE1 := box_below BE hbk; have hsl := Slc.own hownt (by decide))
    | refine wpList_store1 rfl (.tmp 34) (.tmp 31) rfl rfl sizeIs7 g 8 rfl (v8) rfl hsl.one ca8 34 BE1 (by rw [hHL.out]; simp) ?_)
  intro y8 B2 g2 zz
  have hsl := hsl
  rw [show (ivs x8).length = x8.length by simp [ivs]] at hsl
  have hrl : r8.length ≤ 16777216 := Nat.le_trans (resIs_len hres) hrl
  have hrx : r8.length ≤ l.length := Nat.le_trans (resIs_len hres) hrx
  have hRES8 := hide hres
  have hs1 : g + 2 ≤ u8.heap.size := Nat.le_trans hs hbk.size
  have SL := (hsl.weak (S' := SS) (fun b h _ => hSS b (Nat.le_trans hs h))).grown g2 (fun b hb e => by injection e with e; exact hSE b hb e.symm)
  have R := ((HR.out.ext hbk).grown g2 (fun b hb e => by injection e with e; exact hSE b hb e.symm)).q8 SL
  have hrow := hrow.grownB g2 (by omega) (by omega)
  have KB := (KB.trans (hbk.mono (by omega))).grown g2 (by omega) (fun q hq => by injection hq with hq; omega)
  have BR := box_grown (box_below HBR.out hbk) g2 (by omega)
  have hs : g + 2 ≤ y8.heap.size := by have := g2.size; omega
  have hBu : B ≤ y8.heap.size := by omega
  clear hres hbk BE1 BE HR HBR g2 zz CN hHL
  obtain ⟨ca9, hcsy⟩ : ∃ x, patch ca8 8 [v8] = x := ⟨_, rfl⟩
  rw [hcsy] at R B2
  clear hcsy
  have BE := B2
  clear B2
  have HR := hide R; clear R
  have HBR := hide BR; clear BR
  cases ok
  case false =>
    have HRD := hide (show ∀ (l0 : List UInt8) (d : Rd), d.time = x6 → d.depth = x7 → d.prev = x8 → Rds l0 d 6 l false → Rds l0 d 10 [] true from fun l0 d e6 e7 e8 h0 => by
      have H7 : Rds l0 d 7 r6 false := h0.s6 (okb := true) (fun _ => by rw [e6]; exact hRES6.out)
      have H8 : Rds l0 d 8 r7 false := H7.s7 (okb := true) (fun _ => by rw [e7]; exact hRES7.out)
      have H9 : Rds l0 d 9 r8 true := H8.s8 (okb := false) (fun _ => by rw [e8]; exact hRES8.out)
      exact H9.spoilt _ _)
    have HLx := hide HR.out.length; have HOx := hide HR.out.one
    have HBE := hide BE; have HBR1 := HBR.out
    go_wp2_with (first
      | refine wpList_loadS rfl (.tmp 2) rfl strcE ⟨g, 0, none⟩ rfl ca9 HLx.out (box_all HBE.out) ?_
      | refine wpList_storeB rfl (.tmp 4) (.tmp 37) rfl rfl strcE (g + 1) 0 rfl ca9 rfl HLx.out HOx.out evZero.toList 34 HBR1 (by decide) ?_)
    intro wa Ba ga za
    rw [patch_all _ _ (by rw [HLx.out]; rfl)] at Ba
    have Ra := (HR.out.grown ga (fun b hb e => by injection e with e; exact hSR b hb e.symm)).weak (S' := fun b => S b ∨ w.heap.size ≤ b) (fun b hb _ => hST b hb)
    have Ka := KB.grown ga (by have := KB.size; omega) (fun q hq => by injection hq with hq; omega)
    clear HR KB HBE HBR1 HBR
    go_wp2_with fail
    refine bodyPost_cellQQ strcE rfl (g + 1) rfl (.slice none 0 0) (.bool false) rfl rfl rfl Ba (by rw [List.size_toArray]; exact HLx.out) ⟨ca9, _, .slice none 0 0, [], false, x6, x7, x8, [], rfl, Ra, ⟨none, 0, rfl, Nat.le_refl _, Row.nil⟩, Nat.zero_le _, fun l0 d e6 e7 e8 e9 h0 => HRD.out l0 d e6 e7 e8 h0, (fun h => by cases h), ?_⟩
    first | exact Ka | (rw [HGG.out]; exact Ka)
  have CN := RGetInts_at (B := B) hBu hrow hcr hrl
  have hHL := hide HR.out.length
  go_wp2_with (first
    | (go_at_call 139; refine CN.mono ?_; rintro y u9 ⟨x9, r9, ok, ⟨v9, A9, c9, rfl, hownt, hrow, hcr, hbk⟩, hres⟩; have BE1 := box_below BE hbk; have hsl := Slc.own hownt (by decide))
    | refine wpList_store1 rfl (.tmp 44) (.tmp 41) rfl rfl sizeIs7 g 9 rfl (v9) rfl hsl.one ca9 34 BE1 (by rw [hHL.out]; simp) ?_)
  intro y9 B2 g2 zz
  have hsl := hsl
  rw [show (ivs x9).length = x9.length by simp [ivs]] at hsl
  have hrl : r9.length ≤ 16777216 := Nat.le_trans (resIs_len hres) hrl
  have hrx : r9.length ≤ l.length := Nat.le_trans (resIs_len hres) hrx
  have hRES9 := hide hres
  have hs1 : g + 2 ≤ u9.heap.size := Nat.le_trans hs hbk.size
  have SL := (hsl.weak (S' := SS) (fun b h _ => hSS b (Nat.le_trans hs h))).grown g2 (fun b hb e => by injection e with e; exact hSE b hb e.symm)
  have R := ((HR.out.ext hbk).grown g2 (fun b hb e => by injection e with e; exact hSE b hb e.symm)).q9 SL
  have hrow := hrow.grownB g2 (by omega) (by omega)
  have KB := (KB.trans (hbk.mono (by omega))).grown g2 (by omega) (fun q hq => by injection hq with hq; omega)
  have BR := box_grown (box_below HBR.out hbk) g2 (by omega)
  have hs : g + 2 ≤ y9.heap.size := by have := g2.size; omega
  have hBu : B ≤ y9.heap.size := by omega
  clear hres hbk BE1 BE HR HBR g2 zz CN hHL
  obtain ⟨ca10, hcsy⟩ : ∃ x, patch ca9 9 [v9] = x := ⟨_, rfl⟩
  rw [hcsy] at R B2
  clear hcsy
  have BE := B2
  clear B2
  have HR := hide R; clear R
  have HBR := hide BR; clear BR
  cases ok
  case false =>
    have HRD := hide (show ∀ (l0 : List UInt8) (d : Rd), d.time = x6 → d.depth = x7 → d.prev = x8 → d.auth = x9 → Rds l0 d 6 l false → Rds l0 d 10 [] true from fun l0 d e6 e7 e8 e9 h0 => by
      have H7 : Rds l0 d 7 r6 false := h0.s6 (okb := true) (fun _ => by rw [e6]; exact hRES6.out)
      have H8 : Rds l0 d 8 r7 false := H7.s7 (okb := true) (fun _ => by rw [e7]; exact hRES7.out)
      have H9 : Rds l0 d 9 r8 false := H8.s8 (okb := true) (fun _ => by rw [e8]; exact hRES8.out)
      have H10 : Rds l0 d 10 r9 true := H9.s9 (okb := false) (fun _ => by rw [e9]; exact hRES9.out)
      exact H10.spoilt _ _)
    have HLx := hide HR.out.length; have HOx := hide HR.out.one
    have HBE := hide BE; have HBR1 := HBR.out
    go_wp2_with (first
      | refine wpList_loadS rfl (.tmp 2) rfl strcE ⟨g, 0, none⟩ rfl ca10 HLx.out (box_all HBE.out) ?_
      | refine wpList_storeB rfl (.tmp 4) (.tmp 47) rfl rfl strcE (g + 1) 0 rfl ca10 rfl HLx.out HOx.out evZero.toList 34 HBR1 (by decide) ?_)
    intro wa Ba ga za
    rw [patch_all _ _ (by rw [HLx.out]; rfl)] at Ba
    have Ra := (HR.out.grown ga (fun b hb e => by injection e with e; exact hSR b hb e.symm)).weak (S' := fun b => S b ∨ w.heap.size ≤ b) (fun b hb _ => hST b hb)
    have Ka := KB.grown ga (by have := KB.size; omega) (fun q hq => by injection hq with hq; omega)
    clear HR KB HBE HBR1 HBR
    go_wp2_with fail
    refine bodyPost_cellQQ strcE rfl (g + 1) rfl (.slice none 0 0) (.bool false) rfl rfl rfl Ba (by rw [List.size_toArray]; exact HLx.out) ⟨ca10, _, .slice none 0 0, [], false, x6, x7, x8, x9, rfl, Ra, ⟨none, 0, rfl, Nat.le_refl _, Row.nil⟩, Nat.zero_le _, fun l0 d e6 e7 e8 e9 h0 => HRD.out l0 d e6 e7 e8 e9 h0, (fun h => by cases h), ?_⟩
    first | exact Ka | (rw [HGG.out]; exact Ka)
  have HRD := hide (show ∀ (l0 : List UInt8) (d : Rd), d.time = x6 → d.depth = x7 → d.prev = x8 → d.auth = x9 → Rds l0 d 6 l false → Rds l0 d 10 r9 false from fun l0 d e6 e7 e8 e9 h0 => by
    have H7 : Rds l0 d 7 r6 false := h0.s6 (okb := true) (fun _ => by rw [e6]; exact hRES6.out)
    have H8 : Rds l0 d 8 r7 false := H7.s7 (okb := true) (fun _ => by rw [e7]; exact hRES7.out)
    have H9 : Rds l0 d 9 r8 false := H8.s8 (okb := true) (fun _ => by rw [e8]; exact hRES8.out)
    have H10 : Rds l0 d 10 r9 false := H9.s9 (okb := true) (fun _ => by rw [e9]; exact hRES9.out)
    exact H10)
  have HLx := hide HR.out.length; have HOx := hide HR.out.one
  have HBE := hide BE; have HBR1 := HBR.out
  go_wp2_with (first
    | refine wpList_loadS rfl (.tmp 2) rfl strcE ⟨g, 0, none⟩ rfl ca10 HLx.out (box_all HBE.out) ?_
    | refine wpList_storeB rfl (.tmp 4) (.tmp 48) rfl rfl strcE (g + 1) 0 rfl ca10 rfl HLx.out HOx.out evZero.toList 34 HBR1 (by decide) ?_)
  intro wa Ba ga za
  rw [patch_all _ _ (by rw [HLx.out]; rfl)] at Ba
  have Ra := (HR.out.grown ga (fun b hb e => by injection e with e; exact hSR b hb e.symm)).weak (S' := fun b => S b ∨ w.heap.size ≤ b) (fun b hb _ => hST b hb)
  have hrow := hrow.grownB ga (by omega) (by omega)
  have Ka := KB.grown ga (by have := KB.size; omega) (fun q hq => by injection hq with hq; omega)
  have HEX := hide hrow; have HCR := hide hcr; have HRX := hide hrx
  clear HR KB HBE HBR1 HBR hrow hcr
  go_wp2_with fail
  refine bodyPost_cellQQ strcE rfl (g + 1) rfl (.slice A9 r9.length c9) (.bool true) rfl rfl rfl Ba (by rw [List.size_toArray]; exact HLx.out) ⟨ca10, _, .slice A9 r9.length c9, r9, true, x6, x7, x8, x9, rfl, Ra, ⟨A9, c9, rfl, HCR.out, HEX.out⟩, HRX.out, fun l0 d e6 e7 e8 e9 h0 => HRD.out l0 d e6 e7 e8 e9 h0, fun _ => rfl, ?_⟩
  first | exact Ka | (rw [HGG.out]; exact Ka)
set_option maxRecDepth 100000 in
set_option maxHeartbeats 20000000 in
theorem R7Decode_any {A : Option Addr} {c : Nat} {l : List UInt8} {w : World} (hr : Row w w.heap.size A (bvs l)) (hc : l.length ≤ c) (hl : l.length ≤ 16777216) :
    Calls Tryz.prog 32 #[.slice A l.length c] w (DecEV l w) := by
  have BR := heap_alloc_new w (.cells evZero 34)
  have KB := ext_alloc (ext_refl w) (.cells evZero 34)
  have hsz : (w.alloc (.cells evZero 34)).heap.size = w.heap.size + 1 := by simp
  have hrow := hr.extB KB (Nat.le_refl _)
  clear hr
  go_enter Tryz.func32, Tryz.ntmps32
  go_upto_region 1 with (refine wpList_zeroS rfl rfl strcE ?_)
  generalize w.alloc (.cells evZero 34) = W at BR KB hsz hrow ⊢
  obtain ⟨g, hg⟩ : ∃ g, w.heap.size = g := ⟨_, rfl⟩
  rw [hg] at BR KB hsz hrow
  try simp only [hg]
  have HGG := hide hg
  clear hg
  have CN := Rnames_any (B := g) (by omega) hrow hc hl
  go_upto_region 2 with (first
    | (go_at_call 72; refine CN.mono ?_; rintro x u1 ⟨cs1, E1, v1, r5, ok1, x0, x1, x2, x3, x4, x5, rfl, R1, ⟨A1, c1, rfl, hc1, hrow1⟩, hl1, hd1, hE1, hb1⟩; have HL1 := hide R1.length; have HO1 := hide R1.one)
    | refine wpList_newS rfl rfl strcE rfl (.tmp 4) (.tmp 10) rfl rfl rfl cs1.toArray rfl (by simpa using HL1.out) (by simpa using HO1.out) ?_)
  have BE := heap_alloc_new u1 (.cells cs1.toArray 34)
  have kx := ext_alloc (ext_refl u1) (.cells cs1.toArray 34)
  have hgE : g < u1.heap.size := by have := hb1.size; omega
  have R := (R1.weak (S' := fun b => g < b ∧ b ≠ u1.heap.size) (fun b h1 h2 => ⟨by omega, by omega⟩)).ext kx
  have k1 := ext_trans hb1 kx
  have hrow := hrow1.extB kx (by omega)
  have KB := KB.trans (k1.mono (by omega))
  have BR := box_below BR k1
  have hu : u1.heap.size < (u1.alloc (.cells cs1.toArray 34)).heap.size := by simp
  have HD1 := hide hd1; have HE1 := hide hE1
  generalize u1.alloc (.cells cs1.toArray 34) = u2 at BE kx R hrow KB BR hu ⊢
  generalize u1.heap.size = gE at BE hgE R hu kx ⊢
  clear kx k1 hb1 R1 hrow1 CN hd1 hE1 hsz
  have HR := hide R; have HBR := hide BR; have HBE := hide BE
  clear R BR BE
  have hrl : r5.length ≤ 16777216 := by omega
  cases ok1
  case false =>
    have HNV := hide (show ∀ e : Ev, e.told → l = encEv e → False from fun e h1 h2 => (HD1.out l ⟨x0, x1, x2, x3, x4, x5, 0, 0, [], [], [], 0, [], 0⟩ rfl rfl rfl rfl rfl rfl (Rds.zero l _)).never h1 h2)
    have HBR1 := HBR.out
    clear HBR
    go_wp2_with (refine wpList_storeB rfl (.tmp 2) (.tmp 15) rfl rfl strcE g 0 rfl evZero.toList rfl rfl (by decide) evZero.toList 34 HBR1 (by decide) ?_)
    intro wa Ba ga za
    rw [patch_all _ _ rfl] at Ba
    have Ka := KB.grown ga (by have := KB.size; omega) (fun q hq => by injection hq with hq; omega)
    go_wp2_with fail
    refine bodyPost_cellQ strcE rfl g rfl (.bool false) rfl rfl Ba (by decide) ⟨evZero.toList, Ev.zero, false, rfl, evZero_R _ _, (fun h => by cases h), fun _ => rfl, fun e h1 h2 => (HNV.out e h1 h2).elim, ?_⟩
    first | exact Ka | (rw [HGG.out]; exact Ka)

  have CP := Rplaces_any (B := g) HR.out (by omega) hrow hc1 hrl
  go_wp2_with (first
    | refine wpList_loadS rfl (.tmp 4) rfl strcE ⟨gE, 0, none⟩ rfl cs1 HL1.out (box_all HBE.out) ?_
    | (go_at_call 73; refine CP.mono ?_; rintro x u3 ⟨cs2, E2, v2, r9, ok2, x6, x7, x8, x9, rfl, R2, ⟨A2, c2, rfl, hc2, hrow2⟩, hl2, hd2, hE2, hb2⟩; have HL2 := hide R2.length; have HO2 := hide R2.one; have BE1 := box_below HBE.out hb2)
    | refine wpList_storeB rfl (.tmp 4) (.tmp 20) rfl rfl strcE gE 0 rfl cs2 rfl HL2.out HO2.out cs1 34 BE1 (by rw [HL1.out]; simp) ?_)
  intro y3 B2 g2 zz
  rw [patch_all _ _ (by rw [HL1.out, HL2.out])] at B2
  have R := (R2.weak (S' := fun b => g < b ∧ b ≠ gE) (fun b h1 h2 => by rcases h1 with h1 | h1; exact h1; exact ⟨by omega, by omega⟩)).grown g2 (fun b hb e => by injection e with e; omega)
  have hu3 : gE < u3.heap.size := by have := hb2.size; omega
  have hrow := hrow2.grownB g2 (by omega) (by omega)
  have KB := (KB.trans (hb2.mono (by omega))).grown g2 (by omega) (fun q hq => by injection hq with hq; omega)
  have BR := box_grown (box_below HBR.out hb2) g2 (by omega)
  have hu : gE < y3.heap.size := by have := g2.size; omega
  have HD2 := hide hd2; have HE2 := hide hE2
  clear HR HBR HBE R2 hrow2 g2 zz BE1 hb2 CP hd2 hE2 hu3
  have HR := hide R; have HBR := hide BR; have HBE := hide B2
  clear R BR B2
  have hrl : r9.length ≤ 16777216 := by omega
  cases ok2
  case false =>
    have HNV := hide (show ∀ e : Ev, e.told → l = encEv e → False from fun e h1 h2 => (HD2.out l ⟨x0, x1, x2, x3, x4, x5, x6, x7, x8, x9, [], 0, [], 0⟩ rfl rfl rfl rfl (HD1.out l _ rfl rfl rfl rfl rfl rfl (Rds.zero l _))).never h1 h2)
    have HBR1 := HBR.out
    clear HBR
    go_wp2_with (refine wpList_storeB rfl (.tmp 2) (.tmp 25) rfl rfl strcE g 0 rfl evZero.toList rfl rfl (by decide) evZero.toList 34 HBR1 (by decide) ?_)
    intro wa Ba ga za
    rw [patch_all _ _ rfl] at Ba
    have Ka := KB.grown ga (by have := KB.size; omega) (fun q hq => by injection hq with hq; omega)
    go_wp2_with fail
    refine bodyPost_cellQ strcE rfl g rfl (.bool false) rfl rfl Ba (by decide) ⟨evZero.toList, Ev.zero, false, rfl, evZero_R _ _, (fun h => by cases h), fun _ => rfl, fun e h1 h2 => (HNV.out e h1 h2).elim, ?_⟩
    first | exact Ka | (rw [HGG.out]; exact Ka)

  have HH10 := hide (fun (d : Rd) (e0 : d.id = x0) (e1 : d.room = x1) (e2 : d.sender = x2) (e3 : d.kind = x3) (e4 : d.state = x4) (e5 : d.key = x5) (e6 : d.time = x6) (e7 : d.depth = x7) (e8 : d.prev = x8) (e9 : d.auth = x9) => (HD2.out l d e6 e7 e8 e9 (HD1.out l d e0 e1 e2 e3 e4 e5 (Rds.zero l d)) : Rds l d 10 r9 false))
  -- the content
  have CT := RGetText_at (B := g) (by omega) hrow hc2 hrl
  go_wp2_with (go_at_call 74; refine CT.mono ?_)
  rintro y u4 ⟨x10, r10, ok, ⟨A10, c10, rfl, hrow10, hc10, hb4⟩, hres⟩
  have hxl : x10.length ≤ 16777216 := Nat.le_trans (resS_len hres).2 hrl
  have hrl : r10.length ≤ 16777216 := Nat.le_trans (resS_len hres).1 hrl
  have HRES10 := hide hres
  have R := HR.out.ext hb4
  have KB := KB.trans (hb4.mono (by omega))
  have BR := box_below HBR.out hb4
  have BE := box_below HBE.out hb4
  have hu : gE < u4.heap.size := Nat.lt_of_lt_of_le hu hb4.size
  clear HR HBR HBE hb4 CT hrow hres hc2 hc1
  have HR := hide R; have HBR := hide BR; have HBE := hide BE
  clear R BR BE
  cases ok
  case false =>
    have HNV := hide (show ∀ e : Ev, e.told → l = encEv e → False from fun e h1 h2 => (Rds.s10 (d := ⟨x0, x1, x2, x3, x4, x5, x6, x7, x8, x9, x10, 0, [], 0⟩) (okb := false) (HH10.out _ rfl rfl rfl rfl rfl rfl rfl rfl rfl rfl) (fun _ => HRES10.out)).never h1 h2)
    have HBR1 := HBR.out
    clear HBR
    go_wp2_with (refine wpList_storeB rfl (.tmp 2) (.tmp 34) rfl rfl strcE g 0 rfl evZero.toList rfl rfl (by decide) evZero.toList 34 HBR1 (by decide) ?_)
    intro wa Ba ga za
    rw [patch_all _ _ rfl] at Ba
    have Ka := KB.grown ga (by have := KB.size; omega) (fun q hq => by injection hq with hq; omega)
    go_wp2_with fail
    refine bodyPost_cellQ strcE rfl g rfl (.bool false) rfl rfl Ba (by decide) ⟨evZero.toList, Ev.zero, false, rfl, evZero_R _ _, (fun h => by cases h), fun _ => rfl, fun e h1 h2 => (HNV.out e h1 h2).elim, ?_⟩
    first | exact Ka | (rw [HGG.out]; exact Ka)

  have HH11 := hide (fun (d : Rd) (e0 : d.id = x0) (e1 : d.room = x1) (e2 : d.sender = x2) (e3 : d.kind = x3) (e4 : d.state = x4) (e5 : d.key = x5) (e6 : d.time = x6) (e7 : d.depth = x7) (e8 : d.prev = x8) (e9 : d.auth = x9) (e10 : d.text = x10) => (Rds.s10 (okb := true) (HH10.out d e0 e1 e2 e3 e4 e5 e6 e7 e8 e9) (fun _ => by rw [e10]; exact HRES10.out) : Rds l d 11 r10 false))
  go_wp2_with (with_reducible refine wpList_to_bytes rfl (.tmp 36) 9 48 5 rfl Tryz.underlying9 Tryz.underlying48 Tryz.underlying5 (str x10) rfl ?_)
  intro At ct ut hrt hct hbt
  rw [str_data] at hrt
  have CD := R6Decode_any (c := ct) hrt (by rw [← str_size]; exact hct) hxl
  rw [← str_size] at CD
  have R := HR.out.ext hbt
  have hrow := hrow10.extB hbt (by omega)
  have KB := KB.trans (hbt.mono (by omega))
  have BR := box_below HBR.out hbt
  have BE := box_below HBE.out hbt
  have hu : gE < ut.heap.size := Nat.lt_of_lt_of_le hu hbt.size
  clear hrt hct hbt HR HBR HBE hrow10
  have HR := hide R; have HBR := hide BR
  clear R BR
  go_wp2_with (first
    | (go_at_call 75; refine CD.mono ?_; rintro y ud ⟨csC, C, okc, rfl, RC, hfine, hc1, hc2, hbd⟩; have HLC := hide RC.length; have HOC := hide RC.one; have BE1 := box_below BE hbd)
    | refine wpList_storeB rfl (.tmp 41) (.tmp 39) rfl rfl strcC gE 10 rfl csC rfl HLC.out HOC.out cs2 34 BE1 (by rw [HL2.out]; simp) ?_)
  intro y4 B2 g2 zz
  have HF := hide hfine; have HC1 := hide hc1; have HC2 := hide hc2
  have RC := (RC.weak (S' := fun b => g < b ∧ b ≠ gE) (fun b h1 h2 => ⟨by omega, by omega⟩)).grown6 g2 (fun b hb e => by injection e with e; omega)
  have R := ((HR.out.ext hbd).grown g2 (fun b hb e => by injection e with e; omega)).q10 RC
  have hud : gE < ud.heap.size := Nat.lt_of_lt_of_le hu hbd.size
  have hrow := (hrow.extB hbd (by omega)).grownB g2 (by omega) (by omega)
  have KB := (KB.trans (hbd.mono (by omega))).grown g2 (by omega) (fun q hq => by injection hq with hq; omega)
  have BR := box_grown (box_below HBR.out hbd) g2 (by omega)
  have hu : gE < y4.heap.size := by have := g2.size; omega
  clear HR HBR BE BE1 g2 zz RC hbd CD hfine hc1 hc2 hud
  obtain ⟨ca11, hcsy⟩ : ∃ x, patch cs2 10 csC = x := ⟨_, rfl⟩
  rw [hcsy] at R B2
  clear hcsy
  have HR := hide R; have HBR := hide BR; have BE := B2
  clear R BR B2
  cases okc
  case false =>
    have HNV := hide (show ∀ e : Ev, e.told → l = encEv e → False from fun e h1 h2 => (HC2.out rfl).2 e.con h1.con (by have h := ((HH11.out ⟨x0, x1, x2, x3, x4, x5, x6, x7, x8, x9, x10, 0, [], 0⟩ rfl rfl rfl rfl rfl rfl rfl rfl rfl rfl rfl).2 e h1 h2).2.1.2; replace h : (str (encCon e.con)).data.toList = x10 := h; rw [str_data] at h; exact h.symm))
    have HBR1 := HBR.out
    clear HBR
    go_wp2_with (refine wpList_storeB rfl (.tmp 2) (.tmp 44) rfl rfl strcE g 0 rfl evZero.toList rfl rfl (by decide) evZero.toList 34 HBR1 (by decide) ?_)
    intro wa Ba ga za
    rw [patch_all _ _ rfl] at Ba
    have Ka := KB.grown ga (by have := KB.size; omega) (fun q hq => by injection hq with hq; omega)
    go_wp2_with fail
    refine bodyPost_cellQ strcE rfl g rfl (.bool false) rfl rfl Ba (by decide) ⟨evZero.toList, Ev.zero, false, rfl, evZero_R _ _, (fun h => by cases h), fun _ => rfl, fun e h1 h2 => (HNV.out e h1 h2).elim, ?_⟩
    first | exact Ka | (rw [HGG.out]; exact Ka)

  have CN := RGetInt_at (B := g) (by omega) hrow hc10 hrl
  have hHL := hide HR.out.length
  go_wp2_with (first
    | (go_at_call 76; refine CN.mono ?_; rintro y u11 ⟨x11, r11, ok, ⟨A11, c11, rfl, hrow11, hc11, hbk⟩, hres⟩; have BE1 := box_below BE hbk)
    | refine wpList_store1 rfl (.tmp 51) (.tmp 48) rfl rfl sizeI gE 26 rfl (.int .i64 x11) rfl rfl ca11 34 BE1 (by rw [hHL.out]; simp) ?_)
  intro y11 B2 g2 zz
  have hrl : r11.length ≤ 16777216 := Nat.le_trans (resI_len hres) hrl
  have HRES11 := hide hres
  have huk : gE < u11.heap.size := Nat.lt_of_lt_of_le hu hbk.size
  have R := ((HR.out.ext hbk).grown g2 (fun b hb e => by injection e with e; omega)).q26 x11
  have hrow := hrow11.grownB g2 (by omega) (by omega)
  have KB := (KB.trans (hbk.mono (by omega))).grown g2 (by omega) (fun q hq => by injection hq with hq; omega)
  have BR := box_grown (box_below HBR.out hbk) g2 (by omega)
  have hu : gE < y11.heap.size := by have := g2.size; omega
  clear HR HBR BE BE1 g2 zz hbk CN hHL hrow11 hres huk
  obtain ⟨ca12, hcsy⟩ : ∃ x, patch ca11 26 [.int .i64 x11] = x := ⟨_, rfl⟩
  rw [hcsy] at R B2
  clear hcsy
  have HR := hide R; have HBR := hide BR; have BE := B2
  clear R BR B2
  cases ok
  case false =>
    have HNV := hide (show ∀ e : Ev, e.told → l = encEv e → False from fun e h1 h2 => (Rds.s11 (d := ⟨x0, x1, x2, x3, x4, x5, x6, x7, x8, x9, x10, x11, [], 0⟩) (okb := false) (HH11.out _ rfl rfl rfl rfl rfl rfl rfl rfl rfl rfl rfl) (fun _ => HRES11.out)).never h1 h2)
    have HBR1 := HBR.out
    clear HBR
    go_wp2_with (refine wpList_storeB rfl (.tmp 2) (.tmp 54) rfl rfl strcE g 0 rfl evZero.toList rfl rfl (by decide) evZero.toList 34 HBR1 (by decide) ?_)
    intro wa Ba ga za
    rw [patch_all _ _ rfl] at Ba
    have Ka := KB.grown ga (by have := KB.size; omega) (fun q hq => by injection hq with hq; omega)
    go_wp2_with fail
    refine bodyPost_cellQ strcE rfl g rfl (.bool false) rfl rfl Ba (by decide) ⟨evZero.toList, Ev.zero, false, rfl, evZero_R _ _, (fun h => by cases h), fun _ => rfl, fun e h1 h2 => (HNV.out e h1 h2).elim, ?_⟩
    first | exact Ka | (rw [HGG.out]; exact Ka)

  have HH12 := hide (fun (d : Rd) (e0 : d.id = x0) (e1 : d.room = x1) (e2 : d.sender = x2) (e3 : d.kind = x3) (e4 : d.state = x4) (e5 : d.key = x5) (e6 : d.time = x6) (e7 : d.depth = x7) (e8 : d.prev = x8) (e9 : d.auth = x9) (e10 : d.text = x10) (e11 : d.hash = x11) => (Rds.s11 (okb := true) (HH11.out d e0 e1 e2 e3 e4 e5 e6 e7 e8 e9 e10) (fun _ => by rw [e11]; exact HRES11.out) : Rds l d 12 r11 false))
  have CN := RGetText_at (B := g) (by omega) hrow hc11 hrl
  have hHL := hide HR.out.length
  go_wp2_with (first
    | (go_at_call 74; refine CN.mono ?_; rintro y u12 ⟨x12, r12, ok, ⟨A12, c12, rfl, hrow12, hc12, hbk⟩, hres⟩; have BE1 := box_below BE hbk)
    | refine wpList_store1 rfl (.tmp 62) (.tmp 58) rfl rfl sizeS gE 27 rfl (.string (str x12)) rfl rfl ca12 34 BE1 (by rw [hHL.out]; simp) ?_)
  intro y12 B2 g2 zz
  have hrl : r12.length ≤ 16777216 := Nat.le_trans ((resS_len hres).1) hrl
  have HRES12 := hide hres
  have huk : gE < u12.heap.size := Nat.lt_of_lt_of_le hu hbk.size
  have R := ((HR.out.ext hbk).grown g2 (fun b hb e => by injection e with e; omega)).q27 (str x12)
  have hrow := hrow12.grownB g2 (by omega) (by omega)
  have KB := (KB.trans (hbk.mono (by omega))).grown g2 (by omega) (fun q hq => by injection hq with hq; omega)
  have BR := box_grown (box_below HBR.out hbk) g2 (by omega)
  have hu : gE < y12.heap.size := by have := g2.size; omega
  clear HR HBR BE BE1 g2 zz hbk CN hHL hrow12 hres huk
  obtain ⟨ca13, hcsy⟩ : ∃ x, patch ca12 27 [.string (str x12)] = x := ⟨_, rfl⟩
  rw [hcsy] at R B2
  clear hcsy
  have HR := hide R; have HBR := hide BR; have BE := B2
  clear R BR B2
  cases ok
  case false =>
    have HNV := hide (show ∀ e : Ev, e.told → l = encEv e → False from fun e h1 h2 => (Rds.s12 (d := ⟨x0, x1, x2, x3, x4, x5, x6, x7, x8, x9, x10, x11, x12, 0⟩) (okb := false) (HH12.out _ rfl rfl rfl rfl rfl rfl rfl rfl rfl rfl rfl rfl) (fun _ => HRES12.out)).never h1 h2)
    have HBR1 := HBR.out
    clear HBR
    go_wp2_with (refine wpList_storeB rfl (.tmp 2) (.tmp 65) rfl rfl strcE g 0 rfl evZero.toList rfl rfl (by decide) evZero.toList 34 HBR1 (by decide) ?_)
    intro wa Ba ga za
    rw [patch_all _ _ rfl] at Ba
    have Ka := KB.grown ga (by have := KB.size; omega) (fun q hq => by injection hq with hq; omega)
    go_wp2_with fail
    refine bodyPost_cellQ strcE rfl g rfl (.bool false) rfl rfl Ba (by decide) ⟨evZero.toList, Ev.zero, false, rfl, evZero_R _ _, (fun h => by cases h), fun _ => rfl, fun e h1 h2 => (HNV.out e h1 h2).elim, ?_⟩
    first | exact Ka | (rw [HGG.out]; exact Ka)

  have HH13 := hide (fun (d : Rd) (e0 : d.id = x0) (e1 : d.room = x1) (e2 : d.sender = x2) (e3 : d.kind = x3) (e4 : d.state = x4) (e5 : d.key = x5) (e6 : d.time = x6) (e7 : d.depth = x7) (e8 : d.prev = x8) (e9 : d.auth = x9) (e10 : d.text = x10) (e11 : d.hash = x11) (e12 : d.server = x12) => (Rds.s12 (okb := true) (HH12.out d e0 e1 e2 e3 e4 e5 e6 e7 e8 e9 e10 e11) (fun _ => by rw [e12]; exact HRES12.out) : Rds l d 13 r12 false))
  have CN := RGetInt_at (B := g) (by omega) hrow hc12 hrl
  have hHL := hide HR.out.length
  go_wp2_with (first
    | (go_at_call 76; refine CN.mono ?_; rintro y u13 ⟨x13, r13, ok, ⟨A13, c13, rfl, hrow13, hc13, hbk⟩, hres⟩; have BE1 := box_below BE hbk)
    | refine wpList_store1 rfl (.tmp 73) (.tmp 69) rfl rfl sizeI gE 28 rfl (.int .i64 x13) rfl rfl ca13 34 BE1 (by rw [hHL.out]; simp) ?_)
  intro y13 B2 g2 zz
  have hrl : r13.length ≤ 16777216 := Nat.le_trans (resI_len hres) hrl
  have HRES13 := hide hres
  have huk : gE < u13.heap.size := Nat.lt_of_lt_of_le hu hbk.size
  have R := ((HR.out.ext hbk).grown g2 (fun b hb e => by injection e with e; omega)).q28 x13
  have hrow := hrow13.grownB g2 (by omega) (by omega)
  have KB := (KB.trans (hbk.mono (by omega))).grown g2 (by omega) (fun q hq => by injection hq with hq; omega)
  have BR := box_grown (box_below HBR.out hbk) g2 (by omega)
  have hu : gE < y13.heap.size := by have := g2.size; omega
  clear HR HBR BE BE1 g2 zz hbk CN hHL hrow13 hres huk
  obtain ⟨ca14, hcsy⟩ : ∃ x, patch ca13 28 [.int .i64 x13] = x := ⟨_, rfl⟩
  rw [hcsy] at R B2
  clear hcsy
  have HR := hide R; have HBR := hide BR; have BE := B2
  clear R BR B2
  cases ok
  case false =>
    have HNV := hide (show ∀ e : Ev, e.told → l = encEv e → False from fun e h1 h2 => (Rds.s13 (d := ⟨x0, x1, x2, x3, x4, x5, x6, x7, x8, x9, x10, x11, x12, x13⟩) (okb := false) (HH13.out _ rfl rfl rfl rfl rfl rfl rfl rfl rfl rfl rfl rfl rfl) (fun _ => HRES13.out)).never h1 h2)
    have HBR1 := HBR.out
    clear HBR
    go_wp2_with (refine wpList_storeB rfl (.tmp 2) (.tmp 81) rfl rfl strcE g 0 rfl evZero.toList rfl rfl (by decide) evZero.toList 34 HBR1 (by decide) ?_)
    intro wa Ba ga za
    rw [patch_all _ _ rfl] at Ba
    have Ka := KB.grown ga (by have := KB.size; omega) (fun q hq => by injection hq with hq; omega)
    go_wp2_with fail
    refine bodyPost_cellQ strcE rfl g rfl (.bool false) rfl rfl Ba (by decide) ⟨evZero.toList, Ev.zero, false, rfl, evZero_R _ _, (fun h => by cases h), fun _ => rfl, fun e h1 h2 => (HNV.out e h1 h2).elim, ?_⟩
    first | exact Ka | (rw [HGG.out]; exact Ka)

  have HH14 := hide (fun (d : Rd) (e0 : d.id = x0) (e1 : d.room = x1) (e2 : d.sender = x2) (e3 : d.kind = x3) (e4 : d.state = x4) (e5 : d.key = x5) (e6 : d.time = x6) (e7 : d.depth = x7) (e8 : d.prev = x8) (e9 : d.auth = x9) (e10 : d.text = x10) (e11 : d.hash = x11) (e12 : d.server = x12) (e13 : d.sum = x13) => (Rds.s13 (okb := true) (HH13.out d e0 e1 e2 e3 e4 e5 e6 e7 e8 e9 e10 e11 e12) (fun _ => by rw [e13]; exact HRES13.out) : Rds l d 14 r13 false))
  have hq : r13 = [] ∨ 0 < r13.length := by cases r13 <;> simp
  rcases hq with hq | hq
  rotate_left
  · have hlen := hq
    have HNV := hide (show ∀ e : Ev, e.told → l = encEv e → False from fun e h1 h2 => by have h := ((HH14.out ⟨x0, x1, x2, x3, x4, x5, x6, x7, x8, x9, x10, x11, x12, x13⟩ rfl rfl rfl rfl rfl rfl rfl rfl rfl rfl rfl rfl rfl rfl).2 e h1 h2).2.2; replace h : r13 = [] := h; rw [h] at hlen; simp at hlen)
    have HBR1 := HBR.out
    clear HBR
    go_wp2_with (refine wpList_storeB rfl (.tmp 2) (.tmp 81) rfl rfl strcE g 0 rfl evZero.toList rfl rfl (by decide) evZero.toList 34 HBR1 (by decide) ?_)
    intro wa Ba ga za
    rw [patch_all _ _ rfl] at Ba
    have Ka := KB.grown ga (by have := KB.size; omega) (fun q hq => by injection hq with hq; omega)
    go_wp2_with fail
    refine bodyPost_cellQ strcE rfl g rfl (.bool false) rfl rfl Ba (by decide) ⟨evZero.toList, Ev.zero, false, rfl, evZero_R _ _, (fun h => by cases h), fun _ => rfl, fun e h1 h2 => (HNV.out e h1 h2).elim, ?_⟩
    first | exact Ka | (rw [HGG.out]; exact Ka)

  subst hq
  have HEND := hide ((HH14.out ⟨x0, x1, x2, x3, x4, x5, x6, x7, x8, x9, x10, x11, x12, x13⟩ rfl rfl rfl rfl rfl rfl rfl rfl rfl rfl rfl rfl rfl rfl).done hl HF.out (fun h => HC1.out (by first | exact h | trivial)) (fun h => (HC2.out (by first | exact h | cases h)).2))
  have HOK := hide (HEND.out.1 rfl rfl rfl)
  have HUN := hide (fun e h1 h2 => (HEND.out.2 e h1 h2).2)
  have hHL := hide HR.out.length; have hHO := hide HR.out.one
  have HBE := hide BE; have HBR1 := HBR.out
  clear HEND HBR BE
  go_wp2_with (first
    | refine wpList_loadS rfl (.tmp 4) rfl strcE ⟨gE, 0, none⟩ rfl ca14 hHL.out (box_all HBE.out) ?_
    | refine wpList_storeB rfl (.tmp 2) (.tmp 82) rfl rfl strcE g 0 rfl ca14 rfl hHL.out hHO.out evZero.toList 34 HBR1 (by decide) ?_)
  intro wa Ba ga za
  rw [patch_all _ _ (by rw [hHL.out]; rfl)] at Ba
  have Ra := (HR.out.grown ga (fun b hb e => by injection e with e; omega)).weak (S' := fun b => g ≤ b) (fun b hb _ => by omega)
  have Ka := KB.grown ga (by have := KB.size; omega) (fun q hq => by injection hq with hq; omega)
  clear HR KB HBR1 HBE
  go_wp2_with fail
  refine bodyPost_cellQ strcE rfl g rfl (.bool true) rfl rfl Ba (by rw [List.size_toArray]; exact hHL.out) ⟨ca14, Rd.ev ⟨x0, x1, x2, x3, x4, x5, x6, x7, x8, x9, x10, x11, x12, x13⟩ C, true, rfl, ?_, fun _ => ⟨HOK.out.1, HOK.out.2, HF.out⟩, (fun h => by cases h), fun e h1 h2 => ⟨rfl, HUN.out e h1 h2⟩, ?_⟩
  · have h1 := HE1.out (by first | rfl | trivial)
    have h2 := HE2.out (by first | rfl | trivial)
    subst h1
    subst h2
    rw [HGG.out]; exact Ra
  · first | exact Ka | (rw [HGG.out]; exact Ka)
end Go.Proofs.YtnfbmhkjmkdmjaaGreat
