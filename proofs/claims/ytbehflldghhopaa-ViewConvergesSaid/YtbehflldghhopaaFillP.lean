/-
  What Fill makes of a view; results of a struct and a number.
  view.Fill.
-/
import Derived.Test.YtbehflldghhopaaRApply
set_option linter.unusedVariables false
set_option linter.unusedSimpArgs false
namespace Go.Proofs.Ytbehflldghhopaa
section
open Go.RowKit

section
variable {P : Program} {fn : Func} {R : Ending → World → Prop} {a : Act} {w : World} {t : TypeId} {z C : Array Value} {n : Nat} {p q : Tmp}
theorem bodyPost_cell2 (G : Strc P t z n) (hres : fn.results = #[.cell p t, .tmp q]) (g : Nat) (hp : a.tmps.getD p undef = .pointer (some ⟨g, 0, none⟩)) (u : Value) (hq : a.tmps.getD q undef = u) (hd : a.defers = []) (hg : w.heap[g]? = some (.cells C t (0, 0))) (hC : C.size = n)
    (hR : R (.returned (.tuple #[.agg C, u])) w) : bodyPost P fn R .ret a w := by
  obtain ⟨d, hu, hrow⟩ := G.row
  refine bodyPost_ret ?_ hd hR
  have hp' : a.tmps[p]?.getD undef = .pointer (some ⟨g, 0, none⟩) := by simpa using hp
  have hq' : a.tmps[q]?.getD undef = u := by simpa using hq
  have hl := run_loadVar_row w g t t C (0, 0) d hg hu (by cases d <;> simp_all) (by rw [G.size, hC])
  simp [results, hres, hp', hq', asAddr, hl]
end

theorem behindN_met (known : List Int) : ∀ l : List Ev, metL known l = decide (0 < behindN known l)
  | [] => rfl
  | e :: l => by
    have ih := behindN_met known l
    unfold metL at ih ⊢
    unfold behindN
    simp only [List.any_cons, ih]
    by_cases h : e.id ∈ known <;> by_cases h2 : 0 < behindN known l <;> simp [h, h2] <;> omega

def addL (V : Vw) (l : List Ev) : List Ev := freshL (ids V.events) (l.drop (behindN (ids V.events) l))
/-- the gaps afterwards: gap k, its begin at, n new events -/
def fillG (V : Vw) (k : Nat) (at' : Int) (l : List Ev) (back : Int) (more : Bool) : List (Int × Int) := if more && !metL (ids V.events) l then V.gaps.take k ++ [(at', back)] else V.gaps.take k
def shiftG (n : Nat) (l : List (Int × Int)) : List (Int × Int) := l.map fun g => (g.1 + (n : Int), g.2)
def zeroVw : Vw := { room := ⟨#[]⟩, member := 0, events := [], gaps := [], state := [] }
def outV (V : Vw) (i : Int) : Bool := decide (i < 0 ∨ (V.gaps.length : Int) ≤ i)
def fillAt (V : Vw) (k : Nat) (g : Int × Int) (l : List Ev) (back : Int) (more : Bool) : Vw :=
  { V with events := V.events.take g.1.toNat ++ (addL V l ++ V.events.drop g.1.toNat), gaps := fillG V k g.1 l back more ++ shiftG (addL V l).length (V.gaps.drop (k + 1)) }
def fillV (V : Vw) (i : Int) (l : List Ev) (back : Int) (more : Bool) : Vw :=
  if outV V i then zeroVw else match V.gaps[i.toNat]? with
    | some g => fillAt V i.toNat g l back more
    | none => zeroVw
def fillE (V : Vw) (i : Int) : Int := if outV V i then 2 else 0
/-- each gap lies in front of an event -/
def Vw.inside (V : Vw) : Prop := ∀ g ∈ V.gaps, 0 ≤ g.1 ∧ g.1 < (V.events.length : Int)
def GivesVE (S : Nat → Prop) (V : Vw) (n : Int) (w : World) (e : Ending) (w' : World) : Prop := ∃ cs, e = .returned (.tuple #[.agg cs.toArray, .int .i64 n]) ∧ VwR w' (fun b => S b ∨ w.heap.size ≤ b) cs V ∧ Below w.heap.size w w'
theorem GivesVE.of {S : Nat → Prop} {V : Vw} {n : Int} {w w' : World} {C : Array Value} (h : GivesV S V w (.returned (.agg C)) w') : GivesVE S V n w (.returned (.tuple #[.agg C, .int .i64 n])) w' := by
  obtain ⟨cs, h1, h2, h3⟩ := h
  injection h1 with h1; injection h1 with h1; subst h1
  exact ⟨cs, rfl, h2, h3⟩
theorem addL_length (V : Vw) (l : List Ev) : (addL V l).length ≤ l.length := by
  unfold addL
  exact Nat.le_trans (freshL_length _ _) (by simp)
theorem shiftG_step (n : Nat) {l : List (Int × Int)} {k : Nat} (hk : k < l.length) : shiftG n (l.take (k + 1)) = shiftG n (l.take k) ++ [(l[k].1 + (n : Int), l[k].2)] := by
  unfold shiftG; rw [List.take_succ_eq_append_getElem hk, List.map_append]; rfl
theorem shiftG_length (n : Nat) (l : List (Int × Int)) : (shiftG n l).length = l.length := by simp [shiftG]
theorem fillG_length (V : Vw) (k : Nat) (at' : Int) (l : List Ev) (back : Int) (more : Bool) : (fillG V k at' l back more).length ≤ k + 1 := by
  unfold fillG; split <;> simp <;> omega
theorem kcs_append (a b : List (Int × Int)) : kcs (a ++ b) = kcs a ++ kcs b := by simp [kcs]
theorem kcs_take (l : List (Int × Int)) (k : Nat) : kcs (l.take k) = (kcs l).take (k * 2) := by
  induction l generalizing k with
  | nil => simp [kcs]
  | cons g l ih =>
    cases k with
    | zero => simp [kcs]
    | succ k =>
      have := ih k
      simp only [kcs] at this
      simp only [kcs, List.take_succ_cons, List.flatMap_cons, this, Nat.succ_mul]
      rfl
theorem kcs_drop (l : List (Int × Int)) (k : Nat) : kcs (l.drop k) = (kcs l).drop (k * 2) := by
  induction l generalizing k with
  | nil => simp [kcs]
  | cons g l ih =>
    cases k with
    | zero => simp [kcs]
    | succ k =>
      have := ih k
      simp only [kcs] at this
      simp only [kcs, List.drop_succ_cons, List.flatMap_cons, this, Nat.succ_mul]
      rfl
end

section
open Go.RowKit
attribute [local go_sem] Addr.add_mid

/-- the boxes at the beginning: the view's and the result's -/
theorem fr_two {w : World} {S : Nat → Prop} {V : Vw} {ve vg vs : Value} (h1 : EvsR w S ve V.events) (h2 : Slc w Any vg 2 V.gaps.length (kcs V.gaps)) (h3 : EvsR w S vs V.state) :
    Fr w ((w.alloc (.cells (vwCells V ve vg vs).toArray 25)).alloc (.cells vwZero 25)) S 2 [.cells vwZero 25 (0, 0)] V ve vg vs :=
  ⟨rfl, by simp, heap_alloc2_old w _ _, fun i o hi => by
    match i, hi with
    | 0, hi => rw [← Option.some.inj hi]; exact heap_alloc2_new w _ _, below_two w _ _, .inl h1, .inl h2, .inl h3⟩

set_option maxRecDepth 100000 in
set_option maxHeartbeats 4000000 in
theorem Fill_out {S : Nat → Prop} {cs : List Value} {V : Vw} {i back : Int} {more : Bool} {A : Option Addr} {n c : Nat} {w : World} (hv : VwR w S cs V) (hl : V.gaps.length ≤ 1048576) (hi : i < 0 ∨ (V.gaps.length : Int) ≤ i) :
    Calls Try.prog 25 #[.agg cs.toArray, .int .i64 i, .slice A n c, .int .i64 back, .bool more] w (GivesVE S zeroVw 2 w) := by
  obtain ⟨A0, c0, A2, c2, A3, c3, rfl, h1, h2, h3⟩ := hv.form
  have F0 := fr_two h1 h2 h3
  clear hv h1 h2 h3
  go_enter Try.func25, Try.ntmps25
  go_upto_region 1 with (refine wpList_zeroS rfl rfl strcV ?_)
  go_simp
  generalize hW : (w.alloc (.cells (vwCells V (.slice A0 V.events.length c0) (.slice A2 V.gaps.length c2) (.slice A3 V.state.length c3)).toArray 25)).alloc (.cells vwZero 25) = W at *
  clear hW
  have r3 := F0.c3
  have HZ := hide (F0.obs 0 _ rfl)
  have hend : ∀ w3, w3.heap[w.heap.size + 1]? = some (.cells vwZero 25 (0, 0)) → W.grownBy w3 (some (w.heap.size + 1)) → GivesVE S zeroVw 2 w (.returned (.tuple #[.agg vwZero, .int .i64 2])) w3 := fun w3 hB g =>
    ⟨vwZero.toList, rfl, ⟨_, _, _, rfl, EvsR.nil _ _, Slc.nil _ _ _, EvsR.nil _ _⟩, F0.below.grown g F0.below.size (fun q hq => by injection hq with hq; omega)⟩
  have HEND := hide hend
  clear hend F0
  rcases hi with hi | hi
  · have t1 : decide (i < 0) = true := decide_eq_true hi
    go_wp2_with (refine wpList_storeB rfl (.tmp 10) (.tmp 30) rfl rfl strcV (w.heap.size + 1) 0 rfl vwZero.toList rfl rfl (by simp [vwZero, Value.oneCell']) vwZero.toList 25 HZ.out (by decide) ?_)
    intro w3 hB3 g2 hz3
    rw [patch_all _ _ (by rfl)] at hB3
    have HE := hide (HEND.out w3 hB3 g2)
    go_wp2_with fail
    exact bodyPost_cell2 strcV rfl (w.heap.size + 1) rfl (.int .i64 2) rfl rfl hB3 rfl HE.out
  · have t0 : decide (i < 0) = false := decide_eq_false (by omega)
    have t1 : decide ((V.gaps.length : Int) ≤ i) = true := decide_eq_true hi
    go_wp2_with (refine wpList_storeB rfl (.tmp 10) (.tmp 30) rfl rfl strcV (w.heap.size + 1) 0 rfl vwZero.toList rfl rfl (by simp [vwZero, Value.oneCell']) vwZero.toList 25 HZ.out (by decide) ?_)
    intro w3 hB3 g2 hz3
    rw [patch_all _ _ (by rfl)] at hB3
    have HE := hide (HEND.out w3 hB3 g2)
    go_wp2_with fail
    exact bodyPost_cell2 strcV rfl (w.heap.size + 1) rfl (.int .i64 2) rfl rfl hB3 rfl HE.out
end
end Go.Proofs.Ytbehflldghhopaa
