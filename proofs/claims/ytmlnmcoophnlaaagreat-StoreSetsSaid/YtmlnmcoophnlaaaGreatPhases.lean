/-
  Regions that draw their order: operations that only read are taken first under a condition on the world that stands until the first of some last operations (stores). No function of the program; no condition.
  Drawn regions, one operation at a time, with the laws about lists of operations. No function of the program; no condition.
  Drawn regions: an operation is taken first though a last operation waits for it only through another one. No function of the program; no condition.
  Drawn regions: an operation that yields in every world is taken first. No function of the program; no condition.
  Drawn regions: the condition on the world may be made stronger on the way; bytes become a string. No function of the program; no condition.
-/
import Derived.OrdersHeld
import Derived.StillTail
import Derived.Test.YtmlnmcoophnlaaaGreatAggs
set_option linter.unusedVariables false
set_option linter.unusedSimpArgs false
namespace Go.Proofs.YtmlnmcoophnlaaaGreat
section
section
open Go.RowKit
section
variable {P : Program} {ops : Array Oper} {Q : Exit → Act → World → Prop} {md : Region.Mode} {T : World → Prop} {bad : List Nat}

def wpAnyP (P : Program) (md : Region.Mode) (ops : Array Oper) (Q : Exit → Act → World → Prop) (T : World → Prop) (bad : List Nat) : Nat → Array Bool → Act → World → Prop
  | 0, listed, a, w => Region.ready md ops listed = [] ∧ Q .normal a w
  | fuel + 1, listed, a, w =>
    (Region.ready md ops listed = [] → Q .normal a w) ∧
    ∀ i ∈ Region.ready md ops listed, wpOp P ops Q i (fun a' w' => ((∀ s ∈ bad, (listed.setIfInBounds i true).getD s true = false) → T w') ∧ wpAnyP P md ops Q T bad fuel (listed.setIfInBounds i true) a' w') a w
theorem wpAny_of_P : ∀ (fuel : Nat) (listed : Array Bool) (a : Act) (w : World), wpAnyP P md ops Q T bad fuel listed a w → wpAny P md ops Q fuel listed a w
  | 0, _, _, _, h => h
  | fuel + 1, _, _, _, h => ⟨h.1, fun i hi => wpOp_mono (fun a' w' h' => wpAny_of_P fuel _ a' w' h'.2) (h.2 i hi)⟩

theorem wpAnyP_first {i : Nat} {oi : Oper} {v : Value} (hi : ops[i]? = some oi) (hsel : ∀ (j : Nat) (o : Oper) cs b, ops[j]? = some o → o.op ≠ .select cs b)
    (hQ : ∀ c a w, Q (.panic c) (a.put oi.dst v) w → Q (.panic c) a w) (hbad : ∀ s ∈ bad, s ≠ i ∧ Region.waitsFor md ops s i = true) :
    ∀ (fuel : Nat) (listed : Array Bool) (a : Act) (w : World),
      (∀ j oj, ops[j]? = some oj → j ≠ i → listed.getD j true = false → (∀ e ∈ oj.after, Region.binds md e = true → e.on ≠ i) → oi.apart ops oj = true) →
      (∀ s ∈ bad, listed.getD s true = false) → i ∈ Region.ready md ops listed → YieldsIf P ops T oi v a → T w →
      wpAnyP P md ops Q T bad fuel (listed.setIfInBounds i true) (a.put oi.dst v) w → wpAnyP P md ops Q T bad (fuel + 1) listed a w := by
  intro fuel
  induction fuel with
  | zero =>
    intro listed a w _ _ hr hy hT H
    refine ⟨fun h => (by rw [h] at hr; cases hr), fun j hj => ?_⟩
    by_cases hji : j = i
    · subst hji; exact hy.wpOp hi hT ⟨fun _ => hT, H⟩
    · have := ready_mono hj hji
      rw [H.1] at this
      cases this
  | succ fuel ih =>
    intro listed a w hfree hun hr hy hT H
    refine ⟨fun h => (by rw [h] at hr; cases hr), fun j hj => ?_⟩
    by_cases hji : j = i
    · subst hji; exact hy.wpOp hi hT ⟨fun _ => hT, H⟩
    · have h1 := H.2 j (ready_mono hj hji)
      obtain ⟨hjun, oj, hoj, hall⟩ := mem_ready.1 hj
      have h0 := (mem_ready.1 hr).1
      have hnot : ∀ e ∈ oj.after, Region.binds md e = true → e.on ≠ i := fun e he hb heq => by
        have h1 := hall e he hb
        rw [heq, getD_both h0] at h1
        cases h1
      have hjb : j ∉ bad := fun hb => by
        obtain ⟨o', ho', e, he, hbd, hon⟩ := Region.waitsFor_spec (hbad j hb).2
        have : o' = oj := Option.some.inj (ho'.symm.trans hoj)
        subst this
        exact hnot e he hbd hon
      have hunj : ∀ s ∈ bad, (listed.setIfInBounds j true).getD s true = false := fun s hs => by
        rw [getD_set_ne true (fun e => hjb (by rw [e]; exact hs))]; exact hun s hs
      have hunij : ∀ s ∈ bad, ((listed.setIfInBounds i true).setIfInBounds j true).getD s true = false := fun s hs => by
        rw [getD_set_ne true (fun e => hjb (by rw [e]; exact hs)), getD_set_ne true (fun e => (hbad s hs).1 e.symm)]; exact hun s hs
      have h2 := wpOp_putIf hoj (hfree j oj hoj hji hjun hnot) (fun cs b => hsel i oi cs b hi) (fun cs b => hsel j oj cs b hoj) hQ hy h1
      have hfree' : ∀ k ok, ops[k]? = some ok → k ≠ i → (listed.setIfInBounds j true).getD k true = false →
          (∀ e ∈ ok.after, Region.binds md e = true → e.on ≠ i) → oi.apart ops ok = true := fun k ok hk hki hun' hno => by
        refine hfree k ok hk hki ?_ hno
        by_cases hjk : j = k
        · subst hjk; exact hjun
        · rw [getD_set_ne true hjk] at hun'; exact hun'
      refine wpOp_mono (fun a' w' h3 => ?_) h2
      have hT' : T w' := h3.2.1 hunij
      refine ⟨fun _ => hT', ih (listed.setIfInBounds j true) a' w' hfree' hunj (ready_mono hr (Ne.symm hji)) h3.1 hT' ?_⟩
      rw [Array.setIfInBounds_comm _ _ hji]
      exact h3.2.2

/-- take number i first -/
theorem wpAnyP_take {i : Nat} {oi : Oper} {v : Value} {fuel : Nat} {listed : Array Bool} {a : Act} {w : World} (hi : ops[i]? = some oi)
    (hs : Region.noSelect ops = true) (hf : Region.free md ops listed i = true) (hr : (Region.ready md ops listed).contains i = true) (hbad : (bad.all fun s => s != i && Region.waitsFor md ops s i && !listed.getD s true) = true)
    (hQ : ∀ c a w, Q (.panic c) (a.put oi.dst v) w → Q (.panic c) a w) (hy : YieldsIf P ops T oi v a) (hT : T w)
    (h : wpAnyP P md ops Q T bad fuel (listed.setIfInBounds i true) (a.put oi.dst v) w) : wpAnyP P md ops Q T bad (fuel + 1) listed a w := by
  have hb := List.all_eq_true.1 hbad
  simp only [Bool.and_eq_true, bne_iff_ne, Bool.not_eq_true'] at hb
  exact wpAnyP_first hi (Region.noSelect_spec hs) hQ (fun s hs => (hb s hs).1) fuel listed a w (Region.free_spec hi hf) (fun s hs => (hb s hs).2) (by simpa using hr) hy hT h

/-- what is left comes in one order -/
def seqP (md : Region.Mode) (ops : Array Oper) : List Nat → Array Bool → Bool
  | [], listed => (Region.ready md ops listed).isEmpty
  | i :: r, listed => decide (Region.ready md ops listed = [i]) && decide (i < listed.size) && seqP md ops r (listed.setIfInBounds i true)
def wpSeqP (P : Program) (ops : Array Oper) (Q : Exit → Act → World → Prop) (T : World → Prop) (bad : List Nat) : List Nat → Act → World → Prop
  | [], a, w => Q .normal a w
  | i :: r, a, w => wpOp P ops Q i (fun a' w' => (i ∉ bad → T w') ∧ wpSeqP P ops Q T bad r a' w') a w
theorem wpAnyP_seq : ∀ (rs : List Nat) (listed : Array Bool) (a : Act) (w : World), seqP md ops rs listed = true → wpSeqP P ops Q T bad rs a w → wpAnyP P md ops Q T bad rs.length listed a w
  | [], listed, a, w, hB, h => ⟨by simpa [seqP] using hB, h⟩
  | i :: r, listed, a, w, hB, h => by
    simp only [seqP, Bool.and_eq_true, decide_eq_true_eq] at hB
    obtain ⟨⟨h1, hlt⟩, h2⟩ := hB
    refine ⟨fun h0 => (by rw [h1] at h0; cases h0), fun j hj => ?_⟩
    rw [h1, List.mem_singleton] at hj
    subst hj
    refine wpOp_mono (fun a' w' h' => ⟨fun hs => ?_, wpAnyP_seq r _ a' w' h2 h'.2⟩) h
    refine h'.1 fun hb => ?_
    have := hs j hb
    simp [hlt] at this
/-- the beginning -/
theorem wp_region_phase (T : World → Prop) (bad : List Nat) {id : Nat} {a : Act} {w : World} (hm : P.follows .mixedOrders = true)
    (h : wpAnyP P .any ops Q T bad ops.size (Array.replicate ops.size false) a { w with drawn := w.drawn + 1 }) : (Code.region id ops true).wp P Q a w :=
  wp_region_any hm (wpAny_of_P _ _ _ _ h)
/-- one step of what is left -/
theorem wpSeqP_step {i : Nat} {r : List Nat} {o : Oper} {a : Act} {w : World} (hi : ops[i]? = some o) (hgd : Region.wanted o (yielded ops a.tmps) = true)
    (h : ∀ K : Act → World → Prop, (∀ a' w', ((i ∉ bad → T w') ∧ wpSeqP P ops Q T bad r a' w') → K a' w') → o.wp P a w K Q) : wpSeqP P ops Q T bad (i :: r) a w := by
  unfold wpSeqP wpOp
  simp only [hi, hgd, if_true]
  exact .inl (h _ fun a' w' h1 => h1)
/-- whichever of two comes -/
theorem wpAnyP_two {i j : Nat} {oi oj : Oper} {fuel : Nat} {listed : Array Bool} {a : Act} {w : World} (hr : Region.ready md ops listed = [i, j]) (hi : ops[i]? = some oi) (hj : ops[j]? = some oj) (gi : Region.wanted oi (yielded ops a.tmps) = true) (gj : Region.wanted oj (yielded ops a.tmps) = true)
    (h1 : ∀ K : Act → World → Prop, (∀ a' w', (T w' ∧ wpAnyP P md ops Q T bad fuel (listed.setIfInBounds i true) a' w') → K a' w') → oi.wp P a w K Q)
    (h2 : ∀ K : Act → World → Prop, (∀ a' w', (T w' ∧ wpAnyP P md ops Q T bad fuel (listed.setIfInBounds j true) a' w') → K a' w') → oj.wp P a w K Q) : wpAnyP P md ops Q T bad (fuel + 1) listed a w := by
  refine ⟨fun h0 => (by rw [hr] at h0; cases h0), fun k hk => ?_⟩
  rw [hr] at hk
  rcases List.mem_cons.1 hk with rfl | hk
  · unfold wpOp
    simp only [hi, gi, if_true]
    exact .inl (h1 _ fun a' w' h => ⟨fun _ => h.1, h.2⟩)
  · rw [List.mem_singleton] at hk
    subst hk
    unfold wpOp
    simp only [hj, gj, if_true]
    exact .inl (h2 _ fun a' w' h => ⟨fun _ => h.1, h.2⟩)
theorem wpAnyP_of_seq (rs : List Nat) {fuel : Nat} {listed : Array Bool} {a : Act} {w : World} (hl : rs.length = fuel) (hB : seqP md ops rs listed = true) (h : wpSeqP P ops Q T bad rs a w) : wpAnyP P md ops Q T bad fuel listed a w := by
  subst hl; exact wpAnyP_seq rs listed a w hB h
/-- a load of one cell out of a block that is known whole -/
theorem yieldsIf_load {o : Oper} {a : Act} {t : TypeId} {d : TypeDesc} {x : Operand} {g j : Nat} {v : Value} (hgd : Region.wanted o (yielded ops a.tmps) = true) (ho : o.op = .load t x) (hu : P.underlying t = some d) (hd : d.isRow = false) (hx : a.eval x = .pointer (some ⟨g, j, none⟩))
    (hT : ∀ w, T w → w.cell? ⟨g, j, none⟩ = some v) : YieldsIf P ops T o v a := by
  refine .inl ⟨hgd, fun w hw => ?_⟩
  have hc := hT w hw
  have hagg : (isAgg t).run P w = .ok false w := by
    unfold isAgg
    rw [Sem.run_bind, run_underlying hu w]
    cases d <;> simp_all
  unfold execOp
  simp only [ho, hx, Instr.loadAt, Instr.sureAddr, loadVar, Sem.run_bind, Sem.run_pure, Result.andThen_ok, hagg]
  simp [hc, go_sem]
theorem yieldsIf_run {o : Oper} {a : Act} (v : Value) (hgd : Region.wanted o (yielded ops a.tmps) = true) (h : ∀ w, (execOp a.eval o).run P w = .ok (.value v) w) : YieldsIf P ops T o v a := .inl ⟨hgd, fun w _ => h w⟩
/-- the last operations, as a list -/
theorem wpSeqP_list : ∀ (rs : List Nat) (l : List Oper) (a : Act) (w : World), (rs.all fun i => bad.contains i) = true → rs.map (ops[·]?) = l.map some → wpList P ops Q l a w → wpSeqP P ops Q T bad rs a w
  | [], [], a, w, _, _, h => h
  | [], _ :: _, _, _, _, h, _ => by cases h
  | _ :: _, [], _, _, _, h, _ => by cases h
  | i :: r, o :: l, a, w, hb, hm, h => by
    simp only [List.all_cons, Bool.and_eq_true] at hb
    simp only [List.map_cons, List.cons.injEq] at hm
    obtain ⟨hi, hm⟩ := hm
    have ib : i ∈ bad := by simpa using hb.1
    have h1 : wpOp P ops Q i (wpList P ops Q l) a w := by
      unfold wpOp
      simp only [hi]
      exact h
    exact wpOp_mono (fun a' w' h' => ⟨fun hn => absurd ib hn, wpSeqP_list r l a' w' hb.2 hm h'⟩) h1
end
end

section
open Go.RowKit
section
variable {P : Program} {ops : Array Oper} {Q : Exit → Act → World → Prop} {md : Region.Mode} {T : World → Prop} {bad : List Nat}
/-- what is wanted at the end of one operation -/
def exitN (K : Act → World → Prop) (Q : Exit → Act → World → Prop) : Exit → Act → World → Prop
  | .normal => K
  | .exit n => Q (.exit n)
  | .goto n => Q (.goto n)
  | .ret => Q .ret
  | .panic c => Q (.panic c)
  | .outgrown => Q .outgrown
theorem wp_exitN {o : Oper} {a : Act} {w : World} {K : Act → World → Prop} (h : o.wp P a w K (exitN K Q)) : o.wp P a w K Q := by
  unfold Oper.wp at *
  generalize (execOp a.eval o).run P w = r at *
  cases r with
  | ok n w' => cases n <;> exact h
  | halt h' w' => cases h' <;> exact h
theorem wpOp_of_list {i : Nat} {o : Oper} {K : Act → World → Prop} {a : Act} {w : World} (hi : ops[i]? = some o) (h : wpList P ops (exitN K Q) [o] a w) : wpOp P ops Q i K a w := by
  unfold wpOp
  simp only [hi]
  unfold wpList at h
  split at h
  · next hg =>
    rw [if_pos hg]
    rcases h with h | h
    · exact .inl (wp_exitN h)
    · exact .inr h
  · next hg =>
    rw [if_neg hg]
    exact h
def NextP (P : Program) (md : Region.Mode) (ops : Array Oper) (Q : Exit → Act → World → Prop) (T : World → Prop) (bad : List Nat) (fuel : Nat) (listed : Array Bool) (a : Act) (w : World) : Prop := T w ∧ wpAnyP P md ops Q T bad fuel listed a w
theorem wpAnyP_one' {i : Nat} {oi : Oper} {fuel : Nat} {listed : Array Bool} {a : Act} {w : World} (hr : Region.ready md ops listed = [i]) (hi : ops[i]? = some oi)
    (h1 : wpList P ops (exitN (NextP P md ops Q T bad fuel (listed.setIfInBounds i true)) Q) [oi] a w) : wpAnyP P md ops Q T bad (fuel + 1) listed a w := by
  refine ⟨fun h0 => (by rw [hr] at h0; cases h0), fun k hk => ?_⟩
  rw [hr] at hk
  rw [List.mem_singleton] at hk
  subst hk
  exact wpOp_mono (fun a' w' h => ⟨fun _ => h.1, h.2⟩) (wpOp_of_list hi h1)
theorem wpAnyP_two' {i j : Nat} {oi oj : Oper} {fuel : Nat} {listed : Array Bool} {a : Act} {w : World} (hr : Region.ready md ops listed = [i, j]) (hi : ops[i]? = some oi) (hj : ops[j]? = some oj)
    (h1 : wpList P ops (exitN (NextP P md ops Q T bad fuel (listed.setIfInBounds i true)) Q) [oi] a w)
    (h2 : wpList P ops (exitN (NextP P md ops Q T bad fuel (listed.setIfInBounds j true)) Q) [oj] a w) : wpAnyP P md ops Q T bad (fuel + 1) listed a w := by
  refine ⟨fun h0 => (by rw [hr] at h0; cases h0), fun k hk => ?_⟩
  rw [hr] at hk
  rcases List.mem_cons.1 hk with rfl | hk
  · exact wpOp_mono (fun a' w' h => ⟨fun _ => h.1, h.2⟩) (wpOp_of_list hi h1)
  · rw [List.mem_singleton] at hk
    subst hk
    exact wpOp_mono (fun a' w' h => ⟨fun _ => h.1, h.2⟩) (wpOp_of_list hj h2)
theorem nextP {fuel : Nat} {listed : Array Bool} {a : Act} {w : World} (h1 : T w) (h2 : wpAnyP P md ops Q T bad fuel listed a w) : wpList P ops (exitN (NextP P md ops Q T bad fuel listed) Q) [] a w := ⟨h1, h2⟩
/-- the same where the condition need not outlast the last operations -/
def NextQ (P : Program) (md : Region.Mode) (ops : Array Oper) (Q : Exit → Act → World → Prop) (T : World → Prop) (bad : List Nat) (fuel : Nat) (listed : Array Bool) (a : Act) (w : World) : Prop := ((∀ s ∈ bad, listed.getD s true = false) → T w) ∧ wpAnyP P md ops Q T bad fuel listed a w
theorem nextQ {fuel : Nat} {listed : Array Bool} {a : Act} {w : World} (h1 : T w) (h2 : wpAnyP P md ops Q T bad fuel listed a w) : wpList P ops (exitN (NextQ P md ops Q T bad fuel listed) Q) [] a w := ⟨fun _ => h1, h2⟩
/-- after one of the last operations -/
theorem nextQ_bad {fuel : Nat} {listed : Array Bool} {a : Act} {w : World} (h1 : (bad.all fun s => !listed.getD s true) = false) (h2 : wpAnyP P md ops Q T bad fuel listed a w) : wpList P ops (exitN (NextQ P md ops Q T bad fuel listed) Q) [] a w :=
  And.intro (fun h => by
    have : (bad.all fun s => !listed.getD s true) = true := List.all_eq_true.2 fun s hs => by simp [h s hs]
    rw [this] at h1
    cases h1) h2
theorem wpAnyP_oneQ {i : Nat} {oi : Oper} {fuel : Nat} {listed : Array Bool} {a : Act} {w : World} (hr : Region.ready md ops listed = [i]) (hi : ops[i]? = some oi)
    (h1 : wpList P ops (exitN (NextQ P md ops Q T bad fuel (listed.setIfInBounds i true)) Q) [oi] a w) : wpAnyP P md ops Q T bad (fuel + 1) listed a w := by
  refine ⟨fun h0 => (by rw [hr] at h0; cases h0), fun k hk => ?_⟩
  rw [hr] at hk
  rw [List.mem_singleton] at hk
  subst hk
  exact wpOp_mono (fun a' w' h => h) (wpOp_of_list hi h1)
theorem wpAnyP_twoQ {i j : Nat} {oi oj : Oper} {fuel : Nat} {listed : Array Bool} {a : Act} {w : World} (hr : Region.ready md ops listed = [i, j]) (hi : ops[i]? = some oi) (hj : ops[j]? = some oj)
    (h1 : wpList P ops (exitN (NextQ P md ops Q T bad fuel (listed.setIfInBounds i true)) Q) [oi] a w)
    (h2 : wpList P ops (exitN (NextQ P md ops Q T bad fuel (listed.setIfInBounds j true)) Q) [oj] a w) : wpAnyP P md ops Q T bad (fuel + 1) listed a w := by
  refine ⟨fun h0 => (by rw [hr] at h0; cases h0), fun k hk => ?_⟩
  rw [hr] at hk
  rcases List.mem_cons.1 hk with rfl | hk
  · exact wpOp_mono (fun a' w' h => h) (wpOp_of_list hi h1)
  · rw [List.mem_singleton] at hk
    subst hk
    exact wpOp_mono (fun a' w' h => h) (wpOp_of_list hj h2)
theorem wpAnyP_done {fuel : Nat} {listed : Array Bool} {a : Act} {w : World} (hr : Region.ready md ops listed = []) (h : Q .normal a w) : wpAnyP P md ops Q T bad fuel listed a w := by
  cases fuel with
  | zero => exact ⟨hr, h⟩
  | succ n => exact ⟨fun _ => h, fun i hi => (by rw [hr] at hi; cases hi)⟩
/-- a struct is loaded out of a block that is known whole -/
theorem yieldsIf_loadS {o : Oper} {a : Act} {t : TypeId} {z : Array Value} {n : Nat} (hgd : Region.wanted o (yielded ops a.tmps) = true) (x : Operand) (ho : o.op = .load t x) (G : Strc P t z n) (ad : Addr) (hx : a.eval x = .pointer (some ad)) (cs : List Value) (hn : cs.length = n)
    (hT : ∀ w, T w → CellsAt w ad cs) : YieldsIf P ops T o (.agg cs.toArray) a := by
  refine .inl ⟨hgd, fun w hw => ?_⟩
  unfold execOp
  simp only [ho, hx, Sem.run_bind, Sem.run_pure, Result.andThen_ok, run_loadS G ad cs hn (hT w hw)]
/-- 'T{}': an empty slice -/
theorem wpList_build0 {o : Oper} {rest : List Oper} {a : Act} {w : World} {t te ts : TypeId} {z : Array Value} {n : Nat} (hgd : Region.wanted o (yielded ops a.tmps) = true) (ho : o.op = .buildSlice ts 0 #[]) (hu : P.underlying ts = some (.slice t)) (G : Strc P t z n) (hpos : 0 < n) (hsm : n ≤ 16777216)
    (h : wpList P ops Q rest (a.put o.dst (.slice (some ⟨w.heap.size, 0, none⟩) 0 0)) (w.alloc (.cells #[] t))) : wpList P ops Q (o :: rest) a w := by
  have hi := G.info
  cases hq : P.info? t with
  | none => simp [hq] at hi
  | some i =>
    simp only [hq, Option.map_some, Option.some.injEq, Prod.mk.injEq] at hi
    obtain ⟨hz, hsz⟩ := hi
    subst hsz
    have hrun : (Instr.buildSlice ts 0 (#[].map fun ((j, y) : Nat × Operand) => (j, a.eval y))).run P w = .ok (.slice (some ⟨w.heap.size, 0, none⟩) 0 0) (w.alloc (.cells #[] t)) := by
      simp [Instr.buildSlice, run_underlying hu, sizeOf, typeInfo, zeroValue, hq, hz, newRow, Instr.fill]
      rw [show Array.range 0 = (#[] : Array Nat) from Array.eq_empty_of_size_eq_zero (by simp)]
      simp
    refine wpList_wanted hgd fun K hK => ?_
    unfold Oper.wp execOp
    simp only [ho, Sem.run_bind, Sem.run_pure, Result.andThen_ok, hrun]
    exact hK _ _ h
end
end

section
open Go.RowKit
section
variable {P : Program} {ops : Array Oper} {Q : Exit → Act → World → Prop} {md : Region.Mode} {T : World → Prop} {bad : List Nat}
theorem wpAnyP_first2 {i : Nat} {oi : Oper} {v : Value} (mids : List Nat) (hi : ops[i]? = some oi) (hsel : ∀ (j : Nat) (o : Oper) cs b, ops[j]? = some o → o.op ≠ .select cs b)
    (hQ : ∀ c a w, Q (.panic c) (a.put oi.dst v) w → Q (.panic c) a w) (hbad : ∀ s ∈ bad, s ≠ i ∧ (Region.waitsFor md ops s i = true ∨ ∃ m ∈ mids, Region.waitsFor md ops s m = true)) (hmid : ∀ m ∈ mids, m ≠ i ∧ (Region.waitsFor md ops m i = true ∨ ∃ m' ∈ mids, Region.waitsFor md ops m m' = true)) :
    ∀ (fuel : Nat) (listed : Array Bool) (a : Act) (w : World),
      (∀ j oj, ops[j]? = some oj → j ≠ i → listed.getD j true = false → (∀ e ∈ oj.after, Region.binds md e = true → e.on ≠ i) → oi.apart ops oj = true) →
      (∀ s ∈ bad, listed.getD s true = false) → (∀ s ∈ mids, listed.getD s true = false) → i ∈ Region.ready md ops listed → YieldsIf P ops T oi v a → T w →
      wpAnyP P md ops Q T bad fuel (listed.setIfInBounds i true) (a.put oi.dst v) w → wpAnyP P md ops Q T bad (fuel + 1) listed a w := by
  intro fuel
  induction fuel with
  | zero =>
    intro listed a w _ _ _ hr hy hT H
    refine ⟨fun h => (by rw [h] at hr; cases hr), fun j hj => ?_⟩
    by_cases hji : j = i
    · subst hji; exact hy.wpOp hi hT ⟨fun _ => hT, H⟩
    · have := ready_mono hj hji
      rw [H.1] at this
      cases this
  | succ fuel ih =>
    intro listed a w hfree hun hum hr hy hT H
    refine ⟨fun h => (by rw [h] at hr; cases hr), fun j hj => ?_⟩
    by_cases hji : j = i
    · subst hji; exact hy.wpOp hi hT ⟨fun _ => hT, H⟩
    · have h1 := H.2 j (ready_mono hj hji)
      obtain ⟨hjun, oj, hoj, hall⟩ := mem_ready.1 hj
      have h0 := (mem_ready.1 hr).1
      have hnot : ∀ e ∈ oj.after, Region.binds md e = true → e.on ≠ i := fun e he hb heq => by
        have h1 := hall e he hb
        rw [heq, getD_both h0] at h1
        cases h1
      have hnotm : ∀ m ∈ mids, ∀ e ∈ oj.after, Region.binds md e = true → e.on ≠ m := fun m hm e he hb heq => by
        have h1 := hall e he hb
        rw [heq, getD_both (hum m hm)] at h1
        cases h1
      have hjm : j ∉ mids := fun hb => by
        rcases (hmid j hb).2 with hw | ⟨m, hm, hw⟩
        · obtain ⟨o', ho', e, he, hbd, hon⟩ := Region.waitsFor_spec hw
          have : o' = oj := Option.some.inj (ho'.symm.trans hoj)
          subst this
          exact hnot e he hbd hon
        · obtain ⟨o', ho', e, he, hbd, hon⟩ := Region.waitsFor_spec hw
          have : o' = oj := Option.some.inj (ho'.symm.trans hoj)
          subst this
          exact hnotm m hm e he hbd hon
      have hjb : j ∉ bad := fun hb => by
        rcases (hbad j hb).2 with hw | ⟨m, hm, hw⟩
        · obtain ⟨o', ho', e, he, hbd, hon⟩ := Region.waitsFor_spec hw
          have : o' = oj := Option.some.inj (ho'.symm.trans hoj)
          subst this
          exact hnot e he hbd hon
        · obtain ⟨o', ho', e, he, hbd, hon⟩ := Region.waitsFor_spec hw
          have : o' = oj := Option.some.inj (ho'.symm.trans hoj)
          subst this
          exact hnotm m hm e he hbd hon
      have hunj : ∀ s ∈ bad, (listed.setIfInBounds j true).getD s true = false := fun s hs => by
        rw [getD_set_ne true (fun e => hjb (by rw [e]; exact hs))]; exact hun s hs
      have humj : ∀ s ∈ mids, (listed.setIfInBounds j true).getD s true = false := fun s hs => by
        rw [getD_set_ne true (fun e => hjm (by rw [e]; exact hs))]; exact hum s hs
      have hunij : ∀ s ∈ bad, ((listed.setIfInBounds i true).setIfInBounds j true).getD s true = false := fun s hs => by
        rw [getD_set_ne true (fun e => hjb (by rw [e]; exact hs)), getD_set_ne true (fun e => (hbad s hs).1 e.symm)]; exact hun s hs
      have h2 := wpOp_putIf hoj (hfree j oj hoj hji hjun hnot) (fun cs b => hsel i oi cs b hi) (fun cs b => hsel j oj cs b hoj) hQ hy h1
      have hfree' : ∀ k ok, ops[k]? = some ok → k ≠ i → (listed.setIfInBounds j true).getD k true = false →
          (∀ e ∈ ok.after, Region.binds md e = true → e.on ≠ i) → oi.apart ops ok = true := fun k ok hk hki hun' hno => by
        refine hfree k ok hk hki ?_ hno
        by_cases hjk : j = k
        · subst hjk; exact hjun
        · rw [getD_set_ne true hjk] at hun'; exact hun'
      refine wpOp_mono (fun a' w' h3 => ?_) h2
      have hT' : T w' := h3.2.1 hunij
      refine ⟨fun _ => hT', ih (listed.setIfInBounds j true) a' w' hfree' hunj humj (ready_mono hr (Ne.symm hji)) h3.1 hT' ?_⟩
      rw [Array.setIfInBounds_comm _ _ hji]
      exact h3.2.2
/-- take number i first: mids wait for it, and the last operations wait for it or for one of the mids -/
theorem wpAnyP_take2 {i : Nat} (mids : List Nat) {oi : Oper} {v : Value} {fuel : Nat} {listed : Array Bool} {a : Act} {w : World} (hi : ops[i]? = some oi)
    (hs : Region.noSelect ops = true) (hf : Region.free md ops listed i = true) (hr : (Region.ready md ops listed).contains i = true)
    (hbad : (bad.all fun s => s != i && (Region.waitsFor md ops s i || mids.any fun m => Region.waitsFor md ops s m) && !listed.getD s true) = true)
    (hmid : (mids.all fun m => m != i && (Region.waitsFor md ops m i || mids.any fun m' => Region.waitsFor md ops m m') && !listed.getD m true) = true)
    (hQ : ∀ c a w, Q (.panic c) (a.put oi.dst v) w → Q (.panic c) a w) (hy : YieldsIf P ops T oi v a) (hT : T w)
    (h : wpAnyP P md ops Q T bad fuel (listed.setIfInBounds i true) (a.put oi.dst v) w) : wpAnyP P md ops Q T bad (fuel + 1) listed a w := by
  have hb := List.all_eq_true.1 hbad
  have hm := List.all_eq_true.1 hmid
  simp only [Bool.and_eq_true, bne_iff_ne, Bool.not_eq_true', Bool.or_eq_true, List.any_eq_true] at hb hm
  exact wpAnyP_first2 mids hi (Region.noSelect_spec hs) hQ (fun s hs => (hb s hs).1) (fun m h => (hm m h).1) fuel listed a w (Region.free_spec hi hf) (fun s hs => (hb s hs).2) (fun s hs => (hm s hs).2) (by simpa using hr) hy hT h
end
end

section
open Go.RowKit
section
variable {P : Program} {ops : Array Oper} {Q : Exit → Act → World → Prop} {md : Region.Mode} {T : World → Prop} {bad : List Nat}
/-- an operation that yields in every world, whatever the last operations wait for -/
theorem wpAnyP_firstU {i : Nat} {oi : Oper} {v : Value} (hi : ops[i]? = some oi) (hsel : ∀ (j : Nat) (o : Oper) cs b, ops[j]? = some o → o.op ≠ .select cs b)
    (hQ : ∀ c a w, Q (.panic c) (a.put oi.dst v) w → Q (.panic c) a w) (hbad : i ∉ bad) :
    ∀ (fuel : Nat) (listed : Array Bool) (a : Act) (w : World),
      (∀ j oj, ops[j]? = some oj → j ≠ i → listed.getD j true = false → (∀ e ∈ oj.after, Region.binds md e = true → e.on ≠ i) → oi.apart ops oj = true) →
      i ∈ Region.ready md ops listed → YieldsIf P ops (fun _ => True) oi v a → ((∀ s ∈ bad, listed.getD s true = false) → T w) →
      wpAnyP P md ops Q T bad fuel (listed.setIfInBounds i true) (a.put oi.dst v) w → wpAnyP P md ops Q T bad (fuel + 1) listed a w := by
  have hne : ∀ s ∈ bad, s ≠ i := fun s hs e => hbad (e ▸ hs)
  intro fuel
  induction fuel with
  | zero =>
    intro listed a w _ hr hy hT H
    refine ⟨fun h => (by rw [h] at hr; cases hr), fun j hj => ?_⟩
    by_cases hji : j = i
    · subst hji; exact hy.wpOp hi trivial ⟨fun hs => hT fun s h => by have := hs s h; rwa [getD_set_ne true (hne s h).symm] at this, H⟩
    · have := ready_mono hj hji
      rw [H.1] at this
      cases this
  | succ fuel ih =>
    intro listed a w hfree hr hy hT H
    refine ⟨fun h => (by rw [h] at hr; cases hr), fun j hj => ?_⟩
    by_cases hji : j = i
    · subst hji; exact hy.wpOp hi trivial ⟨fun hs => hT fun s h => by have := hs s h; rwa [getD_set_ne true (hne s h).symm] at this, H⟩
    · have h1 := H.2 j (ready_mono hj hji)
      obtain ⟨hjun, oj, hoj, hall⟩ := mem_ready.1 hj
      have h0 := (mem_ready.1 hr).1
      have hnot : ∀ e ∈ oj.after, Region.binds md e = true → e.on ≠ i := fun e he hb heq => by
        have h1 := hall e he hb
        rw [heq, getD_both h0] at h1
        cases h1
      have h2 := wpOp_putIf hoj (hfree j oj hoj hji hjun hnot) (fun cs b => hsel i oi cs b hi) (fun cs b => hsel j oj cs b hoj) hQ hy h1
      have hfree' : ∀ k ok, ops[k]? = some ok → k ≠ i → (listed.setIfInBounds j true).getD k true = false →
          (∀ e ∈ ok.after, Region.binds md e = true → e.on ≠ i) → oi.apart ops ok = true := fun k ok hk hki hun' hno => by
        refine hfree k ok hk hki ?_ hno
        by_cases hjk : j = k
        · subst hjk; exact hjun
        · rw [getD_set_ne true hjk] at hun'; exact hun'
      refine wpOp_mono (fun a' w' h3 => ?_) h2
      have hT' : (∀ s ∈ bad, (listed.setIfInBounds j true).getD s true = false) → T w' := fun hs => h3.2.1 fun s h => by
        rw [Array.setIfInBounds_comm _ _ (Ne.symm hji), getD_set_ne true (hne s h).symm]
        exact hs s h
      refine ⟨hT', ih (listed.setIfInBounds j true) a' w' hfree' (ready_mono hr (Ne.symm hji)) h3.1 hT' ?_⟩
      rw [Array.setIfInBounds_comm _ _ hji]
      exact h3.2.2
theorem wpAnyP_takeU {i : Nat} {oi : Oper} {v : Value} {fuel : Nat} {listed : Array Bool} {a : Act} {w : World} (hi : ops[i]? = some oi)
    (hs : Region.noSelect ops = true) (hf : Region.free md ops listed i = true) (hr : (Region.ready md ops listed).contains i = true) (hbad : bad.contains i = false)
    (hQ : ∀ c a w, Q (.panic c) (a.put oi.dst v) w → Q (.panic c) a w) (hy : YieldsIf P ops (fun _ => True) oi v a) (hT : T w)
    (h : wpAnyP P md ops Q T bad fuel (listed.setIfInBounds i true) (a.put oi.dst v) w) : wpAnyP P md ops Q T bad (fuel + 1) listed a w :=
  wpAnyP_firstU hi (Region.noSelect_spec hs) hQ (by simpa using hbad) fuel listed a w (Region.free_spec hi hf) (by simpa using hr) hy (fun _ => hT) h
end
end
end

section
open Go.RowKit
section
variable {P : Program} {ops : Array Oper} {Q : Exit → Act → World → Prop} {md : Region.Mode} {T T' : World → Prop} {bad : List Nat}
theorem wpAnyP_weak (ht : ∀ w, T' w → T w) : ∀ (fuel : Nat) (listed : Array Bool) (a : Act) (w : World), wpAnyP P md ops Q T' bad fuel listed a w → wpAnyP P md ops Q T bad fuel listed a w
  | 0, _, _, _, h => h
  | fuel + 1, _, _, _, h => ⟨h.1, fun i hi => wpOp_mono (fun a' w' h' => ⟨fun hs => ht _ (h'.1 hs), wpAnyP_weak ht fuel _ a' w' h'.2⟩) (h.2 i hi)⟩
/-- from here on the world of now stands -/
theorem wpAnyP_now {W : World} {fuel : Nat} {listed : Array Bool} {a : Act} {w : World} (hb : Below W.heap.size W w) (h : wpAnyP P md ops Q (fun w' => Below w.heap.size w w') bad fuel listed a w) : wpAnyP P md ops Q (fun w' => Below W.heap.size W w') bad fuel listed a w :=
  wpAnyP_weak (fun _ k => ext_trans hb k) _ _ _ _ h
/-- the beginning, with all that stands in the world kept -/
theorem wp_region_now {id : Nat} {a : Act} {w : World} (hm : P.follows .mixedOrders = true)
    (h : ∀ w0 : World, Below w.heap.size w w0 → wpAnyP P .any ops Q (fun w' => Below w0.heap.size w0 w') [] ops.size (Array.replicate ops.size false) a w0) : (Code.region id ops true).wp P Q a w :=
  wp_region_phase _ [] hm (wpAnyP_now (ext_drew (ext_refl w)) (h _ (ext_drew (ext_refl w))))
/-- bytes become a string -/
theorem yieldsIf_str {o : Oper} {a : Act} (hgd : Region.wanted o (yielded ops a.tmps) = true) (x : Operand) (src dst e : TypeId) (ho : o.op = Op.convert src dst x)
    (hs : P.underlying src = some (.slice e)) (he : P.underlying e = some (.int .u8)) (hd : P.underlying dst = some .string) {m c : Nat} {A : Option Addr} {l : List UInt8} (hx : a.eval x = .slice A m c) (hm : l.length = m)
    (hT : ∀ w, T w → ∃ B, Row w B A (bvs l)) : YieldsIf P ops T o (.string (str l)) a := by
  refine .inl ⟨hgd, fun w hw => ?_⟩
  obtain ⟨B, hr⟩ := hT w hw
  have hrun := run_string (P := P) w src dst e hs he hd (c := c) hr hm (fun h => by rw [← hm]; exact row_none hr h)
  simp only [execOp, ho, Sem.run_bind, Sem.run_pure, Result.andThen_ok, hx, hrun]
end
end
end Go.Proofs.YtmlnmcoophnlaaaGreat
