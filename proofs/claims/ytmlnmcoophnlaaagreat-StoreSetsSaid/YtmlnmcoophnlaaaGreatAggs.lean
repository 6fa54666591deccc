/-
  Laws of a walk for values of several cells (structs by value), their cells whatever. No function of the program; no condition.
  A struct that comes back out of a variable. No function of the program; no condition.
  A struct is stored into a block that is known whole. No function of the program; no condition.
  One cell is stored into a block that is known whole. No function of the program; no condition.
-/
import Derived.Test.YtmlnmcoophnlaaaGreatMem
import Derived.Deep.MidRow
import Derived.Deep.WholeRow
import Derived.Great.BuildSlice
import Derived.StillTailTactics
set_option linter.unusedVariables false
set_option linter.unusedSimpArgs false
namespace Go.Proofs.YtmlnmcoophnlaaaGreat
section
open Go.RowKit

/-- A struct's type: its zero value's cells, n of them. -/
structure Strc (P : Program) (t : TypeId) (z : Array Value) (n : Nat) : Prop where
  row : ∃ d, P.underlying t = some d ∧ d.isRow = true
  info : (P.info? t).map (fun i => (i.zero, i.size)) = some (some (.agg z), n)
  zero : z.size = n

/-- the cells cs stand at ad -/
def CellsAt (w : World) (ad : Addr) (cs : List Value) : Prop := ∀ j u, cs[j]? = some u → w.cell? (ad.add j) = some u

/-- a row that is not empty: its address written out -/
theorem Row.fix {w : World} {B : Nat} {A : Option Addr} {xs : List Value} (h : Row w B A xs) {k : Nat} {u : Value} (hk : xs[k]? = some u) :
    ∃ b o, A = some ⟨b, o, none⟩ ∧ b < w.heap.size ∧ ∀ j u, xs[j]? = some u → w.cell? ⟨b, o + j, none⟩ = some u := by
  obtain ⟨ad, rfl, _, hc⟩ := h (by rintro rfl; simp at hk)
  obtain ⟨b, o, sp⟩ := ad
  have h0 : ∃ v, xs[0]? = some v := by
    cases xs with
    | nil => simp at hk
    | cons v _ => exact ⟨v, rfl⟩
  obtain ⟨v, hv⟩ := h0
  have h1 := hc 0 v hv
  have hs : sp = none := by
    simp only [Addr.add, if_true, World.cell?] at h1
    split at h1
    · cases sp with
      | none => rfl
      | some x => simp at h1
    · cases h1
  subst hs
  refine ⟨b, o, rfl, World.block_lt_of_cell? w _ h1, fun j u hu => ?_⟩
  have := hc j u hu
  rwa [Addr.add_mid] at this
theorem cell_assoc {w : World} {b o i j : Nat} {u : Value} (h : w.cell? ⟨b, o + (i + j), none⟩ = some u) : w.cell? ⟨b, o + i + j, none⟩ = some u := by rwa [Nat.add_assoc]

theorem bcell {W w1 : World} (hb : Below W.heap.size W w1) : (∀ b o, b < W.heap.size → w1.cell? ⟨b, o, none⟩ = W.cell? ⟨b, o, none⟩) ∧ (∀ b o, b < W.heap.size → w1.frozen? ⟨b, o, none⟩ = W.frozen? ⟨b, o, none⟩) :=
  ⟨fun b o h => hb.cell (p := ⟨b, o, none⟩) h, fun b o h => hb.frozen (p := ⟨b, o, none⟩) h⟩

/-! ### An old cell behind new blocks (rules of the walk, where a text says so) -/
theorem cell_alloc1 {w : World} {a : Addr} {u : Value} {o1 : Obj} (h : w.cell? a = some u) : (w.alloc o1).cell? a = some u := by
  rw [World.cell?_alloc_lt _ _ _ (World.block_lt_of_cell? w a h)]; exact h
theorem cell_alloc2 {w : World} {a : Addr} {u : Value} {o1 o2 : Obj} (h : w.cell? a = some u) : ((w.alloc o1).alloc o2).cell? a = some u := cell_alloc1 (cell_alloc1 h)
theorem cell_alloc3 {w : World} {a : Addr} {u : Value} {o1 o2 o3 : Obj} (h : w.cell? a = some u) : (((w.alloc o1).alloc o2).alloc o3).cell? a = some u := cell_alloc1 (cell_alloc2 h)

section
variable {P : Program} {w : World} {ops : Array Oper} {rest : List Oper} {o o1 o2 : Oper} {a : Act} {Q : Exit → Act → World → Prop} {t : TypeId} {z : Array Value} {n : Nat}
theorem Strc.size (G : Strc P t z n) : (P.info? t).map (·.size) = some n := by
  have h := G.info
  cases hq : P.info? t with
  | none => simp [hq] at h
  | some i => simp [hq] at h; simp [h.2]
theorem Strc.run_zero (G : Strc P t z n) (w : World) : (zeroValue t).run P w = .ok (.agg z) w := (zero_of_info G.info).1 w
theorem run_loadS (G : Strc P t z n) (ad : Addr) (cs : List Value) (hn : cs.length = n) (hc : CellsAt w ad cs) : (Instr.loadAt t (.pointer (some ad))).run P w = .ok (.agg cs.toArray) w := by
  obtain ⟨d, hu, hd⟩ := G.row
  have hs := G.size
  have hl : (loadCells ad cs.length).run P w = .ok cs.toArray w := run_loadCells_list (P := P) w ad cs hc
  have hv : (loadVar t ad).run P w = .ok (.agg cs.toArray) w := by
    cases hq : P.info? t with
    | none => simp [hq] at hs
    | some i =>
      have hs' : i.size = cs.length := by rw [hn]; simpa [hq] using hs
      have hagg : (isAgg t).run P w = .ok true w := by
        unfold isAgg
        rw [Sem.run_bind, run_underlying hu w]
        cases d <;> simp_all
      simp [loadVar, Sem.run_bind, hagg, sizeOf, typeInfo, hq, hs', hl]
  simp only [Instr.loadAt, Instr.sureAddr, Sem.run_bind, Sem.run_pure, Result.andThen_ok, hv]
/-- a struct is loaded -/
theorem wpList_loadS (hgd : Region.wanted o (yielded ops a.tmps) = true) (x : Operand) (ho : o.op = .load t x) (G : Strc P t z n) (ad : Addr) (hx : a.eval x = .pointer (some ad)) (cs : List Value) (hn : cs.length = n) (hc : CellsAt w ad cs)
    (h : wpList P ops Q rest (a.put o.dst (.agg cs.toArray)) w) : wpList P ops Q (o :: rest) a w := by
  refine wpList_wanted hgd fun K hK => ?_
  unfold Oper.wp execOp
  simp only [ho, hx, Sem.run_bind, Sem.run_pure, Result.andThen_ok, run_loadS G ad cs hn hc]
  exact hK _ _ h
theorem Strc.run_alloc (G : Strc P t z n) (w : World) : (Instr.alloc t true (.tuple #[])).run P w = .ok (.pointer (some ⟨w.heap.size, 0, none⟩)) (w.alloc (.cells z t)) := by
  simp only [Instr.alloc, Sem.run_bind, Result.andThen_ok, G.run_zero]
  rfl
/-- 'x := v': a new variable that gets its value at once -/
theorem wpList_newS (hgd1 : Region.wanted o1 (yielded ops a.tmps) = true) (ho1 : o1.op = .alloc t) (G : Strc P t z n) (hgd2 : Region.wanted o2 (yielded ops (a.put o1.dst (.pointer (some ⟨w.heap.size, 0, none⟩))).tmps) = true)
    (x y : Operand) (ho2 : o2.op = .store t x y) (hd2 : o2.dst = none) (hx : (a.put o1.dst (.pointer (some ⟨w.heap.size, 0, none⟩))).eval x = .pointer (some ⟨w.heap.size, 0, none⟩))
    (C : Array Value) (hy : (a.put o1.dst (.pointer (some ⟨w.heap.size, 0, none⟩))).eval y = .agg C) (hC : C.size = n) (h1 : ∀ u ∈ C.toList, u.oneCell' = true)
    (h : wpList P ops Q rest (a.put o1.dst (.pointer (some ⟨w.heap.size, 0, none⟩))) (w.alloc (.cells C t))) : wpList P ops Q (o1 :: o2 :: rest) a w := by
  refine wpList_wanted hgd1 fun K hK => ?_
  unfold Oper.wp execOp
  simp only [ho1, Sem.run_bind, Sem.run_pure, Result.andThen_ok, G.run_alloc]
  refine hK _ _ (wpList_wanted hgd2 fun K' hK' => ?_)
  have hst := run_storeAt_new (P := P) w t z C (by rw [G.size, hC]) (by rw [G.zero, hC]) (Array.all_eq_true_iff_forall_mem.2 fun v hv => h1 v (by simpa using hv))
  unfold Oper.wp execOp
  simp only [ho2, hx, hy, Sem.run_bind, Sem.run_pure, Result.andThen_ok, hst]
  rw [Oper.upon_skip, hd2]
  exact hK' _ _ h
/-- 'var x T' -/
theorem wpList_zeroS (hgd : Region.wanted o (yielded ops a.tmps) = true) (ho : o.op = .alloc t) (G : Strc P t z n)
    (h : wpList P ops Q rest (a.put o.dst (.pointer (some ⟨w.heap.size, 0, none⟩))) (w.alloc (.cells z t))) : wpList P ops Q (o :: rest) a w := by
  refine wpList_wanted hgd fun K hK => ?_
  unfold Oper.wp execOp
  simp only [ho, Sem.run_bind, Sem.run_pure, Result.andThen_ok, G.run_alloc]
  exact hK _ _ h
/-- '[]T{v}' -/
theorem wpList_buildS {te : TypeId} {ts : TypeId} (hgd : Region.wanted o (yielded ops a.tmps) = true) (x : Operand) (ho : o.op = .buildSlice ts 1 #[(0, x)]) (hu : P.underlying ts = some (.slice t)) (G : Strc P t z n) (hpos : 0 < n) (hsm : n ≤ 16777216)
    (C : Array Value) (hx : a.eval x = .agg C) (hC : C.size = n)
    (h : wpList P ops Q rest (a.put o.dst (.slice (some ⟨w.heap.size, 0, none⟩) 1 1)) (w.alloc (.cells C t))) : wpList P ops Q (o :: rest) a w := by
  have hi := G.info
  cases hq : P.info? t with
  | none => simp [hq] at hi
  | some i =>
    simp only [hq, Option.map_some, Option.some.injEq, Prod.mk.injEq] at hi
    obtain ⟨hz, hsz⟩ := hi
    subst hsz
    have hf := Great.fill_whole (s := i.size) hpos [.agg C] ((Array.range (1 * i.size)).map (z[· % z.size]!)) (by simp [Value.cells, hC]) (by simp)
    have hfl : ([Value.agg C].flatMap fun v => v.cells.toList).toArray = C := by simp [Value.cells]
    rw [hfl] at hf
    have hrun := run_buildSlice (P := P) w ts t 1 (#[(0, x)].map fun (j, y) => (j, a.eval y)) C i (.agg z) hu hq hz (by omega) (by omega) (by simpa [hx, Value.cells] using hf)
    refine wpList_wanted hgd fun K hK => ?_
    unfold Oper.wp execOp
    simp only [ho, Sem.run_bind, Sem.run_pure, Result.andThen_ok, hrun]
    exact hK _ _ h
/-- a struct goes into an element of a row that the call owns -/
theorem wpList_storeS (hgd : Region.wanted o (yielded ops a.tmps) = true) (x y : Operand) (ho : o.op = .store t x y) (hd : o.dst = none) (G : Strc P t z n) {base g m cap : Nat} {xs : List Value}
    (hown : w.ownsRow base t n (.slice (some ⟨g, 0, none⟩) m cap) m xs) (i : Nat) (hi : i < m) (ad : Addr) (had : ad = (⟨g, 0, none⟩ : Addr).add (i * n)) (hx : a.eval x = .pointer (some ad)) (cs : List Value) (hy : a.eval y = .agg cs.toArray) (hn : cs.length = n) (h1 : ∀ u ∈ cs, u.oneCell' = true)
    (h : ∀ w', w'.ownsRow base t n (.slice (some ⟨g, 0, none⟩) m cap) m (patch xs (i * n) cs) → w.grownBy w' (some g) → wpList P ops Q rest a w') : wpList P ops Q (o :: rest) a w := by
  rcases hown.2 with ⟨hv, _⟩ | ⟨g', cap', cur, hv, hb, hg, hnc, hcm, hcz, htake⟩
  · simp at hv
  · simp only [Value.slice.injEq, Option.some.injEq, Addr.mk.injEq, and_true, true_and] at hv
    obtain ⟨rfl, rfl⟩ := hv
    have hmul : (i + 1) * n ≤ m * n := Nat.mul_le_mul_right _ (by omega)
    have hmul2 : m * n ≤ cap * n := Nat.mul_le_mul_right _ hnc
    rw [Nat.add_mul, Nat.one_mul] at hmul
    have hst := run_storeCells_at P g (i * n) t cs 0 cur w hg (by rw [hcz, hn]; omega) h1
    have had' : ad = ⟨g, i * n, none⟩ := by rw [had]; by_cases hj : i * n = 0 <;> simp [Addr.add, hj]
    have hs := G.size
    have hrun : (Instr.storeAt t (.pointer (some ad)) (.agg cs.toArray)).run P w = .ok () (w.setRow g (cur.toList.take (i * n) ++ cs ++ cur.toList.drop (i * n + cs.length)).toArray) := by
      simp only [Nat.add_zero] at hst
      cases hq : P.info? t with
      | none => simp [hq] at hs
      | some inf =>
        have hs' : inf.size = cs.length := by rw [hn]; simpa [hq] using hs
        simp [Instr.storeAt, Instr.sureAddr, storeVar, sizeOf, typeInfo, hq, Value.cells, hs', had', hst]
    refine wpList_wanted hgd fun K hK => ?_
    unfold Oper.wp execOp
    simp only [ho, hx, hy, Sem.run_bind, Sem.run_pure, Result.andThen_ok, hrun]
    rw [Oper.upon_skip, hd]
    refine hK _ _ (h _ ⟨?_, .inr ⟨g, cap, _, rfl, hb, setRow_heap w g cur _ t _ hg, hnc, hcm, ?_, ?_⟩⟩ ⟨rfl, rfl, rfl, by simp, fun k _ hk => setRow_other w g k _ (fun e => hk (by simp [e]))⟩)
    · rw [patch_length _ _ _ (by rw [hn, hown.1]; omega), hown.1]
    · have hsz : cur.toList.length = cap * n := by simpa using hcz
      simp only [List.size_toArray, List.length_append, List.length_take, List.length_drop, hsz]
      omega
    · rw [← htake, ← take_patch _ _ _ _ (by omega)]
      simp [patch]
end

/-! ### Heads of regions that draw their order (Derived/StillTail.lean): a struct is loaded -/
section
variable {P : Program} {w : World} {ops : Array Oper} {rest : List Oper} {o : Oper} {a : Act} {Q : Act → Prop} {t : TypeId} {z : Array Value} {n : Nat}
theorem still_loadS (hgd : Region.wanted o (yielded ops a.tmps) = true) (x : Operand) (ho : o.op = .load t x) (G : Strc P t z n) (ad : Addr) (hx : a.eval x = .pointer (some ad)) (cs : List Value) (hn : cs.length = n) (hc : CellsAt w ad cs)
    (h : wpStill P ops w Q rest (a.put o.dst (.agg cs.toArray))) : wpStill P ops w Q (o :: rest) a := by
  refine wpStill_step fun K hK => ?_
  rw [if_pos hgd]
  unfold Oper.still execOp
  simp only [ho, hx, Sem.run_bind, Sem.run_pure, Result.andThen_ok, run_loadS G ad cs hn hc, Oper.stillUpon]
  exact ⟨trivial, hK _ h⟩
theorem still_run (v : Value) (hgd : Region.wanted o (yielded ops a.tmps) = true) (hrun : (execOp a.eval o).run P w = .ok (.value v) w) (h : wpStill P ops w Q rest (a.put o.dst v)) : wpStill P ops w Q (o :: rest) a := by
  refine wpStill_step fun K hK => ?_
  rw [if_pos hgd]
  unfold Oper.still
  rw [hrun]
  exact ⟨rfl, hK _ h⟩
end

/-! ### Rows of elements of k cells -/
theorem cells_range {w : World} {b o : Nat} {cs : List Value} (h : w.rangeAt b o cs) : CellsAt w ⟨b, o, none⟩ cs := fun j u hu => by rw [Addr.add_mid]; exact h j u hu
theorem range_below {w w' : World} {b o : Nat} {cs : List Value} (h : w.rangeAt b o cs) (hb : Below w.heap.size w w') : w'.rangeAt b o cs := fun j u hu => by
  have h1 := h j u hu
  rw [hb.cell (World.block_lt_of_cell? w _ h1)]; exact h1
end

section
open Go.RowKit
section
variable {P : Program} {fn : Func} {R : Ending → World → Prop} {a : Act} {w : World} {t : TypeId} {z C : Array Value} {n : Nat} {p : Tmp}
theorem bodyPost_cell (G : Strc P t z n) (hres : fn.results = #[.cell p t]) (g : Nat) (hp : a.tmps.getD p undef = .pointer (some ⟨g, 0, none⟩)) (hd : a.defers = []) (hg : w.heap[g]? = some (.cells C t (0, 0))) (hC : C.size = n)
    (hR : R (.returned (.agg C)) w) : bodyPost P fn R .ret a w := by
  obtain ⟨d, hu, hrow⟩ := G.row
  exact bodyPost_ret (results_cell_row hres _ _ g _ _ (0, 0) d hp hg hu (by cases d <;> simp_all) (by rw [G.size, hC])) hd hR
theorem bodyPost_one {ty : TypeId} (G : Strc P t z n) (hres : fn.results = #[.cell p t]) (hp : a.tmps.getD p undef = .pointer (some ⟨w.heap.size, 0, none⟩)) (hd : a.defers = []) (hC : C.size = n)
    (hR : R (.returned (.agg C)) (w.alloc (.cells C t))) : bodyPost P fn R .ret a (w.alloc (.cells C t)) := bodyPost_cell G hres _ hp hd (heap_alloc_new w _) hC hR
theorem bodyPost_two {o1 : Obj} (G : Strc P t z n) (hres : fn.results = #[.cell p t]) (hp : a.tmps.getD p undef = .pointer (some ⟨w.heap.size + 1, 0, none⟩)) (hd : a.defers = []) (hC : C.size = n)
    (hR : R (.returned (.agg C)) ((w.alloc o1).alloc (.cells C t))) : bodyPost P fn R .ret a ((w.alloc o1).alloc (.cells C t)) := bodyPost_cell G hres _ hp hd (heap_alloc2_new w _ _) hC hR
end
end

section
open Go.RowKit
section
variable {P : Program} {w : World} {ops : Array Oper} {rest : List Oper} {o : Oper} {a : Act} {Q : Exit → Act → World → Prop} {t : TypeId} {z : Array Value} {n : Nat}
theorem wpList_storeB (hgd : Region.wanted o (yielded ops a.tmps) = true) (x y : Operand) (ho : o.op = .store t x y) (hd : o.dst = none) (G : Strc P t z n) (g off : Nat) (hx : a.eval x = .pointer (some ⟨g, off, none⟩)) (cs : List Value) (hy : a.eval y = .agg cs.toArray) (hn : cs.length = n) (h1 : ∀ u ∈ cs, u.oneCell' = true)
    (C : List Value) (tb : TypeId) (hB : w.heap[g]? = some (.cells C.toArray tb (0, 0))) (hfit : off + n ≤ C.length)
    (h : ∀ w', w'.heap[g]? = some (.cells (patch C off cs).toArray tb (0, 0)) → w.grownBy w' (some g) → w'.heap.size = w.heap.size → wpList P ops Q rest a w') : wpList P ops Q (o :: rest) a w := by
  have hst := run_storeCells_at P g off tb cs 0 C.toArray w hB (by simp; omega) h1
  have hs := G.size
  have hrun : (Instr.storeAt t (.pointer (some ⟨g, off, none⟩)) (.agg cs.toArray)).run P w = .ok () (w.setRow g (patch C off cs).toArray) := by
    simp only [Nat.add_zero] at hst
    cases hq : P.info? t with
    | none => simp [hq] at hs
    | some inf =>
      have hs' : inf.size = cs.length := by rw [hn]; simpa [hq] using hs
      simp [Instr.storeAt, Instr.sureAddr, storeVar, sizeOf, typeInfo, hq, Value.cells, hs', hst, patch]
  refine wpList_wanted hgd fun K hK => ?_
  unfold Oper.wp execOp
  simp only [ho, hx, hy, Sem.run_bind, Sem.run_pure, Result.andThen_ok, hrun]
  rw [Oper.upon_skip, hd]
  exact hK _ _ (h _ (setRow_heap w g C.toArray _ tb _ hB) ⟨rfl, rfl, rfl, by simp, fun k _ hk => setRow_other w g k _ (fun e => hk (by simp [e]))⟩ (by simp))
/-- the cells of a block that is known whole -/
theorem box_cells {g : Nat} {C : List Value} {tb : TypeId} (hB : w.heap[g]? = some (.cells C.toArray tb (0, 0))) (off n : Nat) : CellsAt w ⟨g, off, none⟩ ((C.drop off).take n) := fun j u hu => by
  rw [Addr.add_mid, cell_of_row w g (off + j) _ tb _ hB]
  rw [List.getElem?_take] at hu
  split at hu
  · rw [List.getElem?_drop] at hu; simpa using hu
  · cases hu
theorem box_all {g : Nat} {C : List Value} {tb : TypeId} (hB : w.heap[g]? = some (.cells C.toArray tb (0, 0))) : CellsAt w ⟨g, 0, none⟩ C := fun j u hu => by
  rw [Addr.add_mid, cell_of_row w g (0 + j) _ tb _ hB]
  simpa using hu
theorem box_below {w' : World} {g : Nat} {o : Obj} (hB : w.heap[g]? = some o) (hb : Below w.heap.size w w') : w'.heap[g]? = some o := (hb.block g (Array.getElem?_eq_some_iff.1 hB).1).trans hB
theorem box_grown {w' : World} {g k : Nat} {o : Obj} (hB : w.heap[g]? = some o) (hg : w.grownBy w' (some k)) (hne : k ≠ g) : w'.heap[g]? = some o := (hg.block g (Array.getElem?_eq_some_iff.1 hB).1 (fun e => hne (by injection e with e; exact e.symm))).trans hB
end
end

section
open Go.RowKit
section
variable {P : Program} {w : World} {ops : Array Oper} {rest : List Oper} {o : Oper} {a : Act} {Q : Exit → Act → World → Prop}
theorem wpList_store1 (hgd : Region.wanted o (yielded ops a.tmps) = true) (x y : Operand) {t : TypeId} (ho : o.op = .store t x y) (hd : o.dst = none) (hi : (P.info? t).map (·.size) = some 1) (g off : Nat) (hx : a.eval x = .pointer (some ⟨g, off, none⟩)) (v : Value) (hy : a.eval y = v) (h1 : v.oneCell' = true)
    (C : List Value) (tb : TypeId) (hB : w.heap[g]? = some (.cells C.toArray tb (0, 0))) (hfit : off + 1 ≤ C.length)
    (h : ∀ w', w'.heap[g]? = some (.cells (patch C off [v]).toArray tb (0, 0)) → w.grownBy w' (some g) → w'.heap.size = w.heap.size → wpList P ops Q rest a w') : wpList P ops Q (o :: rest) a w := by
  have hst := run_storeCells_at P g off tb [v] 0 C.toArray w hB (by simp; omega) (by simpa using h1)
  have hc : v.cells = #[v] := by cases v <;> first | rfl | cases h1
  have hrun : (Instr.storeAt t (.pointer (some ⟨g, off, none⟩)) v).run P w = .ok () (w.setRow g (patch C off [v]).toArray) := by
    simp only [Nat.add_zero] at hst
    cases hq : P.info? t with
    | none => simp [hq] at hi
    | some inf =>
      have hs' : inf.size = 1 := by simpa [hq] using hi
      simp [Instr.storeAt, Instr.sureAddr, storeVar, sizeOf, typeInfo, hq, hc, hs', hst, patch]
  refine wpList_wanted hgd fun K hK => ?_
  unfold Oper.wp execOp
  simp only [ho, hx, hy, Sem.run_bind, Sem.run_pure, Result.andThen_ok, hrun]
  rw [Oper.upon_skip, hd]
  exact hK _ _ (h _ (setRow_heap w g C.toArray _ tb _ hB) ⟨rfl, rfl, rfl, by simp, fun k _ hk => setRow_other w g k _ (fun e => hk (by simp [e]))⟩ (by simp))
/-- a cell of a block that is known whole -/
theorem box_at {g : Nat} {C : List Value} {tb : TypeId} (hB : w.heap[g]? = some (.cells C.toArray tb (0, 0))) {j : Nat} {u : Value} (hu : C[j]? = some u) : w.cell? ⟨g, j, none⟩ = some u := by
  rw [cell_of_row w g j _ tb _ hB]; simpa using hu
end
end
end Go.Proofs.YtmlnmcoophnlaaaGreat
