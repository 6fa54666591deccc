/-
  Memory: laws for slices.Insert and slices.Clone. No function of the program; no condition.
  Slices of events in a block of the call's own.
  Sets of numbers in maps; what the code's sorted hands back.
  Sets of events: the code's sorted.
  Sets of events: Ids and Of, of the code and of the reference.
  Sets of events: the code's Missing and Refs.
  Sets of events: the reference's With, Missing and Refs.
-/
import Derived.Test.YtmlnmcoophnlaaaGreatAggs
import Derived.Lib.AppendZerosOnto
import Derived.Lib.Overlaps
import Derived.Laws.Externs
import Derived.Test.YtmlnmcoophnlaaaGreatEvVer
import Derived.Test.YtmlnmcoophnlaaaGreatElemT
import Derived.Test.YtmlnmcoophnlaaaGreatStA
import Derived.Test.YtmlnmcoophnlaaaGreatSortC
import Derived.Maps.Views
import Derived.Maps.OwnIn
import Derived.Maps.OwnOps
import Derived.Maps.OwnSet
import Derived.Maps.Keyed
import Derived.Maps.RangeWalk
import Derived.Sort.OwnSorted
import Derived.Sort.OwnSortedInts
import Derived.BigQuiet
set_option linter.unusedVariables false
set_option linter.unusedSimpArgs false
namespace Go.Proofs.YtmlnmcoophnlaaaGreat
section
open Go.RowKit Go.Lib
section
variable {P : Program} {w : World} {ops : Array Oper} {rest : List Oper} {o : Oper} {a : Act} {Q : Exit → Act → World → Prop} {t e : TypeId} {z : Value} {size bytes : Nat}
/-- 'append(s[:i], make([]T, k)...)' where there is no room: a new row -/
theorem wpList_append_zeros (hgd : o.guard = none) (s x : Operand) (tn : TypeId) (ho : o.op = .call { callee := .builtin .append, args := #[s, x], argTypes := #[t, tn] }) (htn : P.underlying tn = some (.int .i64))
    (E : Elem P t e z size bytes) (base B : Nat) (A : Option Addr) (i c k : Nat) (cs : List Value) (hs : a.eval s = .slice A i c) (hcs : cs.length = i * size) (hrow : Row w B A cs) (hA : A = none → i = 0) (hk : 0 < k) (K : Int) (hx : a.eval x = .int .i64 K) (hK : K = (k : Int)) (hroom : c < i + k)
    (hby : (i + k) * bytes ≤ 140737488355328) (hmax : i + k ≤ maxLen) (hbase : base ≤ w.heap.size)
    (h : ∀ g G zs W, g = w.heap.size → zs.length = k * size → W.ownsRow base e size (.slice (some ⟨g, 0, none⟩) (i + k) G) (i + k) (cs ++ zs) → Below w.heap.size w W → wpList P ops Q rest (a.put o.dst (.slice (some ⟨g, 0, none⟩) (i + k) G)) W) :
    wpList P ops Q (o :: rest) a w := by
  obtain ⟨ti, hi, hz0, hz1, hz2⟩ := info_parts E.info
  subst hK
  have hold : (Builtin.firstCells ti.size i (.slice A i c)).run P w.drew = .ok cs.toArray w.drew := by
    rw [hz1]
    cases A with
    | none =>
      obtain rfl := hA rfl
      rw [List.eq_nil_of_length_eq_zero (l := cs) (by simpa using hcs)]
      exact run_firstCells_none w.drew size 0 0 c
    | some ad =>
      refine run_firstCells_some w.drew size i ad i c cs hcs fun j v hj => ?_
      obtain ⟨ad', h1, _, h2⟩ := hrow.at hj
      injection h1 with h1; subst h1; exact h2
  have h48 : k * ti.bytes ≤ 281474976710656 := by
    rw [hz2]
    have : k * bytes ≤ (i + k) * bytes := Nat.mul_le_mul_right _ (by omega)
    omega
  have hrun := run_append_grow_zeros (P := P) w t tn o.type e ti z .i64 .i64 E.under htn hi hz0 A i c cs hold k hk (by rw [hz1]; exact E.pos) hroom (by unfold maxLen at hmax; omega) h48 (by rw [hz2]; exact growslice_fits hroom hby)
  refine wpList_append_run w hgd s x t tn ho _ _ hs hx _ _ hrun ?_
  have hge := grownCap_ge w (i + k) c e
  have hzl : (Builtin.zeroCells z.cells k).toList.length = k * size := by rw [Array.length_toList, size_zeroCells, E.zero]
  refine h _ _ (Builtin.zeroCells z.cells k).toList _ rfl hzl ⟨?_, .inr ⟨_, _, _, rfl, hbase, heap_alloc_new w.drew _, hge, grownCap_le_maxLen w _ _ _ hmax, ?_, ?_⟩⟩ (ext_alloc (ext_drew (ext_refl w)) _)
  · rw [List.length_append, hzl, hcs, Nat.add_mul]
  · rw [Array.size_append, Array.size_append, List.size_toArray, size_zeroCells, size_zeroCells, E.zero, hcs, ← Nat.add_mul, ← Nat.add_mul]
    congr 1
    omega
  · have hl : (cs ++ (Builtin.zeroCells z.cells k).toList).length = (i + k) * size := by rw [List.length_append, hzl, hcs, Nat.add_mul]
    simp only [Array.toList_append, List.append_assoc]
    rw [← List.append_assoc, List.take_left' hl]
/-- one cell goes into an element of a row that the call owns -/
theorem wpList_storeI (hgd : Region.wanted o (yielded ops a.tmps) = true) (x y : Operand) (ho : o.op = .store t x y) (hd : o.dst = none) (hi : (P.info? t).map (·.size) = some 1) {base g m cap : Nat} {xs : List Value}
    (hown : w.ownsRow base t 1 (.slice (some ⟨g, 0, none⟩) m cap) m xs) (i : Nat) (him : i < m) (ad : Addr) (had : ad = ⟨g, i, none⟩) (hx : a.eval x = .pointer (some ad)) (v : Value) (hy : a.eval y = v) (h1 : v.oneCell' = true)
    (h : ∀ w', w'.ownsRow base t 1 (.slice (some ⟨g, 0, none⟩) m cap) m (patch xs i [v]) → w.grownBy w' (some g) → wpList P ops Q rest a w') : wpList P ops Q (o :: rest) a w := by
  rcases hown.2 with ⟨hv, _⟩ | ⟨g', cap', cur, hv, hb, hg, hnc, hcm, hcz, htake⟩
  · simp at hv
  · simp only [Value.slice.injEq, Option.some.injEq, Addr.mk.injEq, and_true, true_and] at hv
    obtain ⟨rfl, rfl⟩ := hv
    subst had
    have hc : v.cells = #[v] := by cases v <;> first | rfl | cases h1
    have hst := run_storeCells_at P g i t [v] 0 cur w hg (by rw [hcz]; simp; omega) (by simpa using h1)
    have hrun : (Instr.storeAt t (.pointer (some ⟨g, i, none⟩)) v).run P w = .ok () (w.setRow g (cur.toList.take i ++ [v] ++ cur.toList.drop (i + 1)).toArray) := by
      simp only [Nat.add_zero] at hst
      cases hq : P.info? t with
      | none => simp [hq] at hi
      | some inf =>
        have hs' : inf.size = 1 := by simpa [hq] using hi
        simp [Instr.storeAt, Instr.sureAddr, storeVar, sizeOf, typeInfo, hq, hc, hs', hst]
    refine wpList_wanted hgd fun K hK => ?_
    unfold Oper.wp execOp
    simp only [ho, hx, hy, Sem.run_bind, Sem.run_pure, Result.andThen_ok, hrun]
    rw [Oper.upon_skip, hd]
    refine hK _ _ (h _ ⟨?_, .inr ⟨g, cap, _, rfl, hb, setRow_heap w g cur _ t _ hg, hnc, hcm, ?_, ?_⟩⟩ ⟨rfl, rfl, rfl, by simp, fun k _ hk => setRow_other w g k _ (fun e => hk (by simp [e]))⟩)
    · rw [patch_length _ _ _ (by rw [hown.1]; simp; omega), hown.1]
    · have hsz : cur.toList.length = cap * 1 := by simpa using hcz
      simp only [List.size_toArray, List.length_append, List.length_take, List.length_drop, hsz, List.length_cons, List.length_nil]
      omega
    · rw [← htake, ← take_patch _ _ _ _ (by simp; omega)]
      simp [patch]
end
theorem made_nil {w : World} {base : Nat} {e : TypeId} {size : Nat} {v : Value} {xs : List Value} (h : w.ownsRow base e size v 0 xs) : xs = [] := List.eq_nil_of_length_eq_zero (by simpa using h.1)
/-- 's[:m]' into the room behind the elements -/
theorem own_room {w : World} {base g n m c : Nat} {e : TypeId} {size : Nat} {xs : List Value} (h : w.ownsRow base e size (.slice (some ⟨g, 0, none⟩) n c) n xs) (hnm : n ≤ m) (hm : m ≤ c) :
    ∃ ys, ys.length = (m - n) * size ∧ w.ownsRow base e size (.slice (some ⟨g, 0, none⟩) m c) m (xs ++ ys) := by
  obtain ⟨hl, h⟩ := h
  rcases h with ⟨hv, _⟩ | ⟨g', cap, cur, hv, hb, hh, hc, hx, hz, ht⟩
  · simp at hv
  · simp only [Value.slice.injEq, Option.some.injEq, Addr.mk.injEq, and_true, true_and] at hv
    obtain ⟨rfl, rfl⟩ := hv
    have h1 : n * size ≤ m * size := Nat.mul_le_mul_right _ hnm
    have h2 : m * size ≤ c * size := Nat.mul_le_mul_right _ hm
    have h3 : cur.toList.length = c * size := by simpa using hz
    have e1 : cur.toList.take (m * size) = xs ++ (cur.toList.drop (n * size)).take (m * size - n * size) := by
      rw [← ht, ← List.take_add]
      congr 1
      omega
    refine ⟨(cur.toList.drop (n * size)).take (m * size - n * size), ?_, ?_, .inr ⟨g, c, cur, rfl, hb, hh, hm, hx, hz, e1⟩⟩
    · rw [List.length_take, List.length_drop, h3, Nat.sub_mul]; omega
    · rw [← e1, List.length_take, h3]; omega
theorem own_shape {w : World} {base g n c : Nat} {e : TypeId} {size : Nat} {xs : List Value} (h : w.ownsRow base e size (.slice (some ⟨g, 0, none⟩) n c) n xs) : w.shape? g = some (e, c * size) := by
  rcases h.2 with ⟨hv, _⟩ | ⟨g', cap, cur, hv, hb, hh, hc, hx, hz, ht⟩
  · simp at hv
  · simp only [Value.slice.injEq, Option.some.injEq, Addr.mk.injEq, and_true, true_and] at hv
    obtain ⟨rfl, rfl⟩ := hv
    simp [World.shape?, hh, hz]
theorem box_shape {w : World} {g : Nat} {C : Array Value} {t : TypeId} (h : w.heap[g]? = some (.cells C t (0, 0))) : w.shape? g = some (t, C.size) := by simp [World.shape?, h]
/-- shifted up by one, and the new one put in between -/
theorem patch_shift (a b c y : List Value) (hy : y.length = c.length) : patch (patch (a ++ (b ++ y)) (a.length + c.length) b) a.length c = a ++ (c ++ b) := by
  have h1 : patch (a ++ (b ++ y)) (a.length + c.length) b = (a ++ (b ++ y)).take (a.length + c.length) ++ b := by
    unfold patch
    rw [List.drop_eq_nil_of_le (by simp; omega)]
    simp
  rw [h1]
  unfold patch
  have h2 : ((a ++ (b ++ y)).take (a.length + c.length) ++ b).take a.length = a := by
    rw [List.take_append_of_le_length (by simp), List.take_take, Nat.min_eq_left (by omega), List.take_left]
  have h3 : ((a ++ (b ++ y)).take (a.length + c.length) ++ b).drop (a.length + c.length) = b := by
    rw [List.drop_left' (by simp; omega)]
  rw [h2, h3]
/-- a new row, then the new one and the rest put behind what stands ahead -/
theorem patch_grow (a b c zs : List Value) (hz : zs.length = c.length + b.length) : patch (patch (a ++ zs) a.length c) (a.length + c.length) b = a ++ (c ++ b) := by
  have h1 : patch (a ++ zs) a.length c = (a ++ c) ++ zs.drop c.length := by
    unfold patch
    rw [List.take_left, List.append_assoc]
    congr 2
    rw [List.drop_append, List.drop_eq_nil_of_le (by omega)]
    simp
  rw [h1]
  unfold patch
  have h2 : ((a ++ c) ++ zs.drop c.length).take (a.length + c.length) = a ++ c := List.take_left' (by simp)
  have h3 : ((a ++ c) ++ zs.drop c.length).drop (a.length + c.length + b.length) = [] := List.drop_eq_nil_of_le (by simp; omega)
  rw [h2, h3]
  simp
theorem flat_patch8 {n : Nat} : ∀ {css : List (List Value)} (k : Nat) (c : List Value), (∀ d ∈ css, d.length = n) → k < css.length → c.length = n → patch css.flatten (k * n) c = (css.set k c).flatten
  | [], _, _, _, h, _ => by simp at h
  | d :: css, 0, c, hs, _, hc => by
    have hd := hs d (by simp)
    simp only [patch, Nat.zero_mul, List.take_zero, List.nil_append, Nat.zero_add, List.flatten_cons, List.set_cons_zero]
    rw [List.drop_append, List.drop_eq_nil_of_le (by omega), hc, hd]
    simp
  | d :: css, k + 1, c, hs, hk, hc => by
    have hd := hs d (by simp)
    have ih := flat_patch8 (css := css) k c (fun x hx => hs x (List.mem_cons_of_mem _ hx)) (by simpa using hk) hc
    simp only [List.set_cons_succ, List.flatten_cons]
    rw [← ih]
    simp only [patch, Nat.succ_mul]
    rw [List.take_append, List.take_of_length_le (by omega), List.drop_append, List.drop_eq_nil_of_le (by omega), hd]
    rw [show k * n + n - n = k * n by omega, show k * n + n + c.length - n = k * n + c.length by omega]
    simp

theorem own_block8 {w : World} {base : Nat} {e : TypeId} {size n : Nat} {v : Value} {xs : List Value} (h : w.ownsRow base e size v n xs) (hn : 0 < n) (hs : 0 < size) : ∃ g c, v = .slice (some ⟨g, 0, none⟩) n c ∧ base ≤ g ∧ g < w.heap.size ∧ n ≤ c := by
  rcases h.2 with ⟨rfl, hx⟩ | ⟨g, cap, cur, hv, hb, hh, hc, _⟩
  · omega
  · exact ⟨g, cap, hv, hb, (Array.getElem?_eq_some_iff.1 hh).1, hc⟩
theorem set_shift {α : Type} {l : List α} {j : Nat} {y : α} (hj : 0 < j) (hl : j ≤ l.length) : (l.take j ++ y :: l.drop j).set j (l[j - 1]'(by omega)) = l.take (j - 1) ++ (l[j - 1]'(by omega)) :: l.drop (j - 1) := by
  obtain ⟨i, rfl⟩ : ∃ i, j = i + 1 := ⟨j - 1, by omega⟩
  simp only [Nat.add_sub_cancel]
  rw [List.set_append_right _ _ (by rw [List.length_take]; omega), List.length_take, Nat.min_eq_left hl, Nat.sub_self, List.set_cons_zero, List.take_succ_eq_append_getElem (by omega), List.append_assoc, List.drop_eq_getElem_cons (i := i) (by omega)]
  rfl
theorem set_last {α : Type} {l : List α} {k : Nat} {y z : α} (hl : k ≤ l.length) : (l.take k ++ y :: l.drop k).set k z = l.take k ++ z :: l.drop k := by
  rw [List.set_append_right _ _ (by rw [List.length_take]; omega), List.length_take, Nat.min_eq_left hl, Nat.sub_self, List.set_cons_zero]
theorem get_shift {α : Type} {l : List α} {j : Nat} {y : α} (hj : 0 < j) (hl : j ≤ l.length) : (l.take j ++ y :: l.drop j)[j - 1]? = some (l[j - 1]'(by omega)) := by
  rw [List.getElem?_append_left (by rw [List.length_take]; omega), List.getElem?_take_of_lt (by omega), List.getElem?_eq_getElem]
theorem patch_ivs {l : List Int} {i : Nat} {z : Int} (h : i < l.length) : patch (ivs l) i [.int .i64 z] = ivs (l.set i z) := by
  unfold patch ivs
  rw [List.map_set, List.set_eq_take_append_cons_drop, if_pos (by simpa using h)]
  rfl
theorem own_cap {w : World} {base n c size : Nat} {e : TypeId} {A : Option Addr} {xs : List Value} (h : w.ownsRow base e size (.slice A n c) n xs) : n ≤ c ∧ c ≤ maxLen := by
  obtain ⟨A', c', hv, h1, h2⟩ := own_form h
  injection hv with _ _ h3
  subst h3
  exact ⟨h1, h2⟩
end

section
open Go.RowKit
theorem elemE : Elem Tryz.prog 22 35 (.agg evZero) 29 376 := ⟨Tryz.underlying22, by kernel_rfl, rfl, by decide⟩
/-- a slice of events in a block of its own -/
def OwnE (base : Nat) (w : World) (S : Nat → Prop) (v : Value) (l : List Ev) : Prop := ∃ css, w.ownsRow base 35 29 v l.length css.flatten ∧ Told (EvR w S) css l
theorem OwnE.evs {base : Nat} {w : World} {S : Nat → Prop} {v : Value} {l : List Ev} (h : OwnE base w S v l) : EvsR w S v l := by
  obtain ⟨css, h1, h2⟩ := h
  exact ⟨css, (Slc.own h1 (by decide)).any, h2⟩
theorem OwnE.below {base : Nat} {w w' : World} {S : Nat → Prop} {v : Value} {l : List Ev} (h : OwnE base w S v l) (hb : Below w.heap.size w w') : OwnE base w' S v l := by
  obtain ⟨css, h1, h2⟩ := h
  exact ⟨css, own_below h1 hb, h2.imp fun _ _ h => h.ext hb⟩
def GivesO (S : Nat → Prop) (l : List Ev) (w : World) (e : Ending) (w' : World) : Prop := ∃ v', e = .returned v' ∧ OwnE w.heap.size w' S v' l ∧ Below w.heap.size w w'
theorem told_one {w : World} {S : Nat → Prop} : ∀ {css : List (List Value)} {l : List Ev}, Told (EvR w S) css l → ∀ u ∈ css.flatten, u.oneCell' = true
  | [], _, _, u, hu => by simp at hu
  | c :: css, e :: l, h, u, hu => by
    simp only [List.flatten_cons, List.mem_append] at hu
    rcases hu with hu | hu
    · exact h.1.one u hu
    · exact told_one h.2 u hu
  | _ :: _, [], h, _, _ => h.elim
theorem told_size {w : World} {S : Nat → Prop} {css : List (List Value)} {l : List Ev} (h : Told (EvR w S) css l) : ∀ c ∈ css, c.length = 29 := Told.size (fun c x (h : EvR w S c x) => h.length) h
theorem told_len {w : World} {S : Nat → Prop} {css : List (List Value)} {l : List Ev} (h : Told (EvR w S) css l) : css.flatten.length = l.length * 29 := by rw [flat_length (told_size h), h.length]
theorem ownE_nil (base : Nat) (w : World) (S : Nat → Prop) : OwnE base w S (.slice none 0 0) [] := ⟨[], World.ownsRow_nil _ _ _ _, Told.nil⟩
/-- one event more -/
theorem ownE_step {base : Nat} {w w' : World} {B : Nat} {T : Nat → Prop} (hT : ∀ b, T b → b < B) {v' : Value} {n : Nat} {css : List (List Value)} {out : List Ev} {cs : List Value} {e : Ev} (hown' : w'.ownsRow base 35 29 v' n (css.flatten ++ cs)) (hn : n = out.length + 1)
    (ht : Told (EvR w T) css out) (he : EvR w T cs e) (hb : ∀ b, b < B → w'.heap[b]? = w.heap[b]?) (hs : B ≤ w.heap.size) (hs' : w.heap.size ≤ w'.heap.size) : OwnE base w' T v' (out ++ [e]) := by
  have hk : ∀ {c : List Value} {x : Ev}, EvR w T c x → EvR w' T c x := fun h => by
    obtain ⟨vp, vq, va, vd, vu, vk, rfl, h1, h2, h3, h4, h5, h6⟩ := h
    have hq : ∀ {v : Value} {size n : Nat} {xs : List Value}, Slc w T v size n xs → Slc w' T v size n xs := fun h => by
      obtain ⟨A, c, rfl, k1, k2, k3, k4, k5, k6⟩ := h
      refine ⟨A, c, rfl, k1, k2, k3, k4, fun hne => ?_, k6⟩
      obtain ⟨ad, ha, hlt, hc⟩ := k5 hne
      refine ⟨ad, ha, Nat.lt_of_lt_of_le hlt hs', fun j u hu => ?_⟩
      rw [← hc j u hu]
      exact World.cell?_of_block (by rw [block_of_add]; exact hb _ (hT _ (k6 hne ad ha)))
    exact ⟨vp, vq, va, vd, vu, vk, rfl, hq h1, hq h2, hq h3, hq h4, hq h5, hq h6⟩
  refine ⟨css ++ [cs], ?_, (ht.imp fun _ _ h => hk h).append (Told.one (hk he))⟩
  have h1 : (css ++ [cs]).flatten = css.flatten ++ cs := by simp
  have h2 : (out ++ [e]).length = n := by rw [hn]; simp
  rw [h1, h2]
  exact hown'

/-- an owned row where another block grows -/
theorem own_apart {w w' : World} {base : Nat} {e : TypeId} {size n : Nat} {v : Value} {xs : List Value} {row : Option Nat} (h : w.ownsRow base e size v n xs) (hg : w.grownBy w' row) (hne : ∀ g, v.ownBlock = some g → row ≠ some g) : w'.ownsRow base e size v n xs := by
  refine ⟨h.1, ?_⟩
  rcases h.2 with h2 | ⟨g, cap, cur, rfl, hb, hh, r⟩
  · exact .inl h2
  · refine .inr ⟨g, cap, cur, rfl, hb, ?_, r⟩
    rw [hg.block g (Array.getElem?_eq_some_iff.1 hh).1 (fun e => hne g rfl e.symm)]
    exact hh
theorem OwnE.grown {base : Nat} {w w' : World} {S : Nat → Prop} {v : Value} {l : List Ev} {row : Option Nat} (h : OwnE base w S v l) (hg : w.grownBy w' row) (hne : ∀ g, v.ownBlock = some g → row ≠ some g) (hS : ∀ b, S b → row ≠ some b) : OwnE base w' S v l := by
  obtain ⟨css, h1, h2⟩ := h
  exact ⟨css, own_apart h1 hg hne, h2.imp fun _ _ h => h.grown hg hS⟩
theorem OwnE.any {base : Nat} {w : World} {S : Nat → Prop} {v : Value} {l : List Ev} (h : OwnE base w S v l) : EvsR w Any v l := h.evs.any
theorem Told.mem {α : Type} {R : List Value → α → Prop} : ∀ {css : List (List Value)} {l : List α} {k : Nat} (h : Told R css l) (hk : k < l.length), ∃ h1 : k < css.length, R css[k] l[k] := fun {css l k} h hk => ⟨by rw [h.length]; exact hk, h.get k _ hk⟩
end

section
open Go.RowKit Go.Maps
attribute [local go_sem] Addr.add_mid
def GivesZ (l : List Int) (w : World) (e : Ending) (w' : World) : Prop := ∃ v', e = .returned v' ∧ w'.ownsRow w.heap.size 3 1 v' l.length (ivs l) ∧ Below w.heap.size w w'
/-! ### The map as a set -/
def OwnsM (w : World) (b n : Nat) (D : DataW Unit) : Prop := w.ownsMap Tryz.prog 3 (plainElem Tryz.prog 4) b n D
def hasM (D : DataW Unit) (y : Int) : Bool := Maps.has D (.int .i64 y)
theorem keyL (n : Int) : WideAt.IsKeyLit (Lit.int .i64 n) := by trivial
theorem wfL {n : Int} (h : I64 n) : (Lit.int .i64 n).wf = true := by
  unfold I64 at h
  simp [Lit.wf, IntKind.min, IntKind.max, IntKind.bits, IntKind.signed]
  omega
theorem lit_ne {x y : Int} (h : x ≠ y) : Lit.int .i64 x ≠ Lit.int .i64 y := by intro e; injection e with _ e; exact h e
theorem hasM_put {D : DataW Unit} (hD : IsMap D) (n : Int) (d : DataW Unit) (y : Int) : hasM (D.put (.int .i64 n) d) y = (decide (y = n) || hasM D y) := by
  unfold hasM
  by_cases h : y = n
  · subst h; rw [has_put_same hD (keyL y)]; simp
  · rw [has_put_other (lit_ne h)]; simp [h]
theorem hasM_del {D : DataW Unit} (n y : Int) : hasM (D.del (.int .i64 n)) y = (!decide (y = n) && hasM D y) := by
  unfold hasM
  by_cases h : y = n
  · subst h; rw [has_del_same]; simp
  · rw [has_del_other (lit_ne h)]; simp [h]
theorem hasM_empty (y : Int) : hasM (.map []) y = false := rfl
theorem OwnsM.made (w : World) : OwnsM (w.alloc (.map #[] 0)) w.heap.size 0 (.map []) := World.ownsMap_made _ _ _ _
theorem OwnsM.kept {w w' : World} {b n : Nat} {D : DataW Unit} (h : OwnsM w b n D) (hb : Below w.heap.size w w') : OwnsM w' b n D := by
  obtain ⟨es, clock, h1, h2, h3, h4⟩ := h
  exact ⟨es, clock, by rw [hb.block b (Array.getElem?_eq_some_iff.1 h1).1]; exact h1, h2, h3, h4⟩
theorem OwnsM.isMap {w : World} {b n : Nat} {D : DataW Unit} (h : OwnsM w b n D) : IsMap D := World.ownsMap.isMap h
theorem run_mapI0 (w : World) : (Instr.makeMap 65 none).run Tryz.prog w = .ok (.map (some w.heap.size)) (w.alloc (.map #[] 0)) := rfl
theorem run_mapIN (n : Int) (w : World) : (Instr.makeMap 65 (some (.int .i64 n))).run Tryz.prog w = .ok (.map (some w.heap.size)) (w.alloc (.map #[] 0)) := by
  simp [Instr.makeMap, run_underlying Tryz.underlying65, asInt]
  rfl
section
variable {w : World} {ops : Array Oper} {rest : List Oper} {o : Oper} {a : Act} {Q : Exit → Act → World → Prop}
/-- 'm[x] = true' -/
theorem wpList_toM (hg : o.guard = none) (m x v : Operand) (hop : o.op = Op.mapUpdate 65 m x v) (b n : Nat) (D : DataW Unit) (hn : n < maxLen) (hm : a.eval m = .map (some b)) (hown : OwnsM w b n D) (y : Int) (hy : I64 y) (hx : a.eval x = .int .i64 y) (hv : a.eval v = .bool true)
    (hK : ∀ D' w', OwnsM w' b (n + 1) D' → (∀ z, hasM D' z = (decide (z = y) || hasM D z)) → w.grownBy w' (some b) → wpList Tryz.prog ops Q rest (a.put o.dst undef) w') : wpList Tryz.prog ops Q (o :: rest) a w :=
  wpList_mapUpdate_own w hg m x v 65 hop 3 4 (int_keyed Tryz.underlying3) Tryz.underlying65 (plainElem Tryz.prog 4) b n D hm hown hn _ _ _ hx hv (keyOf_int_mk Tryz.underlying3 (wfL hy)) _ [] (plainElem_bool Tryz.underlying4 true) fun w' h1 h2 =>
    hK _ w' h1 (hasM_put hown.isMap y _) h2
/-- 'delete(m, x)' -/
theorem wpList_outM (hg : o.guard = none) (m x : Operand) (hop : o.op = Op.call { callee := Callee.builtin Builtin.delete, args := #[m, x], argTypes := #[65, 3] }) (b n : Nat) (D : DataW Unit) (hm : a.eval m = .map (some b)) (hown : OwnsM w b n D) (y : Int) (hy : I64 y) (hx : a.eval x = .int .i64 y)
    (hK : ∀ D' w', OwnsM w' b n D' → (∀ z, hasM D' z = (!decide (z = y) && hasM D z)) → w.grownBy w' (some b) → wpList Tryz.prog ops Q rest (a.put o.dst (.tuple #[])) w') : wpList Tryz.prog ops Q (o :: rest) a w :=
  wpList_delete_own (w := w) hg m x 65 3 hop 4 (int_keyed Tryz.underlying3) Tryz.underlying65 (plainElem Tryz.prog 4) b n D hm hown _ _ hx (keyOf_int_mk Tryz.underlying3 (wfL hy)) fun w' h1 h2 =>
    hK _ w' h1 (hasM_del y) h2.grown
/-- the step of a loop over the keys -/
theorem wpList_nextM (hg : o.guard = none) (it : Operand) (hop : o.op = Op.next it false) (b r n : Nat) (D : DataW Unit) (left : Lit → Bool) (cnt : Nat) (hit : a.eval it = .pointer (some ⟨r, 0, none⟩)) (h : w.ranges Tryz.prog 3 (plainElem Tryz.prog 4) b r n D left cnt)
    (hDone : Hid (∀ kl, left kl = false) → wpList Tryz.prog ops Q rest (a.put o.dst (.tuple #[.bool false])) w)
    (hMore : Hid (∀ (x : Int) (v : Value) (w' : World) (cnt' : Nat), left (.int .i64 x) = true → hasM D x = true → w'.ranges Tryz.prog 3 (plainElem Tryz.prog 4) b r n D (fun z => left z && !z.sameKey (.int .i64 x)) cnt' → cnt' < cnt → w.grownBy w' (some r) →
      (Instr.entry (.pointer (some ⟨r, 0, none⟩))).run Tryz.prog w' = .ok (.tuple #[.int .i64 x, v]) w' → wpList Tryz.prog ops Q rest (a.put o.dst (.tuple #[.bool true, .int .i64 x, v])) w')) :
    wpList Tryz.prog ops Q (o :: rest) a w :=
  wpList_next_ranges w hg it hop 3 (int_keyed Tryz.underlying3) (plainElem Tryz.prog 4) (Value.int .i64) (fun v : Value => v) (fun key kl hkey => by obtain ⟨x, rfl, _⟩ := Maps.keyOf_int_inv Tryz.underlying3 hkey; exact ⟨x, rfl⟩) (fun v y _ => ⟨v, rfl⟩)
    b r n D left cnt hit h (fun _ hl => hDone hl) (fun x v kl y w' cnt' hkl hlk hv hat hrg hlt hg2 hs2 hen => by
      obtain ⟨x', ex, rfl, hwx⟩ := Maps.keyOf_int_inv Tryz.underlying3 hkl
      cases ex
      exact hMore x v w' cnt' hlk (has_true_of_atKey hat) hrg hlt hg2 hen)
end
/-! ### Sorted -/
theorem rise_sorted {out t : List Int} (hn : out.Nodup) (ht : Rise t) (hm : ∀ y, y ∈ out ↔ y ∈ t) : out.mergeSort (fun x y => decide (x ≤ y)) = t := by
  refine rise_ext ?_ ht fun y => by rw [(List.mergeSort_perm out _).mem_iff]; exact hm y
  have h1 : (out.mergeSort fun x y => decide (x ≤ y)).Pairwise (fun x y => decide (x ≤ y) = true) := List.pairwise_mergeSort (fun a b c h1 h2 => by simp at h1 h2 ⊢; omega) (fun a b => by simp; omega) out
  have h2 : (out.mergeSort fun x y => decide (x ≤ y)).Nodup := (List.mergeSort_perm out _).nodup_iff.2 hn
  unfold Rise
  unfold List.Nodup at h2
  exact (h1.and h2).imp fun h => by obtain ⟨h, h'⟩ := h; simp at h; omega
end

section
open Go.RowKit Go.Maps
attribute [local go_sem] Addr.add_mid
/-- what a loop over the keys has collected -/
def Coll (D : DataW Unit) (left : Lit → Bool) (out : List Int) : Prop := out.Nodup ∧ ∀ y, y ∈ out ↔ hasM D y = true ∧ left (.int .i64 y) = false
theorem Coll.start (D : DataW Unit) : Coll D (Maps.has D) [] := ⟨by simp, fun y => by unfold hasM; cases Maps.has D (.int .i64 y) <;> simp⟩
theorem Coll.step {D : DataW Unit} {left : Lit → Bool} {out : List Int} (h : Coll D left out) {x : Int} (hx : left (.int .i64 x) = true) (hD : hasM D x = true) : Coll D (fun z => left z && !z.sameKey (.int .i64 x)) (out ++ [x]) := by
  have hn : x ∉ out := fun hm => by have := ((h.2 x).1 hm).2; rw [hx] at this; cases this
  refine ⟨List.nodup_append.2 ⟨h.1, by simp, fun a ha b hb e => by rw [List.mem_singleton] at hb; exact hn (by rw [← hb, ← e]; exact ha)⟩, fun y => ?_⟩
  rw [List.mem_append, List.mem_singleton, h.2 y]
  show _ ↔ hasM D y = true ∧ (left (.int .i64 y) && !(Lit.int .i64 y).sameKey (.int .i64 x)) = false
  by_cases e : y = x
  · subst e
    simp [hD, WideAt.sameKey_self (keyL y)]
  · rw [sameKey_ne (lit_ne e)]
    simp [e]
theorem Coll.fin {D : DataW Unit} {left : Lit → Bool} {out : List Int} (h : Coll D left out) (hl : ∀ kl, left kl = false) : out.Nodup ∧ ∀ y, y ∈ out ↔ hasM D y = true := ⟨h.1, fun y => by rw [h.2 y]; simp [hl]⟩
set_option maxRecDepth 100000 in
set_option maxHeartbeats 4000000 in
theorem SSorted_any {b n : Nat} {D : DataW Unit} {t : List Int} {w : World} (hown : OwnsM w b n D) (hn : n ≤ 1000000) (hr : Rise t) (hm : ∀ y, y ∈ t ↔ hasM D y = true) :
    Calls Tryz.prog 46 #[.map (some b)] w (GivesZ t w) := by
  have hsz : Maps.size D ≤ n := World.ownsMap.size_le hown
  have hbw := World.ownsMap.lt hown
  go_enter Tryz.func46, Tryz.ntmps46
  go_wp2_with (first
    | (at_len; refine wpList_len_own _ rfl (.tmp 5) 65 rfl 3 4 Tryz.underlying65 _ b n D rfl hown ?_)
    | (at_make; go_must (refine wpList_make rfl _ _ rfl elemI w.heap.size .i64 .i64 _ _ 0 (Maps.size D) rfl rfl rfl rfl (by omega) (by omega) (by unfold maxLen; omega) (Nat.le_refl _) ?_)))
  intro g w1 hgw hown1 hgrow hsz1
  have hb1 := (Below.refl w.heap.size w).grown hgrow (Nat.le_refl _) (by simp)
  rw [made_nil hown1] at hown1
  have hown2 := OwnsM.kept hown hb1
  clear hgrow hown hgw
  go_wp2_with (at_range; refine wpList_range_own w1 rfl _ 65 rfl 3 4 (int_keyed Tryz.underlying3) Tryz.underlying65 _ b n D rfl hown2 ?_; intro w0 hrg0 hg0 hs0)
  go_frame
  have hr0 := own_apart hown1 hg0 (fun _ _ => by simp)
  have hb0 : Below w.heap.size w w0 := hb1.grown hg0 hb1.size (by simp)
  have hlow : w.heap.size ≤ w1.heap.size := hb1.size
  obtain ⟨r, hrr⟩ : ∃ r, r = w1.heap.size := ⟨_, rfl⟩
  rw [← hrr] at hrg0 ⊢
  have hrl : w.heap.size ≤ r := by omega
  clear hrr
  go_loopw [3] (fun u wr => ∃ (left : Lit → Bool) (cnt : Nat) (out : List Int), wr.ranges Tryz.prog 3 (plainElem Tryz.prog 4) b r n D left cnt ∧ wr.ownsRow w.heap.size 3 1 u out.length (ivs out) ∧ Hid (Coll D left out) ∧ out.length + cnt ≤ Maps.size D ∧ Below w.heap.size w wr) (fun _ wr => wr.rangeLeft b r)
  case atStart => exact ⟨_, _, [], hrg0, hr0, Coll.start D, by simp, hb0⟩
  case round =>
  clear hrg0 hr0 hb0 hg0 hs0 hown1 hown2 hb1 hsz1
  obtain ⟨left, cnt, out, hrg, ho, HC, hlen, hnx⟩ := hrel
  have HM := hide hm; have HR := hide hr
  clear hm hr
  have HOWN := hide ho
  go_wp2_with (at_next; refine wpList_nextM rfl _ rfl b r n D left cnt rfl hrg ?_ ?_)
  · intro hl0
    obtain ⟨hnd, hmem⟩ := HC.out.fin hl0.out
    have hlt : t.length = out.length := by rw [← rise_sorted hnd HR.out (fun y => by rw [hmem y, HM.out y]), (List.mergeSort_perm out _).length_eq]
    have hol : out.length ≤ 1000000 := by omega
    have HS := hide (rise_sorted hnd HR.out (fun y => by rw [hmem y, HM.out y]))
    have HL := hide hlt
    clear hnd hmem hl0 HC HM HR hrg hlen hlt
    rcases ho.2 with ⟨rfl, h0⟩ | ⟨g3, cap, cur, rfl, hbase, hbk, k1, k2, k3, k4⟩
    · have hto : t = [] := List.eq_nil_of_length_eq_zero (by rw [HL.out, h0])
      clear ho HOWN
      subst hto
      go_wp2_with (go_at_call 66; refine (Tryz.slices_Sort_int_none none 0 wr).mono ?_; rintro e w4 ⟨rfl, rfl⟩)
      go_ret
      exact ⟨_, rfl, World.ownsRow_nil _ _ _ _, hnx⟩
    · have CS := Tryz.slices_Sort_int g3 0 cap out wr (holds_of_blockI hbk (by simpa [ivs] using k4)) (Array.getElem?_eq_some_iff.1 hbk).1 (by omega)
      have HB := hide hbk
      have HK := hide (And.intro k1 (And.intro k2 k3))
      clear ho HOWN hbk k1 k2 k3 k4
      go_wp2_with (go_at_call 66; refine CS.mono ?_; rintro e w4 ⟨rfl, nn, os, hw4⟩; have HW4 := hide hw4; clear hw4)
      go_ret
      have hw4 := HW4.out
      rw [HS.out] at hw4
      subst hw4
      refine ⟨_, rfl, ?_, hnx.grown (grownBy_sortedI _) hnx.size (fun q hq => by injection hq with hq; omega)⟩
      rw [HL.out]
      exact ownsRow_sortedI HL.out hbase HB.out HK.out.1 HK.out.2.1 HK.out.2.2
  · refine hide ?_
    intro x v w2 cnt2 hlk hD hrg2 hlt hg2 hen
    have HC2 := hide (HC.out.step hlk hD)
    have ho2 := own_apart ho hg2 (fun q hq e => row_ne_iter ho hrg (e.trans hq.symm))
    have hnx2 := hnx.grown hg2 hnx.size (fun q hq => by injection hq with hq; omega)
    have HRB := hide (And.intro (row_ne_low ho2 hbw) (row_ne_iter ho2 hrg2))
    have HR2 := hide hrg2
    have HLE := hide hrg.left_eq
    clear ho HOWN hrg HC hlk hD hg2 hrg2 HM HR
    go_wp2_with (at_builtin; go_must (refine wpList_append_new rfl (.tmp 14) (.tmp 16) rfl elemI w.heap.size _ _ _ rfl ho2 1 _ rfl rfl (by simp [Value.oneCell']) (by decide) (by unfold maxLen; omega) (by omega) hnx2.size ?_))
    intro v3 w3 ho3 hg3
    have hb3 := below_of_own hnx2 ho2 hg3 hnx2.size (Nat.le_refl _)
    have hrg3 := HR2.out.kept hg3 HRB.out.1 HRB.out.2
    have HO3 : Hid (w3.ownsRow w.heap.size 3 1 v3 (out ++ [x]).length (ivs (out ++ [x]))) := by
      have := ho3
      rw [List.length_append]
      simpa [ivs, Hid] using this
    clear ho3 hg3 hen hnx2 HRB HR2 ho2
    go_wp2_with fail
    go_roundw
    case rel => exact ⟨_, cnt2, out ++ [x], hrg3, HO3.out, HC2.out, by rw [List.length_append]; simp; omega, hb3⟩
    case measure => rw [hrg3.left_eq, HLE.out]; omega
end

section
open Go.RowKit
attribute [local go_sem] Addr.add_mid
theorem ids_snoc8 {l : List Ev} {k : Nat} (h : k < l.length) : ivs (idsE (l.take k)) ++ [.int .i64 l[k].id] = ivs (idsE (l.take (k + 1))) := by
  rw [List.take_succ_eq_append_getElem h]; simp only [ivs, idsE, List.map_append, List.map_cons, List.map_nil]
theorem idsE_length (l : List Ev) : (idsE l).length = l.length := by simp [idsE]
set_option maxRecDepth 100000 in
set_option maxHeartbeats 4000000 in
theorem SIds_any {S : Nat → Prop} {v : Value} {l : List Ev} {w : World} (hr : EvsR w S v l) (hl : l.length ≤ 1000000) :
    Calls Tryz.prog 27 #[v] w (GivesZ (idsE l) w) := by
  obtain ⟨A, c, css, rfl, h1, h2, _, hrow, ht⟩ := hr.form
  clear hr
  go_enter Tryz.func27, Tryz.ntmps27
  go_wp2_with (at_make; go_must (refine wpList_make rfl _ _ rfl elemI w.heap.size .i64 .i64 _ _ 0 l.length rfl rfl rfl rfl (by omega) (by omega) (by unfold maxLen; omega) (Nat.le_refl _) ?_))
  intro g w1 hgw hown hgrow hsz
  have hb1 := (Below.refl w.heap.size w).grown hgrow (Nat.le_refl _) (by simp)
  rw [made_nil hown] at hown
  clear hgw hgrow hsz
  go_wp2_with fail
  go_loopw [3, 11] (fun u i wr => ∃ k : Nat, k ≤ l.length ∧ i = .int .i64 (k : Int) ∧ wr.ownsRow w.heap.size 3 1 u k (ivs (idsE (l.take k))) ∧ Below w.heap.size w wr) (fun _ i _ => l.length - (intOf i).toNat)
  case atStart => exact ⟨0, Nat.zero_le _, rfl, hown, hb1⟩
  clear hown hb1
  case round =>
    obtain ⟨k, hk, rfl, hown, hnx⟩ := hrel
    by_cases hlt : k < l.length
    · obtain ⟨b1, o1, cs1, rfl, hb1, he1, _, hc1⟩ := evs_at (hrow.ext hnx) (ht.imp fun _ _ h => h.ext hnx) k hlt
      have HS := hide (ids_snoc8 hlt)
      have HC := hide hc1
      have HL := hide he1.length; have HO := hide he1.one
      have BX := heap_alloc_new wr (.cells cs1.toArray 35)
      have kx := ext_alloc (ext_refl wr) (.cells cs1.toArray 35)
      have r0 := box_at BX he1.gets.1
      have hown := own_below hown kx
      have hnx2 := ext_trans hnx kx
      clear hc1 BX he1
      go_upto_region 5 with (first
        | refine wpList_loadS rfl (.tmp 13) rfl strcE ⟨b1, o1 + k * 29, none⟩ rfl cs1 HL.out (cells_range HC.out) ?_
        | refine wpList_newS rfl rfl strcE rfl (.tmp 5) (.tmp 14) rfl rfl rfl cs1.toArray rfl (by simpa using HL.out) (by simpa using HO.out) ?_)
      generalize wr.alloc (.cells cs1.toArray 35) = w2 at kx r0 hown hnx2 ⊢
      clear kx hnx
      go_wp2_with (at_builtin; go_must (refine wpList_append_new rfl _ _ rfl elemI w.heap.size _ _ _ rfl hown 1 _ rfl rfl (by simp [Value.oneCell']) (by decide) (by unfold maxLen; omega) (by omega) hnx2.size ?_))
      intro v3 w3 hown3 hgrow3
      have hb3 := below_of_own hnx2 hown hgrow3 hnx2.size (Nat.le_refl _)
      clear hown hgrow3
      go_wp2_with fail
      go_roundw
      case rel => exact ⟨k + 1, by omega, by go_num, by rw [← HS.out]; exact hown3, hb3⟩
      case measure => (simp [intOf]; try omega)
    · obtain rfl : k = l.length := by omega
      rw [List.take_length] at hown
      rw [← idsE_length l] at hown
      go_wp2_with fail
      go_ret
      exact ⟨_, rfl, hown, hnx⟩
set_option maxRecDepth 100000 in
set_option maxHeartbeats 4000000 in
theorem R8Ids_any {S : Nat → Prop} {v : Value} {l : List Ev} {w : World} (hr : EvsR w S v l) (hl : l.length ≤ 1000000) :
    Calls Tryz.prog 28 #[v] w (GivesZ (idsE l) w) := by
  obtain ⟨A, c, css, rfl, h1, h2, _, hrow, ht⟩ := hr.form
  clear hr
  go_enter Tryz.func28, Tryz.ntmps28
  go_wp2_with fail
  go_loopw [3, 4] (fun u i wr => ∃ k : Nat, k ≤ l.length ∧ i = .int .i64 (k : Int) ∧ wr.ownsRow w.heap.size 3 1 u k (ivs (idsE (l.take k))) ∧ Below w.heap.size w wr) (fun _ i _ => l.length - (intOf i).toNat)
  case atStart => exact ⟨0, Nat.zero_le _, rfl, World.ownsRow_nil _ _ _ _, ext_refl w⟩
  case round =>
    obtain ⟨k, hk, rfl, hown, hnx⟩ := hrel
    by_cases hlt : k < l.length
    · obtain ⟨b1, o1, cs1, rfl, hb1, he1, _, hc1⟩ := evs_at (hrow.ext hnx) (ht.imp fun _ _ h => h.ext hnx) k hlt
      have HS := hide (ids_snoc8 hlt)
      have hnx2 := hnx
      have r0 := hc1 0 _ he1.gets.1
      simp only [Nat.add_zero] at r0
      clear hc1 he1
      go_wp2_with (at_builtin; go_must (refine wpList_append_new rfl _ _ rfl elemI w.heap.size _ _ _ rfl hown 1 _ rfl rfl (by simp [Value.oneCell']) (by decide) (by unfold maxLen; omega) (by omega) hnx2.size ?_))
      intro v3 w3 hown3 hgrow3
      have hb3 := below_of_own hnx2 hown hgrow3 hnx2.size (Nat.le_refl _)
      clear hown hgrow3
      go_wp2_with fail
      go_roundw
      case rel => exact ⟨k + 1, by omega, by go_num, by rw [← HS.out]; exact hown3, hb3⟩
      case measure => (simp [intOf]; try omega)
    · obtain rfl : k = l.length := by omega
      rw [List.take_length] at hown
      rw [← idsE_length l] at hown
      go_wp2_with fail
      go_ret
      exact ⟨_, rfl, hown, hnx⟩
theorem of_step {l : List Ev} {ids : List Int} {k : Nat} (hk : k < ids.length) : ofE l (ids.take (k + 1)) = ofE l (ids.take k) ++ (getE l ids[k]).toList := by
  unfold ofE
  rw [List.take_succ_eq_append_getElem hk, List.filterMap_append]
  congr 1
set_option maxRecDepth 100000 in
set_option maxHeartbeats 4000000 in
theorem SOf_any {S : Nat → Prop} {v : Value} {l : List Ev} {A2 : Option Addr} {c2 : Nat} {ids : List Int} {w : World} (hr : EvsR w S v l) (hl : l.length ≤ 1000000) (hr2 : Row w w.heap.size A2 (ivs ids)) (hm : ids.length ≤ 1000000) :
    Calls Tryz.prog 21 #[v, .slice A2 ids.length c2] w (GivesO (fun b => S b ∧ b < w.heap.size) (ofE l ids) w) := by
  have hr' := hr.weak (S' := fun b => S b ∧ b < w.heap.size) fun _ hs h => ⟨hs, h⟩
  have CG := fun (x : Int) W (h : Below w.heap.size w W) => SGet_any (id := x) (hr'.ext h) hl
  obtain ⟨A, c, css, rfl, h1, h2, _, hrow, ht⟩ := hr'.form
  clear hr hr' hrow ht
  go_enter Tryz.func21, Tryz.ntmps21
  go_wp2_with (at_make; go_must (refine wpList_make rfl _ _ rfl elemE w.heap.size .i64 .i64 _ _ 0 ids.length rfl rfl rfl rfl (by omega) (by omega) (by unfold maxLen; omega) (Nat.le_refl _) ?_))
  intro g w1 hgw hown hgrow hsz
  have hb1 := (Below.refl w.heap.size w).grown hgrow (Nat.le_refl _) (by simp)
  rw [made_nil hown] at hown
  clear hgw hgrow hsz
  go_wp2_with fail
  go_loopw [5, 15] (fun u i wr => ∃ (k : Nat) (out : List Ev), k ≤ ids.length ∧ i = .int .i64 (k : Int) ∧ OwnE w.heap.size wr (fun b => S b ∧ b < w.heap.size) u out ∧ Hid (out = ofE l (ids.take k)) ∧ out.length ≤ k ∧ Below w.heap.size w wr) (fun _ i _ => ids.length - (intOf i).toNat)
  case atStart => exact ⟨0, [], Nat.zero_le _, rfl, ⟨[], hown, Told.nil⟩, rfl, Nat.le_refl _, hb1⟩
  clear hown hb1
  case round =>
    obtain ⟨k, out, hk, rfl, ⟨css', ho, hto⟩, HO, hok, hnx⟩ := hrel
    by_cases hlt : k < ids.length
    · obtain ⟨b, o, rfl, hbb, hc⟩ := Row.fix (hr2.ext hnx) (ivs_get ids k hlt)
      have hc0 := hc _ _ (ivs_get ids k hlt)
      have hst := of_step (l := l) hlt
      obtain ⟨x, hx⟩ : ∃ x, x = ids[k] := ⟨_, rfl⟩
      rw [← hx] at hc0 hst
      have CG := CG x _ hnx
      have HST := hide (hst.trans (by rw [← HO.out]))
      obtain ⟨Ao, co, rfl, _⟩ := own_form ho
      obtain ⟨q, hq⟩ : ∃ q, q = getE l x := ⟨_, rfl⟩
      rw [← hq] at CG HST
      clear hx hst hc hq
      have HTO := hide hto
      clear hto
      cases q with
      | none =>
        go_upto_region 6 with (first
          | (go_at_call 15; refine CG.mono ?_; rintro e w1 ⟨cs1, rfl, he1, hb1⟩; have HL := hide he1.length; have HN := hide he1.one; have ho1 := own_below ho hb1; have hto1 := HTO.out.imp (fun _ _ h => EvR.ext h hb1); have hnx1 := ext_trans hnx hb1; clear ho HTO hc0 hb1)
          | refine wpList_newS rfl rfl strcE rfl (.tmp 8) (.tmp 23) rfl rfl rfl cs1.toArray rfl (by simpa using HL.out) (by simpa using HN.out) ?_)
        have kx := ext_alloc (ext_refl w1) (.cells cs1.toArray 35)
        have ho2 := own_below ho1 kx
        have HT2 := hide (hto1.imp fun _ _ h => h.ext kx)
        have hnx2 := ext_trans hnx1 kx
        generalize w1.alloc (.cells cs1.toArray 35) = w2 at kx ho2 HT2 hnx2 ⊢
        clear kx ho1 hto1 hnx1 he1
        go_wp2_with fail
        go_roundw
        case rel => exact ⟨k + 1, out, by omega, by go_num, ⟨css', ho2, HT2.out⟩, by rw [HST.out]; simp [Hid], by omega, hnx2⟩
        case measure => (simp [intOf]; try omega)
      | some e0 =>
        go_upto_region 6 with (first
          | (go_at_call 15; refine CG.mono ?_; rintro e w1 ⟨cs1, rfl, he1, hb1⟩; have HL := hide he1.length; have HN := hide he1.one; have ho1 := own_below ho hb1; have hto1 := HTO.out.imp (fun _ _ h => EvR.ext h hb1); have hnx1 := ext_trans hnx hb1; clear ho HTO hc0 hb1)
          | refine wpList_newS rfl rfl strcE rfl (.tmp 8) (.tmp 23) rfl rfl rfl cs1.toArray rfl (by simpa using HL.out) (by simpa using HN.out) ?_)
        have kx := ext_alloc (ext_refl w1) (.cells cs1.toArray 35)
        have BX := hide (heap_alloc_new w1 (.cells cs1.toArray 35))
        have ho2 := own_below ho1 kx
        have HT2 := hide (hto1.imp fun _ _ h => h.ext kx)
        have HE2 := hide (he1.ext kx)
        have hnx2 := ext_trans hnx1 kx
        generalize w1.alloc (.cells cs1.toArray 35) = w2 at kx BX ho2 HT2 HE2 hnx2 ⊢
        generalize w1.heap.size = g1 at kx BX ⊢
        clear kx ho1 hto1 hnx1 he1
        go_wp2_with (first
          | refine wpList_loadS rfl (.tmp 8) rfl strcE ⟨g1, 0, none⟩ rfl cs1 HL.out (box_all BX.out) ?_
          | refine wpList_buildS (te := 0) rfl (.tmp 27) rfl Tryz.underlying22 strcE (by decide) (by decide) cs1.toArray rfl (by simpa using HL.out) ?_
          | (at_builtin; go_must (refine wpList_append_new rfl (.tmp 26) (.tmp 28) rfl elemE w.heap.size (.slice Ao out.length co) out.length css'.flatten rfl ho2 1 cs1.toArray (by simpa using HL.out) rfl (by simpa using HN.out) (by decide) (by unfold maxLen; omega) (by omega) hnx2.size ?_)))
        intro v3 w3 ho3 hg3
        have hb3 := below_of_own hnx2 ho2 hg3 hnx2.size (Nat.le_refl _)
        have hBB : Below w.heap.size w2 w3 := (Below.refl _ _).grown hg3 hnx2.size (fun q hq => (ho2.lt q hq).1)
        have HS3 := hide (ownE_step (fun _ h => h.2) ho3 rfl HT2.out HE2.out hBB.block hnx2.size hg3.size)
        clear ho3 hg3 ho2 hBB HT2 HE2
        go_wp2_with fail
        go_roundw
        case rel => exact ⟨k + 1, out ++ [e0], by omega, by go_num, HS3.out, by rw [HST.out]; rfl, by simp; omega, hb3⟩
        case measure => (simp [intOf]; try omega)
    · obtain rfl : k = ids.length := by omega
      have HF := hide (show out = ofE l ids by rw [HO.out, List.take_length])
      go_wp2_with fail
      go_ret
      exact ⟨_, rfl, by rw [← HF.out]; exact ⟨css', ho, hto⟩, hnx⟩
set_option maxRecDepth 100000 in
set_option maxHeartbeats 4000000 in
theorem R8Of_any {S : Nat → Prop} {v : Value} {l : List Ev} {A2 : Option Addr} {c2 : Nat} {ids : List Int} {w : World} (hr : EvsR w S v l) (hl : l.length ≤ 1000000) (hr2 : Row w w.heap.size A2 (ivs ids)) (hm : ids.length ≤ 1000000) :
    Calls Tryz.prog 22 #[v, .slice A2 ids.length c2] w (GivesO (fun b => S b ∧ b < w.heap.size) (ofE l ids) w) := by
  have hr' := hr.weak (S' := fun b => S b ∧ b < w.heap.size) fun _ hs h => ⟨hs, h⟩
  have CG := fun (x : Int) W (h : Below w.heap.size w W) => R8Get_any (id := x) (hr'.ext h) hl
  obtain ⟨A, c, css, rfl, h1, h2, _, hrow, ht⟩ := hr'.form
  clear hr hr' hrow ht
  go_enter Tryz.func22, Tryz.ntmps22
  go_wp2_with fail
  go_loopw [5, 6] (fun u i wr => ∃ (k : Nat) (out : List Ev), k ≤ ids.length ∧ i = .int .i64 (k : Int) ∧ OwnE w.heap.size wr (fun b => S b ∧ b < w.heap.size) u out ∧ Hid (out = ofE l (ids.take k)) ∧ out.length ≤ k ∧ Below w.heap.size w wr) (fun _ i _ => ids.length - (intOf i).toNat)
  case atStart => exact ⟨0, [], Nat.zero_le _, rfl, ownE_nil _ _ _, rfl, Nat.le_refl _, ext_refl _⟩
  case round =>
    obtain ⟨k, out, hk, rfl, ⟨css', ho, hto⟩, HO, hok, hnx⟩ := hrel
    by_cases hlt : k < ids.length
    · obtain ⟨b, o, rfl, hbb, hc⟩ := Row.fix (hr2.ext hnx) (ivs_get ids k hlt)
      have hc0 := hc _ _ (ivs_get ids k hlt)
      have hst := of_step (l := l) hlt
      obtain ⟨x, hx⟩ : ∃ x, x = ids[k] := ⟨_, rfl⟩
      rw [← hx] at hc0 hst
      have CG := CG x _ hnx
      have HST := hide (hst.trans (by rw [← HO.out]))
      obtain ⟨Ao, co, rfl, _⟩ := own_form ho
      obtain ⟨q, hq⟩ : ∃ q, q = getE l x := ⟨_, rfl⟩
      rw [← hq] at CG HST
      clear hx hst hc hq
      have HTO := hide hto
      clear hto
      cases q with
      | none =>
        go_upto_region 6 with (first
          | (go_at_call 16; refine CG.mono ?_; rintro e w1 ⟨cs1, rfl, he1, hb1⟩; have HL := hide he1.length; have HN := hide he1.one; have ho1 := own_below ho hb1; have hto1 := HTO.out.imp (fun _ _ h => EvR.ext h hb1); have hnx1 := ext_trans hnx hb1; clear ho HTO hc0 hb1)
          | refine wpList_newS rfl rfl strcE rfl (.tmp 7) (.tmp 22) rfl rfl rfl cs1.toArray rfl (by simpa using HL.out) (by simpa using HN.out) ?_)
        have kx := ext_alloc (ext_refl w1) (.cells cs1.toArray 35)
        have ho2 := own_below ho1 kx
        have HT2 := hide (hto1.imp fun _ _ h => h.ext kx)
        have hnx2 := ext_trans hnx1 kx
        generalize w1.alloc (.cells cs1.toArray 35) = w2 at kx ho2 HT2 hnx2 ⊢
        clear kx ho1 hto1 hnx1 he1
        go_wp2_with fail
        go_roundw
        case rel => exact ⟨k + 1, out, by omega, by go_num, ⟨css', ho2, HT2.out⟩, by rw [HST.out]; simp [Hid], by omega, hnx2⟩
        case measure => (simp [intOf]; try omega)
      | some e0 =>
        go_upto_region 6 with (first
          | (go_at_call 16; refine CG.mono ?_; rintro e w1 ⟨cs1, rfl, he1, hb1⟩; have HL := hide he1.length; have HN := hide he1.one; have ho1 := own_below ho hb1; have hto1 := HTO.out.imp (fun _ _ h => EvR.ext h hb1); have hnx1 := ext_trans hnx hb1; clear ho HTO hc0 hb1)
          | refine wpList_newS rfl rfl strcE rfl (.tmp 7) (.tmp 22) rfl rfl rfl cs1.toArray rfl (by simpa using HL.out) (by simpa using HN.out) ?_)
        have kx := ext_alloc (ext_refl w1) (.cells cs1.toArray 35)
        have BX := hide (heap_alloc_new w1 (.cells cs1.toArray 35))
        have ho2 := own_below ho1 kx
        have HT2 := hide (hto1.imp fun _ _ h => h.ext kx)
        have HE2 := hide (he1.ext kx)
        have hnx2 := ext_trans hnx1 kx
        generalize w1.alloc (.cells cs1.toArray 35) = w2 at kx BX ho2 HT2 HE2 hnx2 ⊢
        generalize w1.heap.size = g1 at kx BX ⊢
        clear kx ho1 hto1 hnx1 he1
        go_wp2_with (first
          | refine wpList_loadS rfl (.tmp 7) rfl strcE ⟨g1, 0, none⟩ rfl cs1 HL.out (box_all BX.out) ?_
          | refine wpList_buildS (te := 0) rfl (.tmp 26) rfl Tryz.underlying22 strcE (by decide) (by decide) cs1.toArray rfl (by simpa using HL.out) ?_
          | (at_builtin; go_must (refine wpList_append_new rfl (.tmp 25) (.tmp 27) rfl elemE w.heap.size (.slice Ao out.length co) out.length css'.flatten rfl ho2 1 cs1.toArray (by simpa using HL.out) rfl (by simpa using HN.out) (by decide) (by unfold maxLen; omega) (by omega) hnx2.size ?_)))
        intro v3 w3 ho3 hg3
        have hb3 := below_of_own hnx2 ho2 hg3 hnx2.size (Nat.le_refl _)
        have hBB : Below w.heap.size w2 w3 := (Below.refl _ _).grown hg3 hnx2.size (fun q hq => (ho2.lt q hq).1)
        have HS3 := hide (ownE_step (fun _ h => h.2) ho3 rfl HT2.out HE2.out hBB.block hnx2.size hg3.size)
        clear ho3 hg3 ho2 hBB HT2 HE2
        go_wp2_with fail
        go_roundw
        case rel => exact ⟨k + 1, out ++ [e0], by omega, by go_num, HS3.out, by rw [HST.out]; rfl, by simp; omega, hb3⟩
        case measure => (simp [intOf]; try omega)
    · obtain rfl : k = ids.length := by omega
      have HF := hide (show out = ofE l ids by rw [HO.out, List.take_length])
      go_wp2_with fail
      go_ret
      exact ⟨_, rfl, by rw [← HF.out]; exact ⟨css', ho, hto⟩, hnx⟩
end

section
open Go.RowKit Go.Maps
attribute [local go_sem] Addr.add_mid
/-- the map holds the numbers of a list -/
def Holds8 (D : DataW Unit) (l : List Int) : Prop := ∀ y, hasM D y = true ↔ y ∈ l
theorem Holds8.start : Holds8 (.map []) [] := fun y => by rw [hasM_empty]; simp
theorem Holds8.step {D D' : DataW Unit} {l : List Int} {x : Int} (h : Holds8 D l) (hp : ∀ z, hasM D' z = (decide (z = x) || hasM D z)) : Holds8 D' (l ++ [x]) := fun y => by
  rw [hp y, Bool.or_eq_true, decide_eq_true_iff, h y, List.mem_append, List.mem_singleton]
  exact or_comm
/-- .. without the ids of events -/
def Left8 (D : DataW Unit) (ids : List Int) (l : List Ev) : Prop := ∀ y, hasM D y = true ↔ y ∈ ids ∧ hasId l y = false
theorem Left8.step {D D' : DataW Unit} {ids : List Int} {l : List Ev} {e : Ev} (h : Left8 D ids l) (hp : ∀ z, hasM D' z = (!decide (z = e.id) && hasM D z)) : Left8 D' ids (l ++ [e]) := fun y => by
  rw [hp y, Bool.and_eq_true, Bool.not_eq_true', decide_eq_false_iff_not, h y]
  unfold hasId
  rw [List.any_append]
  simp
  constructor
  · rintro ⟨h1, h2, h3⟩; exact ⟨h2, h3, fun e => h1 e.symm⟩
  · rintro ⟨h1, h2, h3⟩; exact ⟨fun e => h3 e.symm, h1, h2⟩
theorem Left8.fin {D : DataW Unit} {ids : List Int} {l : List Ev} (h : Left8 D ids l) (y : Int) : y ∈ missE l ids ↔ hasM D y = true := by
  unfold missE
  rw [onceI_mem, List.mem_filter, h y]
  simp
theorem GivesZ.from {l : List Int} {w w1 : World} (hb : Below w.heap.size w w1) {e : Ending} {w' : World} (h : GivesZ l w1 e w') : GivesZ l w e w' := by
  obtain ⟨v, h1, h2, h3⟩ := h
  exact ⟨v, h1, own_more h2 hb.size, ext_trans hb h3⟩
set_option maxRecDepth 100000 in
set_option maxHeartbeats 4000000 in
theorem SMissing_any {S : Nat → Prop} {v : Value} {l : List Ev} {A2 : Option Addr} {c2 : Nat} {ids : List Int} {w : World} (hr : EvsR w S v l) (hl : l.length ≤ 1000000) (hr2 : Row w w.heap.size A2 (ivs ids)) (hm : ids.length ≤ 1000000) (hI : ∀ n ∈ ids, I64 n) (hE : ∀ e ∈ l, I64 e.id) :
    Calls Tryz.prog 29 #[v, .slice A2 ids.length c2] w (GivesZ (missE l ids) w) := by
  obtain ⟨A, c, css, rfl, h1, h2, _, hrow, ht⟩ := hr.form
  have hmm := run_mapIN
  have HI := hide hI; have HE := hide hE
  clear hr hI hE
  go_enter Tryz.func29, Tryz.ntmps29
  go_wp2_with fail
  clear hmm
  go_loopw [15] (fun i wr => ∃ (k : Nat) (D : DataW Unit), k ≤ ids.length ∧ i = .int .i64 (k : Int) ∧ OwnsM wr w.heap.size k D ∧ Hid (Holds8 D (ids.take k)) ∧ Below w.heap.size w wr) (fun i _ => ids.length - (intOf i).toNat)
  case atStart => exact ⟨0, _, Nat.zero_le _, rfl, OwnsM.made w, Holds8.start, ext_alloc (ext_refl w) _⟩
  case round =>
  obtain ⟨k, D, hk, rfl, hown, HH, hnx⟩ := hrel
  by_cases hlt : k < ids.length
  · obtain ⟨b, o, rfl, hbb, hc⟩ := Row.fix (hr2.ext hnx) (ivs_get ids k hlt)
    have hc0 := hc _ _ (ivs_get ids k hlt)
    have hx := HI.out _ (List.getElem_mem hlt)
    have HS := hide (List.take_succ_eq_append_getElem hlt)
    obtain ⟨x, hxx⟩ : ∃ x, x = ids[k] := ⟨_, rfl⟩
    rw [← hxx] at hc0 hx HS
    have HX := hide hx
    clear hc hxx hx
    go_wp2_with (at_mapUpdate; refine wpList_toM rfl (.tmp 19) (.tmp 20) _ rfl w.heap.size k D (by unfold maxLen; omega) rfl hown x HX.out rfl rfl ?_)
    intro D' w2 hown2 hp2 hg2
    have HH2 := hide (HH.out.step hp2)
    have hnx2 := hnx.grown hg2 hnx.size (fun q hq => by injection hq with hq; omega)
    clear hown HH hp2 hg2 hc0
    go_wp2_with fail
    go_roundw
    case rel => exact ⟨k + 1, D', by omega, by go_num, hown2, by rw [HS.out]; exact HH2.out, hnx2⟩
    case measure => (simp [intOf]; try omega)
  · obtain rfl : k = ids.length := by omega
    have HL : Hid (Left8 D ids (l.take 0)) := fun y => by rw [HH.out y, List.take_length]; simp [hasId]
    clear HH hlt hk
    go_wp2_with fail
    go_loopw [24] (fun i wr => ∃ (k : Nat) (D : DataW Unit), k ≤ l.length ∧ i = .int .i64 (k : Int) ∧ OwnsM wr w.heap.size ids.length D ∧ Hid (Left8 D ids (l.take k)) ∧ Below w.heap.size w wr) (fun i _ => l.length - (intOf i).toNat)
    case atStart => exact ⟨0, D, Nat.zero_le _, rfl, hown, HL.out, hnx⟩
    case round =>
    clear hown HL hnx
    obtain ⟨k, D, hk, rfl, hown, HL, hnx⟩ := hrel
    by_cases hlt : k < l.length
    · obtain ⟨b1, o1, cs1, rfl, hb1, he1, _, hc1⟩ := evs_at (hrow.ext hnx) (ht.imp fun _ _ h => h.ext hnx) k hlt
      have HC := hide hc1
      have HN := hide he1.length; have HO := hide he1.one
      have BX := heap_alloc_new wr (.cells cs1.toArray 35)
      have kx := ext_alloc (ext_refl wr) (.cells cs1.toArray 35)
      have r0 := box_at BX he1.gets.1
      have hown := hown.kept kx
      have hnx2 := ext_trans hnx kx
      have HS := hide (List.take_succ_eq_append_getElem hlt)
      have HX := hide (HE.out _ (List.getElem_mem hlt))
      obtain ⟨x, hxx⟩ : ∃ x, x = l[k] := ⟨_, rfl⟩
      rw [← hxx] at r0 HX HS
      clear hc1 BX he1 hxx
      go_upto_region 10 with (first
        | refine wpList_loadS rfl (.tmp 26) rfl strcE ⟨b1, o1 + k * 29, none⟩ rfl cs1 HN.out (cells_range HC.out) ?_
        | refine wpList_newS rfl rfl strcE rfl (.tmp 9) (.tmp 27) rfl rfl rfl cs1.toArray rfl (by simpa using HN.out) (by simpa using HO.out) ?_)
      generalize wr.alloc (.cells cs1.toArray 35) = w2 at kx r0 hown hnx2 ⊢
      clear kx hnx
      go_wp2_with (at_delete; refine wpList_outM rfl (.tmp 28) (.tmp 30) rfl w.heap.size ids.length D rfl hown x.id HX.out rfl ?_)
      intro D' w3 hown3 hp3 hg3
      have HL3 := hide (HL.out.step hp3)
      have hnx3 := hnx2.grown hg3 hnx2.size (fun q hq => by injection hq with hq; omega)
      clear hown HL hp3 hg3 hnx2 r0
      go_wp2_with fail
      go_roundw
      case rel => exact ⟨k + 1, D', by omega, by go_num, hown3, by rw [HS.out]; exact HL3.out, hnx3⟩
      case measure => (simp [intOf]; try omega)
    · obtain rfl : k = l.length := by omega
      have hf : ∀ y, y ∈ missE l ids ↔ hasM D y = true := fun y => by have := HL.out; rw [List.take_length] at this; exact this.fin y
      have CS := SSorted_any hown hm (onceI_rise _) hf
      have CS2 := hide (fun e w' h => GivesZ.from (l := missE l ids) hnx (e := e) (w' := w') h)
      clear hf HL hown
      go_wp2_with (go_at_call 46; refine CS.mono ?_; rintro e w4 h4; obtain ⟨v4, rfl, ho4, hb4⟩ := CS2.out _ _ h4)
      go_ret
      exact ⟨v4, rfl, ho4, hb4⟩
theorem cell_grown {w w' : World} {row : Option Nat} {g j : Nat} {u : Value} (h : w.cell? ⟨g, j, none⟩ = some u) (hg : w.grownBy w' row) (hne : row ≠ some g) : w'.cell? ⟨g, j, none⟩ = some u := by
  have hlt := World.block_lt_of_cell? w _ h
  rw [← h]; exact World.cell?_of_block (hg.block _ hlt (Ne.symm hne))
def refL (l : List Ev) : List Int := l.flatMap fun e => e.prev ++ e.auth
theorem refL_step {l : List Ev} {k : Nat} (h : k < l.length) : refL (l.take (k + 1)) = refL (l.take k) ++ l[k].prev ++ l[k].auth := by
  unfold refL; rw [List.take_succ_eq_append_getElem h, List.flatMap_append]; simp
set_option maxRecDepth 100000 in
set_option maxHeartbeats 4000000 in
theorem SRefs_any {S : Nat → Prop} {v : Value} {l : List Ev} {w : World} (hr : EvsR w S v l) (hl : l.length ≤ 400) (hE : ∀ e ∈ l, e.prev.length ≤ 1000 ∧ e.auth.length ≤ 1000 ∧ (∀ n ∈ e.prev, I64 n) ∧ ∀ n ∈ e.auth, I64 n) :
    Calls Tryz.prog 31 #[v] w (GivesZ (refsE l) w) := by
  obtain ⟨A, c, css, rfl, h1, h2, _, hrow, ht⟩ := hr.form
  have hmm := run_mapI0
  have HE := hide hE
  clear hr hE
  go_enter Tryz.func31, Tryz.ntmps31
  go_wp2_with fail
  clear hmm
  go_loopw [13] (fun i wr => ∃ (k n : Nat) (D : DataW Unit), k ≤ l.length ∧ i = .int .i64 (k : Int) ∧ n ≤ k * 2000 ∧ OwnsM wr w.heap.size n D ∧ Hid (Holds8 D (refL (l.take k))) ∧ Below w.heap.size w wr) (fun i _ => l.length - (intOf i).toNat)
  case atStart => exact ⟨0, 0, _, Nat.zero_le _, rfl, Nat.zero_le _, OwnsM.made w, Holds8.start, ext_alloc (ext_refl w) _⟩
  case round =>
  obtain ⟨k, n, D, hk, rfl, hn, hown, HH, hnx⟩ := hrel
  by_cases hlt : k < l.length
  · obtain ⟨b1, o1, cs1, rfl, hb1, he1, _, hc1⟩ := evs_at hrow ht k hlt
    have HC := hide (range_below hc1 hnx)
    have HN := hide he1.length; have HO := hide he1.one
    obtain ⟨hp1, hp2, hp3, hp4⟩ := HE.out _ (List.getElem_mem hlt)
    have HI3 := hide hp3; have HI4 := hide hp4
    have HS := hide (refL_step hlt)
    obtain ⟨x, hxx⟩ : ∃ x, x = l[k] := ⟨_, rfl⟩
    rw [← hxx] at he1 hp1 hp2 HI3 HI4 HS
    obtain ⟨Ap, cp, Aq, cq, g8, g9, hrp, hrq⟩ : ∃ Ap cp Aq cq, cs1[8]? = some (.slice Ap x.prev.length cp) ∧ cs1[9]? = some (.slice Aq x.auth.length cq) ∧ Row w w.heap.size Ap (ivs x.prev) ∧ Row w w.heap.size Aq (ivs x.auth) := by
      obtain ⟨vp, vq, va, vd, vu, vk, rfl, q1, q2, _⟩ := he1
      obtain ⟨Ap, cp, rfl, _, _, _, hrp, _⟩ := q1.form
      obtain ⟨Aq, cq, rfl, _, _, _, hrq, _⟩ := q2.form
      exact ⟨Ap, cp, Aq, cq, rfl, rfl, hrp, hrq⟩
    have BX := heap_alloc_new wr (.cells cs1.toArray 35)
    have kx := ext_alloc (ext_refl wr) (.cells cs1.toArray 35)
    have r8 := box_at BX g8
    have r9 := box_at BX g9
    have hg5 : w.heap.size < wr.heap.size := World.ownsMap.lt hown
    have hown := hown.kept kx
    have hnx2 := ext_trans hnx kx
    clear hc1 BX he1 hxx hp3 hp4 g8 g9
    go_upto_region 5 with (first
      | refine wpList_loadS rfl (.tmp 15) rfl strcE ⟨b1, o1 + k * 29, none⟩ rfl cs1 HN.out (cells_range HC.out) ?_
      | refine wpList_newS rfl rfl strcE rfl (.tmp 5) (.tmp 16) rfl rfl rfl cs1.toArray rfl (by simpa using HN.out) (by simpa using HO.out) ?_)
    generalize wr.alloc (.cells cs1.toArray 35) = w2 at kx r8 r9 hown hnx2 ⊢
    generalize wr.heap.size = g5 at kx r8 r9 hg5 ⊢
    clear kx hnx
    go_wp2_with fail
    go_loopw [20] (fun i wr => ∃ (j n : Nat) (D : DataW Unit), j ≤ x.prev.length ∧ i = .int .i64 (j : Int) ∧ n ≤ k * 2000 + j ∧ OwnsM wr w.heap.size n D ∧ Hid (Holds8 D (refL (l.take k) ++ x.prev.take j)) ∧ wr.cell? ⟨g5, 9, none⟩ = some (.slice Aq x.auth.length cq) ∧ Below w.heap.size w wr) (fun i _ => x.prev.length - (intOf i).toNat)
    case atStart => exact ⟨0, n, D, Nat.zero_le _, rfl, by omega, hown, hide (by simpa using HH.out), r9, hnx2⟩
    case round =>
    clear hown HH r9 hnx2 r8 hn
    obtain ⟨j, n, D, hj, rfl, hn, hown, HH, r9, hnx⟩ := hrel
    by_cases hjl : j < x.prev.length
    · obtain ⟨b, o, rfl, hbb, hc⟩ := Row.fix ((hrp.below hnx).more hnx.size) (ivs_get x.prev j hjl)
      have hc0 := hc _ _ (ivs_get x.prev j hjl)
      have hy := HI3.out _ (List.getElem_mem hjl)
      have HT := hide (List.take_succ_eq_append_getElem hjl)
      obtain ⟨y, hyy⟩ : ∃ y, y = x.prev[j] := ⟨_, rfl⟩
      rw [← hyy] at hc0 hy HT
      have HY := hide hy
      clear hc hyy hy
      go_wp2_with (at_mapUpdate; refine wpList_toM rfl (.tmp 24) (.tmp 25) _ rfl w.heap.size n D (by unfold maxLen; omega) rfl hown y HY.out rfl rfl ?_)
      intro D' w3 hown2 hp2' hg2
      have HH2 := hide (HH.out.step hp2')
      have hnx2 := hnx.grown hg2 hnx.size (fun q hq => by injection hq with hq; omega)
      have r9' := cell_grown r9 hg2 (fun e => by injection e with e; omega)
      clear hown HH hp2' hg2 hc0 r9
      go_wp2_with fail
      go_roundw
      case rel => exact ⟨j + 1, n + 1, D', by omega, by go_num, by omega, hown2, by rw [HT.out, ← List.append_assoc]; exact HH2.out, r9', hnx2⟩
      case measure => (simp [intOf]; try omega)
    · obtain rfl : j = x.prev.length := by omega
      rw [List.take_length] at HH
      go_wp2_with fail
      go_loopw [30] (fun i wr => ∃ (j n : Nat) (D : DataW Unit), j ≤ x.auth.length ∧ i = .int .i64 (j : Int) ∧ n ≤ k * 2000 + 1000 + j ∧ OwnsM wr w.heap.size n D ∧ Hid (Holds8 D (refL (l.take k) ++ x.prev ++ x.auth.take j)) ∧ Below w.heap.size w wr) (fun i _ => x.auth.length - (intOf i).toNat)
      case atStart => exact ⟨0, n, D, Nat.zero_le _, rfl, by omega, hown, hide (by simpa using HH.out), hnx⟩
      case round =>
      clear hown HH r9 hn hnx
      obtain ⟨j, n, D, hj, rfl, hn, hown, HH, hnx⟩ := hrel
      by_cases hjl : j < x.auth.length
      · obtain ⟨b, o, rfl, hbb, hc⟩ := Row.fix ((hrq.below hnx).more hnx.size) (ivs_get x.auth j hjl)
        have hc0 := hc _ _ (ivs_get x.auth j hjl)
        have hy := HI4.out _ (List.getElem_mem hjl)
        have HT := hide (List.take_succ_eq_append_getElem hjl)
        obtain ⟨y, hyy⟩ : ∃ y, y = x.auth[j] := ⟨_, rfl⟩
        rw [← hyy] at hc0 hy HT
        have HY := hide hy
        clear hc hyy hy
        go_wp2_with (at_mapUpdate; refine wpList_toM rfl (.tmp 34) (.tmp 35) _ rfl w.heap.size n D (by unfold maxLen; omega) rfl hown y HY.out rfl rfl ?_)
        intro D' w3 hown2 hp2' hg2
        have HH2 := hide (HH.out.step hp2')
        have hnx2 := hnx.grown hg2 hnx.size (fun q hq => by injection hq with hq; omega)
        clear hown HH hp2' hg2 hc0
        go_wp2_with fail
        go_roundw
        case rel => exact ⟨j + 1, n + 1, D', by omega, by go_num, by omega, hown2, by rw [HT.out, ← List.append_assoc]; exact HH2.out, hnx2⟩
        case measure => (simp [intOf]; try omega)
      · obtain rfl : j = x.auth.length := by omega
        rw [List.take_length] at HH
        go_wp2_with fail
        go_roundw
        case rel => exact ⟨k + 1, n, D, by omega, by go_num, by omega, hown, by rw [HS.out]; exact HH.out, hnx⟩
        case measure => (simp [intOf]; try omega)
  · obtain rfl : k = l.length := by omega
    have hf : ∀ y, y ∈ refsE l ↔ hasM D y = true := fun y => by
      have := HH.out y; rw [List.take_length] at this; rw [this]; unfold refsE refL; exact onceI_mem
    have CS := SSorted_any hown (by omega) (onceI_rise _) hf
    have CS2 := hide (fun e w' h => GivesZ.from (l := refsE l) hnx (e := e) (w' := w') h)
    clear hf HH hown
    go_wp2_with (go_at_call 46; refine CS.mono ?_; rintro e w4 h4; obtain ⟨v4, rfl, ho4, hb4⟩ := CS2.out _ _ h4)
    go_ret
    exact ⟨v4, rfl, ho4, hb4⟩
end

section
open Go.RowKit
attribute [local go_sem] Addr.add_mid
theorem with_hit {n : Int} : ∀ {t : List Int} {k : Nat} (hk : k < t.length), (∀ x ∈ t.take k, x < n) → t[k] = n → withI n t = t
  | [], _, hk, _, _ => by simp at hk
  | x :: t, 0, _, _, h => by
    have h : x = n := h
    unfold withI; rw [if_neg (by omega), if_pos h]
  | x :: t, k + 1, hk, ha, h => by
    have hx : x < n := ha x (by simp)
    unfold withI
    rw [if_pos hx, with_hit (t := t) (k := k) (by simpa using hk) (fun y hy => ha y (by simp [hy])) (by simpa using h)]
theorem with_new {n : Int} : ∀ {t : List Int} {k : Nat} (_ : k ≤ t.length), (∀ x ∈ t.take k, x < n) → (∀ h : k < t.length, n < t[k]) → withI n t = t.take k ++ n :: t.drop k
  | [], k, hk, _, _ => by
    have : k = 0 := by simpa using hk
    subst this; rfl
  | x :: t, 0, _, _, h => by
    have h : n < x := h (by simp)
    unfold withI; rw [if_neg (by omega), if_neg (by omega)]; rfl
  | x :: t, k + 1, hk, ha, h => by
    have hx : x < n := ha x (by simp)
    unfold withI
    rw [if_pos hx, with_new (t := t) (k := k) (by simpa using hk) (fun y hy => ha y (by simp [hy])) (fun hh => by have := h (by simpa using hh); rwa [List.getElem_cons_succ] at this)]
    rfl
theorem lt_stepI {l : List Int} {n : Int} {k : Nat} (h : ∀ x ∈ l.take k, x < n) (hk : k < l.length) (hq : l[k] < n) : ∀ x ∈ l.take (k + 1), x < n := by
  rw [List.take_succ_eq_append_getElem hk]
  intro e he
  rcases List.mem_append.1 he with he | he
  · exact h e he
  · simp only [List.mem_cons, List.not_mem_nil, or_false] at he; rw [he]; exact hq
def WithV (base : Nat) (t : List Int) (w : World) (e : Ending) (w' : World) : Prop := ∃ v', e = .returned v' ∧ w'.ownsRow base 3 1 v' t.length (ivs t) ∧ Below base w w'
set_option maxRecDepth 100000 in
set_option maxHeartbeats 4000000 in
theorem With_any {base : Nat} {v : Value} {t : List Int} {n : Int} {w : World} (hown : w.ownsRow base 3 1 v t.length (ivs t)) (hb : base ≤ w.heap.size) (hl : t.length ≤ 1000000) :
    Calls Tryz.prog 47 #[v, .int .i64 n] w (WithV base (withI n t) w) := by
  obtain ⟨A, c, rfl, _⟩ := own_form hown
  have HR := hide (Row.own hown)
  have HOWN := hide hown
  clear hown
  go_enter Tryz.func47, Tryz.ntmps47
  go_wp2_with fail
  go_loop [5] (fun i => ∃ k : Nat, k ≤ t.length ∧ i = .int .i64 (k : Int) ∧ Hid (∀ x ∈ t.take k, x < n)) (fun i => t.length - (intOf i).toNat)
  case atStart => exact ⟨0, Nat.zero_le _, rfl, by simp [Hid]⟩
  case round =>
  obtain ⟨k, hk, rfl, HT⟩ := hrel
  by_cases hlt : k < t.length
  · obtain ⟨b, o, rfl, hbb, hc⟩ := Row.fix HR.out (ivs_get t k hlt)
    have hc0 := hc _ _ (ivs_get t k hlt)
    have hlti : decide ((k : Int) < (t.length : Int)) = true := decide_eq_true (by omega)
    have HX := hide (fun h : t[k] < n => lt_stepI HT.out hlt h)
    have HX2 := hide (fun h : t[k] = n => with_hit hlt HT.out h)
    have HX3 := hide (fun h : n < t[k] => with_new hk HT.out (fun _ => h))
    obtain ⟨x, hx⟩ : ∃ x, x = t[k] := ⟨_, rfl⟩
    rw [← hx] at hc0 HX HX2 HX3
    clear hc hx
    by_cases hq : x < n
    · have t1 : decide (x < n) = true := decide_eq_true hq
      have HN := hide (HX.out hq)
      clear hq HX HX2 HX3
      go_wp2_with fail
      go_round
      case rel => exact ⟨k + 1, by omega, by go_num, HN.out⟩
      case measure => (simp [intOf]; try omega)
    · have t1 : decide (x < n) = false := decide_eq_false hq
      by_cases hqe : x = n
      · have t2 : (x == n) = true := by simpa using hqe
        have HF := hide (HX2.out hqe)
        clear hq hqe HX HX2 HX3
        go_wp2_with fail
        go_ret
        exact ⟨_, rfl, by rw [HF.out]; exact HOWN.out, Below.refl _ _⟩
      · have t2 : (x == n) = false := by simpa using hqe
        have HW := hide (HX3.out (by omega))
        clear hq hqe HX HX2 HX3
        go_wp2_with (at_builtin; go_must (refine wpList_append_new rfl (.tmp 34) (.tmp 36) rfl elemI base _ t.length (ivs t) rfl HOWN.out 1 _ rfl rfl (by simp [Value.oneCell']) (by decide) (by unfold maxLen; omega) (by omega) hb ?_))
        intro v3 w3 hown3 hg3
        have hb3 := below_of_own (Below.refl base w) HOWN.out hg3 hb (Nat.le_refl _)
        obtain ⟨g, c3, rfl, hg1, hg2, hc3⟩ := own_block8 hown3 (by omega) (by decide)
        have HO3 : Hid (w3.ownsRow base 3 1 (.slice (some ⟨g, 0, none⟩) (t.length + 1) c3) (t.length + 1) (ivs (t.take t.length ++ n :: t.drop t.length))) := by
          have := hown3
          rw [List.take_length, List.drop_length]
          simpa [ivs, Hid] using this
        have HG := hide hg1
        clear hown3 hg3 hg1
        go_wp2_with fail
        go_loopw [6] (fun i wr => ∃ (j : Nat) (y : Int), k ≤ j ∧ j ≤ t.length ∧ i = .int .i64 (j : Int) ∧ (j = t.length → y = n) ∧ wr.ownsRow base 3 1 (.slice (some ⟨g, 0, none⟩) (t.length + 1) c3) (t.length + 1) (ivs (t.take j ++ y :: t.drop j)) ∧ Below base w wr) (fun i _ => (intOf i).toNat)
        case atStart => exact ⟨t.length, n, hk, Nat.le_refl _, by go_num, fun _ => rfl, HO3.out, hb3⟩
        case round =>
        clear HO3 hb3 hg2
        obtain ⟨j, y, hkj, hj, rfl, _, ho, hbr⟩ := hrel
        by_cases hjk : k < j
        · have g1 := get_shift (y := y) (show 0 < j by omega) hj
          obtain ⟨b5, o5, hA5, _, hc5⟩ := Row.fix (Row.own ho) (k := j - 1) (u := .int .i64 (t[j - 1]'(by omega))) (by unfold ivs; rw [List.getElem?_map, g1]; rfl)
          injection hA5 with hA5
          injection hA5 with hA5 hA6
          subst hA5 hA6
          have hc0 := hc5 (j - 1) (.int .i64 (t[j - 1]'(by omega))) (by unfold ivs; rw [List.getElem?_map, g1]; rfl)
          rw [Nat.zero_add] at hc0
          have HS := hide (set_shift (y := y) (show 0 < j by omega) hj)
          obtain ⟨z, hz⟩ : ∃ z, z = t[j - 1]'(by omega) := ⟨_, rfl⟩
          rw [← hz] at hc0 HS
          have hcj : ((j : Int) - 1) = ((j - 1 : Nat) : Int) := by omega
          have HO := hide ho
          have hlt2 : (j : Int) < (t.length : Int) + 1 := by omega
          clear hc5 g1 hz ho
          obtain ⟨j', rfl⟩ : ∃ j', j = j' + 1 := ⟨j - 1, by omega⟩
          simp only [Nat.add_sub_cancel] at hc0 HS hcj
          go_wp2_with (refine wpList_storeI rfl (.tmp 53) (.tmp 52) rfl rfl (by kernel_rfl) HO.out (j' + 1) (by omega) ⟨g, j' + 1, none⟩ rfl rfl (.int .i64 z) rfl rfl ?_)
          intro w4 ho4 hg4
          rw [patch_ivs (by simp; omega), HS.out] at ho4
          have hb4 := hbr.grown hg4 (Nat.le_trans hb hbr.size) (fun q hq => by injection hq with hq; have := HG.out; omega)
          have HO4 := hide ho4
          clear HO HS hg4 hc0 ho4
          go_wp2_with fail
          go_roundw
          case rel => exact ⟨j', z, by omega, by omega, by go_num, fun h => by omega, HO4.out, hb4⟩
          case measure => (simp [intOf]; try omega)
        · obtain rfl : j = k := by omega
          have HS := hide (set_last (l := t) (y := y) (z := n) hj)
          have HO := hide ho
          clear ho
          go_wp2_with (refine wpList_storeI rfl (.tmp 57) (.tmp 56) rfl rfl (by kernel_rfl) HO.out j (by omega) ⟨g, j, none⟩ rfl rfl (.int .i64 n) rfl rfl ?_)
          intro w4 ho4 hg4
          rw [patch_ivs (by simp; omega), HS.out] at ho4
          have hb4 := hbr.grown hg4 (Nat.le_trans hb hbr.size) (fun q hq => by injection hq with hq; have := HG.out; omega)
          have HO4 := hide ho4
          clear HO HS hg4 ho4
          go_wp2_with fail
          go_ret
          exact ⟨_, rfl, by rw [HW.out]; have := HO4.out; simpa [Nat.min_eq_left hj, Nat.add_comm, show j + (t.length - j + 1) = t.length + 1 by omega] using this, hb4⟩
  · obtain rfl : k = t.length := by omega
    have HW := hide (with_new hk HT.out (fun h => absurd h hlt))
    have hlti : decide ((t.length : Int) < (t.length : Int)) = false := decide_eq_false (by omega)
    obtain ⟨k, hkk⟩ : ∃ k, k = t.length := ⟨_, rfl⟩
    go_wp2_with (at_builtin; go_must (refine wpList_append_new rfl (.tmp 34) (.tmp 36) rfl elemI base _ t.length (ivs t) rfl HOWN.out 1 _ rfl rfl (by simp [Value.oneCell']) (by decide) (by unfold maxLen; omega) (by omega) hb ?_))
    intro v3 w3 hown3 hg3
    have hb3 := below_of_own (Below.refl base w) HOWN.out hg3 hb (Nat.le_refl _)
    obtain ⟨g, c3, rfl, hg1, hg2, hc3⟩ := own_block8 hown3 (by omega) (by decide)
    have HO3 : Hid (w3.ownsRow base 3 1 (.slice (some ⟨g, 0, none⟩) (t.length + 1) c3) (t.length + 1) (ivs (t.take t.length ++ n :: t.drop t.length))) := by
      have := hown3
      rw [List.take_length, List.drop_length]
      simpa [ivs, Hid] using this
    have HG := hide hg1
    clear hown3 hg3 hg1
    go_wp2_with fail
    go_loopw [6] (fun i wr => ∃ (j : Nat) (y : Int), t.length ≤ j ∧ j ≤ t.length ∧ i = .int .i64 (j : Int) ∧ (j = t.length → y = n) ∧ wr.ownsRow base 3 1 (.slice (some ⟨g, 0, none⟩) (t.length + 1) c3) (t.length + 1) (ivs (t.take j ++ y :: t.drop j)) ∧ Below base w wr) (fun i _ => (intOf i).toNat)
    case atStart => exact ⟨t.length, n, hk, Nat.le_refl _, by go_num, fun _ => rfl, HO3.out, hb3⟩
    case round =>
    clear HO3 hb3 hg2
    obtain ⟨j, y, hkj, hj, rfl, _, ho, hbr⟩ := hrel
    obtain rfl : j = t.length := by omega
    have HO := hide ho
    clear ho
    go_wp2_with (refine wpList_storeI rfl (.tmp 57) (.tmp 56) rfl rfl (by kernel_rfl) HO.out t.length (by omega) ⟨g, t.length, none⟩ rfl rfl (.int .i64 n) rfl rfl ?_)
    intro w4 ho4 hg4
    rw [patch_ivs (by simp)] at ho4
    have hb4 := hbr.grown hg4 (Nat.le_trans hb hbr.size) (fun q hq => by injection hq with hq; have := HG.out; omega)
    have HO4 := hide ho4
    clear HO hg4 ho4
    go_wp2_with fail
    go_ret
    exact ⟨_, rfl, by rw [HW.out]; have := HO4.out; simpa [List.set_append] using this, hb4⟩
theorem once_snoc (L : List Int) (y : Int) : onceI (L ++ [y]) = withI y (onceI L) := by unfold onceI; rw [List.foldl_append]; rfl
theorem withI_len (n : Int) : ∀ t : List Int, (withI n t).length ≤ t.length + 1
  | [] => by simp [withI]
  | x :: t => by
    have := withI_len n t
    unfold withI
    split
    · simp only [List.length_cons]; omega
    · split
      · simp
      · simp
theorem once_len (L : List Int) : (onceI L).length ≤ L.length := by
  unfold onceI
  suffices h : ∀ (L acc : List Int), (L.foldl (fun acc n => withI n acc) acc).length ≤ acc.length + L.length by simpa using h L []
  intro L
  induction L with
  | nil => simp
  | cons x L ih => intro acc; rw [List.foldl_cons]; have := ih (withI x acc); have := withI_len x acc; simp only [List.length_cons]; omega
theorem miss_hit {l : List Ev} {ids : List Int} {k : Nat} (hk : k < ids.length) (h : hasId l ids[k] = true) : missE l (ids.take (k + 1)) = missE l (ids.take k) := by
  unfold missE; rw [List.take_succ_eq_append_getElem hk, List.filter_append]; simp [h]
theorem miss_new {l : List Ev} {ids : List Int} {k : Nat} (hk : k < ids.length) (h : hasId l ids[k] = false) : missE l (ids.take (k + 1)) = withI ids[k] (missE l (ids.take k)) := by
  unfold missE; rw [List.take_succ_eq_append_getElem hk, List.filter_append]; simp only [List.filter_cons, h, List.filter_nil, Bool.not_false, if_true]; exact once_snoc _ _
theorem miss_len (l : List Ev) (ids : List Int) : (missE l ids).length ≤ ids.length := Nat.le_trans (once_len _) (List.length_filter_le _ _)
theorem placeI_lt {l : List Ev} {x : Int} : decide (placeI l x < 0) = !hasId l x := by
  unfold placeI
  cases h : hasId l x
  · rfl
  · simp
set_option maxRecDepth 100000 in
set_option maxHeartbeats 4000000 in
theorem R8Missing_any {S : Nat → Prop} {v : Value} {l : List Ev} {A2 : Option Addr} {c2 : Nat} {ids : List Int} {w : World} (hr : EvsR w S v l) (hl : l.length ≤ 1000000) (hr2 : Row w w.heap.size A2 (ivs ids)) (hm : ids.length ≤ 1000000) :
    Calls Tryz.prog 30 #[v, .slice A2 ids.length c2] w (GivesZ (missE l ids) w) := by
  have CP := fun (x : Int) W (h : Below w.heap.size w W) => R8place_any (id := x) (hr.ext h) hl
  obtain ⟨A, c, css, rfl, h1, h2, _, hrow, ht⟩ := hr.form
  clear hr hrow ht
  go_enter Tryz.func30, Tryz.ntmps30
  go_wp2_with fail
  go_loopw [5, 6] (fun u i wr => ∃ k : Nat, k ≤ ids.length ∧ i = .int .i64 (k : Int) ∧ wr.ownsRow w.heap.size 3 1 u (missE l (ids.take k)).length (ivs (missE l (ids.take k))) ∧ Below w.heap.size w wr) (fun _ i _ => ids.length - (intOf i).toNat)
  case atStart => exact ⟨0, Nat.zero_le _, rfl, World.ownsRow_nil _ _ _ _, ext_refl _⟩
  case round =>
  obtain ⟨k, hk, rfl, ho, hnx⟩ := hrel
  by_cases hlt : k < ids.length
  · obtain ⟨b, o, rfl, hbb, hc⟩ := Row.fix (hr2.ext hnx) (ivs_get ids k hlt)
    have hc0 := hc _ _ (ivs_get ids k hlt)
    have HH := hide (fun h => miss_hit (l := l) hlt h)
    have HN := hide (fun h => miss_new (l := l) hlt h)
    have hlen : (missE l (ids.take k)).length ≤ 1000000 := by have := miss_len l (ids.take k); rw [List.length_take] at this; omega
    obtain ⟨x, hx⟩ : ∃ x, x = ids[k] := ⟨_, rfl⟩
    rw [← hx] at hc0 HH HN
    obtain ⟨t, htt⟩ : ∃ t, t = missE l (ids.take k) := ⟨_, rfl⟩
    rw [← htt] at ho hlen HH HN
    have CP := CP x _ hnx
    have hpl := placeI_lt (l := l) (x := x)
    obtain ⟨p, hp⟩ : ∃ p, p = placeI l x := ⟨_, rfl⟩
    rw [← hp] at CP hpl
    obtain ⟨q, hq⟩ : ∃ q, q = hasId l x := ⟨_, rfl⟩
    rw [← hq] at hpl HH HN
    have CW := With_any (n := x) ho hnx.size hlen
    have HO := hide ho
    obtain ⟨Ao, co, rfl, _⟩ := own_form ho
    clear hc hx htt hp hq ho
    cases q with
    | true =>
      have HS := hide (HH.out rfl)
      have hpl : decide (p < 0) = false := hpl
      clear HH HN CW
      go_wp2_with (go_at_call 40; refine CP.mono ?_; rintro e w1 ⟨rfl, hw1⟩; rw [hw1]; clear hw1 w1)
      go_roundw
      case rel => exact ⟨k + 1, by omega, by go_num, by rw [HS.out]; exact HO.out, hnx⟩
      case measure => (simp [intOf]; try omega)
    | false =>
      have HS := hide (HN.out rfl)
      have hpl : decide (p < 0) = true := hpl
      clear HH HN
      go_wp2_with (first
        | (go_at_call 40; refine CP.mono ?_; rintro e w1 ⟨rfl, hw1⟩; rw [hw1]; clear hw1 w1)
        | (go_at_call 47; refine CW.mono ?_; rintro e w1 ⟨v1, rfl, ho1, hb1⟩))
      have HO1 := hide ho1
      have hnx1 := hnx.trans hb1
      clear ho1 hb1 hnx
      go_roundw
      case rel => exact ⟨k + 1, by omega, by go_num, by rw [HS.out]; exact HO1.out, hnx1⟩
      case measure => (simp [intOf]; try omega)
  · obtain rfl : k = ids.length := by omega
    rw [List.take_length] at ho
    go_wp2_with fail
    go_ret
    exact ⟨_, rfl, ho, hnx⟩
set_option maxRecDepth 100000 in
set_option maxHeartbeats 4000000 in
theorem R8Refs_any {S : Nat → Prop} {v : Value} {l : List Ev} {w : World} (hr : EvsR w S v l) (hl : l.length ≤ 400) (hE : ∀ e ∈ l, e.prev.length ≤ 1000 ∧ e.auth.length ≤ 1000) :
    Calls Tryz.prog 32 #[v] w (GivesZ (refsE l) w) := by
  obtain ⟨A, c, css, rfl, h1, h2, _, hrow, ht⟩ := hr.form
  have HE := hide hE
  clear hr hE
  go_enter Tryz.func32, Tryz.ntmps32
  go_wp2_with fail
  go_loopw [3, 4] (fun u i wr => ∃ (k : Nat) (L : List Int), k ≤ l.length ∧ i = .int .i64 (k : Int) ∧ Hid (L = refL (l.take k)) ∧ L.length ≤ k * 2000 ∧ wr.ownsRow w.heap.size 3 1 u (onceI L).length (ivs (onceI L)) ∧ Below w.heap.size w wr) (fun _ i _ => l.length - (intOf i).toNat)
  case atStart => exact ⟨0, [], Nat.zero_le _, rfl, rfl, Nat.zero_le _, World.ownsRow_nil _ _ _ _, ext_refl _⟩
  case round =>
  obtain ⟨k, L, hk, rfl, HL, hn, ho, hnx⟩ := hrel
  by_cases hlt : k < l.length
  · obtain ⟨b1, o1, cs1, rfl, hb1, he1, _, hc1⟩ := evs_at hrow ht k hlt
    obtain ⟨hp1, hp2⟩ := HE.out _ (List.getElem_mem hlt)
    have HS := hide ((refL_step hlt).trans (by rw [← HL.out]))
    obtain ⟨x, hxx⟩ : ∃ x, x = l[k] := ⟨_, rfl⟩
    rw [← hxx] at he1 hp1 hp2 HS
    obtain ⟨Ap, cp, Aq, cq, g8, g9, hrp, hrq⟩ : ∃ Ap cp Aq cq, cs1[8]? = some (.slice Ap x.prev.length cp) ∧ cs1[9]? = some (.slice Aq x.auth.length cq) ∧ Row w w.heap.size Ap (ivs x.prev) ∧ Row w w.heap.size Aq (ivs x.auth) := by
      obtain ⟨vp, vq, va, vd, vu, vk, rfl, q1, q2, _⟩ := he1
      obtain ⟨Ap, cp, rfl, _, _, _, hrp, _⟩ := q1.form
      obtain ⟨Aq, cq, rfl, _, _, _, hrq, _⟩ := q2.form
      exact ⟨Ap, cp, Aq, cq, rfl, rfl, hrp, hrq⟩
    have HC8 := hide (fun (W : World) (h : Below w.heap.size w W) => range_below hc1 h 8 _ g8)
    have HC9 := hide (fun (W : World) (h : Below w.heap.size w W) => range_below hc1 h 9 _ g9)
    clear hc1 he1 hxx g8 g9
    go_wp2_with fail
    go_loopw [3, 5] (fun u i wr => ∃ (j : Nat), j ≤ x.prev.length ∧ i = .int .i64 (j : Int) ∧ wr.ownsRow w.heap.size 3 1 u (onceI (L ++ x.prev.take j)).length (ivs (onceI (L ++ x.prev.take j))) ∧ Below w.heap.size w wr) (fun _ i _ => x.prev.length - (intOf i).toNat)
    case atStart => exact ⟨0, Nat.zero_le _, rfl, by simpa using ho, hnx⟩
    case round =>
    clear ho hnx
    obtain ⟨j, hj, rfl, ho, hnx⟩ := hrel
    have r8 := HC8.out _ hnx
    by_cases hjl : j < x.prev.length
    · obtain ⟨b, o, rfl, hbb, hc⟩ := Row.fix ((hrp.below hnx).more hnx.size) (ivs_get x.prev j hjl)
      have hc0 := hc _ _ (ivs_get x.prev j hjl)
      have HT := hide (show onceI (L ++ x.prev.take (j + 1)) = withI x.prev[j] (onceI (L ++ x.prev.take j)) by rw [List.take_succ_eq_append_getElem hjl, ← List.append_assoc, once_snoc])
      have hlen : (onceI (L ++ x.prev.take j)).length ≤ 1000000 := by have := once_len (L ++ x.prev.take j); rw [List.length_append, List.length_take] at this; omega
      obtain ⟨y, hyy⟩ : ∃ y, y = x.prev[j] := ⟨_, rfl⟩
      rw [← hyy] at hc0 HT
      obtain ⟨t, htt⟩ : ∃ t, t = onceI (L ++ x.prev.take j) := ⟨_, rfl⟩
      rw [← htt] at ho hlen HT
      have CW := With_any (n := y) ho hnx.size hlen
      obtain ⟨Ao, co, rfl, _⟩ := own_form ho
      clear hc hyy htt ho
      go_wp2_with (go_at_call 47; refine CW.mono ?_; rintro e w1 ⟨v1, rfl, ho1, hb1⟩)
      have HO1 := hide ho1
      have hnx1 := hnx.trans hb1
      clear ho1 hb1 hnx r8 hc0
      go_roundw
      case rel => exact ⟨j + 1, by omega, by go_num, by rw [HT.out]; exact HO1.out, hnx1⟩
      case measure => (simp [intOf]; try omega)
    · obtain rfl : j = x.prev.length := by omega
      rw [List.take_length] at ho
      have HO := hide ho
      clear ho
      go_wp2_with fail
      go_loopw [3, 6] (fun u i wr => ∃ (j : Nat), j ≤ x.auth.length ∧ i = .int .i64 (j : Int) ∧ wr.ownsRow w.heap.size 3 1 u (onceI (L ++ x.prev ++ x.auth.take j)).length (ivs (onceI (L ++ x.prev ++ x.auth.take j))) ∧ Below w.heap.size w wr) (fun _ i _ => x.auth.length - (intOf i).toNat)
      case atStart => exact ⟨0, Nat.zero_le _, rfl, by simpa using HO.out, hnx⟩
      case round =>
      clear HO hnx r8
      obtain ⟨j, hj, rfl, ho, hnx⟩ := hrel
      have r9 := HC9.out _ hnx
      by_cases hjl : j < x.auth.length
      · obtain ⟨b, o, rfl, hbb, hc⟩ := Row.fix ((hrq.below hnx).more hnx.size) (ivs_get x.auth j hjl)
        have hc0 := hc _ _ (ivs_get x.auth j hjl)
        have HT := hide (show onceI (L ++ x.prev ++ x.auth.take (j + 1)) = withI x.auth[j] (onceI (L ++ x.prev ++ x.auth.take j)) by rw [List.take_succ_eq_append_getElem hjl, ← List.append_assoc, once_snoc])
        have hlen : (onceI (L ++ x.prev ++ x.auth.take j)).length ≤ 1000000 := by have := once_len (L ++ x.prev ++ x.auth.take j); rw [List.length_append, List.length_append, List.length_take] at this; omega
        obtain ⟨y, hyy⟩ : ∃ y, y = x.auth[j] := ⟨_, rfl⟩
        rw [← hyy] at hc0 HT
        obtain ⟨t, htt⟩ : ∃ t, t = onceI (L ++ x.prev ++ x.auth.take j) := ⟨_, rfl⟩
        rw [← htt] at ho hlen HT
        have CW := With_any (n := y) ho hnx.size hlen
        obtain ⟨Ao, co, rfl, _⟩ := own_form ho
        clear hc hyy htt ho
        go_wp2_with (go_at_call 47; refine CW.mono ?_; rintro e w1 ⟨v1, rfl, ho1, hb1⟩)
        have HO1 := hide ho1
        have hnx1 := hnx.trans hb1
        clear ho1 hb1 hnx r9 hc0
        go_roundw
        case rel => exact ⟨j + 1, by omega, by go_num, by rw [HT.out]; exact HO1.out, hnx1⟩
        case measure => (simp [intOf]; try omega)
      · obtain rfl : j = x.auth.length := by omega
        rw [List.take_length] at ho
        have HO := hide ho
        clear ho
        go_wp2_with fail
        go_roundw
        case rel => exact ⟨k + 1, L ++ x.prev ++ x.auth, by omega, by go_num, HS.out.symm, by rw [List.length_append, List.length_append]; omega, HO.out, hnx⟩
        case measure => (simp [intOf]; try omega)
  · obtain rfl : k = l.length := by omega
    have hL : L = refL l := by have := HL.out; rwa [List.take_length] at this
    have HF : Hid (refsE l = onceI L) := by rw [hL]; rfl
    clear hL
    go_wp2_with fail
    go_ret
    exact ⟨_, rfl, by rw [HF.out]; exact ho, hnx⟩
end
end Go.Proofs.YtmlnmcoophnlaaaGreat
