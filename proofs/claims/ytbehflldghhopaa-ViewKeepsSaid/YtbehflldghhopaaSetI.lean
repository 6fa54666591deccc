/-
  A set of numbers, kept as map[int]bool in a block of the call's own.
-/
import Derived.Test.YtbehflldghhopaaRFill
import Derived.Maps.Views
import Derived.Maps.OwnIn
import Derived.Maps.OwnOps
import Derived.Maps.Keyed
set_option linter.unusedVariables false
set_option linter.unusedSimpArgs false
namespace Go.Proofs.Ytbehflldghhopaa
open Go.RowKit Go.Maps

def setI (l : List Int) : DataW Unit := setOf (.lit (.bool true)) (l.map (Lit.int .i64))
def OwnsSet (w : World) (b : Nat) (l : List Int) : Prop := w.ownsMap Try.prog 3 (plainElem Try.prog 4) b l.length (setI l)
theorem wf_of_i64 {n : Int} (h : I64 n) : (Lit.int .i64 n).wf = true := by
  unfold I64 at h
  simp [Lit.wf, IntKind.min, IntKind.max, IntKind.bits, IntKind.signed]
  omega
theorem plainElem_bool_inv {P : Program} {e : TypeId} (he : P.underlying e = some .bool) {v : Value} {z : DataW Unit × List MemPlace} (h : plainElem P e v = some z) : ∃ a, v = .bool a ∧ z = (.lit (.bool a), []) := by
  unfold plainElem at h
  rw [he] at h
  cases v <;> simp at h
  exact ⟨_, rfl, h.symm⟩
theorem keyI (n : Int) : WideAt.IsKeyLit (Lit.int .i64 n) := by trivial
theorem setI_snoc (l : List Int) (x : Int) : setI (l ++ [x]) = (setI l).put (.int .i64 x) (.lit (.bool true)) := by
  unfold setI; rw [List.map_append]; exact setOf_snoc _ _ _
theorem setI_map (l : List Int) : IsMap (setI l) := (tidy_setOf _ _ fun x hx => by
  obtain ⟨y, _, rfl⟩ := List.mem_map.1 hx; exact keyI y).isMap
theorem setI_take (l : List Int) (n : Int) : ∀ k, k ≤ l.length → (setI (l.take k)).atKey (.int .i64 n) (.lit (.bool false)) = .lit (.bool (decide (n ∈ l.take k)))
  | 0, _ => by
    have : setI (l.take 0) = .map [] := by simp [setI, setOf]
    rw [this]
    simp [DataW.atKey]
  | k + 1, hk => by
    have ih := setI_take l n k (by omega)
    rw [List.take_succ_eq_append_getElem (by omega), setI_snoc]
    by_cases h : l[k] = n
    · rw [h, atKey_put_same (setI_map _) (keyI n)]
      simp
    · rw [atKey_put_other (by intro e; injection e with _ e; exact h e.symm), ih]
      congr 2
      simp only [List.mem_append, List.mem_singleton]
      exact decide_eq_decide.2 ⟨.inl, fun h' => h'.elim id fun h' => absurd h'.symm h⟩
theorem setI_at (l : List Int) (n : Int) : (setI l).atKey (.int .i64 n) (.lit (.bool false)) = .lit (.bool (decide (n ∈ l))) := by
  have := setI_take l n l.length (Nat.le_refl _)
  rwa [List.take_length] at this
theorem OwnsSet.made (w : World) : OwnsSet (w.alloc (.map #[] 0)) w.heap.size [] := by
  have : setI [] = .map [] := rfl
  unfold OwnsSet
  rw [this]
  exact World.ownsMap_made _ _ _ _
theorem OwnsSet.kept {w w' : World} {b : Nat} {l : List Int} (h : OwnsSet w b l) (hb : Below w.heap.size w w') : OwnsSet w' b l := by
  obtain ⟨es, clock, h1, h2, h3, h4⟩ := h
  exact ⟨es, clock, by rw [hb.block b (Array.getElem?_eq_some_iff.1 h1).1]; exact h1, h2, h3, h4⟩
section
variable {w : World} {ops : Array Oper} {rest : List Oper} {o : Oper} {a : Act} {Q : Exit → Act → World → Prop}
/-- 'seen[x]' -/
theorem wpList_inSet (hg : o.guard = none) (m x : Operand) (hop : o.op = Op.lookup 57 m x false) (b : Nat) (l : List Int) (hm : a.eval m = .map (some b)) (hown : OwnsSet w b l) (n : Int) (hn : I64 n) (hx : a.eval x = .int .i64 n)
    (hK : wpList Try.prog ops Q rest (a.put o.dst (.bool (decide (n ∈ l)))) w) : wpList Try.prog ops Q (o :: rest) a w := by
  refine wpList_plain hg fun K' hK' => ?_
  have hz : (zeroValue 4).run Try.prog w = .ok (.bool false) w := by kernel_rfl
  obtain ⟨v, ps, hrun, hv⟩ := World.ownsMap.lookup hown (int_keyed Try.underlying3) Try.underlying57 hz (plainElem_bool Try.underlying4 false) (keyOf_int_mk Try.underlying3 (wf_of_i64 hn))
  obtain ⟨c, rfl, hc⟩ := plainElem_bool_inv Try.underlying4 hv
  rw [setI_at] at hc
  simp only [Prod.mk.injEq] at hc
  obtain ⟨hc, _⟩ := hc
  injection hc with hc
  injection hc with hc
  rw [← hc] at hrun
  unfold Oper.wp
  simp [execOp, hop, hm, hx, hrun, Result.andThen]
  exact hK' _ _ (by simpa using hK)
/-- 'seen[x] = true' -/
theorem wpList_toSet (hg : o.guard = none) (m x : Operand) (v : Operand) (hop : o.op = Op.mapUpdate 57 m x v) (b : Nat) (l : List Int) (hl : l.length < maxLen) (hm : a.eval m = .map (some b)) (hown : OwnsSet w b l) (n : Int) (hn : I64 n) (hx : a.eval x = .int .i64 n) (hv : a.eval v = .bool true)
    (hK : ∀ w', OwnsSet w' b (l ++ [n]) → w.grownBy w' (some b) → wpList Try.prog ops Q rest (a.put o.dst undef) w') : wpList Try.prog ops Q (o :: rest) a w :=
  wpList_mapUpdate_own w hg m x v 57 hop 3 4 (int_keyed Try.underlying3) Try.underlying57 (plainElem Try.prog 4) b l.length (setI l) hm hown hl _ _ _ hx hv (keyOf_int_mk Try.underlying3 (wf_of_i64 hn)) _ [] (plainElem_bool Try.underlying4 true) fun w' h1 h2 =>
    hK w' (by unfold OwnsSet; rw [setI_snoc, List.length_append]; exact h1) h2
end

/-! ### Chains -/
def chainB {α : Type} (R : α → α → Bool) : List α → Bool
  | a :: b :: l => R a b && chainB R (b :: l)
  | _ => true
theorem chainB_iff {α : Type} {R : α → α → Bool} : ∀ {l : List α}, chainB R l = true ↔ ∀ j, (h : j + 1 < l.length) → R l[j] l[j + 1] = true
  | [] => by simp [chainB]
  | [a] => by simp [chainB]
  | a :: b :: l => by
    unfold chainB
    rw [Bool.and_eq_true, chainB_iff]
    constructor
    · rintro ⟨h1, h2⟩ j h
      cases j with
      | zero => exact h1
      | succ j => exact h2 j (by simpa using h)
    · intro h
      exact ⟨h 0 (by simp), fun j hj => h (j + 1) (by simpa using hj)⟩
/-- the pairs in front of number i -/
def ChainTo {α : Type} (R : α → α → Bool) (l : List α) (i : Nat) : Prop := ∀ j, (h : j + 1 < l.length) → j + 1 < i → R l[j] l[j + 1] = true
theorem ChainTo.start {α : Type} (R : α → α → Bool) (l : List α) : ChainTo R l 1 := fun j _ h => by omega
theorem ChainTo.step {α : Type} {R : α → α → Bool} {l : List α} {i : Nat} (h : ChainTo R l (i + 1)) (hi : i + 1 < l.length) (hr : R l[i] l[i + 1] = true) : ChainTo R l (i + 2) := fun j hj hlt => by
  by_cases he : j = i
  · subst he; exact hr
  · exact h j hj (by omega)
theorem ChainTo.fin {α : Type} {R : α → α → Bool} {l : List α} {i : Nat} (h : ChainTo R l i) (hi : l.length ≤ i) : chainB R l = true := chainB_iff.2 fun j hj => h j hj (by omega)
theorem ChainTo.bad {α : Type} {R : α → α → Bool} {l : List α} {i : Nat} (hi : i + 1 < l.length) (hr : R l[i] l[i + 1] = false) : chainB R l = false := by
  cases h : chainB R l
  · rfl
  · have := chainB_iff.1 h i hi; rw [hr] at this; cases this
/-! ### Right views -/
def gapLt (a b : Int × Int) : Bool := decide (a.1 < b.1)
instance (V : Vw) : Decidable V.inside := by unfold Vw.inside; infer_instance
def checkV (V : Vw) : Int := if ¬ (ids V.events).Nodup then 4 else if ¬ V.inside then 2 else if chainB gapLt V.gaps = false then 8 else if chainB aheadB V.state = false then 8 else 0
theorem nodup_step {l : List Int} {k : Nat} (hk : k < l.length) : (l.take (k + 1)).Nodup ↔ (l.take k).Nodup ∧ l[k] ∉ l.take k := by
  rw [List.take_succ_eq_append_getElem hk, List.nodup_append]
  constructor
  · rintro ⟨h1, _, h3⟩
    exact ⟨h1, fun h => h3 _ h _ (by simp) rfl⟩
  · rintro ⟨h1, h2⟩
    exact ⟨h1, by simp, fun a ha b hb e => by rw [List.mem_singleton] at hb; exact h2 (by rw [← hb, ← e]; exact ha)⟩
theorem not_nodup {l : List Int} {k : Nat} (hk : k < l.length) (h : l[k] ∈ l.take k) : ¬ l.Nodup := fun hn => by
  have h1 : (l.take (k + 1)).Nodup := hn.sublist (List.take_sublist _ _)
  exact ((nodup_step hk).1 h1).2 h
theorem checkV_twice {V : Vw} (h : ¬ (ids V.events).Nodup) : checkV V = 4 := by unfold checkV; rw [if_pos h]
theorem checkV_range {V : Vw} (h : (ids V.events).Nodup) (h2 : ¬ V.inside) : checkV V = 2 := by unfold checkV; rw [if_neg (by simpa using h), if_pos h2]
theorem checkV_gaps {V : Vw} (h : (ids V.events).Nodup) (h2 : V.inside) (h3 : chainB gapLt V.gaps = false) : checkV V = 8 := by unfold checkV; rw [if_neg (by simpa using h), if_neg (by simpa using h2), if_pos h3]
theorem checkV_state {V : Vw} (h : (ids V.events).Nodup) (h2 : V.inside) (h3 : chainB gapLt V.gaps = true) (h4 : chainB aheadB V.state = false) : checkV V = 8 := by unfold checkV; rw [if_neg (by simpa using h), if_neg (by simpa using h2), if_neg (by simp [h3]), if_pos h4]
theorem checkV_ok {V : Vw} (h : (ids V.events).Nodup) (h2 : V.inside) (h3 : chainB gapLt V.gaps = true) (h4 : chainB aheadB V.state = true) : checkV V = 0 := by unfold checkV; rw [if_neg (by simpa using h), if_neg (by simpa using h2), if_neg (by simp [h3]), if_neg (by simp [h4])]
theorem checkV_inv {V : Vw} (h : checkV V = 0) : (ids V.events).Nodup ∧ V.inside ∧ chainB gapLt V.gaps = true ∧ chainB aheadB V.state = true := by
  unfold checkV at h
  split at h
  · cases h
  · split at h
    · cases h
    · split at h
      · cases h
      · split at h
        · cases h
        · next h1 h2 h3 h4 => exact ⟨by simpa using h1, by simpa using h2, by simpa using h3, by simpa using h4⟩
end Go.Proofs.Ytbehflldghhopaa
