/-
  identity.ahead; the map of users.
-/
import Derived.Test.YtimdcnickfaddaaGhA
set_option linter.unusedVariables false
set_option linter.unusedSimpArgs false
namespace Go.Proofs.Ytimdcnickfaddaa
open Go.RowKit Go.Maps

def idOf (a b : ByteArray) : Ident := (a.toList, b.toList)
set_option maxRecDepth 100000 in
set_option maxHeartbeats 1600000 in
theorem br_ahead (a b c d : ByteArray) (w : World) : Calls Try.prog 44 #[.agg #[.string a, .string b], .agg #[.string c, .string d]] w (fun e w' => e = .returned (.bool (idLt (idOf a b) (idOf c d))) ∧ Below w.heap.size w w') := by
  obtain ⟨x, hx⟩ : ∃ x, Op.bytesLess a.toList c.toList = x := ⟨_, rfl⟩
  obtain ⟨y, hy⟩ : ∃ y, (a.toList == c.toList) = y := ⟨_, rfl⟩
  obtain ⟨z, hz⟩ : ∃ z, Op.bytesLess b.toList d.toList = z := ⟨_, rfl⟩
  have HI := hide (show idLt (idOf a b) (idOf c d) = (x || (y && z)) from by unfold idLt idOf; rw [hx, hy, hz])
  cases x
  · cases y
    · go_enter Try.func44, Try.ntmps44
      go_wp2_with fail
      go_ret
      exact ⟨by rw [HI.out]; rfl, ext_alloc (ext_alloc (ext_refl w) _) _⟩
    · go_enter Try.func44, Try.ntmps44
      go_wp2_with fail
      go_ret
      exact ⟨by rw [HI.out]; rfl, ext_alloc (ext_alloc (ext_refl w) _) _⟩
  · go_enter Try.func44, Try.ntmps44
    go_wp2_with fail
    go_ret
    exact ⟨by rw [HI.out]; rfl, ext_alloc (ext_alloc (ext_refl w) _) _⟩

/-- the map holds the first user of each identity of l -/
def UMap (w : World) (b : Nat) (l : List Gh) : Prop := ∃ n, ∃ D : DataW Unit, w.ownsMap Try.prog 70 (plainElem Try.prog 9) b n D ∧ n ≤ l.length ∧
  ∀ (x y : ByteArray) (kl : Lit), keyOf Try.prog 70 (keyV x y) = some kl → ∀ z, D.atKey kl z = match findG (idOf x y) l with | some g => .lit (.string g.user.data.toList) | none => z
theorem UMap.made (w : World) : UMap (w.alloc (.map #[] 0)) w.heap.size [] :=
  ⟨0, .map [], World.ownsMap_made _ _ _ _, Nat.le_refl _, fun x y kl _ z => by simp [DataW.atKey, findG]⟩
theorem UMap.kept {w w' : World} {b : Nat} {l : List Gh} (h : UMap w b l) (hb : Below w.heap.size w w') : UMap w' b l := by
  obtain ⟨n, D, ⟨es, clock, h1, h2, h3, h4⟩, r⟩ := h
  exact ⟨n, D, ⟨es, clock, by rw [hb.block b (Array.getElem?_eq_some_iff.1 h1).1]; exact h1, h2, h3, h4⟩, r⟩
theorem UMap.lt {w : World} {b : Nat} {l : List Gh} (h : UMap w b l) : b < w.heap.size := by
  obtain ⟨n, D, h, _⟩ := h
  exact h.lt
theorem keyV_ne {g : Gh} {x y : ByteArray} (h : keyV x y ≠ keyV g.net g.name) : ¬ g.id = idOf x y := by
  intro e
  unfold Gh.id idOf at e
  injection e with e1 e2
  rw [bt, bt] at e1 e2
  have f1 : g.net = x := by rw [← str_toList g.net, e1]; rfl
  have f2 : g.name = y := by rw [← str_toList g.name, e2]; rfl
  exact h (by rw [f1, f2])
theorem keyV_inj {a b c d : ByteArray} (h : keyV a b = keyV c d) : a = c ∧ b = d := by
  simpa [keyV] using h
theorem key_fun {u v : Value} {k l : Lit} (h1 : keyOf Try.prog 70 u = some k) (h2 : keyOf Try.prog 70 v = some l) (e : u = v) : k = l := by
  subst e
  exact Option.some.inj (h1.symm.trans h2)
section
variable {w : World} {ops : Array Oper} {rest : List Oper} {o : Oper} {a : Act} {Q : Exit → Act → World → Prop}
set_option maxRecDepth 100000 in
/-- 'm[of(g)] = g.User' -/
theorem wpList_toUsers (hg : o.guard = none) (m x v : Operand) (hop : o.op = Op.mapUpdate 71 m x v) (b : Nat) (l : List Gh) (hl : l.length < maxLen) (hm : a.eval m = .map (some b)) (hown : UMap w b l) (g : Gh) (h1 : g.net.size ≤ maxLen) (h2 : g.name.size ≤ maxLen) (h3 : g.user.size ≤ maxLen)
    (hx : a.eval x = keyV g.net g.name) (hv : a.eval v = .string g.user)
    (hK : ∀ w', UMap w' b (g :: l) → w.grownBy w' (some b) → wpList Try.prog ops Q rest (a.put o.dst undef) w') : wpList Try.prog ops Q (o :: rest) a w := by
  obtain ⟨n, D, ho, hn, hat⟩ := hown
  obtain ⟨kl, hkl⟩ := key_some g.net g.name h1 h2
  have hD : IsMap D := ho.isMap
  refine wpList_mapUpdate_own w hg m x v 71 hop 70 9 keyedI Try.underlying71 (plainElem Try.prog 9) b n D hm ho (by omega) _ _ kl hx hv hkl _ [] (plainElem_string Try.underlying9 h3) fun w' h4 h5 =>
    hK w' ⟨n + 1, _, h4, by simp; omega, fun p q kl' hk' z => ?_⟩ h5
  by_cases he : kl' = kl
  · subst he
    obtain ⟨e1, e2⟩ := keyV_inj (keyedI.inj hk' hkl)
    subst e1 e2
    rw [atKey_put_same hD (keyedI.key hkl)]
    have : findG (idOf g.net g.name) (g :: l) = some g := by
      unfold findG
      rw [List.find?_cons_of_pos]
      simp [Gh.id, idOf]
    rw [this]
  · rw [atKey_put_other he, hat p q kl' hk' z]
    have hne : keyV p q ≠ keyV g.net g.name := fun e => he (key_fun hk' hkl e)
    have : findG (idOf p q) (g :: l) = findG (idOf p q) l := by
      unfold findG
      rw [List.find?_cons_of_neg]
      simpa using keyV_ne hne
    rw [this]
end
/-- 'm[a]' with ok -/
def lookV (o : Option Gh) : Value := match o with | some g => .tuple #[.string g.user, .bool true] | none => .tuple #[.string ⟨#[]⟩, .bool false]
set_option maxRecDepth 100000 in
theorem UMap.look {w : World} {b : Nat} {l : List Gh} (h : UMap w b l) (x y : ByteArray) (hx : x.size ≤ maxLen) (hy : y.size ≤ maxLen) :
    (Instr.lookup 71 (.map (some b)) (keyV x y) true).run Try.prog w = .ok (lookV (findG (idOf x y) l)) w := by
  obtain ⟨n, D, ⟨es, clock, hb, F, _, rfl⟩, hn, hat⟩ := h
  obtain ⟨kl, hkl⟩ := key_some x y hx hy
  have hz : (zeroValue 9).run Try.prog w = .ok (.string ⟨#[]⟩) w := by kernel_rfl
  have ha := hat x y kl hkl
  rcases Maps.fit_look true keyedI Try.underlying71 hz hb F hkl with ⟨hrun, _, hno⟩ | ⟨e0, q, _, _, hrun, hR, hyes, _⟩
  · rw [hrun]
    cases hf : findG (idOf x y) l with
    | none => rfl
    | some g =>
      rw [hf] at ha
      have h1 := (ha (.map [])).symm.trans (hno _)
      cases h1
  · rw [hrun]
    cases hf : findG (idOf x y) l with
    | none =>
      rw [hf] at ha
      have h1 := (ha (.map [])).symm.trans (hyes _)
      have h2 := (ha (.lit (.bool true))).symm.trans (hyes _)
      have h3 := h1.trans h2.symm
      cases h3
    | some g =>
      rw [hf] at ha
      have h1 := (ha (.map [])).symm.trans (hyes (.map []))
      obtain ⟨s, e1, e2, _⟩ := plainElem_string_inv Try.underlying9 hR
      rw [e2] at h1
      injection h1 with h1
      injection h1 with h1
      have : s = g.user := by rw [← str_toList s, ← h1]; rfl
      simp [lookV, e1, this]
end Go.Proofs.Ytimdcnickfaddaa
