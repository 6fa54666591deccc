/-
  content's reader: levels.
  content.Decode.
-/
import Derived.Test.YtmlnmcoophnlaaaGreatDecP
import Derived.Test.YtmlnmcoophnlaaaGreatRdr
import Derived.Test.YtmlnmcoophnlaaaGreatPhases
import Derived.Deep.DeepCutAuto
set_option linter.unusedVariables false
set_option linter.unusedSimpArgs false
namespace Go.Proofs.YtmlnmcoophnlaaaGreat
section
open Go.RowKit
attribute [local go_sem] Addr.add_mid
/-- an owned row where another block grows -/
theorem own_apart6 {w w' : World} {base : Nat} {e : TypeId} {size n : Nat} {v : Value} {xs : List Value} {row : Option Nat} (h : w.ownsRow base e size v n xs) (hg : w.grownBy w' row) (hne : ∀ g, v.ownBlock = some g → row ≠ some g) : w'.ownsRow base e size v n xs := by
  refine ⟨h.1, ?_⟩
  rcases h.2 with h2 | ⟨g, cap, cur, rfl, hb, hh, r⟩
  · exact .inl h2
  · refine .inr ⟨g, cap, cur, rfl, hb, ?_, r⟩
    rw [hg.block g (Array.getElem?_eq_some_iff.1 hh).1 (fun e => hne g rfl e.symm)]
    exact hh
theorem own_block {w : World} {base : Nat} {e : TypeId} {size n : Nat} {v : Value} {xs : List Value} (h : w.ownsRow base e size v n xs) : ∀ g, v.ownBlock = some g → base ≤ g ∧ g < w.heap.size := by
  intro g hg
  rcases h.2 with ⟨rfl, _⟩ | ⟨g', cap, cur, rfl, hb, hh, r⟩
  · cases hg
  · injection hg with hg; subst hg; exact ⟨hb, (Array.getElem?_eq_some_iff.1 hh).1⟩
theorem own_one {w : World} {base : Nat} {e : TypeId} {size n : Nat} {v : Value} {xs : List Value} (h : w.ownsRow base e size v n xs) : v.oneCell' = true := by obtain ⟨A, c, rfl, _⟩ := own_form h; rfl
section
variable {P : Program} {w : World} {ops : Array Oper} {rest : List Oper} {o : Oper} {a : Act} {Q : Exit → Act → World → Prop} {t e : TypeId} {z : Value} {size bytes : Nat}
/-- 'append(out, x)', and in which block the row lies then -/
theorem wpList_append_at6 (hgd : o.guard = none) (s x : Operand) (ho : o.op = .call { callee := .builtin .append, args := #[s, x], argTypes := #[t, t] })
    (E : Elem P t e z size bytes) (base : Nat) (v : Value) (n : Nat) (xs : List Value) (hs : a.eval s = v) (hown : w.ownsRow base e size v n xs) (m : Nat) (cs : Array Value) (hcs : cs.size = m * size)
    (hx : a.eval x = .slice (some ⟨w.heap.size, 0, none⟩) m m) (h1 : ∀ u ∈ cs.toList, u.oneCell' = true) (hlen : n + m ≤ maxLen) (hby : (n + m) * bytes ≤ 140737488355328) (hbase : base ≤ w.heap.size)
    (h : ∀ v' w', w'.ownsRow base e size v' (n + m) (xs ++ cs.toList) → w.grownBy w' v.ownBlock → (v'.ownBlock = v.ownBlock ∨ v'.ownBlock = some (w.heap.size + 1)) → wpList P ops Q rest (a.put o.dst v') w') :
    wpList P ops Q (o :: rest) a (w.alloc (.cells cs e)) := by
  obtain ⟨i, hi, hz0, hz1, hz2⟩ := info_parts E.info
  refine wpList_append_own_at _ hgd s x t ho base e i z size bytes E.under hi hz0 hz1 hz2 E.zero E.pos v n xs hs (hown.alloc _) ⟨w.heap.size, 0, none⟩ m m cs.toList hx (by simpa using hcs) ?_ h1 hlen hby (Nat.le_trans hbase (by simp)) ?_
  · exact fun j u hu => by
      obtain ⟨ad, h1, _, h2⟩ := (Row.new (B := w.heap.size + 1) w cs e (0, 0) (by omega)).at hu
      injection h1 with h1; subst h1; exact h2
  · intro v' w' h1 h2 _ h4
    exact h v' w' h1 ⟨h2.os, h2.tape, h2.output, Nat.le_trans (by simp) h2.size, fun k hk hne => (h2.block k (by simp; omega) hne).trans (heap_alloc_old w _ hk)⟩ (by simpa using h4)
end
/-- the levels that are read: how far they are -/
def levUK (us : List (ByteArray × Int)) (ks : List (Int × Int)) (vu vk : Value) : List Value := levCells ⟨us, ks, 0, 0, 0, 0, 0, 0, 0⟩ vu vk
/-- old blocks but g's are as they were -/
def Kept (g : Nat) (w w' : World) : Prop := w.grownBy w' (some g)
theorem Kept.refl (g : Nat) (w : World) : Kept g w w := World.grownBy.refl _ _
theorem Kept.step {g : Nat} {w w1 w2 : World} (h : Kept g w w1) (k : w1.grownBy w2 (some g)) : Kept g w w2 := h.trans k
/-- a block that is not old grows -/
theorem Kept.new {g : Nat} {w w1 w2 : World} {row : Option Nat} (h : Kept g w w1) (k : w1.grownBy w2 row) (hr : ∀ b, row = some b → w.heap.size ≤ b) : Kept g w w2 :=
  ⟨k.os.trans h.os, k.tape.trans h.tape, k.output.trans h.output, Nat.le_trans h.size k.size, fun i hi hne => (k.block i (Nat.lt_of_lt_of_le hi h.size) (fun e => by have := hr i e.symm; omega)).trans (h.block i hi hne)⟩
theorem Kept.below {g : Nat} {w w1 w2 : World} (h : Kept g w w1) (k : Below w1.heap.size w1 w2) : Kept g w w2 := grown_below h k

def tailR (C : Con) : List UInt8 := (restL C.lv).flatMap encI
def base_ok (W w : World) : Prop := W.heap.size = w.heap.size + 2

end

section
open Go.RowKit
attribute [local go_sem] Addr.add_mid
section
variable {P : Program} {fn : Func} {R : Ending → World → Prop} {a : Act} {w : World} {t : TypeId} {z C : Array Value} {n : Nat} {p q : Tmp}
theorem bodyPost_cell26 (G : Strc P t z n) (hres : fn.results = #[.cell p t, .tmp q]) (g : Nat) (hp : a.tmps.getD p undef = .pointer (some ⟨g, 0, none⟩)) (u : Value) (hq : a.tmps.getD q undef = u) (hd : a.defers = []) (hg : w.heap[g]? = some (.cells C t (0, 0))) (hC : C.size = n)
    (hR : R (.returned (.tuple #[.agg C, u])) w) : bodyPost P fn R .ret a w := by
  obtain ⟨d, hu, hrow⟩ := G.row
  refine bodyPost_ret ?_ hd hR
  have hp' : a.tmps[p]?.getD undef = .pointer (some ⟨g, 0, none⟩) := by simpa using hp
  have hq' : a.tmps[q]?.getD undef = u := by simpa using hq
  have hl := run_loadVar_row w g t t C (0, 0) d hg hu (by cases d <;> simp_all) (by rw [G.size, hC])
  simp [results, hres, hp', hq', asAddr, hl]
end
/-- a content that can be read back: nothing in it is too long -/
structure Con.fine (c : Con) : Prop where
  text : c.text.size ≤ 16777216
  via : c.via.size ≤ 16777216
  n : I64 c.n
  target : I64 c.target
  allowL : c.allow.length ≤ 16777216
  denyL : c.deny.length ≤ 16777216
  allow : ∀ s ∈ c.allow, s.size ≤ 16777216
  deny : ∀ s ∈ c.deny, s.size ≤ 16777216
  lv : c.lv.fine
theorem Con.fine.told {c : Con} (h : c.fine) : c.told where
  text := by have := h.text; omega
  via := by have := h.via; omega
  n := h.n
  target := h.target
  allowL := by have := h.allowL; omega
  denyL := by have := h.denyL; omega
  usersL := by have := h.lv.usersL; omega
  kindsL := by have := h.lv.kindsL; omega
  allow := fun s hs => by have := h.allow s hs; omega
  deny := fun s hs => by have := h.deny s hs; omega
  users := fun u hu => ⟨by have := (h.lv.users u hu).1; omega, (h.lv.users u hu).2⟩
  kinds := h.lv.kinds
  rest := by
    have hr := h.lv.rest
    exact ⟨hr _ (by simp [restL]), hr _ (by simp [restL]), hr _ (by simp [restL]), hr _ (by simp [restL]), hr _ (by simp [restL]), hr _ (by simp [restL]), hr _ (by simp [restL])⟩
theorem Con.fine.fit {c : Con} (h : c.fine) : c.fit := ⟨by have := h.allowL; omega, by have := h.denyL; omega, by have := h.lv.usersL; omega, by have := h.lv.kindsL; omega⟩
theorem zero_fine : Con.zero.fine := ⟨by decide, by decide, ⟨by decide, by decide⟩, ⟨by decide, by decide⟩, by decide, by decide, fun s h => by simp [Con.zero] at h, fun s h => by simp [Con.zero] at h, ⟨by decide, by decide, fun s h => by simp [Con.zero, Lev.zero] at h, fun s h => by simp [Con.zero, Lev.zero] at h, fun n hn => by
  simp only [restL, Con.zero, Lev.zero, List.mem_cons, List.not_mem_nil, or_false, or_self] at hn; subst hn; exact ⟨by decide, by decide⟩⟩⟩
/-- what Decode hands back of the bytes l -/
def DecV (l : List UInt8) (w : World) (e : Ending) (w' : World) : Prop :=
  ∃ cs C ok, e = .returned (.tuple #[.agg cs.toArray, .bool ok]) ∧ ConR w' (w.heap.size ≤ ·) cs C ∧ C.fine ∧ (ok = true → l = encCon C) ∧ (ok = false → C = Con.zero ∧ ∀ C' : Con, C'.told → l ≠ encCon C') ∧ Below w.heap.size w w'
theorem ConR.grown6 {w w' : World} {S : Nat → Prop} {cs : List Value} {c : Con} {row : Option Nat} (h : ConR w S cs c) (hg : w.grownBy w' row) (hr : ∀ b, S b → row ≠ some b) : ConR w' S cs c := by
  obtain ⟨va, vd, vu, vk, rfl, h1, h2, h3, h4⟩ := h
  exact ⟨va, vd, vu, vk, rfl, h1.grown hg hr, h2.grown hg hr, h3.grown hg hr, h4.grown hg hr⟩
theorem conZero_R (w : World) (S : Nat → Prop) : ConR w S conZero.toList Con.zero := ⟨_, _, _, _, rfl, Slc.nil _ _ _, Slc.nil _ _ _, Slc.nil _ _ _, Slc.nil _ _ _⟩

end
end Go.Proofs.YtmlnmcoophnlaaaGreat
