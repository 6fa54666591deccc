/-
  Plain: what is read of the bytes of a content, one part after the other.
  Plain: the lists of levels and the seven numbers behind them, as they are read.
-/
import Derived.Test.YtmlnmcoophnlaaaGreatConEncP
import Derived.Test.YtmlnmcoophnlaaaGreatGet
import Derived.Test.YtmlnmcoophnlaaaGreatBuf
set_option linter.unusedVariables false
set_option linter.unusedSimpArgs false
namespace Go.Proofs.YtmlnmcoophnlaaaGreat
section
open Go.RowKit

/-- 'pre' was read of l and r is left, unless bad; of a content whose bytes l are Q is known, and that t is what is left -/
def Inv (l pre : List UInt8) (ok : Prop) (Q : Con → Prop) (t : Con → List UInt8) (r : List UInt8) (bad : Bool) : Prop :=
  (bad = false → l = pre ++ r ∧ ok) ∧ (∀ C : Con, C.told → l = encCon C → bad = false ∧ Q C ∧ r = t C)
section
variable {l pre pre' : List UInt8} {ok ok' : Prop} {Q Q' : Con → Prop} {t t' : Con → List UInt8} {r r' : List UInt8} {bad okb : Bool}
theorem Inv.start (l : List UInt8) : Inv l [] True (fun _ => True) encCon l false := ⟨fun _ => ⟨rfl, trivial⟩, fun C _ h => ⟨rfl, trivial, h⟩⟩
theorem Inv.imp (h : Inv l pre ok Q t r bad) (hp : bad = false → pre = pre') (ho : bad = false → ok → ok') (hq : ∀ C, C.told → bad = false → Q C → Q' C ∧ t C = t' C) : Inv l pre' ok' Q' t' r bad := by
  refine ⟨fun hb => ?_, fun C hC hl => ?_⟩
  · obtain ⟨h1, h2⟩ := h.1 hb
    exact ⟨by rw [← hp hb]; exact h1, ho hb h2⟩
  · obtain ⟨hb, h1, h2⟩ := h.2 C hC hl
    obtain ⟨h3, h4⟩ := hq C hC hb h1
    exact ⟨hb, h3, by rw [h2, h4]⟩
theorem Inv.guard (h : Inv l pre ok Q t r bad) (g : Bool) (hg : ∀ C, C.told → Q C → r = t C → g = false) : Inv l pre ok Q t r (bad || g) := by
  refine ⟨fun hb => h.1 (by revert hb; cases bad <;> simp), fun C hC hl => ?_⟩
  obtain ⟨hb, h1, h2⟩ := h.2 C hC hl
  exact ⟨by rw [hb, hg C hC h1 h2]; rfl, h1, h2⟩
theorem Inv.spoilt (h : Inv l pre ok Q t r true) (pre' : List UInt8) (ok' : Prop) (Q' : Con → Prop) (t' : Con → List UInt8) (r' : List UInt8) : Inv l pre' ok' Q' t' r' true :=
  ⟨fun hb => by simp at hb, fun C hC hl => by have := (h.2 C hC hl).1; simp at this⟩
theorem Inv.step {α : Type} {g : List UInt8 → Option (α × List UInt8)} {zero x : α} {p : α → Prop} {enc : α → List UInt8} (h : Inv l pre ok Q t r bad) (hcan : ∀ r x r', g r = some (x, r') → r = enc x ++ r' ∧ p x)
    {f : Con → α} (hback : ∀ C, C.told → Q C → g (t C) = some (f C, t' C)) (hres : Res (g r) zero x r' okb) :
    Inv l (pre ++ enc x) (ok ∧ p x) (fun C => Q C ∧ f C = x) t' r' (bad || !okb) := by
  refine ⟨fun hb => ?_, fun C hC hl => ?_⟩
  · have hb1 : bad = false := by revert hb; cases bad <;> simp
    have hb2 : okb = true := by revert hb; cases okb <;> simp
    obtain ⟨h1, h2⟩ := h.1 hb1
    rcases hres with ⟨_, hg⟩ | ⟨ho, _⟩
    · obtain ⟨h3, h4⟩ := hcan _ _ _ hg
      exact ⟨by rw [h1, h3, List.append_assoc], h2, h4⟩
    · rw [ho] at hb2; cases hb2
  · obtain ⟨hb, h1, h2⟩ := h.2 C hC hl
    have h3 := hback C hC h1
    rw [← h2] at h3
    rcases hres with ⟨ho, hg⟩ | ⟨_, _, _, hg⟩
    · rw [hg] at h3
      injection h3 with h3
      injection h3 with h3 h4
      exact ⟨by rw [hb, ho]; rfl, ⟨h1, h3.symm⟩, h4⟩
    · rw [hg] at h3; cases h3
end
theorem str_of (s : ByteArray) : str s.data.toList = s := rfl
theorem encS_str (s : List UInt8) : encI s.length ++ s = encS (str s) := by unfold encS; rw [str_data, str_size]
theorem getI_can (r : List UInt8) (x : Int) (r' : List UInt8) (h : getI r = some (x, r')) : r = encI x ++ r' ∧ I64 x := getI_canon h
theorem getS_can (r x r' : List UInt8) (h : getS r = some (x, r')) : r = encS (str x) ++ r' ∧ True := ⟨by rw [← encS_str]; exact getS_canon h, trivial⟩
theorem getB_can (r : List UInt8) (x : Bool) (r' : List UInt8) (h : getB r = some (x, r')) : r = [if x then 1 else 0] ++ r' ∧ True := ⟨getB_canon h, trivial⟩
theorem flatMap_map {α β : Type} (φ : α → β) (f : β → List UInt8) : ∀ l : List α, l.flatMap (fun x => f (φ x)) = (l.map φ).flatMap f
  | [] => rfl
  | x :: l => by rw [List.flatMap_cons, List.map_cons, List.flatMap_cons, flatMap_map φ f l]
theorem encL_strs (xs : List (List UInt8)) : encL (fun s => encI s.length ++ s) xs = encL encS (xs.map str) := by
  unfold encL
  rw [List.length_map, ← flatMap_map str encS, show (fun s : List UInt8 => encI s.length ++ s) = fun s => encS (str s) from funext encS_str]
theorem getSs_can (r : List UInt8) (x : List (List UInt8)) (r' : List UInt8) (h : getL getw r = some (x, r')) : r = encL encS (x.map str) ++ r' ∧ True := ⟨by rw [← encL_strs]; exact getTexts_canon h, trivial⟩

/-! ### How much is left -/
theorem Res.len {α : Type} {g : Option (α × List UInt8)} {zero x : α} {r r' : List UInt8} {ok : Bool} (h : Res g zero x r' ok) (hg : ∀ x r', g = some (x, r') → r'.length ≤ r.length) : r'.length ≤ r.length := by
  rcases h with ⟨_, h⟩ | ⟨_, _, rfl, _⟩
  · exact hg _ _ h
  · exact Nat.zero_le _
theorem resI_len {r r' : List UInt8} {x : Int} {ok : Bool} (h : Res (getI r) 0 x r' ok) : r'.length ≤ r.length := h.len fun x r' hg => by rw [(getI_canon hg).1, List.length_append]; omega
theorem resS_len {r r' x : List UInt8} {ok : Bool} (h : Res (getS r) [] x r' ok) : r'.length ≤ r.length ∧ x.length ≤ r.length := by
  refine ⟨h.len fun x r' hg => by rw [getS_canon hg, List.length_append]; omega, ?_⟩
  rcases h with ⟨_, h⟩ | ⟨_, rfl, _, _⟩
  · rw [getS_canon h]; simp only [List.length_append]; omega
  · exact Nat.zero_le _
theorem resB_len {r r' : List UInt8} {x : Bool} {ok : Bool} (h : Res (getB r) false x r' ok) : r'.length ≤ r.length := h.len fun x r' hg => by rw [getB_canon hg]; simp
theorem encS_ge (s : ByteArray) : s.size < (encS s).length := by
  unfold encS; rw [List.length_append, Enc.size_toList]; have := encI_pos (s.size : Int); omega
theorem encL_ge (l : List ByteArray) : l.length ≤ (encL encS l).length ∧ ∀ s ∈ l, s.size ≤ (encL encS l).length := by
  unfold encL
  rw [List.length_append]
  have h1 := flatMap_ge encS encS_pos l
  refine ⟨by omega, fun s hs => ?_⟩
  have : (encS s).length ≤ (l.flatMap encS).length := by
    obtain ⟨a, b, rfl⟩ := List.append_of_mem hs
    simp only [List.flatMap_append, List.flatMap_cons, List.length_append]; omega
  have := encS_ge s; omega
theorem resSs_len {r r' : List UInt8} {x : List (List UInt8)} {ok : Bool} (h : Res (getL getw r) [] x r' ok) : r'.length ≤ r.length ∧ x.length ≤ r.length ∧ ∀ s ∈ x, s.length ≤ r.length := by
  rcases h with ⟨_, h⟩ | ⟨_, rfl, rfl, _⟩
  · have := (getSs_can _ _ _ h).1
    have hg := encL_ge (x.map str)
    rw [this, List.length_append]
    refine ⟨by omega, by have := hg.1; rw [List.length_map] at this; omega, fun s hs => ?_⟩
    have := hg.2 (str s) (List.mem_map_of_mem hs)
    rw [str_size] at this; omega
  · exact ⟨Nat.zero_le _, Nat.zero_le _, fun s hs => by simp at hs⟩

/-! ### The stages of a content -/
def tail1 (C : Con) : List UInt8 := encI C.n ++ (encI C.target ++ ((if C.thread then 1 else 0) :: (encS C.via ++ (encL encS C.allow ++ (encL encS C.deny ++ encLev C.lv)))))
def tail2 (C : Con) : List UInt8 := encI C.target ++ ((if C.thread then 1 else 0) :: (encS C.via ++ (encL encS C.allow ++ (encL encS C.deny ++ encLev C.lv))))
def tail3 (C : Con) : List UInt8 := (if C.thread then 1 else 0) :: (encS C.via ++ (encL encS C.allow ++ (encL encS C.deny ++ encLev C.lv)))
def tail4 (C : Con) : List UInt8 := encS C.via ++ (encL encS C.allow ++ (encL encS C.deny ++ encLev C.lv))
def tail5 (C : Con) : List UInt8 := encL encS C.allow ++ (encL encS C.deny ++ encLev C.lv)
def tail6 (C : Con) : List UInt8 := encL encS C.deny ++ encLev C.lv
def tail7 (C : Con) : List UInt8 := encLev C.lv
/-- after users, kinds -/
def tailK (C : Con) : List UInt8 := encL encK C.lv.kinds ++ (restL C.lv).flatMap encI
theorem restL_enc (v : Lev) : (restL v).flatMap encI = encI v.user ++ (encI v.message ++ (encI v.state ++ (encI v.invite ++ (encI v.kick ++ (encI v.ban ++ encI v.redact))))) := by simp [restL]
theorem tail7_eq (C : Con) : tail7 C = encL encU C.lv.users ++ tailK C := by unfold tail7 encLev tailK; rw [restL_enc]
section
variable {l pre : List UInt8} {ok : Prop} {Q : Con → Prop} {t t' : Con → List UInt8} {r r' : List UInt8} {bad okb : Bool}
theorem Inv.int {x : Int} (h : Inv l pre ok Q t r bad) (f : Con → Int) (t' : Con → List UInt8) (ht : ∀ C, C.told → Q C → t C = encI (f C) ++ t' C) (hf : ∀ C, C.told → Q C → I64 (f C)) (hres : Res (getI r) 0 x r' okb) :
    Inv l (pre ++ encI x) (ok ∧ I64 x) (fun C => Q C ∧ f C = x) t' r' (bad || !okb) :=
  h.step (enc := encI) (p := I64) getI_can (fun C hC hq => by rw [ht C hC hq]; exact getI_enc _ (hf C hC hq) _) hres
theorem Inv.text {x : List UInt8} (h : Inv l pre ok Q t r bad) (f : Con → ByteArray) (t' : Con → List UInt8) (ht : ∀ C, C.told → Q C → t C = encS (f C) ++ t' C) (hf : ∀ C, C.told → Q C → (f C).size < 9223372036854775808) (hres : Res (getS r) [] x r' okb) :
    Inv l (pre ++ encS (str x)) (ok ∧ True) (fun C => Q C ∧ (f C).data.toList = x) t' r' (bad || !okb) :=
  h.step (g := getS) (zero := []) (enc := fun x => encS (str x)) (p := fun _ => True) (f := fun C => (f C).data.toList) getS_can (fun C hC hq => by rw [ht C hC hq]; exact getS_enc _ (hf C hC hq) _) hres
theorem Inv.truth {x : Bool} (h : Inv l pre ok Q t r bad) (f : Con → Bool) (t' : Con → List UInt8) (ht : ∀ C, C.told → Q C → t C = (if f C then 1 else 0) :: t' C) (hres : Res (getB r) false x r' okb) :
    Inv l (pre ++ [if x then 1 else 0]) (ok ∧ True) (fun C => Q C ∧ f C = x) t' r' (bad || !okb) :=
  h.step (g := getB) (zero := false) (enc := fun x => [if x then 1 else 0]) (p := fun _ => True) getB_can (fun C hC hq => by rw [ht C hC hq]; exact getB_enc _ _) hres
theorem Inv.texts {x : List (List UInt8)} (h : Inv l pre ok Q t r bad) (f : Con → List ByteArray) (t' : Con → List UInt8) (ht : ∀ C, C.told → Q C → t C = encL encS (f C) ++ t' C) (hf : ∀ C, C.told → (f C).length < 9223372036854775808 ∧ ∀ s ∈ f C, s.size < 9223372036854775808) (hres : Res (getL getw r) [] x r' okb) :
    Inv l (pre ++ encL encS (x.map str)) (ok ∧ True) (fun C => Q C ∧ (f C).map (fun s => s.data.toList) = x) t' r' (bad || !okb) :=
  h.step (g := getL getw) (zero := []) (enc := fun x => encL encS (x.map str)) (p := fun _ => True) (f := fun C => (f C).map (fun s => s.data.toList)) getSs_can (fun C hC hq => by rw [ht C hC hq]; exact getTexts_enc _ _ (hf C hC).1 (hf C hC).2) hres
end
end

section
open Go.RowKit
section
variable {l pre : List UInt8} {ok : Prop} {Q : Con → Prop} {r r1 r2 : List UInt8} {bad okb ok1 ok2 : Bool} {N j : Nat}
theorem encU_ge (u : ByteArray × Int) : 2 ≤ (encU u).length := by
  unfold encU; rw [List.length_append]; have := encS_pos u.1; have := encI_pos u.2; omega
theorem encK_ge (u : Int × Int) : 2 ≤ (encK u).length := by
  unfold encK; rw [List.length_append]; have := encI_pos u.1; have := encI_pos u.2; omega
theorem flat_ge2 {α : Type} (f : α → List UInt8) (h : ∀ x, 2 ≤ (f x).length) : ∀ l : List α, 2 * l.length ≤ (l.flatMap f).length
  | [] => by simp
  | x :: l => by have := h x; have := flat_ge2 f h l; rw [List.flatMap_cons, List.length_append, List.length_cons]; omega
/-- a number of elements, with any guard that a content's bytes pass -/
theorem Inv.count {α : Type} {f : α → List UInt8} {x : Int} {gd : Bool} {t t2 : Con → List UInt8} (L : Con → List α) (h : Inv l pre ok Q t r bad) (ht : ∀ C, C.told → Q C → t C = encL f (L C) ++ t2 C) (hL : ∀ C, C.told → (L C).length < 1000000000)
    (hres : Res (getI r) 0 x r1 okb) (hgd : ∀ C : Con, x = ((L C).length : Int) → r1 = (L C).flatMap f ++ t2 C → gd = false) (hN : ((bad || !okb) || gd) = false → (N : Int) = x) :
    Inv l (pre ++ encI N) True (fun C => Q C ∧ (L C).length = N) (fun C => (L C).flatMap f ++ t2 C) r1 ((bad || !okb) || gd) := by
  have h1 := h.int (fun C => ((L C).length : Int)) (fun C => (L C).flatMap f ++ t2 C) (fun C hC hq => by rw [ht C hC hq]; unfold encL; rw [List.append_assoc]) (fun C hC _ => I64_nat (by have := hL C hC; omega)) hres
  have h2 := h1.guard gd (fun C hC hq hr => hgd C hq.2.symm hr)
  exact h2.imp (fun hb => by rw [hN hb]) (fun _ _ => trivial) (fun C hC hb hq => ⟨⟨hq.1, by have := hN hb; have := hq.2; omega⟩, rfl⟩)
theorem Inv.zero {α : Type} {f : α → List UInt8} {t2 : Con → List UInt8} {L : Con → List α} (h : Inv l (pre ++ encI N) True (fun C => Q C ∧ (L C).length = N) (fun C => (L C).flatMap f ++ t2 C) r bad) :
    Inv l (pre ++ encI N ++ ([] : List α).flatMap f) True (fun C => (Q C ∧ (L C).length = N) ∧ (L C).take 0 = []) (fun C => ((L C).drop 0).flatMap f ++ t2 C) r bad :=
  h.imp (fun _ => by simp) (fun _ h => h) (fun C _ _ hq => ⟨⟨hq, by simp⟩, by simp⟩)
theorem take_snoc' {α : Type} {l us : List α} {j : Nat} {x : α} (h : l.take j = us) (hj : l[j]? = some x) : l.take (j + 1) = us ++ [x] := by
  obtain ⟨hk, he⟩ := List.getElem?_eq_some_iff.1 hj
  rw [List.take_succ_eq_append_getElem hk, h, he]
theorem Inv.user {t2 : Con → List UInt8} {us : List (ByteArray × Int)} {s : List UInt8} {y : Int} (h : Inv l (pre ++ us.flatMap encU) True (fun C => (Q C ∧ C.lv.users.length = N) ∧ C.lv.users.take j = us) (fun C => (C.lv.users.drop j).flatMap encU ++ t2 C) r bad)
    (hj : j < N) (h1 : Res (getS r) [] s r1 ok1) (h2 : Res (getI r1) 0 y r2 ok2) :
    Inv l (pre ++ (us ++ [(str s, y)]).flatMap encU) True (fun C => (Q C ∧ C.lv.users.length = N) ∧ C.lv.users.take (j + 1) = us ++ [(str s, y)]) (fun C => (C.lv.users.drop (j + 1)).flatMap encU ++ t2 C) r2 ((bad || !ok1) || !ok2) := by
  have hg : ∀ C : Con, C.lv.users.length = N → ∃ h : j < C.lv.users.length, C.lv.users.getD j (⟨#[]⟩, 0) = C.lv.users[j] := fun C hC => ⟨by omega, by rw [List.getD_eq_getElem?_getD, List.getElem?_eq_getElem (by omega)]; rfl⟩
  have a := h.text (fun C => (C.lv.users.getD j (⟨#[]⟩, 0)).1) (fun C => encI (C.lv.users.getD j (⟨#[]⟩, 0)).2 ++ ((C.lv.users.drop (j + 1)).flatMap encU ++ t2 C)) (fun C hC hq => by
      obtain ⟨hk, he⟩ := hg C hq.1.2
      rw [he, List.drop_eq_getElem_cons hk, List.flatMap_cons]; unfold encU; simp) (fun C hC hq => by
      obtain ⟨hk, he⟩ := hg C hq.1.2
      rw [he]; have := (hC.users _ (List.getElem_mem hk)).1; omega) h1
  have b := a.int (fun C => (C.lv.users.getD j (⟨#[]⟩, 0)).2) (fun C => (C.lv.users.drop (j + 1)).flatMap encU ++ t2 C) (fun C hC hq => rfl) (fun C hC hq => by
      obtain ⟨hk, he⟩ := hg C hq.1.1.2
      rw [he]; exact (hC.users _ (List.getElem_mem hk)).2) h2
  refine b.imp (fun _ => by rw [List.flatMap_append]; simp [encU]) (fun _ _ => trivial) (fun C hC hb hq => ⟨⟨hq.1.1.1, ?_⟩, rfl⟩)
  obtain ⟨hk, he⟩ := hg C hq.1.1.1.2
  refine take_snoc' hq.1.1.2 ?_
  rw [List.getElem?_eq_getElem hk]
  congr 1
  rw [← he]
  refine Prod.ext ?_ hq.2
  show (C.lv.users.getD j (⟨#[]⟩, 0)).1 = str s
  rw [← hq.1.2]; rfl
theorem Inv.kind {t2 : Con → List UInt8} {us : List (Int × Int)} {s : Int} {y : Int} (h : Inv l (pre ++ us.flatMap encK) True (fun C => (Q C ∧ C.lv.kinds.length = N) ∧ C.lv.kinds.take j = us) (fun C => (C.lv.kinds.drop j).flatMap encK ++ t2 C) r bad)
    (hj : j < N) (h1 : Res (getI r) 0 s r1 ok1) (h2 : Res (getI r1) 0 y r2 ok2) :
    Inv l (pre ++ (us ++ [(s, y)]).flatMap encK) True (fun C => (Q C ∧ C.lv.kinds.length = N) ∧ C.lv.kinds.take (j + 1) = us ++ [(s, y)]) (fun C => (C.lv.kinds.drop (j + 1)).flatMap encK ++ t2 C) r2 ((bad || !ok1) || !ok2) := by
  have hg : ∀ C : Con, C.lv.kinds.length = N → ∃ h : j < C.lv.kinds.length, C.lv.kinds.getD j (0, 0) = C.lv.kinds[j] := fun C hC => ⟨by omega, by rw [List.getD_eq_getElem?_getD, List.getElem?_eq_getElem (by omega)]; rfl⟩
  have a := h.int (fun C => (C.lv.kinds.getD j (0, 0)).1) (fun C => encI (C.lv.kinds.getD j (0, 0)).2 ++ ((C.lv.kinds.drop (j + 1)).flatMap encK ++ t2 C)) (fun C hC hq => by
      obtain ⟨hk, he⟩ := hg C hq.1.2
      rw [he, List.drop_eq_getElem_cons hk, List.flatMap_cons]; unfold encK; simp) (fun C hC hq => by
      obtain ⟨hk, he⟩ := hg C hq.1.2
      rw [he]; exact (hC.kinds _ (List.getElem_mem hk)).1) h1
  have b := a.int (fun C => (C.lv.kinds.getD j (0, 0)).2) (fun C => (C.lv.kinds.drop (j + 1)).flatMap encK ++ t2 C) (fun C hC hq => rfl) (fun C hC hq => by
      obtain ⟨hk, he⟩ := hg C hq.1.1.2
      rw [he]; exact (hC.kinds _ (List.getElem_mem hk)).2) h2
  refine b.imp (fun _ => by rw [List.flatMap_append]; simp [encK]) (fun _ _ => trivial) (fun C hC hb hq => ⟨⟨hq.1.1.1, ?_⟩, rfl⟩)
  obtain ⟨hk, he⟩ := hg C hq.1.1.1.2
  refine take_snoc' hq.1.1.2 ?_
  rw [List.getElem?_eq_getElem hk]
  congr 1
  rw [← he]
  exact Prod.ext hq.1.2 hq.2
/-- the list is read -/
theorem Inv.listed {α : Type} {f : α → List UInt8} {t2 : Con → List UInt8} {L : Con → List α} {us : List α} (h : Inv l (pre ++ encI N ++ us.flatMap f) True (fun C => (Q C ∧ (L C).length = N) ∧ (L C).take N = us) (fun C => ((L C).drop N).flatMap f ++ t2 C) r bad) (hu : us.length = N) :
    Inv l (pre ++ encL f us) True (fun C => Q C ∧ L C = us) t2 r bad := by
  refine h.imp (fun _ => by unfold encL; rw [hu, List.append_assoc]) (fun _ h => h) (fun C hC hb hq => ?_)
  obtain ⟨⟨h1, h2⟩, h3⟩ := hq
  rw [← h2, List.take_length] at h3
  exact ⟨⟨h1, h3⟩, by rw [← h2, List.drop_length]; rfl⟩
end
/-- a number is always one -/
theorem res_I64 {r r' : List UInt8} {x : Int} {ok : Bool} (h : Res (getI r) 0 x r' ok) : I64 x := by
  rcases h with ⟨_, h⟩ | ⟨_, rfl, _⟩
  · exact (getI_canon h).2
  · exact ⟨by decide, by decide⟩
/-- levels whose numbers are numbers -/
structure Lev.fine (v : Lev) : Prop where
  usersL : v.users.length ≤ 16777216
  kindsL : v.kinds.length ≤ 16777216
  users : ∀ u ∈ v.users, u.1.size ≤ 16777216 ∧ I64 u.2
  kinds : ∀ u ∈ v.kinds, I64 u.1 ∧ I64 u.2
  rest : ∀ n ∈ restL v, I64 n
section
variable {l pre : List UInt8} {Q : Con → Prop} {r r1 r2 r3 r4 r5 r6 r7 : List UInt8} {bad o1 o2 o3 o4 o5 o6 o7 : Bool} {x1 x2 x3 x4 x5 x6 x7 : Int}
theorem Inv.seven (h : Inv l pre True Q (fun C => (restL C.lv).flatMap encI) r bad) (hr : ∀ C : Con, C.told → ∀ n ∈ restL C.lv, I64 n) (h1 : Res (getI r) 0 x1 r1 o1) (h2 : Res (getI r1) 0 x2 r2 o2) (h3 : Res (getI r2) 0 x3 r3 o3) (h4 : Res (getI r3) 0 x4 r4 o4) (h5 : Res (getI r4) 0 x5 r5 o5) (h6 : Res (getI r5) 0 x6 r6 o6) (h7 : Res (getI r6) 0 x7 r7 o7) :
    Inv l (pre ++ [x1, x2, x3, x4, x5, x6, x7].flatMap encI) True (fun C => Q C ∧ restL C.lv = [x1, x2, x3, x4, x5, x6, x7]) (fun _ => []) r7 (((((((bad || !o1) || !o2) || !o3) || !o4) || !o5) || !o6) || !o7) := by
  have a1 := h.int (fun C => C.lv.user) (fun C => [C.lv.message, C.lv.state, C.lv.invite, C.lv.kick, C.lv.ban, C.lv.redact].flatMap encI) (fun C _ _ => by simp [restL]) (fun C hC _ => hr C hC _ (by simp [restL])) h1
  have a2 := a1.int (fun C => C.lv.message) (fun C => [C.lv.state, C.lv.invite, C.lv.kick, C.lv.ban, C.lv.redact].flatMap encI) (fun C _ _ => by simp) (fun C hC _ => hr C hC _ (by simp [restL])) h2
  have a3 := a2.int (fun C => C.lv.state) (fun C => [C.lv.invite, C.lv.kick, C.lv.ban, C.lv.redact].flatMap encI) (fun C _ _ => by simp) (fun C hC _ => hr C hC _ (by simp [restL])) h3
  have a4 := a3.int (fun C => C.lv.invite) (fun C => [C.lv.kick, C.lv.ban, C.lv.redact].flatMap encI) (fun C _ _ => by simp) (fun C hC _ => hr C hC _ (by simp [restL])) h4
  have a5 := a4.int (fun C => C.lv.kick) (fun C => [C.lv.ban, C.lv.redact].flatMap encI) (fun C _ _ => by simp) (fun C hC _ => hr C hC _ (by simp [restL])) h5
  have a6 := a5.int (fun C => C.lv.ban) (fun C => [C.lv.redact].flatMap encI) (fun C _ _ => by simp) (fun C hC _ => hr C hC _ (by simp [restL])) h6
  have a7 := a6.int (fun C => C.lv.redact) (fun C => []) (fun C _ _ => by simp) (fun C hC _ => hr C hC _ (by simp [restL])) h7
  refine a7.imp (fun _ => by simp) (fun _ _ => trivial) (fun C hC hb hq => ⟨?_, rfl⟩)
  obtain ⟨⟨⟨⟨⟨⟨⟨q0, q1⟩, q2⟩, q3⟩, q4⟩, q5⟩, q6⟩, q7⟩ := hq
  exact ⟨q0, by simp [restL, q1, q2, q3, q4, q5, q6, q7]⟩
end
theorem told_rest (C : Con) (h : C.told) : ∀ n ∈ restL C.lv, I64 n := by
  obtain ⟨h1, h2, h3, h4, h5, h6, h7⟩ := h.rest
  intro n hn
  simp only [restL, List.mem_cons, List.not_mem_nil, or_false] at hn
  rcases hn with rfl | rfl | rfl | rfl | rfl | rfl | rfl <;> assumption
end
end Go.Proofs.YtmlnmcoophnlaaaGreat
