/-
  Plain: the bytes of a content, and that different contents have different bytes.
-/
import Derived.Test.YtmlnmcoophnlaaaGreatDec
import Derived.Test.YtmlnmcoophnlaaaGreatEv
set_option linter.unusedVariables false
set_option linter.unusedSimpArgs false
namespace Go.Proofs.YtmlnmcoophnlaaaGreat
open Go.RowKit

def encU (p : ByteArray × Int) : List UInt8 := encS p.1 ++ encI p.2
def encK (p : Int × Int) : List UInt8 := encI p.1 ++ encI p.2
def encLev (l : Lev) : List UInt8 := encL encU l.users ++ (encL encK l.kinds ++ (encI l.user ++ (encI l.message ++ (encI l.state ++ (encI l.invite ++ (encI l.kick ++ (encI l.ban ++ encI l.redact)))))))
def encCon (c : Con) : List UInt8 := encS c.text ++ (encI c.n ++ (encI c.target ++ ((if c.thread then 1 else 0) :: (encS c.via ++ (encL encS c.allow ++ (encL encS c.deny ++ encLev c.lv))))))
theorem encI_cut {n n' : Int} {r r' : List UInt8} (h : I64 n) (h' : I64 n') (e : encI n ++ r = encI n' ++ r') : n = n' ∧ r = r' := by
  have h1 := getI_enc n h r
  rw [e, getI_enc n' h' r'] at h1
  injection h1 with h1
  injection h1 with h1 h2
  exact ⟨h1.symm, h2.symm⟩
theorem encS_cut {s s' : ByteArray} {r r' : List UInt8} (h : s.size < 9223372036854775808) (h' : s'.size < 9223372036854775808) (e : encS s ++ r = encS s' ++ r') : s = s' ∧ r = r' := by
  have h1 := getS_enc s h r
  rw [e, getS_enc s' h' r'] at h1
  injection h1 with h1
  injection h1 with h1 h2
  refine ⟨?_, h2.symm⟩
  cases s; cases s'
  simp only at h1
  congr 1
  exact (Array.toList_inj.1 h1).symm
theorem flat_cut {α : Type} {f : α → List UInt8} {p : α → Prop} (hf : ∀ x y r r', p x → p y → f x ++ r = f y ++ r' → x = y ∧ r = r') : ∀ {l l' : List α} {r r' : List UInt8}, (∀ x ∈ l, p x) → (∀ x ∈ l', p x) → l.length = l'.length → l.flatMap f ++ r = l'.flatMap f ++ r' → l = l' ∧ r = r'
  | [], [], _, _, _, _, _, e => ⟨rfl, by simpa using e⟩
  | x :: l, y :: l', r, r', h, h', hl, e => by
    rw [List.flatMap_cons, List.flatMap_cons, List.append_assoc, List.append_assoc] at e
    obtain ⟨hxy, e2⟩ := hf x y _ _ (h x (by simp)) (h' y (by simp)) e
    obtain ⟨hll, e3⟩ := flat_cut hf (fun z hz => h z (List.mem_cons_of_mem _ hz)) (fun z hz => h' z (List.mem_cons_of_mem _ hz)) (by simpa using hl) e2
    exact ⟨by rw [hxy, hll], e3⟩
  | [], _ :: _, _, _, _, _, hl, _ => by simp at hl
  | _ :: _, [], _, _, _, _, hl, _ => by simp at hl
theorem encL_cut {α : Type} {f : α → List UInt8} {p : α → Prop} (hf : ∀ x y r r', p x → p y → f x ++ r = f y ++ r' → x = y ∧ r = r') {l l' : List α} {r r' : List UInt8} (h : ∀ x ∈ l, p x) (h' : ∀ x ∈ l', p x) (hl : l.length < 1000000000) (hl' : l'.length < 1000000000) (e : encL f l ++ r = encL f l' ++ r') : l = l' ∧ r = r' := by
  unfold encL at e
  rw [List.append_assoc, List.append_assoc] at e
  obtain ⟨h1, h2⟩ := encI_cut (by unfold I64; omega) (by unfold I64; omega) e
  exact flat_cut hf h h' (by omega) h2
/-- what a content must be for its bytes to tell it -/
structure Con.told (c : Con) : Prop where
  text : c.text.size < 1000000000
  via : c.via.size < 1000000000
  n : I64 c.n
  target : I64 c.target
  allowL : c.allow.length < 1000000000
  denyL : c.deny.length < 1000000000
  usersL : c.lv.users.length < 1000000000
  kindsL : c.lv.kinds.length < 1000000000
  allow : ∀ s ∈ c.allow, s.size < 1000000000
  deny : ∀ s ∈ c.deny, s.size < 1000000000
  users : ∀ u ∈ c.lv.users, u.1.size < 1000000000 ∧ I64 u.2
  kinds : ∀ u ∈ c.lv.kinds, I64 u.1 ∧ I64 u.2
  rest : I64 c.lv.user ∧ I64 c.lv.message ∧ I64 c.lv.state ∧ I64 c.lv.invite ∧ I64 c.lv.kick ∧ I64 c.lv.ban ∧ I64 c.lv.redact
theorem encU_cut {x y : ByteArray × Int} {r r' : List UInt8} (h : x.1.size < 1000000000 ∧ I64 x.2) (h' : y.1.size < 1000000000 ∧ I64 y.2) (e : encU x ++ r = encU y ++ r') : x = y ∧ r = r' := by
  unfold encU at e
  rw [List.append_assoc, List.append_assoc] at e
  obtain ⟨h1, e⟩ := encS_cut (by omega) (by omega) e
  obtain ⟨h2, e⟩ := encI_cut h.2 h'.2 e
  exact ⟨Prod.ext h1 h2, e⟩
theorem encK_cut {x y : Int × Int} {r r' : List UInt8} (h : I64 x.1 ∧ I64 x.2) (h' : I64 y.1 ∧ I64 y.2) (e : encK x ++ r = encK y ++ r') : x = y ∧ r = r' := by
  unfold encK at e
  rw [List.append_assoc, List.append_assoc] at e
  obtain ⟨h1, e⟩ := encI_cut h.1 h'.1 e
  obtain ⟨h2, e⟩ := encI_cut h.2 h'.2 e
  exact ⟨Prod.ext h1 h2, e⟩
theorem encCon_inj {a b : Con} (ha : a.told) (hb : b.told) (e : encCon a = encCon b) : a = b := by
  unfold encCon at e
  obtain ⟨h1, e⟩ := encS_cut (by have := ha.text; omega) (by have := hb.text; omega) e
  obtain ⟨h2, e⟩ := encI_cut ha.n hb.n e
  obtain ⟨h3, e⟩ := encI_cut ha.target hb.target e
  injection e with h4 e
  obtain ⟨h5, e⟩ := encS_cut (by have := ha.via; omega) (by have := hb.via; omega) e
  obtain ⟨h6, e⟩ := encL_cut (p := fun s : ByteArray => s.size < 1000000000) (fun x y r r' hx hy => encS_cut (by omega) (by omega)) ha.allow hb.allow ha.allowL hb.allowL e
  obtain ⟨h7, e⟩ := encL_cut (p := fun s : ByteArray => s.size < 1000000000) (fun x y r r' hx hy => encS_cut (by omega) (by omega)) ha.deny hb.deny ha.denyL hb.denyL e
  unfold encLev at e
  obtain ⟨h8, e⟩ := encL_cut (p := fun u : ByteArray × Int => u.1.size < 1000000000 ∧ I64 u.2) (fun x y r r' hx hy => encU_cut hx hy) ha.users hb.users ha.usersL hb.usersL e
  obtain ⟨h9, e⟩ := encL_cut (p := fun u : Int × Int => I64 u.1 ∧ I64 u.2) (fun x y r r' hx hy => encK_cut hx hy) ha.kinds hb.kinds ha.kindsL hb.kindsL e
  obtain ⟨a1, a2, a3, a4, a5, a6, a7⟩ := ha.rest
  obtain ⟨b1, b2, b3, b4, b5, b6, b7⟩ := hb.rest
  obtain ⟨g1, e⟩ := encI_cut a1 b1 e
  obtain ⟨g2, e⟩ := encI_cut a2 b2 e
  obtain ⟨g3, e⟩ := encI_cut a3 b3 e
  obtain ⟨g4, e⟩ := encI_cut a4 b4 e
  obtain ⟨g5, e⟩ := encI_cut a5 b5 e
  obtain ⟨g6, e⟩ := encI_cut a6 b6 e
  obtain ⟨g7, _⟩ := encI_cut (r := []) (r' := []) a7 b7 (by simpa using e)
  have h4' : a.thread = b.thread := by
    cases h : a.thread <;> cases h' : b.thread <;> rw [h, h'] at h4 <;> first | rfl | (exact absurd h4 (by decide))
  obtain ⟨t, n, tg, th, vi, al, de, ⟨us, ks, u1, u2, u3, u4, u5, u6, u7⟩⟩ := a
  obtain ⟨t', n', tg', th', vi', al', de', ⟨us', ks', v1, v2, v3, v4, v5, v6, v7⟩⟩ := b
  simp only at *
  subst h1 h2 h3 h4' h5 h6 h7 h8 h9 g1 g2 g3 g4 g5 g6 g7
  rfl
end Go.Proofs.YtmlnmcoophnlaaaGreat
