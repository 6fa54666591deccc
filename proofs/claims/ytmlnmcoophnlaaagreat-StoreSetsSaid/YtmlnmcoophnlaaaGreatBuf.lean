/-
  A buffer of bytes that grows: the Put functions at it. The bytes of a content, in pieces.
-/
import Derived.Test.YtmlnmcoophnlaaaGreatConEncP
import Derived.Test.YtmlnmcoophnlaaaGreatNum
import Derived.Test.YtmlnmcoophnlaaaGreatRefPut
import Derived.Test.YtmlnmcoophnlaaaGreatCkE
import Derived.Test.YtmlnmcoophnlaaaGreatCSame
set_option linter.unusedVariables false
set_option linter.unusedSimpArgs false
namespace Go.Proofs.YtmlnmcoophnlaaaGreat
open Go.RowKit
def Bf (w : World) (v : Value) (l : List UInt8) : Prop := ∃ A c, v = .slice A l.length c ∧ l.length ≤ c ∧ Row w w.heap.size A (bvs l)
/-- the buffer comes back, grown -/
def GivesB (l : List UInt8) (w : World) (e : Ending) (w' : World) : Prop := ∃ v, e = .returned v ∧ Bf w' v l ∧ Below w.heap.size w w'
theorem Bf.nil (w : World) : Bf w (.slice none 0 0) [] := ⟨none, 0, rfl, Nat.le_refl _, Row.nil⟩
theorem Bf.ext {w w' : World} {v : Value} {l : List UInt8} (h : Bf w v l) (k : Below w.heap.size w w') : Bf w' v l := by
  obtain ⟨A, c, rfl, hc, hr⟩ := h
  exact ⟨A, c, rfl, hc, hr.ext k⟩
theorem OwnB.gives {l l' : List UInt8} {w : World} {e : Ending} {w' : World} (h : OwnB w.heap.size l w e w') (hl : l = l') : GivesB l' w e w' := by
  subst hl
  obtain ⟨v, rfl, hown, hb⟩ := h
  obtain ⟨A, c, rfl, hc, _⟩ := own_form hown
  exact ⟨_, rfl, ⟨A, c, rfl, hc, Row.own hown⟩, hb⟩
theorem putI_b {v : Value} {l L : List UInt8} {w : World} (n : Int) (h : Bf w v l) (hn : I64 n) (hl : l.length ≤ 1073741824) (hL : l ++ encI n = L) : Calls Tryz.prog 96 #[v, .int .i64 n] w (GivesB L w) := by
  obtain ⟨A, c, rfl, _, hr⟩ := h
  exact (PutInt_any A c l _ w hr hn.1 hn.2 hl).mono fun e w' hg => hg.gives hL
theorem putS_b {v : Value} {l L : List UInt8} {w : World} (s : ByteArray) (h : Bf w v l) (hs : s.size ≤ 1073741824) (hl : l.length ≤ 1073741824) (hL : l ++ encS s = L) : Calls Tryz.prog 95 #[v, .string s] w (GivesB L w) := by
  obtain ⟨A, c, rfl, _, hr⟩ := h
  exact (PutText_any A c l _ w hr hl hs).mono fun e w' hg => hg.gives hL
theorem putT_b {v : Value} {l L : List UInt8} {w : World} (b : Bool) (h : Bf w v l)  (hl : l.length ≤ 1073741824) (hL : l ++ [if b then 1 else 0] = L) : Calls Tryz.prog 97 #[v, .bool b] w (GivesB L w) := by
  obtain ⟨A, c, rfl, _, hr⟩ := h
  exact (PutBool_any A c l _ w hr hl).mono fun e w' hg => hg.gives hL
theorem RputI_b {v : Value} {l L : List UInt8} {w : World} (n : Int) (h : Bf w v l) (hn : I64 n) (hl : l.length ≤ 1073741824) (hL : l ++ encI n = L) : Calls Tryz.prog 143 #[v, .int .i64 n] w (GivesB L w) := by
  obtain ⟨A, c, rfl, _, hr⟩ := h
  exact (RPutInt_any A c l _ w hr hn.1 hn.2 hl).mono fun e w' hg => hg.gives hL
theorem RputS_b {v : Value} {l L : List UInt8} {w : World} (s : ByteArray) (h : Bf w v l) (hs : s.size ≤ 1073741824) (hl : l.length ≤ 1073741824) (hL : l ++ encS s = L) : Calls Tryz.prog 144 #[v, .string s] w (GivesB L w) := by
  obtain ⟨A, c, rfl, _, hr⟩ := h
  exact (RPutText_any A c l _ w hr hl hs).mono fun e w' hg => hg.gives hL
theorem RputT_b {v : Value} {l L : List UInt8} {w : World} (b : Bool) (h : Bf w v l)  (hl : l.length ≤ 1073741824) (hL : l ++ [if b then 1 else 0] = L) : Calls Tryz.prog 145 #[v, .bool b] w (GivesB L w) := by
  obtain ⟨A, c, rfl, _, hr⟩ := h
  exact (RPutBool_any A c l _ w hr hl).mono fun e w' hg => hg.gives hL
theorem putL_b {v : Value} {l L : List UInt8} {A2 : Option Addr} {c2 : Nat} {ns : List ByteArray} {w : World} (h : Bf w v l) (hr2 : Row w w.heap.size A2 (svs ns)) (hn : ns.length ≤ 16777216) (hl : L.length ≤ 1073741824) (hL : l ++ encL encS ns = L) : Calls Tryz.prog 98 #[v, .slice A2 ns.length c2] w (GivesB L w) := by
  obtain ⟨A, c, rfl, _, hr⟩ := h
  exact (PutTexts_any A c l A2 c2 ns w hr hr2 (by rw [← hL, List.length_append] at hl; exact hl) (by omega)).mono fun e w' hg => hg.gives hL
theorem RputL_b {v : Value} {l L : List UInt8} {A2 : Option Addr} {c2 : Nat} {ns : List ByteArray} {w : World} (h : Bf w v l) (hr2 : Row w w.heap.size A2 (svs ns)) (hn : ns.length ≤ 16777216) (hl : L.length ≤ 1073741824) (hL : l ++ encL encS ns = L) : Calls Tryz.prog 149 #[v, .slice A2 ns.length c2] w (GivesB L w) := by
  obtain ⟨A, c, rfl, _, hr⟩ := h
  exact (RPutTexts_any A c l A2 c2 ns w hr hr2 (by rw [← hL, List.length_append] at hl; exact hl) (by omega)).mono fun e w' hg => hg.gives hL

/-! ### The pieces -/
def pieceL (c : Con) : Nat → List UInt8
  | 0 => []
  | 1 => encS c.text
  | 2 => encS c.text ++ encI c.n
  | 3 => encS c.text ++ encI c.n ++ encI c.target
  | 4 => encS c.text ++ encI c.n ++ encI c.target ++ [if c.thread then 1 else 0]
  | 5 => encS c.text ++ encI c.n ++ encI c.target ++ [if c.thread then 1 else 0] ++ encS c.via
  | 6 => encS c.text ++ encI c.n ++ encI c.target ++ [if c.thread then 1 else 0] ++ encS c.via ++ encL encS c.allow
  | 7 => encS c.text ++ encI c.n ++ encI c.target ++ [if c.thread then 1 else 0] ++ encS c.via ++ encL encS c.allow ++ encL encS c.deny
  | _ => encS c.text ++ encI c.n ++ encI c.target ++ [if c.thread then 1 else 0] ++ encS c.via ++ encL encS c.allow ++ encL encS c.deny ++ encI c.lv.users.length
def usersP (c : Con) (k : Nat) : List UInt8 := pieceL c 8 ++ (c.lv.users.take k).flatMap encU
def kindsP (c : Con) (k : Nat) : List UInt8 := usersP c c.lv.users.length ++ encI c.lv.kinds.length ++ (c.lv.kinds.take k).flatMap encK
def restP (c : Con) (k : Nat) : List UInt8 := kindsP c c.lv.kinds.length ++ ((restL c.lv).take k).flatMap encI
theorem usersP_zero (c : Con) : usersP c 0 = pieceL c 8 := by simp [usersP]
theorem usersP_half (c : Con) {k : Nat} (h : k < c.lv.users.length) : usersP c (k + 1) = usersP c k ++ encS c.lv.users[k].1 ++ encI c.lv.users[k].2 := by
  unfold usersP; rw [Enc.flatMap_snoc encU _ k h]; simp [encU]
theorem kindsP_zero (c : Con) : kindsP c 0 = usersP c c.lv.users.length ++ encI c.lv.kinds.length := by simp [kindsP]
theorem kindsP_half (c : Con) {k : Nat} (h : k < c.lv.kinds.length) : kindsP c (k + 1) = kindsP c k ++ encI c.lv.kinds[k].1 ++ encI c.lv.kinds[k].2 := by
  unfold kindsP; rw [Enc.flatMap_snoc encK _ k h]; simp [encK]
theorem restP_zero (c : Con) : restP c 0 = kindsP c c.lv.kinds.length := by simp [restP]
theorem restP_step (c : Con) {k : Nat} {n : Int} (h : (restL c.lv)[k]? = some n) : restP c (k + 1) = restP c k ++ encI n := by
  obtain ⟨hk, he⟩ := List.getElem?_eq_some_iff.1 h
  unfold restP; rw [Enc.flatMap_snoc encI _ k hk, he]; simp
theorem restP_all (c : Con) : restP c 7 = encCon c := by
  unfold restP kindsP usersP
  rw [List.take_length, List.take_length]
  simp [pieceL, encCon, encLev, encL, restL]
theorem usersP_le (c : Con) (k : Nat) (hk : k ≤ c.lv.users.length) : (usersP c k).length ≤ (encCon c).length := by
  have h1 : (usersP c k).length ≤ (usersP c c.lv.users.length).length := by
    unfold usersP; rw [List.take_length, List.length_append, List.length_append]; have := Enc.flatMap_len encU c.lv.users k; omega
  have h2 : (usersP c c.lv.users.length).length ≤ (encCon c).length := by
    rw [← restP_all]; unfold restP kindsP; simp only [List.length_append]; omega
  omega
theorem kindsP_le (c : Con) (k : Nat) (hk : k ≤ c.lv.kinds.length) : (kindsP c k).length ≤ (encCon c).length := by
  have h1 : (kindsP c k).length ≤ (kindsP c c.lv.kinds.length).length := by
    unfold kindsP; rw [List.take_length]; simp only [List.length_append]; have := Enc.flatMap_len encK c.lv.kinds k; omega
  have h2 : (kindsP c c.lv.kinds.length).length ≤ (encCon c).length := by
    rw [← restP_all]; unfold restP; simp only [List.length_append]; omega
  omega
theorem restP_le (c : Con) (k : Nat) (hk : k ≤ 7) : (restP c k).length ≤ (encCon c).length := by
  rw [← restP_all]
  unfold restP
  rw [List.length_append, List.length_append]
  have := Enc.flatMap_len encI (restL c.lv) k
  rw [show (restL c.lv).take 7 = restL c.lv from rfl]
  omega
theorem piece_le (c : Con) (k : Nat) : (pieceL c k).length ≤ (encCon c).length := by
  have h8 : (pieceL c 8).length ≤ (encCon c).length := by have := usersP_le c 0 (Nat.zero_le _); rwa [usersP_zero] at this
  refine Nat.le_trans ?_ h8
  match k with
  | 0 | 1 | 2 | 3 | 4 | 5 | 6 | 7 => simp only [pieceL, List.length_append, List.length_nil]; omega
  | k + 8 => exact Nat.le_refl _
theorem users_half_le (c : Con) {k : Nat} (h : k < c.lv.users.length) : (usersP c k ++ encS c.lv.users[k].1).length ≤ (encCon c).length := by
  have := usersP_le c (k + 1) (by omega)
  rw [usersP_half c h, List.length_append] at this
  omega
theorem kinds_half_le (c : Con) {k : Nat} (h : k < c.lv.kinds.length) : (kindsP c k ++ encI c.lv.kinds[k].1).length ≤ (encCon c).length := by
  have := kindsP_le c (k + 1) (by omega)
  rw [kindsP_half c h, List.length_append] at this
  omega
/-- a content that can be written -/
structure Con.puts (c : Con) : Prop where
  all : (encCon c).length ≤ 1073741824
  text : c.text.size ≤ 1073741824
  n : I64 c.n
  target : I64 c.target
  via : c.via.size ≤ 1073741824
  allowL : c.allow.length ≤ 16777216
  denyL : c.deny.length ≤ 16777216
  usersL : c.lv.users.length ≤ 16777216
  kindsL : c.lv.kinds.length ≤ 16777216
  users : ∀ u ∈ c.lv.users, u.1.size ≤ 1073741824 ∧ I64 u.2
  kinds : ∀ u ∈ c.lv.kinds, I64 u.1 ∧ I64 u.2
  rest : ∀ n ∈ restL c.lv, I64 n
end Go.Proofs.YtmlnmcoophnlaaaGreat
