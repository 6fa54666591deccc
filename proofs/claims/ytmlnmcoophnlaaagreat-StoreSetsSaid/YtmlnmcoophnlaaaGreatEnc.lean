/-
  Plain laws: the canonical encoding of integers, strings, lists and booleans as lists of bytes, and its inverse. No program, no condition.
  Plain laws on the bits that the encoding of integers uses. No program, no condition.
-/
import Derived.WalkKit
import Derived.Laws.BitsAllLaws
import Derived.Laws.BitsLemmas
set_option linter.unusedVariables false
set_option linter.unusedSimpArgs false
namespace Go.Proofs.YtmlnmcoophnlaaaGreat
namespace Enc

def encF : Nat → Nat → List UInt8
  | 0, _ => []
  | k + 1, u => if u < 128 then [UInt8.ofNat u] else UInt8.ofNat (u % 128 + 128) :: encF k (u / 128)
def enc (u : Nat) : List UInt8 := encF (u + 1) u
theorem encF_eq : ∀ (k u : Nat), u < k → encF k u = encF (u + 1) u
  | 0, u, h => absurd h (by omega)
  | k + 1, u, h => by
    unfold encF
    by_cases hu : u < 128
    · rw [if_pos hu, if_pos hu]
    · rw [if_neg hu, if_neg hu, encF_eq k (u / 128) (by omega)]
      by_cases hk : u = k
      · subst hk
        rw [encF_eq u (u / 128) (by omega)]
      · rw [encF_eq u (u / 128) (by omega)]
  termination_by k _ _ => k
  decreasing_by all_goals omega
theorem enc_small (u : Nat) (h : u < 128) : enc u = [UInt8.ofNat u] := by unfold enc encF; rw [if_pos h]
theorem enc_big (u : Nat) (h : ¬ u < 128) : enc u = UInt8.ofNat (u % 128 + 128) :: enc (u / 128) := by
  unfold enc
  conv => lhs; unfold encF
  rw [if_neg h, encF_eq u (u / 128) (by omega)]
theorem enc_len_pow : ∀ (k u : Nat), u < 128 ^ (k + 1) → (enc u).length ≤ k + 1
  | 0, u, h => by rw [enc_small u (by simpa using h)]; simp
  | k + 1, u, h => by
    by_cases hu : u < 128
    · rw [enc_small u hu]; simp
    · rw [enc_big u hu, List.length_cons]
      have := enc_len_pow k (u / 128) (by rw [Nat.pow_succ] at h; exact Nat.div_lt_of_lt_mul (by omega))
      omega
theorem enc_len (u : Nat) (h : u < 18446744073709551616) : (enc u).length ≤ 10 := enc_len_pow 9 u (Nat.lt_of_lt_of_le h (by decide))
theorem enc_pos (u : Nat) : 0 < (enc u).length := by
  by_cases hu : u < 128
  · rw [enc_small u hu]; simp
  · rw [enc_big u hu]; simp
theorem flatMap_snoc {α β : Type} (f : α → List β) (l : List α) (k : Nat) (h : k < l.length) : (l.take (k + 1)).flatMap f = (l.take k).flatMap f ++ f l[k] := by
  rw [List.take_succ_eq_append_getElem h, List.flatMap_append]; simp
theorem flatMap_len {α β : Type} (f : α → List β) (l : List α) (k : Nat) : ((l.take k).flatMap f).length ≤ (l.flatMap f).length := by
  conv => rhs; rw [← List.take_append_drop k l, List.flatMap_append, List.length_append]
  omega
theorem flatMap_get {α β : Type} (f : α → List β) (l : List α) (k : Nat) (h : k < l.length) : ((l.take k).flatMap f).length + (f l[k]).length ≤ (l.flatMap f).length := by
  have := flatMap_len f l (k + 1)
  rw [flatMap_snoc f l k h, List.length_append] at this
  exact this
theorem size_toList (s : ByteArray) : s.data.toList.length = s.size := by rw [Array.length_toList]; rfl
end Enc

section
def bv (c : UInt8) : Value := .int .u8 (c.toNat : Int)
def bvs (l : List UInt8) : List Value := l.map bv
theorem bvs_length (l : List UInt8) : (bvs l).length = l.length := by simp [bvs]
theorem bvs_append (l m : List UInt8) : bvs l ++ bvs m = bvs (l ++ m) := by simp [bvs]
theorem bvs_get (l : List UInt8) (k : Nat) (h : k < l.length) : (bvs l)[k]? = some (bv l[k]) := by simp [bvs, h]
theorem bvs_one (l : List UInt8) : ∀ u ∈ bvs l, u.oneCell' = true := by
  intro u hu; obtain ⟨c, _, rfl⟩ := List.mem_map.1 hu; rfl

/-- an integer as the unsigned number that is encoded -/
def zig (n : Int) : Nat := if n < 0 then (-2 * n - 1).toNat else (2 * n).toNat
def unzig (u : Nat) : Int := if u % 2 = 1 then -((u / 2 : Nat) : Int) - 1 else ((u / 2 : Nat) : Int)
theorem unzig_zig (n : Int) : unzig (zig n) = n := by
  unfold unzig zig
  by_cases h : n < 0
  · rw [if_pos h, if_pos (by omega)]; omega
  · rw [if_neg h, if_neg (by omega)]; omega
theorem zig_unzig (u : Nat) : zig (unzig u) = u := by
  unfold unzig zig
  by_cases h : u % 2 = 1
  · rw [if_pos h, if_pos (by omega)]; omega
  · rw [if_neg h, if_neg (by omega)]; omega
theorem zig_pos {n : Int} (h : 0 ≤ n) : n * 2 = (zig n : Int) := by unfold zig; rw [if_neg (by omega)]; omega
theorem wrap_u64 (n : Int) : IntKind.u64.wrap n = n % 18446744073709551616 := by simp [IntKind.wrap, IntKind.bits, IntKind.signed]
theorem xor_ones (x : Nat) (h : x < 2 ^ 64) : (2 ^ 64 - 1) ^^^ x = 2 ^ 64 - 1 - x := by
  have h1 : (BitVec.allOnes 64 ^^^ BitVec.ofNat 64 x).toNat = (~~~ (BitVec.ofNat 64 x)).toNat := by rw [BitVec.allOnes_xor]
  rw [BitVec.toNat_xor, BitVec.toNat_not, BitVec.toNat_allOnes, BitVec.toNat_ofNat, Nat.mod_eq_of_lt h] at h1
  exact h1
theorem zig_neg {n : Int} (h : n < 0) (hn : -9223372036854775808 ≤ n) : bits BinOp.xor IntKind.u64 IntKind.u64.max (IntKind.u64.wrap (IntKind.u64.wrap n * 2)) = (zig n : Int) := by
  have e1 : IntKind.u64.max = ((2 ^ 64 - 1 : Nat) : Int) := by decide
  have e2 : IntKind.u64.wrap (IntKind.u64.wrap n * 2) = ((18446744073709551616 + 2 * n).toNat : Int) := by rw [wrap_u64, wrap_u64]; omega
  rw [e1, e2, u64_xor_nat _ _ (by decide) (by omega), xor_ones _ (by omega)]
  unfold zig
  rw [if_pos h]
  omega
theorem zig_lt {n : Int} (h1 : -9223372036854775808 ≤ n) (h2 : n < 9223372036854775808) : zig n < 18446744073709551616 := by
  unfold zig; split <;> omega

theorem byte_of (u : Nat) (h : u < 256) : (UInt8.ofNat u).toNat = u := by simp; omega
theorem bv_of {u : Nat} {i : Int} (h : u < 256) (hi : i = (u : Int)) : Value.int .u8 i = bv (UInt8.ofNat u) := by unfold bv; rw [byte_of u h, hi]
theorem bvs_snoc {l : List UInt8} {x : Nat} (hx : x < 256) : bvs l ++ #[Value.int .u8 (x : Int)].toList = bvs (l ++ [UInt8.ofNat x]) := by
  simp only [bvs, List.map_append, List.map_cons, List.map_nil, bv, byte_of x hx]
/-- the encodings -/
def encI (n : Int) : List UInt8 := Enc.enc (zig n)
def encS (s : ByteArray) : List UInt8 := encI s.size ++ s.data.toList
def encL {α : Type} (f : α → List UInt8) (l : List α) : List UInt8 := encI l.length ++ l.flatMap f
def ivs (l : List Int) : List Value := l.map (Value.int .i64)
def svs (l : List ByteArray) : List Value := l.map Value.string
def I64 (n : Int) : Prop := -9223372036854775808 ≤ n ∧ n < 9223372036854775808
theorem ivs_length (l : List Int) : (ivs l).length = l.length := by simp [ivs]
theorem svs_length (l : List ByteArray) : (svs l).length = l.length := by simp [svs]
theorem ivs_get (l : List Int) (k : Nat) (h : k < l.length) : (ivs l)[k]? = some (.int .i64 l[k]) := by simp [ivs, h]
theorem svs_get (l : List ByteArray) (k : Nat) (h : k < l.length) : (svs l)[k]? = some (.string l[k]) := by simp [svs, h]
theorem ivs_one (l : List Int) : ∀ u ∈ ivs l, u.oneCell' = true := by
  intro u hu; obtain ⟨c, _, rfl⟩ := List.mem_map.1 hu; rfl
theorem svs_one (l : List ByteArray) : ∀ u ∈ svs l, u.oneCell' = true := by
  intro u hu; obtain ⟨c, _, rfl⟩ := List.mem_map.1 hu; rfl
theorem or_128 (x : Nat) (h : x < 256) : x ||| 128 = x % 128 + 128 := by
  have h1 : ∀ y : Fin 256, y.val ||| 128 = y.val % 128 + 128 := by decide +kernel
  exact h1 ⟨x, h⟩
theorem bits_or_128 (u : Nat) : bits BinOp.or IntKind.u8 ((u : Int) % 256) 128 = ((u % 128 + 128 : Nat) : Int) := by
  have e : ((u : Int) % 256) = ((u % 256 : Nat) : Int) := by omega
  rw [e, show (128 : Int) = ((128 : Nat) : Int) from rfl, u8_or_nat _ _ (by omega) (by decide), or_128 _ (by omega)]
  omega
end
end Go.Proofs.YtmlnmcoophnlaaaGreat
