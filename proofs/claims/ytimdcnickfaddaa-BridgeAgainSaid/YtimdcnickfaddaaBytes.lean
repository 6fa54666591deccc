/-
  Strings and rows of bytes. No function of the program; no condition.
-/
import Derived.Test.YtimdcnickfaddaaBits
import Derived.Test.YtimdcnickfaddaaMem
import Derived.Laws.IdiomStrings
set_option linter.unusedVariables false
set_option linter.unusedSimpArgs false
namespace Go.Proofs.Ytimdcnickfaddaa
open Go.RowKit

def str (l : List UInt8) : ByteArray := ⟨l.toArray⟩
theorem str_size (l : List UInt8) : (str l).size = l.length := by simp [str, ByteArray.size]
theorem str_data (l : List UInt8) : (str l).data.toList = l := by simp [str]
theorem str_toList (s : ByteArray) : str s.data.toList = s := rfl
theorem str_inj {a b : List UInt8} (h : str a = str b) : a = b := by rw [← str_data a, ← str_data b, h]

/-- 'string(b)' -/
theorem run_string {P : Program} (w : World) (src dst e : TypeId) (hs : P.underlying src = some (.slice e)) (he : P.underlying e = some (.int .u8)) (hd : P.underlying dst = some .string) {B m c : Nat} {A : Option Addr} {l : List UInt8}
    (hr : Row w B A (bvs l)) (hm : l.length = m) (hA : A = none → m = 0) : (convert src dst (.slice A m c)).run P w = .ok (.string (str l)) w := by
  subst hm
  rcases A with _ | ad
  · have hl : l = [] := List.eq_nil_of_length_eq_zero (hA rfl)
    subst hl
    rw [run_convert_bytes_string w src dst e none _ c hs he hd]
    simp [Conv.bytesToString]; rfl
  · refine run_convert_bytes_back w src dst e ad c l hs he hd fun j hj => ?_
    obtain ⟨ad', h1, _, h2⟩ := hr.at (bvs_get l j hj)
    injection h1 with h1; subst h1; exact h2
theorem row_none {w : World} {B : Nat} {A : Option Addr} {l : List UInt8} (hr : Row w B A (bvs l)) (h : A = none) : l.length = 0 := by
  cases l with
  | nil => rfl
  | cons c r => obtain ⟨ad, h1, _⟩ := hr (by simp [bvs]); rw [h] at h1; cases h1

/-- '[]byte(s)' -/
theorem wpList_to_bytes {P : Program} {w : World} {ops : Array Oper} {rest : List Oper} {o : Oper} {a : Act} {Q : Exit → Act → World → Prop} (hgd : Region.wanted o (yielded ops a.tmps) = true) (x : Operand) (src dst e : TypeId) (ho : o.op = Op.convert src dst x)
    (hs : P.underlying src = some .string) (hd : P.underlying dst = some (.slice e)) (he : P.underlying e = some (.int .u8)) (s : ByteArray) (hx : a.eval x = .string s)
    (h : ∀ A c w', Row w' w'.heap.size A (bvs s.data.toList) → s.size ≤ c → Below w.heap.size w w' → wpList P ops Q rest (a.put o.dst (.slice A s.size c)) w') : wpList P ops Q (o :: rest) a w := by
  refine wpList_wanted hgd fun K hK => ?_
  have hrun := run_bytes_of_string (P := P) w src dst e s hs hd he
  unfold Oper.wp
  simp only [execOp, ho, Sem.run_bind, Sem.run_pure, Result.andThen_ok, hx, hrun]
  refine hK _ _ (h _ _ _ ?_ (grownCap_ge w s.size 0 e) (Below.alloc (Below.refl _ _).drew (Nat.le_refl _) _))
  have h1 := (Row.new (B := (w.drew.alloc (.cells (bytesRow s (grownCap w s.size 0 e)) e ((bytesRow s (grownCap w s.size 0 e)).size, (bytesRow s (grownCap w s.size 0 e)).size + 1))).heap.size) w.drew (bytesRow s (grownCap w s.size 0 e)) e ((bytesRow s (grownCap w s.size 0 e)).size, (bytesRow s (grownCap w s.size 0 e)).size + 1) (by simp)).take s.size
  have h2 : (bytesRow s (grownCap w s.size 0 e)).toList.take s.size = bvs s.data.toList := by
    rw [bytesRow, Array.toList_append, Array.toList_map]
    exact List.take_left' (by rw [List.length_map, Array.length_toList]; rfl)
  rw [h2] at h1
  exact h1
end Go.Proofs.Ytimdcnickfaddaa
