/-
  Drawn regions: the condition on the world may be made stronger on the way; bytes become a string. No function of the program; no condition.
-/
import Derived.Test.YtnfbmhkjmkdmjaaGreatPhases
set_option linter.unusedVariables false
set_option linter.unusedSimpArgs false
namespace Go.Proofs.YtnfbmhkjmkdmjaaGreat
open Go.RowKit
section
variable {P : Program} {ops : Array Oper} {Q : Exit → Act → World → Prop} {md : Region.Mode} {T T' : World → Prop} {bad : List Nat}
theorem wpAnyP_weak (ht : ∀ w, T' w → T w) : ∀ (fuel : Nat) (listed : Array Bool) (a : Act) (w : World), wpAnyP P md ops Q T' bad fuel listed a w → wpAnyP P md ops Q T bad fuel listed a w
  | 0, _, _, _, h => h
  | fuel + 1, _, _, _, h => ⟨h.1, fun i hi => wpOp_mono (fun a' w' h' => ⟨fun hs => ht _ (h'.1 hs), wpAnyP_weak ht fuel _ a' w' h'.2⟩) (h.2 i hi)⟩
/-- from here on the world of now stands -/
theorem wpAnyP_now {W : World} {fuel : Nat} {listed : Array Bool} {a : Act} {w : World} (hb : Below W.heap.size W w) (h : wpAnyP P md ops Q (fun w' => Below w.heap.size w w') bad fuel listed a w) : wpAnyP P md ops Q (fun w' => Below W.heap.size W w') bad fuel listed a w :=
  wpAnyP_weak (fun _ k => ext_trans hb k) _ _ _ _ h
/-- the beginning, with all that stands in the world kept -/
theorem wp_region_now {id : Nat} {a : Act} {w : World} (hm : P.follows .mixedOrders = true)
    (h : ∀ w0 : World, Below w.heap.size w w0 → wpAnyP P .any ops Q (fun w' => Below w0.heap.size w0 w') [] ops.size (Array.replicate ops.size false) a w0) : (Code.region id ops true).wp P Q a w :=
  wp_region_phase _ [] hm (wpAnyP_now (ext_drew (ext_refl w)) (h _ (ext_drew (ext_refl w))))
/-- bytes become a string -/
theorem yieldsIf_str {o : Oper} {a : Act} (hgd : Region.wanted o (yielded ops a.tmps) = true) (x : Operand) (src dst e : TypeId) (ho : o.op = Op.convert src dst x)
    (hs : P.underlying src = some (.slice e)) (he : P.underlying e = some (.int .u8)) (hd : P.underlying dst = some .string) {m c : Nat} {A : Option Addr} {l : List UInt8} (hx : a.eval x = .slice A m c) (hm : l.length = m)
    (hT : ∀ w, T w → ∃ B, Row w B A (bvs l)) : YieldsIf P ops T o (.string (str l)) a := by
  refine .inl ⟨hgd, fun w hw => ?_⟩
  obtain ⟨B, hr⟩ := hT w hw
  have hrun := run_string (P := P) w src dst e hs he hd (c := c) hr hm (fun h => by rw [← hm]; exact row_none hr h)
  simp only [execOp, ho, Sem.run_bind, Sem.run_pure, Result.andThen_ok, hx, hrun]
end
end Go.Proofs.YtnfbmhkjmkdmjaaGreat
