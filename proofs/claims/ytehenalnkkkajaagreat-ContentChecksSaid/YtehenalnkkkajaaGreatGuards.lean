/-
  Guarded operations whose guard is a Bool that is not known: what they yield is known if the guard holds. No function of the program; no condition.
-/
import Derived.Test.YtehenalnkkkajaaGreatPhaseB
set_option linter.unusedVariables false
set_option linter.unusedSimpArgs false
namespace Go.Proofs.YtehenalnkkkajaaGreat
open Go.RowKit
section
variable {P : Program} {ops : Array Oper} {Q : Exit → Act → World → Prop} {a : Act} {w : World} {rest : List Oper} {o : Oper} {t : TypeId} {z : Array Value} {n : Nat}
theorem wpList_gval {b : Bool} (v : Value) (hw : Region.wanted o (yielded ops a.tmps) = b) (hr : b = true → (execOp a.eval o).run P w = .ok (.value v) w)
    (h : ∀ X, (b = true → X = v) → wpList P ops Q rest (a.put o.dst X) w) : wpList P ops Q (o :: rest) a w := by
  cases b with
  | false =>
    unfold wpList
    rw [if_neg (by rw [hw]; decide)]
    exact h undef (fun h => by cases h)
  | true =>
    unfold wpList
    rw [if_pos hw]
    left
    unfold Oper.wp
    rw [hr rfl, Oper.upon_value]
    exact h v (fun _ => rfl)
theorem wpList_val (v : Value) (hw : Region.wanted o (yielded ops a.tmps) = true) (hr : (execOp a.eval o).run P w = .ok (.value v) w)
    (h : wpList P ops Q rest (a.put o.dst v) w) : wpList P ops Q (o :: rest) a w := by
  unfold wpList
  rw [if_pos hw]
  left
  unfold Oper.wp
  rw [hr, Oper.upon_value]
  exact h
theorem wpList_gcall {b : Bool} (f : FuncId) (args : Array Value) (R : Value → World → Prop) (hw : Region.wanted o (yielded ops a.tmps) = b) (hrun : b = true → (execOp a.eval o).run P w = .ok (.enter f args) w)
    (hc : b = true → Calls P f args w (fun e w' => ∃ v, e = .returned v ∧ R v w'))
    (h : ∀ X w', (b = true → R X w') → (b = false → w' = w) → wpList P ops Q rest (a.put o.dst X) w') : wpList P ops Q (o :: rest) a w := by
  cases b with
  | false =>
    unfold wpList
    rw [if_neg (by rw [hw]; decide)]
    exact h undef w (fun h => by cases h) (fun _ => rfl)
  | true =>
    unfold wpList
    rw [if_pos hw]
    left
    unfold Oper.wp
    rw [hrun rfl, Oper.upon_enter]
    refine (hc rfl).mono fun e w'' hh => ?_
    obtain ⟨v, rfl, hR⟩ := hh
    exact h v w'' (fun _ => hR) (fun h => by cases h)
theorem run_load_op (x : Operand) (ho : o.op = .load t x) (G : Strc P t z n) (ad : Addr) (hx : a.eval x = .pointer (some ad)) (cs : List Value) (hn : cs.length = n) (hc : CellsAt w ad cs) :
    (execOp a.eval o).run P w = .ok (.value (.agg cs.toArray)) w := by
  unfold execOp
  simp only [ho, hx, Sem.run_bind, Sem.run_pure, Result.andThen_ok, run_loadS G ad cs hn hc]
end
end Go.Proofs.YtehenalnkkkajaaGreat
