/-
  StoreChecks: the walk.
-/
import Derived.Test.YtmlnmcoophnlaaaGreatStW
import Derived.Test.YtmlnmcoophnlaaaGreatLift
set_option linter.unusedVariables false
set_option linter.unusedSimpArgs false
namespace Go.Proofs.YtmlnmcoophnlaaaGreat
open Go.RowKit
attribute [local go_sem] Addr.add_mid
set_option maxRecDepth 100000 in
set_option maxHeartbeats 8000000 in
theorem checks_any {v : Value} {l : List Ev} {w : World} (hr : EvsR w Any v l) (ho : ∀ e ∈ l, e.ok) : Calls Tryz.prog 5 #[v] w (Says true w) := by
  have CG : Calls Tryz.prog 10 #[v, .int .i64 30] w (GreatV l 30 w) := R8Great_any (n := 30) hr (by decide)
  have HO := hide ho
  have HR := hide hr
  obtain ⟨A, c, css, rfl, _⟩ := hr.form
  clear hr ho
  go_enter Tryz.func5, Tryz.ntmps5
  go_wp2_with (go_at_call 10; refine CG.mono ?_)
  rintro x w1 ⟨b, rfl, hsh, hb1⟩
  clear CG
  cases b with
  | true =>
    go_wp2_with (go_at_call 12; refine (awake_any _).mono ?_; rintro e wl ⟨rfl, hbl⟩)
    go_ret
    exact ⟨rfl, ext_trans hb1 hbl⟩
  | false =>
    obtain ⟨hl30, hshort⟩ := hsh rfl
    have HG := hide (fun e he => (hshort e he).good (HO.out e he))
    clear hsh hshort
    have C1 := SCheck_any (HR.out.ext hb1) (by omega) HG.out
    have C2 := hide (fun (W : World) (h : Below w.heap.size w W) => R8Check_any (HR.out.ext h) (show l.length ≤ 2000 by omega) HG.out)
    obtain ⟨q, hq⟩ : ∃ q, q = checkL l := ⟨_, rfl⟩
    rw [← hq] at C1 C2
    clear hq
    go_wp2_with (first
      | (go_at_call 23; refine C1.mono ?_; rintro x w3 ⟨rfl, hb3⟩; have N3 := ext_trans hb1 hb3)
      | (go_at_call 24; refine (C2.out _ N3).mono ?_; rintro x w4 ⟨rfl, hb4⟩; have N4 := ext_trans N3 hb4)
      | (go_at_call 12; refine (awake_any _).mono ?_; rintro e wl ⟨rfl, hbl⟩))
    go_ret
    exact ⟨rfl, ext_trans N4 hbl⟩
end Go.Proofs.YtmlnmcoophnlaaaGreat
