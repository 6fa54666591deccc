/-
  StoreSames: the walk.
-/
import Derived.Test.YtmlnmcoophnlaaaGreatStW
import Derived.Test.YtmlnmcoophnlaaaGreatLift
set_option linter.unusedVariables false
set_option linter.unusedSimpArgs false
namespace Go.Proofs.YtmlnmcoophnlaaaGreat
open Go.RowKit
attribute [local go_sem] Addr.add_mid
set_option maxRecDepth 100000 in
set_option maxHeartbeats 8000000 in
theorem sames_any {v v2 : Value} {l m : List Ev} {w : World} (hr : EvsR w Any v l) (ho : ∀ e ∈ l, e.ok) (hr2 : EvsR w Any v2 m) (ho2 : ∀ e ∈ m, e.ok) : Calls Tryz.prog 8 #[v, v2] w (Says true w) := by
  have CG : Calls Tryz.prog 10 #[v, .int .i64 30] w (GreatV l 30 w) := R8Great_any (n := 30) hr (by decide)
  have CG2 := hide (fun (W : World) (h : Below w.heap.size w W) => (show Calls Tryz.prog 10 #[v2, .int .i64 30] W (GreatV m 30 W) from R8Great_any (n := 30) (hr2.ext h) (by decide)))
  have HO := hide ho; have HO2 := hide ho2
  have HR := hide hr; have HR2 := hide hr2
  obtain ⟨A, c, css, rfl, _⟩ := hr.form
  obtain ⟨A2, c2, css2, rfl, _⟩ := hr2.form
  clear hr ho hr2 ho2
  go_enter Tryz.func8, Tryz.ntmps8
  go_wp2_with (go_at_call 10; refine CG.mono ?_)
  rintro x w1 ⟨b, rfl, hsh, hb1⟩
  clear CG
  cases b with
  | true =>
    go_wp2_with (go_at_call 12; refine (awake_any _).mono ?_; rintro e wl ⟨rfl, hbl⟩)
    go_ret
    exact ⟨rfl, ext_trans hb1 hbl⟩
  | false =>
    obtain ⟨hl30, hshort⟩ := hsh rfl
    have HF := hide (fun e he => ((hshort e he).good (HO.out e he)).fitE)
    clear hsh hshort
    go_wp2_with (go_at_call 10; refine (CG2.out _ hb1).mono ?_)
    rintro x w2 ⟨b, rfl, hsh, hb2⟩
    have N2 := ext_trans hb1 hb2
    clear CG2
    cases b with
    | true =>
      go_wp2_with (go_at_call 12; refine (awake_any _).mono ?_; rintro e wl ⟨rfl, hbl⟩)
      go_ret
      exact ⟨rfl, ext_trans N2 hbl⟩
    | false =>
      obtain ⟨hm30, hshort⟩ := hsh rfl
      have HF2 := hide (fun e he => ((hshort e he).good (HO2.out e he)).fitE)
      clear hsh hshort hb1 hb2
      have C1 := SSame_any (HR.out.ext N2) (HR2.out.ext N2) (by omega) (by omega) HF.out HF2.out
      have C2 := hide (fun (W : World) (h : Below w.heap.size w W) => R8Same_any (HR.out.ext h) (HR2.out.ext h) (show l.length ≤ 1000000 by omega) (show m.length ≤ 1000000 by omega) HF.out HF2.out)
      have C3 := hide (fun (W : World) (h : Below w.heap.size w W) => SSame_any (HR.out.ext h) (HR.out.ext h) (show l.length ≤ 1000000 by omega) (show l.length ≤ 1000000 by omega) HF.out HF.out)
      have e1 : decide (l = l) = true := decide_eq_true rfl
      obtain ⟨q, hq⟩ : ∃ q, q = decide (l = m) := ⟨_, rfl⟩
      rw [← hq] at C1 C2
      rw [e1] at C3
      clear hq e1
      cases q
      all_goals
        go_wp2_with (first
          | (go_at_call 14; first
              | ((with_reducible refine C1.mono ?_); rintro x w3 ⟨rfl, hb3⟩; have N3 := ext_trans N2 hb3)
              | ((with_reducible refine (C3.out _ N4).mono ?_); rintro x w5 ⟨rfl, hb5⟩; have N5 := ext_trans N4 hb5))
          | (go_at_call 20; refine (C2.out _ N3).mono ?_; rintro x w4 ⟨rfl, hb4⟩; have N4 := ext_trans N3 hb4)
          | (go_at_call 12; refine (awake_any _).mono ?_; rintro e wl ⟨rfl, hbl⟩))
        go_ret
        exact ⟨rfl, ext_trans N5 hbl⟩
end Go.Proofs.YtmlnmcoophnlaaaGreat
