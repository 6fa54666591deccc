/-
  StoreRefs: the walk.
-/
import Derived.Test.YtmlnmcoophnlaaaGreatStW
import Derived.Test.YtmlnmcoophnlaaaGreatLift
set_option linter.unusedVariables false
set_option linter.unusedSimpArgs false
namespace Go.Proofs.YtmlnmcoophnlaaaGreat
open Go.RowKit
attribute [local go_sem] Addr.add_mid
theorem same_two {w : World} {base base2 : Nat} {v u : Value} {l : List Int} (ho : w.ownsRow base 3 1 v l.length (ivs l)) (ho2 : w.ownsRow base2 3 1 u l.length (ivs l)) (hl : l.length ≤ 1073741824) : Calls Tryz.prog 26 #[v, u] w (Says true w) := by
  obtain ⟨A, c, rfl, _⟩ := own_form ho
  obtain ⟨A2, c2, rfl, _⟩ := own_form ho2
  exact SameInts_yes _ _ A A2 c c2 _ _ l w (Row.own ho) (Row.own ho2) rfl rfl hl
theorem refL_len : ∀ {l : List Ev}, (∀ e ∈ l, e.prev.length ≤ 1000 ∧ e.auth.length ≤ 1000) → (refL l).length ≤ l.length * 2000
  | [], _ => Nat.le_refl _
  | e :: l, h => by
    have ih := refL_len (l := l) fun x hx => h x (List.mem_cons_of_mem _ hx)
    have := h e (by simp)
    unfold refL at ih ⊢
    rw [List.flatMap_cons, List.length_append, List.length_append, List.length_cons]
    omega
set_option maxRecDepth 100000 in
set_option maxHeartbeats 8000000 in
theorem refs_any {v v2 : Value} {l : List Ev} {ids : List Int} {w : World} (hr : EvsR w Any v l) (ho : ∀ e ∈ l, e.ok) (hs : Slc w Any v2 1 ids.length (ivs ids)) (hi : ∀ n ∈ ids, I64 n) : Calls Tryz.prog 7 #[v, v2] w (Says true w) := by
  obtain ⟨A2, c2, rfl, _, _, _, hr2, _⟩ := hs.form
  have CG : Calls Tryz.prog 10 #[v, .int .i64 30] w (GreatV l 30 w) := R8Great_any (n := 30) hr (by decide)
  have HO := hide ho
  have HR := hide hr
  have HI := hide hi
  obtain ⟨A, c, css, rfl, _⟩ := hr.form
  clear hr ho hi
  go_enter Tryz.func7, Tryz.ntmps7
  go_wp2_with (go_at_call 10; refine CG.mono ?_)
  rintro x w1 ⟨b, rfl, hsh, hb1⟩
  clear CG
  cases b with
  | true =>
    go_wp2_with (go_at_call 12; refine (awake_any _).mono ?_; rintro e wl ⟨rfl, hbl⟩)
    go_ret
    exact ⟨rfl, ext_trans hb1 hbl⟩
  | false =>
    obtain ⟨hl30, hshort⟩ := hsh rfl
    have HG := hide (fun e he => good_refs ((hshort e he).good (HO.out e he)))
    have HK := hide (fun e he => ((hshort e he).good (HO.out e he)).ok.1)
    clear hsh hshort
    by_cases hids : ids.length ≤ 100
    · have t100 : decide ((100 : Int) < (ids.length : Int)) = false := decide_eq_false (by omega)
      have HR2 := hide hr2
      have C1 := SIds_any (HR.out.ext hb1) (by omega)
      have C2 := hide (fun (W : World) (h : Below w.heap.size w W) => R8Ids_any (HR.out.ext h) (show l.length ≤ 1000000 by omega))
      have C4 := hide (fun (W : World) (h : Below w.heap.size w W) => SMissing_any (c2 := c2) (HR.out.ext h) (show l.length ≤ 1000000 by omega) (HR2.out.ext h) (show ids.length ≤ 1000000 by omega) HI.out HK.out)
      have C5 := hide (fun (W : World) (h : Below w.heap.size w W) => R8Missing_any (c2 := c2) (HR.out.ext h) (show l.length ≤ 1000000 by omega) (HR2.out.ext h) (show ids.length ≤ 1000000 by omega))
      have C7 := hide (fun (W : World) (h : Below w.heap.size w W) => SRefs_any (HR.out.ext h) (show l.length ≤ 400 by omega) HG.out)
      have C8 := hide (fun (W : World) (h : Below w.heap.size w W) => R8Refs_any (HR.out.ext h) (show l.length ≤ 400 by omega) (fun e he => ⟨(HG.out e he).1, (HG.out e he).2.1⟩))
      have e1 : (idsE l).length ≤ 1073741824 := by rw [idsE_length]; omega
      have e2 : (missE l ids).length ≤ 1073741824 := by have := miss_len l ids; omega
      have e3 : (refsE l).length ≤ 1073741824 := by
        have h1 : (refsE l).length ≤ (refL l).length := once_len _
        have h2 := refL_len (l := l) (fun e he => ⟨(HG.out e he).1, (HG.out e he).2.1⟩)
        omega
      obtain ⟨q1, hq1⟩ : ∃ q, q = idsE l := ⟨_, rfl⟩
      obtain ⟨q2, hq2⟩ : ∃ q, q = missE l ids := ⟨_, rfl⟩
      obtain ⟨q3, hq3⟩ : ∃ q, q = refsE l := ⟨_, rfl⟩
      rw [← hq1] at C1 C2 e1
      rw [← hq2] at C4 C5 e2
      rw [← hq3] at C7 C8 e3
      have E1 := hide e1; have E2 := hide e2; have E3 := hide e3
      clear hq1 hq2 hq3 hr2 e1 e2 e3
      go_wp2_with (first
        | (go_at_call 27; refine C1.mono ?_; rintro x w2 ⟨v2, rfl, o2, hb2⟩; have N2 := ext_trans hb1 hb2)
        | (go_at_call 28; refine (C2.out _ N2).mono ?_; rintro x w3 ⟨v3, rfl, o3, hb3⟩; have N3 := ext_trans N2 hb3; have C3 := same_two (own_below o2 hb3) o3 E1.out)
        | (go_at_call 29; refine (C4.out _ N4).mono ?_; rintro x w5 ⟨v5, rfl, o5, hb5⟩; have N5 := ext_trans N4 hb5)
        | (go_at_call 30; refine (C5.out _ N5).mono ?_; rintro x w6 ⟨v6, rfl, o6, hb6⟩; have N6 := ext_trans N5 hb6; have C6 := same_two (own_below o5 hb6) o6 E2.out)
        | (go_at_call 31; refine (C7.out _ N7).mono ?_; rintro x w8 ⟨v8, rfl, o8, hb8⟩; have N8 := ext_trans N7 hb8)
        | (go_at_call 32; refine (C8.out _ N8).mono ?_; rintro x w9 ⟨v9, rfl, o9, hb9⟩; have N9 := ext_trans N8 hb9; have C9 := same_two (own_below o8 hb9) o9 E3.out)
        | (go_at_call 26; first
            | ((with_reducible refine C3.mono ?_); rintro x w4 ⟨rfl, hb4⟩; have N4 := ext_trans N3 hb4; clear C3)
            | ((with_reducible refine C6.mono ?_); rintro x w7 ⟨rfl, hb7⟩; have N7 := ext_trans N6 hb7; clear C6)
            | ((with_reducible refine C9.mono ?_); rintro x w10 ⟨rfl, hb10⟩; have N10 := ext_trans N9 hb10; clear C9))
        | (go_at_call 12; refine (awake_any _).mono ?_; rintro e wl ⟨rfl, hbl⟩))
      go_ret
      exact ⟨rfl, ext_trans N10 hbl⟩
    · have t100 : decide ((100 : Int) < (ids.length : Int)) = true := decide_eq_true (by omega)
      go_wp2_with (go_at_call 12; refine (awake_any _).mono ?_; rintro e wl ⟨rfl, hbl⟩)
      go_ret
      exact ⟨rfl, ext_trans hb1 hbl⟩
end Go.Proofs.YtmlnmcoophnlaaaGreat
