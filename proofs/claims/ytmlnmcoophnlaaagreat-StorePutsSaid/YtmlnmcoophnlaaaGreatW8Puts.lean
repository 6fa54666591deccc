/-
  StorePuts: the walk.
-/
import Derived.Test.YtmlnmcoophnlaaaGreatStW
import Derived.Test.YtmlnmcoophnlaaaGreatLift
set_option linter.unusedVariables false
set_option linter.unusedSimpArgs false
namespace Go.Proofs.YtmlnmcoophnlaaaGreat
open Go.RowKit
attribute [local go_sem] Addr.add_mid
theorem putE_mem {l : List Ev} {e x : Ev} (h : x ∈ putE l e) : x = e ∨ x ∈ l := by
  unfold putE at h
  split at h
  · simp at h
  · split at h
    · split at h
      · rcases List.mem_or_eq_of_mem_set h with h | h
        · exact .inr h
        · exact .inl h
      · exact .inr h
    · rcases List.mem_append.1 h with h | h
      · exact .inr (List.mem_of_mem_take h)
      · rcases List.mem_cons.1 h with h | h
        · exact .inl h
        · exact .inr (List.mem_of_mem_drop h)
theorem putE_len (l : List Ev) (e : Ev) : (putE l e).length ≤ l.length + 1 := by
  unfold putE
  split
  · simp
  · split
    · split
      · simp
      · omega
    · simp; omega
theorem same_true2 {w : World} {v u : Value} {l : List Ev} {S S2 : Nat → Prop} (hr : EvsR w S v l) (hr2 : EvsR w S2 u l) (hl : l.length ≤ 1000000) (hg : ∀ e ∈ l, e.fit) : Calls Tryz.prog 20 #[v, u] w (Says true w) := by
  have h := R8Same_any hr hr2 hl hl hg hg
  have e : decide (l = l) = true := decide_eq_true rfl
  rw [e] at h
  exact h
set_option maxRecDepth 100000 in
set_option maxHeartbeats 8000000 in
theorem puts_any {v : Value} {l : List Ev} {cs : List Value} {e : Ev} {w : World} (hr : EvsR w Any v l) (ho : ∀ e ∈ l, e.ok) (he : EvR w Any cs e) (hoe : e.ok) : Calls Tryz.prog 6 #[v, .agg cs.toArray] w (Says true w) := by
  have hb0 := ext_alloc (ext_refl w) (.cells cs.toArray 35)
  have BX := heap_alloc_new w (.cells cs.toArray 35)
  have CG := hide (fun (W : World) (h : Below w.heap.size w W) => (show Calls Tryz.prog 10 #[v, .int .i64 30] W (GreatV l 30 W) from R8Great_any (n := 30) (hr.ext h) (by decide)))
  have HO := hide ho; have HOE := hide hoe
  have HR := hide hr; have HE := hide he
  have HL := hide he.length
  obtain ⟨A, c, css, rfl, _⟩ := hr.form
  clear hr ho he hoe
  go_enter Tryz.func6, Tryz.ntmps6
  go_upto_region 1 with fail
  generalize w.alloc (.cells cs.toArray 35) = W0 at hb0 BX ⊢
  generalize hg : w.heap.size = g3 at BX ⊢
  clear hg
  go_wp2_with (go_at_call 10; refine (CG.out _ hb0).mono ?_)
  rintro x w1 ⟨b, rfl, hsh, hb1⟩
  have N1 := ext_trans hb0 hb1
  have B1 := hide (box_below BX hb1)
  clear CG BX
  cases b with
  | true =>
    go_wp2_with (go_at_call 12; refine (awake_any _).mono ?_; rintro e wl ⟨rfl, hbl⟩)
    go_ret
    exact ⟨rfl, ext_trans N1 hbl⟩
  | false =>
    obtain ⟨hl30, hshort⟩ := hsh rfl
    have HG := hide (fun e he => (hshort e he).good (HO.out e he))
    clear hsh hshort
    have CL := R8Long_any (HE.out.ext N1)
    go_wp2_with (first
      | refine wpList_loadS rfl (.tmp 3) rfl strcE ⟨g3, 0, none⟩ rfl cs HL.out (box_all B1.out) ?_
      | (go_at_call 11; refine CL.mono ?_))
    rintro x w2 ⟨b, rfl, hsh, hb2⟩
    have N2 := ext_trans N1 hb2
    have B2 := hide (box_below B1.out hb2)
    clear CL B1
    cases b with
    | true =>
      go_wp2_with (go_at_call 12; refine (awake_any _).mono ?_; rintro e wl ⟨rfl, hbl⟩)
      go_ret
      exact ⟨rfl, ext_trans N2 hbl⟩
    | false =>
      have HGE := hide ((hsh rfl).good HOE.out)
      clear hsh
      have C1 := SPut_any (HR.out.ext N2) (HE.out.ext N2) (by omega) (fun x hx => (HG.out x hx).cputs) HGE.out.cputs
      have C2 := hide (fun (W : World) (h : Below w.heap.size w W) => R8Put_any (HR.out.ext h) (HE.out.ext h) (show l.length < 2000 by omega) (fun x hx => (HG.out x hx).cputs) HGE.out.cputs)
      have HF := hide (fun x (hx : x ∈ putE l e) => show x.fit by
        rcases putE_mem hx with rfl | h
        · exact HGE.out.fitE
        · exact (HG.out x h).fitE)
      have hpl : (putE l e).length ≤ 1000000 := by have := putE_len l e; omega
      unfold PutV at C1 C2
      obtain ⟨q, hq⟩ : ∃ q, q = putE l e := ⟨_, rfl⟩
      obtain ⟨q2, hq2⟩ : ∃ q, q = putC l e := ⟨_, rfl⟩
      rw [← hq, ← hq2] at C1 C2
      rw [← hq] at HF hpl
      clear hq hq2
      go_upto_region 4 with (first
        | refine wpList_loadS rfl (.tmp 3) rfl strcE ⟨g3, 0, none⟩ rfl cs HL.out (box_all B2.out) ?_
        | (go_at_call 13; refine C1.mono ?_; rintro x w3 ⟨v3, rfl, R3, hb3⟩))
      have N3 := ext_trans N2 hb3
      have B3 := hide (box_below B2.out hb3)
      have C2 := C2.out _ N3
      clear B2
      go_upto_region 5 with (first
        | refine wpList_loadS rfl (.tmp 3) rfl strcE ⟨g3, 0, none⟩ rfl cs HL.out (box_all B3.out) ?_
        | (go_at_call 25; refine C2.mono ?_; rintro x w4 ⟨v4, rfl, R4, hb4⟩))
      have N4 := ext_trans N3 hb4
      have C3 := same_true2 (R3.ext hb4) R4 hpl HF.out
      go_wp2_with (first
        | (go_at_call 20; refine C3.mono ?_; rintro x w5 ⟨rfl, hb5⟩; have N5 := ext_trans N4 hb5)
        | (go_at_call 12; refine (awake_any _).mono ?_; rintro e wl ⟨rfl, hbl⟩))
      go_ret
      exact ⟨rfl, ext_trans N5 hbl⟩
end Go.Proofs.YtmlnmcoophnlaaaGreat
