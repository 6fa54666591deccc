/-
  Reference: Great of a list of events. A short event is good.
  The law's example: what awake answers. Conditions: none.
-/
import Derived.Test.YtmlnmcoophnlaaaGreatLong8
import Derived.Test.YtmlnmcoophnlaaaGreatEvP
import Derived.Test.YtmlnmcoophnlaaaGreatStB
import Derived.Test.YtmlnmcoophnlaaaGreatStD
import Derived.Test.YtmlnmcoophnlaaaGreatStC
set_option linter.unusedVariables false
set_option linter.unusedSimpArgs false
namespace Go.Proofs.YtmlnmcoophnlaaaGreat
section
open Go.RowKit
attribute [local go_sem] Addr.add_mid
theorem Ev.short.good {e : Ev} (h : e.short) (ho : e.ok) : e.good :=
  ⟨ho, by have := h.room; omega, by have := h.sender; omega, by have := h.key; omega, by have := h.server; omega, by have := h.prev; omega, by have := h.auth; omega,
    ⟨by have := h.text; omega, by have := h.via; omega, by have := h.allow; omega, by have := h.deny; omega, ⟨by have := h.users; omega, by have := h.kinds; omega, fun u hu => by have := h.names u hu; omega⟩, fun s hs => by have := h.allows s hs; omega, fun s hs => by have := h.denies s hs; omega⟩⟩
def GreatV (l : List Ev) (n : Nat) (w : World) (x : Ending) (w' : World) : Prop := ∃ b, x = .returned (.bool b) ∧ (b = false → l.length ≤ n ∧ ∀ e ∈ l, e.short) ∧ Below w.heap.size w w'
theorem greatV_yes {l : List Ev} {n : Nat} {w w' : World} (hb : Below w.heap.size w w') : GreatV l n w (.returned (.bool true)) w' := ⟨true, rfl, nofun, hb⟩
theorem short_step {l : List Ev} {k : Nat} (h : ∀ s ∈ l.take k, s.short) (hk : k < l.length) (hs : l[k].short) : ∀ s ∈ l.take (k + 1), s.short := by
  rw [List.take_succ_eq_append_getElem hk]
  intro s hs'
  rcases List.mem_append.1 hs' with h1 | h1
  · exact h s h1
  · rw [List.mem_singleton] at h1; rw [h1]; exact hs
set_option maxRecDepth 100000 in
set_option maxHeartbeats 1000000 in
theorem R8Great_any {S : Nat → Prop} {v : Value} {l : List Ev} {n : Nat} {w : World} (hr : EvsR w S v l) (hn : n ≤ 1000000) :
    Calls Tryz.prog 10 #[v, .int .i64 (n : Int)] w (GreatV l n w) := by
  obtain ⟨A, c, css, rfl, h1, h2, _, hr, ht⟩ := hr.form
  by_cases hln : l.length ≤ n
  · have hcl : decide (n < l.length) = false := by simp; omega
    have hci : decide ((n : Int) < (l.length : Int)) = false := by simp; omega
    have HLN := hide hln
    have hl' : l.length ≤ 1000000 := by omega
    clear hln
    go_enter Tryz.func10, Tryz.ntmps10
    go_wp2_with fail
    clear hcl hci
    go_loopw [5] (fun i wr => ∃ k : Nat, k ≤ l.length ∧ i = .int .i64 (k : Int) ∧ Hid (∀ e ∈ l.take k, e.short) ∧ Below w.heap.size w wr) (fun i _ => l.length - (intOf i).toNat)
    case atStart => exact ⟨0, Nat.zero_le _, rfl, by simp [Hid], ext_refl w⟩
    case round =>
      obtain ⟨k, hk, rfl, HT, hnx⟩ := hrel
      by_cases hlt : k < l.length
      · obtain ⟨b1, o1, cs1, rfl, hb1, he1, _, hc1⟩ := evs_at (hr.ext hnx) (ht.imp fun _ _ h => h.ext hnx) k hlt
        have hn1 := he1.length
        have HC := hide (R8Long_any he1)
        have r1 : wr.rangeAt b1 (o1 + k * 29) cs1 := hc1
        clear hc1 he1 hr ht
        go_wp2_with (refine wpList_loadS rfl (.tmp 18) rfl strcE ⟨b1, o1 + k * 29, none⟩ rfl cs1 hn1 (cells_range r1) ?_)
        refine HC.out.mono ?_
        rintro e w1 ⟨b, rfl, hb, hb1⟩
        have hnx' := hnx.trans (hb1.mono hnx.size)
        clear HC r1 hb1
        cases b with
        | false =>
          have HE := hide (short_step HT.out hlt (hb rfl))
          clear hb
          go_wp2_with fail
          go_roundw
          case rel => exact ⟨k + 1, by omega, by go_num, HE.out, hnx'⟩
          case measure => simp [intOf]; omega
        | true =>
          clear hb
          go_wp2_with fail
          go_ret
          exact greatV_yes hnx'
      · obtain rfl : k = l.length := by omega
        have HF := hide (show ∀ e ∈ l, e.short by have := HT.out; rwa [List.take_length] at this)
        clear HT
        go_wp2_with fail
        go_ret
        exact ⟨_, rfl, fun _ => ⟨HLN.out, HF.out⟩, hnx⟩
  · have hcl : decide (n < l.length) = true := by simp; omega
    have hci : decide ((n : Int) < (l.length : Int)) = true := by simp; omega
    clear hln
    go_enter Tryz.func10, Tryz.ntmps10
    go_wp2_with fail
    go_ret
    exact greatV_yes (ext_refl w)
end

section
section
open Go.RowKit
set_option maxRecDepth 100000 in
set_option maxHeartbeats 400000 in
theorem SameInts_yes (B B2 : Nat) (A A2 : Option Addr) (c c2 n n2 : Nat) (l : List Int) (w : World) (hr : Row w B A (ivs l)) (hr2 : Row w B2 A2 (ivs l)) (hn : l.length = n) (hn2 : l.length = n2) (hl : n ≤ 1073741824) :
    Calls Tryz.prog 26 #[.slice A n c, .slice A2 n2 c2] w (fun e w' => e = .returned (.bool true) ∧ Below w.heap.size w w') := by
  subst hn; subst hn2
  go_enter Tryz.func26, Tryz.ntmps26
  go_wp2_with fail
  go_loopw [5] (fun i wr => ∃ k n : Nat, k ≤ l.length ∧ i = .int .i64 (k : Int) ∧ wr = w.drewN n) (fun i _ => l.length - (intOf i).toNat)
  case atStart => exact ⟨0, 0, Nat.zero_le _, rfl, rfl⟩
  case round =>
    obtain ⟨k, n, hk, rfl, rfl⟩ := hrel
    by_cases hlt : k < l.length
    · obtain ⟨ad, rfl, _, hcell⟩ := hr.at (ivs_get l k hlt)
      obtain ⟨ad2, rfl, _, hcell2⟩ := hr2.at (ivs_get l k hlt)
      have i0 : (0 : Int) ≤ (k : Int) := by omega
      have i1 : (k : Int) < (l.length : Int) := by omega
      go_wp2_with fail
      go_quiet (fail)
      go_wp2_with fail
      go_roundw
      case rel => exact ⟨k + 1, _, by omega, by go_num, rfl⟩
      case measure => simp [intOf]; omega
    · obtain rfl : k = l.length := by omega
      go_wp2_with fail
      go_ret
      exact ⟨rfl, below_drewN (Below.refl _ _) _⟩

end
section
open Go.RowKit
attribute [local go_sem] Addr.add_mid
section
variable {P : Program} {w : World} {ops : Array Oper} {rest : List Oper} {o : Oper} {a : Act} {Q : Exit → Act → World → Prop} {t : TypeId} {z : Array Value} {n : Nat}
/-- '[]T{v, u}' -/
theorem wpList_buildS2 {ts : TypeId} (hgd : Region.wanted o (yielded ops a.tmps) = true) (x y : Operand) (ho : o.op = .buildSlice ts 2 #[(0, x), (1, y)]) (hu : P.underlying ts = some (.slice t)) (G : Strc P t z n) (hpos : 0 < n) (hsm : n ≤ 8388608)
    (C C2 : Array Value) (hx : a.eval x = .agg C) (hy : a.eval y = .agg C2) (hC : C.size = n) (hC2 : C2.size = n)
    (h : wpList P ops Q rest (a.put o.dst (.slice (some ⟨w.heap.size, 0, none⟩) 2 2)) (w.alloc (.cells (C ++ C2) t))) : wpList P ops Q (o :: rest) a w := by
  have hi := G.info
  cases hq : P.info? t with
  | none => simp [hq] at hi
  | some i =>
    simp only [hq, Option.map_some, Option.some.injEq, Prod.mk.injEq] at hi
    obtain ⟨hz, hsz⟩ := hi
    subst hsz
    have hf := Great.fill_whole (s := i.size) hpos [.agg C, .agg C2] ((Array.range (2 * i.size)).map (z[· % z.size]!)) (by simp [Value.cells, hC, hC2]) (by simp)
    have hfl : ([Value.agg C, Value.agg C2].flatMap fun v => v.cells.toList).toArray = C ++ C2 := by simp [Value.cells]
    rw [hfl] at hf
    have hrun := run_buildSlice (P := P) w ts t 2 (#[(0, x), (1, y)].map fun (j, y) => (j, a.eval y)) (C ++ C2) i (.agg z) hu hq hz (by omega) (by omega) (by simpa [hx, hy, Value.cells] using hf)
    refine wpList_wanted hgd fun K hK => ?_
    unfold Oper.wp execOp
    simp only [ho, Sem.run_bind, Sem.run_pure, Result.andThen_ok, hrun]
    exact hK _ _ h
end
def bareE (id : Int) (room : ByteArray) (prev auth : List Int) : Ev := ⟨id, room, ⟨#[]⟩, 0, false, ⟨#[]⟩, 0, 0, prev, auth, Con.zero, 0, ⟨#[]⟩, 0⟩
theorem bare_good {id : Int} {room : ByteArray} {prev auth : List Int} (h1 : I64 id) (h2 : room.size ≤ 4000) (h3 : prev.length ≤ 100) (h4 : auth.length ≤ 100) (h5 : ∀ n ∈ prev, I64 n) (h6 : ∀ n ∈ auth, I64 n) : (bareE id room prev auth).good := by
  have z : I64 0 := ⟨by decide, by decide⟩
  refine ⟨⟨h1, by show room.size ≤ maxLen; unfold maxLen; omega, Nat.zero_le _, z, Nat.zero_le _, z, z, h5, h6, ?_, z, Nat.zero_le _, z⟩, h2, Nat.zero_le _, Nat.zero_le _, Nat.zero_le _, h3, h4, ?_⟩
  · exact ⟨Nat.zero_le _, z, z, Nat.zero_le _, nofun, nofun, nofun, nofun, z, z, z, z, z, z, z⟩
  · exact ⟨Nat.zero_le _, Nat.zero_le _, Nat.zero_le _, Nat.zero_le _, ⟨Nat.zero_le _, Nat.zero_le _, nofun⟩, nofun, nofun⟩
def a1 : Ev := bareE 2 ⟨#[]⟩ [1] []
def a2 : Ev := bareE 5 ⟨#[]⟩ [] [1, 2]
def a3 : Ev := bareE 3 ⟨#[]⟩ [] []
def a4 : Ev := bareE 3 ⟨#[33, 114, 58, 97]⟩ [] []
theorem lit1 : ∀ n ∈ [(1 : Int)], I64 n := fun n hn => by simp at hn; subst hn; exact ⟨by decide, by decide⟩
theorem lit2 : ∀ n ∈ [(1 : Int), 2], I64 n := fun n hn => by simp at hn; rcases hn with rfl | rfl <;> exact ⟨by decide, by decide⟩
theorem a1_good : a1.good := bare_good ⟨by decide, by decide⟩ (Nat.zero_le _) (by decide) (by decide) lit1 nofun
theorem a2_good : a2.good := bare_good ⟨by decide, by decide⟩ (Nat.zero_le _) (by decide) (by decide) nofun lit2
theorem a3_good : a3.good := bare_good ⟨by decide, by decide⟩ (Nat.zero_le _) (by decide) (by decide) nofun nofun
theorem a4_good : a4.good := bare_good ⟨by decide, by decide⟩ (Nat.le_of_ble_eq_true rfl) (by decide) (by decide) nofun nofun
theorem l0_good : ∀ e ∈ [a1, a2], e.good := fun e he => by simp at he; rcases he with rfl | rfl; exact a1_good; exact a2_good
theorem x0_good : ∀ e ∈ [a1, a3, a2], e.good := fun e he => by simp at he; rcases he with rfl | rfl | rfl; exact a1_good; exact a3_good; exact a2_good
theorem w_put : putE [a1, a2] a3 = [a1, a3, a2] := by decide +kernel
theorem w_putC : putC [a1, a2] a3 = 0 := by decide +kernel
theorem w_putC2 : putC [a1, a2] a4 = 13 := by decide +kernel
theorem w_get : getE [a1, a2] 5 = some a2 := by decide +kernel
theorem w_get2 : getE [a1, a2] 4 = none := by decide +kernel
theorem w_ids : idsE [a1, a3, a2] = [2, 3, 5] := rfl
theorem w_miss : missE [a1, a2] [5, 4, 4, 1] = [1, 4] := by decide +kernel
theorem w_refs : refsE [a1, a2] = [1, 2] := by decide +kernel
theorem w_of : ofE [a1, a2] [5, 4, 2] = [a2, a1] := by decide +kernel
theorem w_ids2 : idsE [a2, a1] = [5, 2] := rfl
theorem w_check : checkL [] = 0 := by decide +kernel
theorem w_same : decide ([a1, a2] = [a1, a3, a2]) = false := by decide +kernel
def aCells (e : Ev) (vp vq : Value) : List Value := evCells e vp vq (.slice none 0 0) (.slice none 0 0) (.slice none 0 0) (.slice none 0 0)
theorem aCells_R (w : World) (S : Nat → Prop) {e : Ev} {vp vq : Value} (hc : e.con = Con.zero) (h1 : Slc w S vp 1 e.prev.length (ivs e.prev)) (h2 : Slc w S vq 1 e.auth.length (ivs e.auth)) : EvR w S (aCells e vp vq) e := by
  refine ⟨_, _, _, _, _, _, rfl, h1, h2, ?_, ?_, ?_, ?_⟩ <;> rw [hc] <;> exact Slc.nil _ _ _
theorem same_lit {w : World} {base : Nat} {v : Value} {l : List Int} (ho : w.ownsRow base 3 1 v l.length (ivs l)) (hl : l.length ≤ 1000) :
    Calls Tryz.prog 26 #[v, .slice (some ⟨w.heap.size, 0, none⟩) l.length l.length] (w.alloc (.cells (ivs l).toArray 3)) (Says true (w.alloc (.cells (ivs l).toArray 3))) := by
  obtain ⟨A, c, rfl, _⟩ := own_form ho
  exact SameInts_yes _ _ A _ c _ _ _ l _ (row_alloc (Row.own ho) _) (row_lit w (ivs l) (ivs l).toArray 3 rfl rfl) rfl rfl (by omega)
theorem I64_of {n : Int} (h1 : -9223372036854775808 ≤ n) (h2 : n < 9223372036854775808) : I64 n := ⟨h1, h2⟩
theorem w_keys : ∀ n ∈ [(5 : Int), 4, 4, 1], I64 n := fun n hn => by simp at hn; rcases hn with rfl | rfl | rfl <;> exact ⟨by decide, by decide⟩
theorem good_refs {e : Ev} (h : e.good) : e.prev.length ≤ 1000 ∧ e.auth.length ≤ 1000 ∧ (∀ n ∈ e.prev, I64 n) ∧ ∀ n ∈ e.auth, I64 n := ⟨by have := h.prev; omega, by have := h.auth; omega, h.ok.2.2.2.2.2.2.2.1, h.ok.2.2.2.2.2.2.2.2.1⟩
def a3A : Array Value := #[.int .i64 3, .string ⟨#[]⟩, .string ⟨#[]⟩, .int .i64 0, .bool false, .string ⟨#[]⟩, .int .i64 0, .int .i64 0, .slice none 0 0, .slice none 0 0, .string ⟨#[]⟩, .int .i64 0, .int .i64 0, .bool false, .string ⟨#[]⟩, .slice none 0 0, .slice none 0 0, .slice none 0 0, .slice none 0 0, .int .i64 0, .int .i64 0, .int .i64 0, .int .i64 0, .int .i64 0, .int .i64 0, .int .i64 0, .int .i64 0, .string ⟨#[]⟩, .int .i64 0]
def a4A : Array Value := #[.int .i64 3, .string ⟨#[33, 114, 58, 97]⟩, .string ⟨#[]⟩, .int .i64 0, .bool false, .string ⟨#[]⟩, .int .i64 0, .int .i64 0, .slice none 0 0, .slice none 0 0, .string ⟨#[]⟩, .int .i64 0, .int .i64 0, .bool false, .string ⟨#[]⟩, .slice none 0 0, .slice none 0 0, .slice none 0 0, .slice none 0 0, .int .i64 0, .int .i64 0, .int .i64 0, .int .i64 0, .int .i64 0, .int .i64 0, .int .i64 0, .int .i64 0, .string ⟨#[]⟩, .int .i64 0]
theorem a3A_eq : (aCells a3 (.slice none 0 0) (.slice none 0 0)).toArray = a3A := rfl
theorem a4A_eq : (aCells a4 (.slice none 0 0) (.slice none 0 0)).toArray = a4A := rfl
theorem wa_put {w : World} {v : Value} (hr : EvsR w Any v [a1, a2]) : Calls Tryz.prog 13 #[v, .agg a3A] w fun x w' => ∃ v', x = .returned (.tuple #[v', .int .i64 0]) ∧ EvsR w' Any v' [a1, a3, a2] ∧ Below w.heap.size w w' :=
  a3A_eq ▸ (SPut_any hr (aCells_R w Any (e := a3) (vp := .slice none 0 0) (vq := .slice none 0 0) rfl (Slc.nil _ _ _) (Slc.nil _ _ _)) (by decide) (fun x hx => (l0_good x hx).cputs) a3_good.cputs).mono fun x w' ⟨v', h1, h2, h3⟩ => ⟨v', by rw [h1, w_putC], by rwa [w_put] at h2, h3⟩
theorem wa_put2 {w : World} {v : Value} (hr : EvsR w Any v [a1, a2]) : Calls Tryz.prog 13 #[v, .agg a4A] w fun x w' => ∃ v', x = .returned (.tuple #[v', .int .i64 13]) ∧ Below w.heap.size w w' :=
  a4A_eq ▸ (SPut_any hr (aCells_R w Any (e := a4) (vp := .slice none 0 0) (vq := .slice none 0 0) rfl (Slc.nil _ _ _) (Slc.nil _ _ _)) (by decide) (fun x hx => (l0_good x hx).cputs) a4_good.cputs).mono fun x w' ⟨v', h1, h2, h3⟩ => ⟨v', by rw [h1, w_putC2], h3⟩
theorem wa_get {w : World} {v : Value} (hr : EvsR w Any v [a1, a2]) : Calls Tryz.prog 15 #[v, .int .i64 5] w fun x w' => ∃ cs, x = .returned (.tuple #[.agg cs.toArray, .bool true]) ∧ EvR w' Any cs a2 ∧ Below w.heap.size w w' :=
  (SGet_any (id := 5) hr (by decide)).mono fun x w' ⟨cs, h1, h2, h3⟩ => ⟨cs, by rw [h1, w_get]; rfl, by rwa [w_get] at h2, h3⟩
theorem wa_get2 {w : World} {v : Value} (hr : EvsR w Any v [a1, a2]) : Calls Tryz.prog 15 #[v, .int .i64 4] w fun x w' => ∃ cs, x = .returned (.tuple #[.agg cs.toArray, .bool false]) ∧ EvR w' Any cs Ev.zero ∧ Below w.heap.size w w' :=
  (SGet_any (id := 4) hr (by decide)).mono fun x w' ⟨cs, h1, h2, h3⟩ => ⟨cs, by rw [h1, w_get2]; rfl, by rwa [w_get2] at h2, h3⟩
theorem wa_check (w : World) : Calls Tryz.prog 23 #[.slice none 0 0] w (Errs 0 w) := by
  have h := SCheck_any (l := []) (EvsR.nil w Any) (Nat.zero_le _) (fun e he => absurd he List.not_mem_nil)
  rw [w_check] at h
  exact h
theorem wa_same {w : World} {v : Value} (hr : EvsR w Any v [a1, a2]) : Calls Tryz.prog 14 #[v, v] w (Says true w) := by
  have h := SSame_any hr hr (by decide) (by decide) (fun e he => (l0_good e he).fitE) (fun e he => (l0_good e he).fitE)
  have e : decide ([a1, a2] = [a1, a2]) = true := decide_eq_true rfl
  rw [e] at h
  exact h
theorem wa_apart {w : World} {v u : Value} (hr : EvsR w Any v [a1, a2]) (hr2 : EvsR w Any u [a1, a3, a2]) : Calls Tryz.prog 14 #[v, u] w (Says false w) := by
  have h := SSame_any hr hr2 (by decide) (by decide) (fun e he => (l0_good e he).fitE) (fun e he => (x0_good e he).fitE)
  rw [w_same] at h
  exact h
set_option maxRecDepth 100000 in
set_option maxHeartbeats 4000000 in
theorem awake_any (w : World) : Calls Tryz.prog 12 #[] w (Says true w) := by
  have hz1 : (w.alloc (.cells #[.int .i64 1] 3)).heap.size = w.heap.size + 1 := by simp
  have k1 := ext_alloc (ext_refl w) (.cells #[.int .i64 1] 3)
  have k2 := ext_alloc (ext_refl (w.alloc (.cells #[.int .i64 1] 3))) (.cells #[.int .i64 1, .int .i64 2] 3)
  have l1 : Slc ((w.alloc (.cells #[.int .i64 1] 3)).alloc (.cells #[.int .i64 1, .int .i64 2] 3)) Any (.slice (some ⟨w.heap.size, 0, none⟩) 1 1) 1 1 (ivs [1]) := ((lit_slc w [1] 1 rfl (by decide)).ext k2).any
  have l2 : Slc ((w.alloc (.cells #[.int .i64 1] 3)).alloc (.cells #[.int .i64 1, .int .i64 2] 3)) Any (.slice (some ⟨(w.alloc (.cells #[.int .i64 1] 3)).heap.size, 0, none⟩) 2 2) 1 2 (ivs [1, 2]) := (lit_slc (w.alloc (.cells #[.int .i64 1] 3)) [1, 2] 2 rfl (by decide)).any
  rw [hz1] at l2
  have k12 := ext_trans k1 k2
  clear k1 k2
  go_enter Tryz.func12, Tryz.ntmps12
  go_upto_region 2 with (refine wpList_buildS2 rfl (.tmp 11) (.tmp 13) rfl Tryz.underlying22 strcE (by decide) (by decide) (aCells a1 (.slice (some ⟨w.heap.size, 0, none⟩) 1 1) (.slice none 0 0)).toArray (aCells a2 (.slice none 0 0) (.slice (some ⟨w.heap.size + 1, 0, none⟩) 2 2)).toArray rfl rfl rfl rfl ?_)
  have t1 := aCells_R _ Any (e := a1) rfl l1 (Slc.nil _ _ _)
  have t2 := aCells_R _ Any (e := a2) rfl (Slc.nil _ _ _) l2
  obtain ⟨c1, hc1⟩ : ∃ c, c = aCells a1 (.slice (some ⟨w.heap.size, 0, none⟩) 1 1) (.slice none 0 0) := ⟨_, rfl⟩
  obtain ⟨c2, hc2⟩ : ∃ c, c = aCells a2 (.slice none 0 0) (.slice (some ⟨w.heap.size + 1, 0, none⟩) 2 2) := ⟨_, rfl⟩
  rw [← hc1] at t1 ⊢
  rw [← hc2] at t2 ⊢
  have hz2 : ((w.alloc (.cells #[.int .i64 1] 3)).alloc (.cells #[.int .i64 1, .int .i64 2] 3)).heap.size = w.heap.size + 1 + 1 := by simp
  clear l1 l2 hc1 hc2 hz1
  generalize (w.alloc (.cells #[.int .i64 1] 3)).alloc (.cells #[.int .i64 1, .int .i64 2] 3) = W2 at t1 t2 k12 hz2 ⊢
  have k3 := ext_alloc (ext_refl W2) (.cells (c1 ++ c2).toArray 35)
  have E0 : EvsR (W2.alloc (.cells (c1 ++ c2).toArray 35)) Any (.slice (some ⟨W2.heap.size, 0, none⟩) 2 2) [a1, a2] := by
    refine ⟨[c1, c2], ⟨_, _, rfl, ?_, Nat.le_refl _, by decide, nofun, row_lit W2 _ _ 35 rfl (by simp), fun _ _ _ => trivial⟩, t1.ext k3, t2.ext k3, trivial⟩
    simp [t1.length, t2.length]
  have kb := ext_trans k12 k3
  generalize W2.alloc (.cells (c1 ++ c2).toArray 35) = W3 at E0 kb ⊢
  rw [hz2] at E0
  generalize w.heap.size + 1 + 1 = g0 at E0 ⊢
  clear k3 k12 t1 t2 hz2
  have P1 := wa_put E0
  unfold a3A at P1
  go_upto_region 3 with (go_at_call 13; refine P1.mono ?_; rintro x w4 ⟨vx, rfl, EX, hb4⟩)
  have P2 := wa_put2 (E0.ext hb4)
  unfold a4A at P2
  clear P1
  go_upto_region 4 with (go_at_call 13; refine P2.mono ?_; rintro x w5 ⟨vy, rfl, hb5⟩)
  have n5 := ext_trans hb4 hb5
  have G1 := wa_get (E0.ext n5)
  clear P2
  go_upto_region 5 with (first
    | (go_at_call 15; refine G1.mono ?_; rintro x w6 ⟨cg, rfl, RG, hb6⟩; have HLG := hide RG.length; have HOG := hide RG.one; clear G1)
    | refine wpList_newS rfl rfl strcE rfl (.tmp 6) (.tmp 30) rfl rfl rfl cg.toArray rfl (by simpa using HLG.out) (by simpa using HOG.out) ?_)
  have k7 := ext_alloc (ext_refl w6) (.cells cg.toArray 35)
  have r6 : (w6.alloc (.cells cg.toArray 35)).cell? ⟨w6.heap.size, 0, none⟩ = some (.int .i64 5) := box_at (heap_alloc_new w6 (.cells cg.toArray 35)) RG.gets.1
  have n7 := ext_trans (ext_trans n5 hb6) k7
  have m7 := ext_trans (ext_trans hb5 hb6) k7
  have hg6 : w6.heap.size < (w6.alloc (.cells cg.toArray 35)).heap.size := by simp
  clear k7 hb6 RG HLG HOG n5 hb5
  generalize w6.alloc (.cells cg.toArray 35) = w7 at r6 n7 m7 hg6 ⊢
  generalize w6.heap.size = g6 at r6 hg6 ⊢
  have G2 := wa_get2 (E0.ext n7)
  go_upto_region 6 with (first
    | (go_at_call 15; refine G2.mono ?_; rintro x w8 ⟨cg, rfl, RG, hb8⟩; have HLG := hide RG.length; have HOG := hide RG.one; clear G2)
    | refine wpList_newS rfl rfl strcE rfl (.tmp 8) (.tmp 35) rfl rfl rfl cg.toArray rfl (by simpa using HLG.out) (by simpa using HOG.out) ?_)
  have k9 := ext_trans hb8 (ext_alloc (ext_refl w8) (.cells cg.toArray 35))
  have R6 := hide (fun (W : World) (h : Below w7.heap.size w7 W) => (h.cell (p := ⟨g6, 0, none⟩) hg6).trans r6)
  clear hb8 RG HLG HOG r6
  generalize w8.alloc (.cells cg.toArray 35) = w9 at k9 ⊢
  have N := ext_trans n7 k9
  have M := ext_trans m7 k9
  have C1 : Calls Tryz.prog 27 #[vx] w9 (GivesZ [2, 3, 5] w9) := SIds_any (EX.ext M) (by decide)
  go_wp2_with (go_at_call 27; refine C1.mono ?_)
  rintro x w10 ⟨v10, rfl, o10, b10⟩
  have K := k9
  clear C1
  go_wp2_with (go_at_call 26; refine (same_lit (l := [2, 3, 5]) o10 (by decide)).mono ?_)
  rintro x w11 ⟨rfl, b11⟩
  have Z10 := ext_trans b10 (ext_trans (ext_alloc (ext_refl w10) (.cells (ivs [2, 3, 5]).toArray 3)) b11)
  replace N := ext_trans N Z10
  replace M := ext_trans M Z10
  replace K := ext_trans K Z10
  clear b10 b11 Z10 o10
  have A11 := ext_alloc (ext_refl w11) (.cells (ivs [5, 4, 4, 1]).toArray 3)
  have C2 : Calls Tryz.prog 29 #[.slice (some ⟨g0, 0, none⟩) 2 2, .slice (some ⟨w11.heap.size, 0, none⟩) 4 4] (w11.alloc (.cells (ivs [5, 4, 4, 1]).toArray 3)) (GivesZ [1, 4] (w11.alloc (.cells (ivs [5, 4, 4, 1]).toArray 3))) :=
    w_miss ▸ SMissing_any (ids := [5, 4, 4, 1]) (E0.ext (ext_trans N A11)) (by decide) (row_lit w11 _ _ 3 rfl rfl) (by decide) w_keys (fun e he => (l0_good e he).ok.1)
  replace N := ext_trans N A11
  replace M := ext_trans M A11
  replace K := ext_trans K A11
  clear A11
  go_wp2_with (go_at_call 29; refine C2.mono ?_)
  rintro x w12 ⟨v12, rfl, o12, b12⟩
  clear C2
  go_wp2_with (go_at_call 26; refine (same_lit (l := [1, 4]) o12 (by decide)).mono ?_)
  rintro x w13 ⟨rfl, b13⟩
  have Z12 := ext_trans b12 (ext_trans (ext_alloc (ext_refl w12) (.cells (ivs [1, 4]).toArray 3)) b13)
  replace N := ext_trans N Z12
  replace M := ext_trans M Z12
  replace K := ext_trans K Z12
  clear b12 b13 Z12 o12
  have C3 : Calls Tryz.prog 31 #[.slice (some ⟨g0, 0, none⟩) 2 2] w13 (GivesZ [1, 2] w13) := w_refs ▸ SRefs_any (E0.ext N) (by decide) (fun e he => good_refs (l0_good e he))
  go_wp2_with (go_at_call 31; refine C3.mono ?_)
  rintro x w14 ⟨v14, rfl, o14, b14⟩
  clear C3
  go_wp2_with (go_at_call 26; refine (same_lit (l := [1, 2]) o14 (by decide)).mono ?_)
  rintro x w15 ⟨rfl, b15⟩
  have Z14 := ext_trans b14 (ext_trans (ext_alloc (ext_refl w14) (.cells (ivs [1, 2]).toArray 3)) b15)
  replace N := ext_trans N Z14
  replace M := ext_trans M Z14
  replace K := ext_trans K Z14
  clear b14 b15 Z14 o14
  have A15 := ext_alloc (ext_refl w15) (.cells (ivs [5, 4, 2]).toArray 3)
  have C4 : Calls Tryz.prog 21 #[.slice (some ⟨g0, 0, none⟩) 2 2, .slice (some ⟨w15.heap.size, 0, none⟩) 3 3] (w15.alloc (.cells (ivs [5, 4, 2]).toArray 3)) (GivesO (fun b => Any b ∧ b < (w15.alloc (.cells (ivs [5, 4, 2]).toArray 3)).heap.size) [a2, a1] (w15.alloc (.cells (ivs [5, 4, 2]).toArray 3))) :=
    w_of ▸ SOf_any (ids := [5, 4, 2]) (E0.ext (ext_trans N A15)) (by decide) (row_lit w15 _ _ 3 rfl rfl) (by decide)
  go_wp2_with (go_at_call 21; refine C4.mono ?_)
  rintro x w16 ⟨v16, rfl, o16, b16⟩
  clear C4
  have C5 : Calls Tryz.prog 27 #[v16] w16 (GivesZ [5, 2] w16) := SIds_any o16.any (by decide)
  have Z16 := ext_trans A15 b16
  replace N := ext_trans N Z16
  replace M := ext_trans M Z16
  replace K := ext_trans K Z16
  clear A15 b16 Z16 o16
  go_wp2_with (go_at_call 27; refine C5.mono ?_)
  rintro x w17 ⟨v17, rfl, o17, b17⟩
  clear C5
  go_wp2_with (go_at_call 26; refine (same_lit (l := [5, 2]) o17 (by decide)).mono ?_)
  rintro x w18 ⟨rfl, b18⟩
  have Z17 := ext_trans b17 (ext_trans (ext_alloc (ext_refl w17) (.cells (ivs [5, 2]).toArray 3)) b18)
  replace N := ext_trans N Z17
  replace M := ext_trans M Z17
  replace K := ext_trans K Z17
  clear b17 b18 Z17 o17
  have r6 := R6.out _ K
  have C6 := wa_check w18
  go_wp2_with (go_at_call 23; refine C6.mono ?_)
  rintro x w19 ⟨rfl, b19⟩
  replace N := ext_trans N b19
  replace M := ext_trans M b19
  clear C6 b19 r6 K
  have C7 := wa_same (E0.ext N)
  go_wp2_with (go_at_call 14; refine C7.mono ?_)
  rintro x w20 ⟨rfl, b20⟩
  replace N := ext_trans N b20
  replace M := ext_trans M b20
  clear C7 b20
  have C8 := wa_apart (E0.ext N) (EX.ext M)
  go_wp2_with (go_at_call 14; refine C8.mono ?_)
  rintro x w21 ⟨rfl, b21⟩
  replace N := ext_trans N b21
  clear C8 b21
  go_wp2_with fail
  go_ret
  exact ⟨rfl, ext_trans kb N⟩
end
end
end Go.Proofs.YtmlnmcoophnlaaaGreat
