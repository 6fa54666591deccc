/-
  StoreOrders: the walk.
-/
import Derived.Test.YtmlnmcoophnlaaaGreatStW
import Derived.Test.YtmlnmcoophnlaaaGreatLift
set_option linter.unusedVariables false
set_option linter.unusedSimpArgs false
namespace Go.Proofs.YtmlnmcoophnlaaaGreat
open Go.RowKit
attribute [local go_sem] Addr.add_mid
def setE8 (l : List Ev) : List Ev := l.foldl (fun s e => insE e s) []
theorem setE8_snoc {l : List Ev} {k : Nat} (h : k < l.length) : setE8 (l.take (k + 1)) = insE l[k] (setE8 (l.take k)) := by
  unfold setE8; rw [List.take_succ_eq_append_getElem h, List.foldl_append]; rfl
theorem setF_mem {x : Ev} : ∀ {l s : List Ev}, x ∈ l.foldl (fun s e => insE e s) s → x ∈ s ∨ x ∈ l
  | [], s, h => .inl h
  | e :: l, s, h => by
    rw [List.foldl_cons] at h
    rcases setF_mem h with h | h
    · rcases insE_mem h with h | h
      · exact .inr (by rw [h]; simp)
      · exact .inl h
    · exact .inr (List.mem_cons_of_mem _ h)
theorem setE8_mem {x : Ev} {l : List Ev} (h : x ∈ setE8 l) : x ∈ l := by
  rcases setF_mem h with h | h
  · cases h
  · exact h
theorem setF_rise : ∀ {l s : List Ev}, Rise (idsE s) → Rise (idsE (l.foldl (fun s e => insE e s) s))
  | [], s, h => h
  | e :: l, s, h => by rw [List.foldl_cons]; exact setF_rise (insE_rise h)
theorem setE8_rise (l : List Ev) : Rise (idsE (setE8 l)) := setF_rise (s := []) (by simp [idsE, Rise])
theorem setF_len : ∀ {l s : List Ev}, (l.foldl (fun s e => insE e s) s).length ≤ s.length + l.length
  | [], s => by simp
  | e :: l, s => by
    rw [List.foldl_cons]
    have h := setF_len (l := l) (s := insE e s)
    have := (insE_le e s).2
    simp only [List.length_cons]
    omega
theorem setE8_len (l : List Ev) : (setE8 l).length ≤ l.length := by have := setF_len (l := l) (s := []); unfold setE8; simpa using this
theorem put_good {s : List Ev} {e : Ev} {w : World} {v : Value} {cs : List Value} (hr : EvsR w Any v s) (he : EvR w Any cs e) (hl : s.length < 2000) (hg : ∀ x ∈ s, x.good) (hge : e.good) (hrise : Rise (idsE s)) (hroom : ∀ x ∈ s, x.room = e.room) :
    Calls Tryz.prog 13 #[v, .agg cs.toArray] w (fun x w' => ∃ v', x = .returned (.tuple #[v', .int .i64 0]) ∧ EvsR w' Any v' (insE e s) ∧ Below w.heap.size w w') :=
  (SPut_any hr he hl (fun x hx => (hg x hx).cputs) hge.cputs).mono fun x w' ⟨v', h1, h2, h3⟩ => ⟨v', by rw [h1, put_on (offB_none hroom)], by rwa [putE_ins hrise (offB_none hroom)] at h2, h3⟩
theorem ssame_true {w : World} {v u : Value} {l : List Ev} {S S2 : Nat → Prop} (hr : EvsR w S v l) (hr2 : EvsR w S2 u l) (hl : l.length ≤ 1000000) (hg : ∀ e ∈ l, e.fit) : Calls Tryz.prog 14 #[v, u] w (Says true w) := by
  have h := SSame_any hr hr2 hl hl hg hg
  have e : decide (l = l) = true := decide_eq_true rfl
  rw [e] at h
  exact h
set_option maxRecDepth 100000 in
set_option maxHeartbeats 8000000 in
theorem orders_any {v : Value} {l : List Ev} {cs ds : List Value} {a b : Ev} {w : World} (hr : EvsR w Any v l) (ho : ∀ e ∈ l, e.ok) (ha : EvR w Any cs a) (hoa : a.ok) (hb : EvR w Any ds b) (hob : b.ok) : Calls Tryz.prog 3 #[v, .agg cs.toArray, .agg ds.toArray] w (Says true w) := by
  have B4 := heap_alloc2_old w (.cells cs.toArray 35) (.cells ds.toArray 35)
  have B5 := heap_alloc2_new w (.cells cs.toArray 35) (.cells ds.toArray 35)
  have hb0 := below_two w (.cells cs.toArray 35) (.cells ds.toArray 35)
  have CG := hide (fun (W : World) (h : Below w.heap.size w W) => (show Calls Tryz.prog 10 #[v, .int .i64 20] W (GreatV l 20 W) from R8Great_any (n := 20) (hr.ext h) (by decide)))
  have HO := hide ho; have HOA := hide hoa; have HOB := hide hob
  have HR := hide hr; have HA := hide ha; have HB := hide hb
  have HL := hide ha.length; have HM := hide hb.length
  have qa0 := ha.gets.1; have qa1 := ha.gets.2.1
  have qb0 := hb.gets.1; have qb1 := hb.gets.2.1
  obtain ⟨A, c, css, rfl, _, _, _, hrow, ht⟩ := hr.form
  clear hr ho ha hoa hb hob
  go_enter Tryz.func3, Tryz.ntmps3
  go_upto_region 1 with fail
  generalize (w.alloc (.cells cs.toArray 35)).alloc (.cells ds.toArray 35) = W0 at hb0 B4 B5 ⊢
  obtain ⟨g4, hg4⟩ : ∃ g, g = w.heap.size := ⟨_, rfl⟩
  obtain ⟨g5, hg5⟩ : ∃ g, g = w.heap.size + 1 := ⟨_, rfl⟩
  rw [← hg4] at B4
  rw [← hg5] at B5 ⊢
  rw [← hg4] at ⊢
  clear hg4 hg5
  go_wp2_with (go_at_call 10; refine (CG.out _ hb0).mono ?_)
  rintro x w1 ⟨b1, rfl, hsh, hb1⟩
  have N1 := ext_trans hb0 hb1
  have HB4 := hide (box_below B4 hb1); have HB5 := hide (box_below B5 hb1)
  clear CG B4 B5 hb0 hb1
  cases b1 with
  | true =>
    go_wp2_with (go_at_call 12; refine (awake_any _).mono ?_; rintro e wl ⟨rfl, hbl⟩)
    go_ret
    exact ⟨rfl, ext_trans N1 hbl⟩
  | false =>
    obtain ⟨hl20, hshort⟩ := hsh rfl
    have HG := hide (fun e he => (hshort e he).good (HO.out e he))
    clear hsh hshort
    have CL := R8Long_any (HA.out.ext N1)
    go_wp2_with (first
      | refine wpList_loadS rfl (.tmp 4) rfl strcE ⟨g4, 0, none⟩ rfl cs HL.out (box_all HB4.out) ?_
      | (go_at_call 11; refine CL.mono ?_))
    rintro x w2 ⟨b2, rfl, hsh, hb2⟩
    have N2 := ext_trans N1 hb2
    replace HB4 := hide (box_below HB4.out hb2); replace HB5 := hide (box_below HB5.out hb2)
    clear CL hb2 N1
    cases b2 with
    | true =>
      go_wp2_with (go_at_call 12; refine (awake_any _).mono ?_; rintro e wl ⟨rfl, hbl⟩)
      go_ret
      exact ⟨rfl, ext_trans N2 hbl⟩
    | false =>
      have HGA := hide ((hsh rfl).good HOA.out)
      clear hsh
      have CL := R8Long_any (HB.out.ext N2)
      go_wp2_with (first
        | refine wpList_loadS rfl (.tmp 5) rfl strcE ⟨g5, 0, none⟩ rfl ds HM.out (box_all HB5.out) ?_
        | (go_at_call 11; refine CL.mono ?_))
      rintro x w3 ⟨b3, rfl, hsh, hb3⟩
      have N3 := ext_trans N2 hb3
      replace HB4 := hide (box_below HB4.out hb3); replace HB5 := hide (box_below HB5.out hb3)
      clear CL hb3 N2
      have za0 := box_at HB4.out qa0; have za1 := box_at HB4.out qa1
      have zb0 := box_at HB5.out qb0; have zb1 := box_at HB5.out qb1
      cases b3 with
      | true =>
        go_wp2_with (go_at_call 12; refine (awake_any _).mono ?_; rintro e wl ⟨rfl, hbl⟩)
        go_ret
        exact ⟨rfl, ext_trans N3 hbl⟩
      | false =>
        have HGB := hide ((hsh rfl).good HOB.out)
        clear hsh
        by_cases hid : a.id = b.id
        · have t1 : (a.id == b.id) = true := by simpa using hid
          clear hid
          go_wp2_with (go_at_call 12; refine (awake_any _).mono ?_; rintro e wl ⟨rfl, hbl⟩)
          go_ret
          exact ⟨rfl, ext_trans N3 hbl⟩
        · have t1 : (a.id == b.id) = false := by simpa using hid
          by_cases hrm : a.room = b.room
          · have t2 : (a.room.toList == b.room.toList) = true := str_yes hrm
            have HID := hide hid; have HRM := hide hrm
            clear hid hrm
            go_wp2_with fail
            clear za0 za1 zb0 zb1 t1 t2
            go_loopw [7, 8] (fun u i wr => ∃ k : Nat, k ≤ l.length ∧ i = .int .i64 (k : Int) ∧ Hid (∀ x ∈ l.take k, x.room = a.room) ∧ EvsR wr Any u (setE8 (l.take k)) ∧ Below w.heap.size w wr ∧ Below w3.heap.size w3 wr) (fun _ i _ => l.length - (intOf i).toNat)
            case atStart => exact ⟨0, Nat.zero_le _, rfl, by simp [Hid], EvsR.nil _ _, N3, ext_refl _⟩
            case round =>
            clear N3
            obtain ⟨k, hk, rfl, HT, RS, N, K⟩ := hrel
            have BR4 := hide (box_below HB4.out K); have BR5 := hide (box_below HB5.out K)
            have hsl := setE8_len (l.take k)
            have HSG := hide (fun x (hx : x ∈ setE8 (l.take k)) => HG.out x (List.mem_of_mem_take (setE8_mem hx)))
            have HSR := hide (fun x (hx : x ∈ setE8 (l.take k)) => HT.out x (setE8_mem hx))
            have HSI := hide (setE8_rise (l.take k))
            rw [List.length_take] at hsl
            by_cases hlt : k < l.length
            · obtain ⟨bb, oo, ce, rfl, hbb, he1, _, hc1⟩ := evs_at (hrow.ext N) (ht.imp fun _ _ h => h.ext N) k hlt
              have z1 := hc1 1 _ he1.gets.2.1
              have za1 := box_at BR4.out qa1
              have HC := hide hc1
              have HLE := hide he1.length
              have HST := hide (setE8_snoc hlt)
              have HGX := hide (HG.out _ (List.getElem_mem hlt))
              have HY := hide (fun h : l[k].room = a.room => on_step HT.out hlt h)
              obtain ⟨x, hx⟩ : ∃ x, x = l[k] := ⟨_, rfl⟩
              rw [← hx] at z1 he1 HST HGX HY
              have HE1 := hide he1
              have HRS := hide RS
              clear hc1 hx he1
              obtain ⟨S, hS⟩ : ∃ S, S = setE8 (l.take k) := ⟨_, rfl⟩
              rw [← hS] at HRS HSG HSR HSI HST hsl
              clear hS RS
              by_cases hq : x.room = a.room
              · have t1 : (x.room.toList == a.room.toList) = true := str_yes hq
                have HRO := hide (HY.out hq)
                have HXR := hide hq
                clear hq HY
                go_wp2_with fail
                go_quiet (fail)
                have hq2 := below_drewN (ext_refl wr) nq
                have CP := put_good (HRS.out.ext hq2) (HE1.out.ext hq2).any (by omega) HSG.out HGX.out HSI.out (fun y hy => (HSR.out y hy).trans HXR.out.symm)
                have HC2 := hide (range_below HC.out hq2)
                have Nq := ext_trans N hq2
                have Kq := ext_trans K hq2
                clear hq2 z1 za1 HC HE1 HRS N K
                generalize wr.drewN nq = w6 at CP HC2 Nq Kq ⊢
                go_wp2_with (first
                  | refine wpList_loadS rfl (.tmp 63) rfl strcE ⟨bb, oo + k * 29, none⟩ rfl ce HLE.out (cells_range HC2.out) ?_
                  | (go_at_call 13; refine CP.mono ?_; rintro y w7 ⟨v7, rfl, R7, hb7⟩))
                have N7 := ext_trans Nq hb7
                have K7 := ext_trans Kq hb7
                rw [← HST.out] at R7
                go_roundw
                case rel => exact ⟨k + 1, by omega, by go_num, HRO.out, R7, N7, K7⟩
                case measure => (simp [intOf]; try omega)
              · have t1 : (x.room.toList == a.room.toList) = false := str_ne hq
                clear hq HY
                go_wp2_with fail
                go_quiet (fail)
                have Nq := ext_trans N (below_drewN (ext_refl wr) nq)
                go_wp2_with (go_at_call 12; refine (awake_any _).mono ?_; rintro e wl ⟨rfl, hbl⟩)
                go_ret
                exact ⟨rfl, ext_trans Nq hbl⟩
            · obtain rfl : k = l.length := by omega
              have hsl2 : (setE8 (l.take l.length)).length ≤ 20 := by omega
              obtain ⟨S, hS⟩ : ∃ S, S = setE8 (l.take l.length) := ⟨_, rfl⟩
              rw [← hS] at RS HSG HSR HSI hsl2
              clear hS hsl HT
              have H1 := hide (insE_le a S); have H2 := hide (insE_le b S); have H3 := hide (insE_le b (insE a S))
              have HCM := hide (insE_comm HID.out S)
              have GA := hide (fun x (hx : x ∈ insE a S) => show x.good by
                rcases insE_mem hx with rfl | h
                · exact HGA.out
                · exact HSG.out x h)
              have GB := hide (fun x (hx : x ∈ insE b S) => show x.good by
                rcases insE_mem hx with rfl | h
                · exact HGB.out
                · exact HSG.out x h)
              have GP := hide (fun x (hx : x ∈ insE b (insE a S)) => show x.fit by
                rcases insE_mem hx with rfl | h
                · exact HGB.out.fitE
                · exact (GA.out x h).fitE)
              have RA := hide (fun x (hx : x ∈ insE a S) => show x.room = a.room by
                rcases insE_mem hx with rfl | h
                · rfl
                · exact HSR.out x h)
              have RB := hide (fun x (hx : x ∈ insE b S) => show x.room = a.room by
                rcases insE_mem hx with rfl | h
                · exact HRM.out.symm
                · exact HSR.out x h)
              have IA := hide (insE_rise (e := a) HSI.out); have IB := hide (insE_rise (e := b) HSI.out)
              have hS7 := RS.form
              obtain ⟨As, c7, _, rfl, _⟩ := hS7
              have P1 := put_good RS (HA.out.ext N).any (by omega) HSG.out HGA.out HSI.out HSR.out
              go_upto_region 14 with (first
                | refine wpList_loadS rfl (.tmp 4) rfl strcE ⟨g4, 0, none⟩ rfl cs HL.out (box_all BR4.out) ?_
                | (go_at_call 13; refine P1.mono ?_; rintro y w7 ⟨vx, rfl, RX, hb7⟩))
              have N7 := ext_trans N hb7
              replace BR4 := hide (box_below BR4.out hb7); replace BR5 := hide (box_below BR5.out hb7)
              have RS7 := RS.ext hb7
              have P2 := put_good RS7 (HB.out.ext N7).any (by omega) HSG.out HGB.out HSI.out (fun x hx => (HSR.out x hx).trans HRM.out)
              clear P1 hb7 N RS
              go_upto_region 15 with (first
                | refine wpList_loadS rfl (.tmp 5) rfl strcE ⟨g5, 0, none⟩ rfl ds HM.out (box_all BR5.out) ?_
                | (go_at_call 13; refine P2.mono ?_; rintro y w8 ⟨vy, rfl, RY, hb8⟩))
              have N8 := ext_trans N7 hb8
              replace BR4 := hide (box_below BR4.out hb8); replace BR5 := hide (box_below BR5.out hb8)
              have RX8 := RX.ext hb8
              have h1 := H1.out.2; have h2 := H2.out.2; have h3 := H3.out; have h1' := H1.out.1
              have P3 := put_good RX8 (HB.out.ext N8).any (by omega) GA.out HGB.out IA.out (fun x hx => (RA.out x hx).trans HRM.out)
              clear P2 hb8 N7 RX RS7
              go_upto_region 16 with (first
                | refine wpList_loadS rfl (.tmp 5) rfl strcE ⟨g5, 0, none⟩ rfl ds HM.out (box_all BR5.out) ?_
                | (go_at_call 13; refine P3.mono ?_; rintro y w9 ⟨vp, rfl, RP, hb9⟩))
              have N9 := ext_trans N8 hb9
              replace BR4 := hide (box_below BR4.out hb9)
              have RY9 := RY.ext hb9
              have P4 := put_good RY9 (HA.out.ext N9).any (by omega) GB.out HGA.out IB.out RB.out
              clear P3 hb9 N8 RY RX8 BR5
              go_upto_region 17 with (first
                | refine wpList_loadS rfl (.tmp 4) rfl strcE ⟨g4, 0, none⟩ rfl cs HL.out (box_all BR4.out) ?_
                | (go_at_call 13; refine P4.mono ?_; rintro y w10 ⟨vq, rfl, RQ, hb10⟩))
              have N10 := ext_trans N9 hb10
              have RP10 := RP.ext hb10
              rw [← HCM.out] at RQ
              have CS := ssame_true RP10 RQ (by omega) GP.out
              obtain ⟨Ap, cp, _, rfl, _⟩ := RP10.form
              have hge : decide ((S.length : Int) ≤ ((insE b (insE a S)).length : Int)) = true := decide_eq_true (by omega)
              have hge2 : S.length ≤ (insE b (insE a S)).length := by omega
              clear P4 hb10 N9 RP RP10 RQ RY9 h1 h2 h3 h1'
              go_wp2_with (first
                | (go_at_call 14; refine CS.mono ?_; rintro y w11 ⟨rfl, hb11⟩; have N11 := ext_trans N10 hb11)
                | (go_at_call 12; refine (awake_any _).mono ?_; rintro e wl ⟨rfl, hbl⟩))
              go_ret
              exact ⟨rfl, ext_trans N11 hbl⟩
          · have t2 : (a.room.toList == b.room.toList) = false := str_ne hrm
            clear hrm
            go_wp2_with (go_at_call 12; refine (awake_any _).mono ?_; rintro e wl ⟨rfl, hbl⟩)
            go_ret
            exact ⟨rfl, ext_trans N3 hbl⟩
end Go.Proofs.YtmlnmcoophnlaaaGreat
