/-
  bridge.Check.
-/
import Derived.Test.YtimdcnickfaddaaGhE
set_option linter.unusedVariables false
set_option linter.unusedSimpArgs false
namespace Go.Proofs.Ytimdcnickfaddaa
open Go.RowKit Go.Maps
open Classical
section
attribute [local go_sem] Addr.add_mid
def prevG (l : List Gh) (k : Nat) : Option Gh := if k = 0 then none else l[k - 1]?
/-- the error is what the rest says -/
def CK (l : List Gh) (k : Nat) : Prop := checkE none l = checkE (prevG l k) (l.drop k)
theorem CK.start (l : List Gh) : CK l 0 := rfl
theorem CK.fin {l : List Gh} (h : CK l l.length) : checkE none l = 0 := by
  unfold CK at h
  rw [List.drop_length] at h
  exact h
theorem ck_at {l : List Gh} {k : Nat} (h : CK l k) (hk : k < l.length) : checkE none l = if backE l[k].user.data.toList ≠ 0 then backE l[k].user.data.toList else if ¬ l[k].true then 6 else if ∃ p, prevG l k = some p ∧ idLt p.id l[k].id = false then 8 else checkE (some l[k]) (l.drop (k + 1)) := by
  unfold CK at h
  rw [h, List.drop_eq_getElem_cons hk, ← bt]
  rfl
theorem CK.err {l : List Gh} {k : Nat} {e : Int} (h : CK l k) (hk : k < l.length) (he : backE l[k].user.data.toList = e) (h0 : e ≠ 0) : checkE none l = e := by rw [ck_at h hk, he, if_pos h0]
theorem CK.wrong {l : List Gh} {k : Nat} (h : CK l k) (hk : k < l.length) (he : backE l[k].user.data.toList = 0) (ht : ¬ l[k].true) : checkE none l = 6 := by rw [ck_at h hk, he, if_neg (by simp), if_pos ht]
theorem CK.order {l : List Gh} {j : Nat} (h : CK l (j + 1)) (hk : j + 1 < l.length) (he : backE l[j + 1].user.data.toList = 0) (ht : l[j + 1].true) (hl : idLt l[j].id l[j + 1].id = false) : checkE none l = 8 := by
  rw [ck_at h hk, he, if_neg (by simp), if_neg (not_not_intro ht), if_pos]
  refine ⟨l[j], ?_, hl⟩
  unfold prevG
  rw [if_neg (by omega)]
  exact List.getElem?_eq_getElem _
theorem CK.first {l : List Gh} (h : CK l 0) (hk : 0 < l.length) (he : backE l[0].user.data.toList = 0) (ht : l[0].true) : CK l (0 + 1) := by
  unfold CK
  rw [ck_at h hk, he, if_neg (by simp), if_neg (not_not_intro ht), if_neg]
  · unfold prevG; rw [if_neg (by omega)]; simp [List.getElem?_eq_getElem hk]
  · rintro ⟨p, hp, _⟩; cases hp
theorem CK.next {l : List Gh} {j : Nat} (h : CK l (j + 1)) (hk : j + 1 < l.length) (he : backE l[j + 1].user.data.toList = 0) (ht : l[j + 1].true) (hl : idLt l[j].id l[j + 1].id = true) : CK l (j + 1 + 1) := by
  unfold CK
  rw [ck_at h hk, he, if_neg (by simp), if_neg (not_not_intro ht), if_neg]
  · unfold prevG; rw [if_neg (by omega)]; simp [hk]
  · rintro ⟨p, hp, hlt⟩
    unfold prevG at hp
    rw [if_neg (by omega)] at hp
    have : (j + 1 - 1) = j := by omega
    rw [this, List.getElem?_eq_getElem (by omega)] at hp
    injection hp with hp
    rw [← hp, hl] at hlt; cases hlt
/-- what Check answers -/
noncomputable def gCheck (l : List Gh) : Int := if 200 < l.length then 29 else checkE none l
theorem back_zero {u : ByteArray} {a b : List UInt8} (h : Back u.data.toList a b) : backE u.data.toList = 0 := backE_zero.2 ⟨a, b, h⟩
theorem true_iff {g : Gh} {a b : List UInt8} (h : Back g.user.data.toList a b) : g.true ↔ (str a = g.net ∧ str b = g.name) := by
  unfold Gh.true
  rw [bt, bt, bt]
  constructor
  · intro ht
    obtain ⟨h1, h2⟩ := h.unique ht
    rw [h1, h2]; exact ⟨rfl, rfl⟩
  · rintro ⟨h1, h2⟩
    rw [← h1, ← h2, str_data, str_data]; exact h
theorem backE_none {u : ByteArray} (h : splitL [64] u.data.toList = none) : backE u.data.toList = 3 := by
  unfold backE
  rw [if_neg]
  rintro ⟨a, b, hp⟩
  rw [user_parts.2 hp] at h; cases h
theorem backE_six {u : ByteArray} {p : List UInt8 × List UInt8} (h : splitL [64] u.data.toList = some p) (hn : ¬ ∃ a b, Back u.data.toList a b) : backE u.data.toList = 6 := by
  unfold backE
  rw [if_pos ⟨_, _, user_parts.1 h⟩, if_neg hn]
theorem wrap_j (j : Nat) (h : j ≤ 1000) : IntKind.i64.wrap (j : Int) = (j : Int) := by
  simp [IntKind.wrap, IntKind.bits, IntKind.signed]; omega
theorem gc_arr (g : Gh) : (gc g).toArray = #[.string g.net, .string g.name, .string g.user] := rfl
theorem idOf_id (g : Gh) : idOf g.net g.name = g.id := rfl
set_option maxRecDepth 100000 in
set_option maxHeartbeats 1000000 in
theorem br_Check (A : Option Addr) (c : Nat) (l : List Gh) (w : World) (hr : Row w w.heap.size A (ghs l)) (hl : l.length ≤ 1000) (hs : SmallG 1000 l) :
    Calls Try.prog 20 #[.slice A l.length c] w (fun e w' => e = .returned (.int .i64 (gCheck l)) ∧ Below w.heap.size w w') := by
  by_cases h200 : 200 < l.length
  · have HV := hide (show gCheck l = 29 from if_pos h200)
    go_enter Try.func20, Try.ntmps20
    go_wp2_with fail
    go_ret
    exact ⟨by rw [HV.out]; rfl, ext_refl _⟩
  have HV := hide (show gCheck l = checkE none l from if_neg h200)
  have HS := hide hs
  clear hs
  go_enter Try.func20, Try.ntmps20
  go_wp2_with fail
  go_loopw [13] (fun i wr => ∃ k : Nat, k ≤ l.length ∧ i = .int .i64 (k : Int) ∧ Hid (CK l k) ∧ Below w.heap.size w wr) (fun i _ => l.length - (intOf i).toNat)
  case atStart => exact ⟨0, Nat.zero_le _, rfl, CK.start l, ext_refl w⟩
  case round =>
  obtain ⟨k, hk, rfl, HK, hbel⟩ := hrel
  by_cases hlt : k < l.length
  · obtain ⟨b, o, rfl, hb, hc⟩ := gh_cells hr hlt
    have hcr := hc.ext hbel hb
    obtain ⟨g, hg⟩ : ∃ g, g = l[k] := ⟨_, rfl⟩
    have HG := hide hg
    rw [← hg] at hcr
    have hsu : g.user.size ≤ 1000 := by rw [hg]; exact (HS.out _ (List.getElem_mem hlt)).2.2
    clear hc hg
    go_upto_region 6 with (refine wpList_loadS rfl (.tmp 16) rfl strcG ⟨b, o + k * 3, none⟩ rfl [.string g.net, .string g.name, .string g.user] rfl hcr ?_)
    change Code.wp _ _ _ _ (wr.alloc (.cells (gc g).toArray 68))
    have B := heap_alloc_new wr (.cells (gc g).toArray 68)
    have hbX := ext_alloc hbel (.cells (gc g).toArray 68)
    generalize wr.alloc (.cells (gc g).toArray 68) = X at B hbX ⊢
    obtain ⟨g4, hg4⟩ : ∃ g4, wr.heap.size = g4 := ⟨_, rfl⟩
    rw [hg4] at B ⊢
    clear hg4 hcr hbel
    have r2 : X.cell? ⟨g4, 2, none⟩ = some (.string g.user) := box_at B rfl
    have CU := fun W => ids_User g.user W (by omega)
    have CB := fun W => br_Back g.user W hsu
    cases hsp : splitL [64] g.user.data.toList with
    | none =>
      simp only [hsp, errN, Option.isSome_none, Bool.false_eq_true, if_false] at CU
      have HE := hide (HK.out.err (e := 3) hlt (by rw [← HG.out]; exact backE_none hsp) (by decide))
      clear hsp
      go_wp2_with (go_at_call 35; refine (CU _).mono ?_; rintro e w2 ⟨rfl, hb2⟩)
      go_ret
      exact ⟨by rw [HV.out, HE.out]; rfl, ext_trans hbX hb2⟩
    | some p =>
      simp only [hsp, errN, Option.isSome_some, if_true] at CU
      by_cases hbk : ∃ a b, Back g.user.data.toList a b
      · obtain ⟨na, nb, hbk⟩ := hbk
        simp only [backV_ok hbk] at CB
        have hz : backE l[k].user.data.toList = 0 := by rw [← HG.out]; exact back_zero hbk
        have hti : l[k].true ↔ (str na = g.net ∧ str nb = g.name) := by rw [← HG.out]; exact true_iff hbk
        have HZ := hide hz
        have HTI := hide hti
        clear hsp hbk hz hti
        by_cases e1 : str na = g.net
        · by_cases e2 : str nb = g.name
          · have HTR := hide (HTI.out.2 ⟨e1, e2⟩)
            rw [e1, e2] at CB
            clear e1 e2
            go_wp2_with (first | (go_at_call 35; refine (CU _).mono ?_; rintro e w2 ⟨rfl, hb2⟩; have B2 := box_below B hb2; have q2 : w2.cell? ⟨g4, 2, none⟩ = some (.string g.user) := box_at B2 rfl) | (go_at_call 14; refine (CB _).mono ?_; rintro e w3 ⟨rfl, hb3⟩; have B3 := box_below B2 hb3; have p0 : w3.cell? ⟨g4, 0, none⟩ = some (.string g.net) := box_at B3 rfl; have p1 : w3.cell? ⟨g4, 1, none⟩ = some (.string g.name) := box_at B3 rfl))
            have hb4 := ext_trans (ext_trans hbX hb2) hb3
            clear r2 q2 p0 p1 B B2 hbX hb2 hb3 CU CB
            rcases Nat.eq_zero_or_pos k with rfl | hpos
            · have hk00 : ((0 : Nat) : Int) = 0 := rfl
              have HN := hide (HK.out.first hlt HZ.out HTR.out)
              refine wp_region_phase (fun _ => True) [] (by kernel_rfl) ?_
              have hb5 : Below _ _ { w3 with drawn := w3.drawn + 1 } := ext_drew hb4
              generalize ({ w3 with drawn := w3.drawn + 1 } : World) = Y at hb5 ⊢
              clear hb4 B3
              refine wpAnyP_take (i := 0) rfl (by kernel_rfl) (by kernel_rfl) (by kernel_rfl) (by kernel_rfl) (fun _ _ _ h => h) (yieldsIf_run (.int .i64 0) rfl (fun w' => by go_simp)) trivial ?_
              go_simp
              refine wpAnyP_take (i := 1) rfl (by kernel_rfl) (by kernel_rfl) (by kernel_rfl) (by kernel_rfl) (fun _ _ _ h => h) (yieldsIf_run (.bool false) rfl (fun w' => by go_simp)) trivial ?_
              go_simp
              refine wpAnyP_take (i := 2) rfl (by kernel_rfl) (by kernel_rfl) (by kernel_rfl) (by kernel_rfl) (fun _ _ _ h => h) (yieldsIf_run (.bool false) rfl (fun w' => by go_simp)) trivial ?_
              go_simp
              refine wpAnyP_take (i := 3) (v := undef) rfl (by kernel_rfl) (by kernel_rfl) (by kernel_rfl) (by kernel_rfl) (fun _ _ _ h => h) (.inr ⟨rfl, rfl⟩) trivial ?_
              refine wpAnyP_take (i := 4) (v := undef) rfl (by kernel_rfl) (by kernel_rfl) (by kernel_rfl) (by kernel_rfl) (fun _ _ _ h => h) (.inr ⟨rfl, rfl⟩) trivial ?_
              refine wpAnyP_take (i := 5) (v := undef) rfl (by kernel_rfl) (by kernel_rfl) (by kernel_rfl) (by kernel_rfl) (fun _ _ _ h => h) (.inr ⟨rfl, rfl⟩) trivial ?_
              go_simp
              refine wpAnyP_take (i := 6) (v := undef) rfl (by kernel_rfl) (by kernel_rfl) (by kernel_rfl) (by kernel_rfl) (fun _ _ _ h => h) (.inr ⟨rfl, rfl⟩) trivial ?_
              refine wpAnyP_take (i := 7) (v := undef) rfl (by kernel_rfl) (by kernel_rfl) (by kernel_rfl) (by kernel_rfl) (fun _ _ _ h => h) (.inr ⟨rfl, rfl⟩) trivial ?_
              refine wpAnyP_take (i := 8) (v := undef) rfl (by kernel_rfl) (by kernel_rfl) (by kernel_rfl) (by kernel_rfl) (fun _ _ _ h => h) (.inr ⟨rfl, rfl⟩) trivial ?_
              go_simp
              refine wpAnyP_take (i := 9) (v := undef) rfl (by kernel_rfl) (by kernel_rfl) (by kernel_rfl) (by kernel_rfl) (fun _ _ _ h => h) (.inr ⟨rfl, rfl⟩) trivial ?_
              refine wpAnyP_take (i := 10) (v := undef) rfl (by kernel_rfl) (by kernel_rfl) (by kernel_rfl) (by kernel_rfl) (fun _ _ _ h => h) (.inr ⟨rfl, rfl⟩) trivial ?_
              refine wpAnyP_take (i := 11) (v := undef) rfl (by kernel_rfl) (by kernel_rfl) (by kernel_rfl) (by kernel_rfl) (fun _ _ _ h => h) (.inr ⟨rfl, rfl⟩) trivial ?_
              go_simp
              refine wpAnyP_take (i := 12) (v := undef) rfl (by kernel_rfl) (by kernel_rfl) (by kernel_rfl) (by kernel_rfl) (fun _ _ _ h => h) (.inr ⟨rfl, rfl⟩) trivial ?_
              go_simp
              refine wpAnyP_take (i := 13) rfl (by kernel_rfl) (by kernel_rfl) (by kernel_rfl) (by kernel_rfl) (fun _ _ _ h => h) (yieldsIf_run (.bool false) rfl (fun w' => by go_simp)) trivial ?_
              refine wpAnyP_done (by kernel_rfl) ?_
              go_simp
              go_wp2_with fail
              go_roundw
              case rel => exact ⟨0 + 1, by omega, by go_num, HN.out, hb5⟩
              case measure => (simp [intOf]; try omega)
            · obtain ⟨j, rfl⟩ : ∃ j, k = j + 1 := ⟨k - 1, by omega⟩
              have hj : j < l.length := by omega
              obtain ⟨b', o', hA, hb', hc'⟩ := gh_cells hr hj
              injection hA with hA
              injection hA with hA1 hA2
              subst hA1 hA2
              obtain ⟨ok, hok⟩ : ∃ ok, idLt l[j].id l[j + 1].id = ok := ⟨_, rfl⟩
              have CA := fun W => br_ahead l[j].net l[j].name g.net g.name W
              have hok' : idLt l[j].id g.id = ok := by rw [HG.out]; exact hok
              simp only [idOf_id, hok'] at CA
              clear hok'
              have HOK := hide hok
              clear hok
              refine wp_region_phase (fun w' => CellsAt w' ⟨b, o + j * 3, none⟩ (gc l[j]) ∧ w'.heap[g4]? = some (.cells (gc g).toArray 68 (0, 0))) [] (by kernel_rfl) ?_
              have hb5 : Below _ _ { w3 with drawn := w3.drawn + 1 } := ext_drew hb4
              have T1 : CellsAt { w3 with drawn := w3.drawn + 1 } ⟨b, o + j * 3, none⟩ (gc l[j]) := hc'.ext hb5 hb
              have B5 : ({ w3 with drawn := w3.drawn + 1 } : World).heap[g4]? = some (.cells (gc g).toArray 68 (0, 0)) := B3
              generalize ({ w3 with drawn := w3.drawn + 1 } : World) = Y at hb5 T1 B5 ⊢
              clear hb4 B3 hc'
              refine wpAnyP_take (i := 0) rfl (by kernel_rfl) (by kernel_rfl) (by kernel_rfl) (by kernel_rfl) (fun _ _ _ h => h) (yieldsIf_run (.int .i64 ((j : Int) + 1)) rfl (fun w' => by go_simp)) ⟨T1, B5⟩ ?_
              go_simp
              refine wpAnyP_take (i := 1) rfl (by kernel_rfl) (by kernel_rfl) (by kernel_rfl) (by kernel_rfl) (fun _ _ _ h => h) (yieldsIf_run (.bool true) rfl (fun w' => by go_simp)) ⟨T1, B5⟩ ?_
              go_simp
              refine wpAnyP_take (i := 2) rfl (by kernel_rfl) (by kernel_rfl) (by kernel_rfl) (by kernel_rfl) (fun _ _ _ h => h) (yieldsIf_run (.bool true) rfl (fun w' => by go_simp)) ⟨T1, B5⟩ ?_
              go_simp
              refine wpAnyP_take (i := 3) rfl (by kernel_rfl) (by kernel_rfl) (by kernel_rfl) (by kernel_rfl) (fun _ _ _ h => h) (yieldsIf_run (.slice (some ⟨b, o, none⟩) l.length c) rfl (fun w' => by go_simp)) ⟨T1, B5⟩ ?_
              refine wpAnyP_take (i := 4) rfl (by kernel_rfl) (by kernel_rfl) (by kernel_rfl) (by kernel_rfl) (fun _ _ _ h => h) (yieldsIf_run (.int .i64 ((j : Int) + 1)) rfl (fun w' => by go_simp)) ⟨T1, B5⟩ ?_
              go_simp
              refine wpAnyP_take (i := 5) rfl (by kernel_rfl) (by kernel_rfl) (by kernel_rfl) (by kernel_rfl) (fun _ _ _ h => h) (yieldsIf_run (.int .i64 (j : Int)) rfl (fun w' => by go_simp; exact wrap_j j (by omega))) ⟨T1, B5⟩ ?_
              go_simp
              refine wpAnyP_take (i := 6) rfl (by kernel_rfl) (by kernel_rfl) (by kernel_rfl) (by kernel_rfl) (fun _ _ _ h => h) (yieldsIf_run (.pointer (some ⟨b, o + j * 3, none⟩)) rfl (fun w' => by go_simp)) ⟨T1, B5⟩ ?_
              go_simp
              refine wpAnyP_take (i := 7) rfl (by kernel_rfl) (by kernel_rfl) (by kernel_rfl) (by kernel_rfl) (fun _ _ _ h => h) (yieldsIf_loadS rfl (.tmp 49) rfl strcG ⟨b, o + j * 3, none⟩ rfl (gc l[j]) rfl (fun w' hT => hT.1)) ⟨T1, B5⟩ ?_
              refine wpAnyP_take (i := 9) rfl (by kernel_rfl) (by kernel_rfl) (by kernel_rfl) (by kernel_rfl) (fun _ _ _ h => h) (yieldsIf_loadS rfl (.tmp 4) rfl strcG ⟨g4, 0, none⟩ rfl (gc g) rfl (fun w' hT => box_all hT.2)) ⟨T1, B5⟩ ?_
              go_simp
              refine wpAnyP_oneQ (i := 8) (by kernel_rfl) rfl ?_
              go_wp2_with fail
              refine (br_of l[j].net l[j].name l[j].user _).mono ?_
              rintro e w5 ⟨rfl, hb6⟩
              have T2 := T1.ext hb6 (Nat.lt_of_lt_of_le hb hb5.size)
              have B6 := box_below B5 hb6
              have hb7 := ext_trans hb5 hb6
              clear T1 B5 hb5 hb6
              go_wp2_with fail
              refine nextQ ⟨T2, B6⟩ ?_
              go_simp
              refine wpAnyP_oneQ (i := 10) (by kernel_rfl) rfl ?_
              go_wp2_with fail
              refine (br_of g.net g.name g.user _).mono ?_
              rintro e w6 ⟨rfl, hb8⟩
              have T3 := T2.ext hb8 (Nat.lt_of_lt_of_le hb hb7.size)
              have B7 := box_below B6 hb8
              have hb9 := ext_trans hb7 hb8
              clear T2 B6 hb7 hb8
              go_wp2_with fail
              refine nextQ ⟨T3, B7⟩ ?_
              go_simp
              refine wpAnyP_oneQ (i := 11) (by kernel_rfl) rfl ?_
              go_wp2_with fail
              refine (CA _).mono ?_
              rintro e w7 ⟨rfl, hb10⟩
              have T4 := T3.ext hb10 (Nat.lt_of_lt_of_le hb hb9.size)
              have B8 := box_below B7 hb10
              have hb11 := ext_trans hb9 hb10
              clear T3 B7 hb9 hb10
              go_wp2_with fail
              refine nextQ ⟨T4, B8⟩ ?_
              go_simp
              refine wpAnyP_take (i := 12) rfl (by kernel_rfl) (by kernel_rfl) (by kernel_rfl) (by kernel_rfl) (fun _ _ _ h => h) (yieldsIf_run (.bool (!ok)) rfl (fun w' => by go_simp)) ⟨T4, B8⟩ ?_
              go_simp
              refine wpAnyP_take (i := 13) rfl (by kernel_rfl) (by kernel_rfl) (by kernel_rfl) (by kernel_rfl) (fun _ _ _ h => h) (yieldsIf_run (.bool (!ok)) rfl (fun w' => by go_simp)) ⟨T4, B8⟩ ?_
              refine wpAnyP_done (by kernel_rfl) ?_
              clear T4 B8
              cases ok
              · have HE := hide (HK.out.order hlt HZ.out HTR.out HOK.out)
                go_simp
                go_wp2_with fail
                go_ret
                exact ⟨by rw [HV.out, HE.out]; rfl, hb11⟩
              · have HN := hide (HK.out.next hlt HZ.out HTR.out HOK.out)
                go_simp
                go_wp2_with fail
                go_roundw
                case rel => exact ⟨j + 1 + 1, by omega, by go_num, HN.out, hb11⟩
                case measure => (simp [intOf]; try omega)
          · have HE := hide (HK.out.wrong hlt HZ.out (fun h => e2 (HTI.out.1 h).2))
            have e2' := ne_lists e2
            rw [e1] at CB
            clear e1 e2
            go_wp2_with (first | (go_at_call 35; refine (CU _).mono ?_; rintro e w2 ⟨rfl, hb2⟩; have B2 := box_below B hb2; have q2 : w2.cell? ⟨g4, 2, none⟩ = some (.string g.user) := box_at B2 rfl) | (go_at_call 14; refine (CB _).mono ?_; rintro e w3 ⟨rfl, hb3⟩; have B3 := box_below B2 hb3; have p0 : w3.cell? ⟨g4, 0, none⟩ = some (.string g.net) := box_at B3 rfl; have p1 : w3.cell? ⟨g4, 1, none⟩ = some (.string g.name) := box_at B3 rfl))
            go_ret
            exact ⟨by rw [HV.out, HE.out]; rfl, ext_trans (ext_trans hbX hb2) hb3⟩
        · have HE := hide (HK.out.wrong hlt HZ.out (fun h => e1 (HTI.out.1 h).1))
          have e1' := ne_lists e1
          clear e1
          go_wp2_with (first | (go_at_call 35; refine (CU _).mono ?_; rintro e w2 ⟨rfl, hb2⟩; have B2 := box_below B hb2; have q2 : w2.cell? ⟨g4, 2, none⟩ = some (.string g.user) := box_at B2 rfl) | (go_at_call 14; refine (CB _).mono ?_; rintro e w3 ⟨rfl, hb3⟩; have B3 := box_below B2 hb3; have p0 : w3.cell? ⟨g4, 0, none⟩ = some (.string g.net) := box_at B3 rfl; have p1 : w3.cell? ⟨g4, 1, none⟩ = some (.string g.name) := box_at B3 rfl))
          go_ret
          exact ⟨by rw [HV.out, HE.out]; rfl, ext_trans (ext_trans hbX hb2) hb3⟩
      · have HE := hide (HK.out.err (e := 6) hlt (by rw [← HG.out]; exact backE_six hsp hbk) (by decide))
        simp only [backV_no ⟨_, _, user_parts.1 hsp⟩ (fun a b h => hbk ⟨a, b, h⟩)] at CB
        clear hsp hbk
        go_wp2_with (first | (go_at_call 35; refine (CU _).mono ?_; rintro e w2 ⟨rfl, hb2⟩; have B2 := box_below B hb2; have q2 : w2.cell? ⟨g4, 2, none⟩ = some (.string g.user) := box_at B2 rfl) | (go_at_call 14; refine (CB _).mono ?_; rintro e w3 ⟨rfl, hb3⟩; have B3 := box_below B2 hb3; have p0 : w3.cell? ⟨g4, 0, none⟩ = some (.string g.net) := box_at B3 rfl; have p1 : w3.cell? ⟨g4, 1, none⟩ = some (.string g.name) := box_at B3 rfl))
        go_ret
        exact ⟨by rw [HV.out, HE.out]; rfl, ext_trans (ext_trans hbX hb2) hb3⟩
  · obtain rfl : k = l.length := by omega
    have HE := hide HK.out.fin
    clear HK
    go_wp2_with fail
    go_ret
    exact ⟨by rw [HV.out, HE.out]; rfl, hbel⟩
end
end Go.Proofs.Ytimdcnickfaddaa
