/-
  fedchatlaw05: CodecCanonical, the walk.
-/
import Derived.Test.YtpmjfbdnfdeblaaAny
import Derived.Test.YtpmjfbdnfdeblaaAwake
import Derived.Deep.DeepCutAuto
set_option linter.unusedVariables false
set_option linter.unusedSimpArgs false
namespace Go.Proofs.Ytpmjfbdnfdeblaa
open Go.RowKit

theorem encS_str (s : List UInt8) : encS (str s) = encI s.length ++ s := by rw [encS, str_size, str_data]
theorem encL_str (l : List (List UInt8)) : encL encS (l.map str) = encL (fun s => encI s.length ++ s) l := by
  simp only [encL, List.length_map, List.flatMap_map, encS_str]
theorem encL_ge {α : Type} (f : α → List UInt8) (h : ∀ x, 0 < (f x).length) (l : List α) : l.length ≤ (encL f l).length := by
  have := flatMap_ge f h l
  simp only [encL, List.length_append]; omega

set_option maxRecDepth 100000 in
set_option maxHeartbeats 6400000 in
theorem canon_small (A : Option Addr) (c : Nat) (l : List UInt8) (w : World) (hr : Row w w.heap.size A (bvs l)) (hc : l.length ≤ c) (hl : l.length ≤ 2000) :
    Calls Try.prog 8 #[.slice A l.length c] w (fun e w' => e = .returned (.bool true) ∧ Below w.heap.size w w') := by
  have hstr0 : (str []).toList = [] := by rw [ByteArray.toList_eq]; rfl
  go_enter Try.func8, Try.ntmps8
  go_wp2_with fail
  refine (GetInt_any (w := w) hr hc (by omega)).mono ?_
  rintro e w1 ⟨x, r, ok, ⟨v, rfl, hown, hb⟩, hres⟩
  replace hb := ext_trans (ext_refl w) hb
  obtain ⟨Ar, cr, rfl, hcr, _⟩ := own_form hown
  have hrr := Row.own hown
  clear hown
  have HR := hide hres
  clear hres
  go_upto_region 4 with fail
  go_cut [50] (fun t wx => t = .bool false ∧ Below w.heap.size w wx)
  case first =>
    cases ok
    · have hx : x = 0 ∧ r = [] := by
        rcases HR.out with ⟨h, _⟩ | ⟨_, h1, h2, _⟩
        · cases h
        · exact ⟨h1, h2⟩
      obtain ⟨rfl, rfl⟩ := hx
      go_wp2_with fail
      go_meet
      exact ⟨rfl, hb⟩
    · have hx : l = encI x ++ r ∧ I64 x := by
        rcases HR.out with ⟨_, h⟩ | ⟨h, _⟩
        · exact getI_canon h
        · cases h
      have hi := hx.2
      have HX := hide hx
      clear hx
      obtain ⟨la, hla, HLA⟩ := named (encI x)
      have hlen : la.length + r.length ≤ 2000 := by rw [hla]; have h := congrArg List.length HX.out.1; rw [List.length_append] at h; omega
      go_wp2_with fail
      refine (PutInt_any none 0 [] x _ Row.nil hi.1 hi.2 (by decide)).mono ?_
      rintro e wa ⟨v2, rfl, hown2, hb2⟩
      change wa.ownsRow _ _ _ v2 ([] ++ encI x).length (bvs ([] ++ encI x)) at hown2
      rw [List.nil_append, ← hla] at hown2
      clear hla
      have hrr2 := hrr.ext hb2
      go_wp2_with (first | (at_builtin; go_must (refine wpList_append_row rfl (.tmp 31) (.tmp 32) rfl elemB w1.heap.size _ _ _ rfl hown2 wa.heap.size r.length cr Ar (bvs r) (by simp [bvs]) rfl hrr2 (row_none hrr2) (bvs_one r) (by unfold maxLen; omega) (by omega) hb2.size ?_)))
      intro v3 wb hown3 hg3
      have hx3 := below_of_own (ext_trans hb hb2) hown2 hg3 (ext_trans hb hb2).size hb.size
      have e3 : wb.ownsRow w1.heap.size 5 1 v3 l.length (bvs l) := by
        rw [HX.out.1, ← HLA.out, ← bvs_append, List.length_append]; exact hown3
      obtain ⟨A3, c3, rfl, _, _⟩ := own_form e3
      have hr3 := Row.own e3
      clear hown2 hown3 hg3 e3 hrr2
      go_wp2_with fail
      refine (SameBytes_yes _ _ A3 A c3 c _ _ l _ hr3 (hr.ext hx3) rfl rfl).mono ?_
      rintro e wd ⟨rfl, rfl⟩
      go_wp2_with fail
      go_meet
      exact ⟨rfl, hx3⟩
  case rest =>
    obtain ⟨rfl, hbc1⟩ := hcut
    go_wp2_with fail
    refine (GetText_any (w := wc) (hr.ext hbc1) hc (by omega)).mono ?_
    rintro e w2 ⟨x, r, ok, ⟨v, rfl, hown, hb⟩, hres⟩
    replace hb := ext_trans (hbc1) hb
    obtain ⟨Ar, cr, rfl, hcr, _⟩ := own_form hown
    have hrr := Row.own hown
    clear hown
    have HR := hide hres
    clear hres
    go_upto_region 7 with fail
    go_cut [79] (fun t wx => t = .bool false ∧ Below w.heap.size w wx)
    case first =>
      cases ok
      · have hx : x = [] ∧ r = [] := by
          rcases HR.out with ⟨h, _⟩ | ⟨_, h1, h2, _⟩
          · cases h
          · exact ⟨h1, h2⟩
        obtain ⟨rfl, rfl⟩ := hx
        go_wp2_with fail
        go_meet
        exact ⟨rfl, hb⟩
      · have hx : l = encS (str x) ++ r ∧ True := by
          rcases HR.out with ⟨_, h⟩ | ⟨h, _⟩
          · exact ⟨by rw [encS_str]; exact getS_canon h, trivial⟩
          · cases h
        have hxl : x.length ≤ 2000 := by have h := congrArg List.length hx.1; rw [encS_str] at h; simp only [List.length_append] at h; omega
        have HX := hide hx
        clear hx
        obtain ⟨la, hla, HLA⟩ := named (encS (str x))
        have hlen : la.length + r.length ≤ 2000 := by rw [hla]; have h := congrArg List.length HX.out.1; rw [List.length_append] at h; omega
        go_wp2_with fail
        refine (PutText_any none 0 [] (str x) _ Row.nil (by decide) (by rw [str_size]; omega)).mono ?_
        rintro e wa ⟨v2, rfl, hown2, hb2⟩
        change wa.ownsRow _ _ _ v2 ([] ++ encS (str x)).length (bvs ([] ++ encS (str x))) at hown2
        rw [List.nil_append, ← hla] at hown2
        clear hla
        have hrr2 := hrr.ext hb2
        go_wp2_with (first | (at_builtin; go_must (refine wpList_append_row rfl (.tmp 60) (.tmp 61) rfl elemB w2.heap.size _ _ _ rfl hown2 wa.heap.size r.length cr Ar (bvs r) (by simp [bvs]) rfl hrr2 (row_none hrr2) (bvs_one r) (by unfold maxLen; omega) (by omega) hb2.size ?_)))
        intro v3 wb hown3 hg3
        have hx3 := below_of_own (ext_trans hb hb2) hown2 hg3 (ext_trans hb hb2).size hb.size
        have e3 : wb.ownsRow w2.heap.size 5 1 v3 l.length (bvs l) := by
          rw [HX.out.1, ← HLA.out, ← bvs_append, List.length_append]; exact hown3
        obtain ⟨A3, c3, rfl, _, _⟩ := own_form e3
        have hr3 := Row.own e3
        clear hown2 hown3 hg3 e3 hrr2
        go_wp2_with fail
        refine (SameBytes_yes _ _ A3 A c3 c _ _ l _ hr3 (hr.ext hx3) rfl rfl).mono ?_
        rintro e wd ⟨rfl, rfl⟩
        go_wp2_with fail
        go_meet
        exact ⟨rfl, hx3⟩
    case rest =>
      obtain ⟨rfl, hbc2⟩ := hcut
      go_wp2_with fail
      refine (GetInts_any (w := wc) (hr.ext hbc2) hc (by omega)).mono ?_
      rintro e w3 ⟨x, r, ok, ⟨vx, v, rfl, hownx, hown, hb⟩, hres⟩
      replace hb := ext_trans (hbc2) hb
      rw [ivs_length] at hownx
      obtain ⟨Ax, cx, rfl, hcx, _⟩ := own_form hownx
      have hrx := Row.own hownx
      clear hownx
      obtain ⟨Ar, cr, rfl, hcr, _⟩ := own_form hown
      have hrr := Row.own hown
      clear hown
      have HR := hide hres
      clear hres
      go_upto_region 10 with fail
      go_cut [109] (fun t wx => t = .bool false ∧ Below w.heap.size w wx)
      case first =>
        cases ok
        · have hx : x = [] ∧ r = [] := by
            rcases HR.out with ⟨h, _⟩ | ⟨_, h1, h2, _⟩
            · cases h
            · exact ⟨h1, h2⟩
          obtain ⟨rfl, rfl⟩ := hx
          go_wp2_with fail
          go_meet
          exact ⟨rfl, hb⟩
        · have hx : l = encL encI x ++ r ∧ ∀ z ∈ x, I64 z := by
            rcases HR.out with ⟨_, h⟩ | ⟨h, _⟩
            · exact getInts_canon h
            · cases h
          have hi := hx.2
          have hlx := encL_ge encI encI_pos x
          have hbx : ([] : List UInt8).length + (encL encI x).length ≤ 1073741824 := by have h := congrArg List.length hx.1; simp only [List.length_append] at h; simp only [List.length_nil]; omega
          have hxl : x.length ≤ 16777216 := by have h := congrArg List.length hx.1; simp only [List.length_append] at h; omega
          have HX := hide hx
          clear hx
          obtain ⟨la, hla, HLA⟩ := named (encL encI x)
          have hlen : la.length + r.length ≤ 2000 := by rw [hla]; have h := congrArg List.length HX.out.1; rw [List.length_append] at h; omega
          go_wp2_with fail
          refine (PutInts_any none 0 [] Ax cx x _ Row.nil hrx hi hbx hxl).mono ?_
          rintro e wa ⟨v2, rfl, hown2, hb2⟩
          change wa.ownsRow _ _ _ v2 ([] ++ encL encI x).length (bvs ([] ++ encL encI x)) at hown2
          rw [List.nil_append, ← hla] at hown2
          clear hla
          have hrr2 := hrr.ext hb2
          go_wp2_with (first | (at_builtin; go_must (refine wpList_append_row rfl (.tmp 89) (.tmp 90) rfl elemB w3.heap.size _ _ _ rfl hown2 wa.heap.size r.length cr Ar (bvs r) (by simp [bvs]) rfl hrr2 (row_none hrr2) (bvs_one r) (by unfold maxLen; omega) (by omega) hb2.size ?_)))
          intro v3 wb hown3 hg3
          have hx3 := below_of_own (ext_trans hb hb2) hown2 hg3 (ext_trans hb hb2).size hb.size
          have e3 : wb.ownsRow w3.heap.size 5 1 v3 l.length (bvs l) := by
            rw [HX.out.1, ← HLA.out, ← bvs_append, List.length_append]; exact hown3
          obtain ⟨A3, c3, rfl, _, _⟩ := own_form e3
          have hr3 := Row.own e3
          clear hown2 hown3 hg3 e3 hrr2
          go_wp2_with fail
          refine (SameBytes_yes _ _ A3 A c3 c _ _ l _ hr3 (hr.ext hx3) rfl rfl).mono ?_
          rintro e wd ⟨rfl, rfl⟩
          go_wp2_with fail
          go_meet
          exact ⟨rfl, hx3⟩
      case rest =>
        obtain ⟨rfl, hbc3⟩ := hcut
        go_wp2_with fail
        refine (GetTexts_any (w := wc) (hr.ext hbc3) hc (by omega)).mono ?_
        rintro e w4 ⟨x, r, ok, ⟨vx, v, rfl, hownx, hown, hb⟩, hres⟩
        replace hb := ext_trans (hbc3) hb
        rw [sls_svs, svs_length] at hownx
        obtain ⟨xs, hxs, HXS⟩ := named (x.map str)
        rw [← hxs] at hownx
        clear hxs
        obtain ⟨Ax, cx, rfl, hcx, _⟩ := own_form hownx
        have hrx := Row.own hownx
        clear hownx
        obtain ⟨Ar, cr, rfl, hcr, _⟩ := own_form hown
        have hrr := Row.own hown
        clear hown
        have HR := hide hres
        clear hres
        go_upto_region 13 with fail
        go_cut [139] (fun t wx => t = .bool false ∧ Below w.heap.size w wx)
        case first =>
          cases ok
          · have hx : x = [] ∧ r = [] := by
              rcases HR.out with ⟨h, _⟩ | ⟨_, h1, h2, _⟩
              · cases h
              · exact ⟨h1, h2⟩
            obtain ⟨rfl, rfl⟩ := hx
            have hxs0 : xs = [] := HXS.out
            subst hxs0
            go_wp2_with fail
            go_meet
            exact ⟨rfl, hb⟩
          · have hx : l = encL encS xs ++ r ∧ True := by
              rcases HR.out with ⟨_, h⟩ | ⟨h, _⟩
              · exact ⟨by rw [HXS.out, encL_str]; exact getTexts_canon h, trivial⟩
              · cases h
            have hlx := encL_ge encS encS_pos xs
            have hbx : ([] : List UInt8).length + (encL encS xs).length ≤ 1073741824 := by have h := congrArg List.length hx.1; simp only [List.length_append] at h; simp only [List.length_nil]; omega
            have hxl : xs.length ≤ 16777216 := by have h := congrArg List.length hx.1; simp only [List.length_append] at h; omega
            have HX := hide hx
            clear hx
            obtain ⟨la, hla, HLA⟩ := named (encL encS xs)
            have hlen : la.length + r.length ≤ 2000 := by rw [hla]; have h := congrArg List.length HX.out.1; rw [List.length_append] at h; omega
            go_wp2_with fail
            refine (PutTexts_any none 0 [] Ax cx xs _ Row.nil hrx hbx hxl).mono ?_
            rintro e wa ⟨v2, rfl, hown2, hb2⟩
            change wa.ownsRow _ _ _ v2 ([] ++ encL encS xs).length (bvs ([] ++ encL encS xs)) at hown2
            rw [List.nil_append, ← hla] at hown2
            clear hla
            have hrr2 := hrr.ext hb2
            go_wp2_with (first | (at_builtin; go_must (refine wpList_append_row rfl (.tmp 119) (.tmp 120) rfl elemB w4.heap.size _ _ _ rfl hown2 wa.heap.size r.length cr Ar (bvs r) (by simp [bvs]) rfl hrr2 (row_none hrr2) (bvs_one r) (by unfold maxLen; omega) (by omega) hb2.size ?_)))
            intro v3 wb hown3 hg3
            have hx3 := below_of_own (ext_trans hb hb2) hown2 hg3 (ext_trans hb hb2).size hb.size
            have e3 : wb.ownsRow w4.heap.size 5 1 v3 l.length (bvs l) := by
              rw [HX.out.1, ← HLA.out, ← bvs_append, List.length_append]; exact hown3
            obtain ⟨A3, c3, rfl, _, _⟩ := own_form e3
            have hr3 := Row.own e3
            clear hown2 hown3 hg3 e3 hrr2
            go_wp2_with fail
            refine (SameBytes_yes _ _ A3 A c3 c _ _ l _ hr3 (hr.ext hx3) rfl rfl).mono ?_
            rintro e wd ⟨rfl, rfl⟩
            go_wp2_with fail
            go_meet
            exact ⟨rfl, hx3⟩
        case rest =>
          obtain ⟨rfl, hbc4⟩ := hcut
          go_wp2_with fail
          refine (GetBool_any (w := wc) (hr.ext hbc4) hc (by omega)).mono ?_
          rintro e w5 ⟨x, r, ok, ⟨v, rfl, hown, hb⟩, hres⟩
          replace hb := ext_trans (hbc4) hb
          obtain ⟨Ar, cr, rfl, hcr, _⟩ := own_form hown
          have hrr := Row.own hown
          clear hown
          have HR := hide hres
          clear hres
          cases ok
          · have hx : x = false ∧ r = [] := by
              rcases HR.out with ⟨h, _⟩ | ⟨_, h1, h2, _⟩
              · cases h
              · exact ⟨h1, h2⟩
            obtain ⟨rfl, rfl⟩ := hx
            go_wp2_with fail
            refine (awake_any _).mono ?_
            rintro e wq ⟨rfl, hbq⟩
            go_wp2_with fail
            go_ret
            exact ⟨rfl, ext_trans hb hbq⟩
          · have hx : l = [if x then (1 : UInt8) else 0] ++ r ∧ True := by
              rcases HR.out with ⟨_, h⟩ | ⟨h, _⟩
              · exact ⟨getB_canon h, trivial⟩
              · cases h
            have HX := hide hx
            clear hx
            obtain ⟨la, hla, HLA⟩ := named ([if x then (1 : UInt8) else 0])
            have hlen : la.length + r.length ≤ 2000 := by rw [hla]; have h := congrArg List.length HX.out.1; rw [List.length_append] at h; omega
            go_wp2_with fail
            refine (PutBool_any none 0 [] x _ Row.nil (by decide)).mono ?_
            rintro e wa ⟨v2, rfl, hown2, hb2⟩
            change wa.ownsRow _ _ _ v2 ([] ++ [if x then (1 : UInt8) else 0]).length (bvs ([] ++ [if x then (1 : UInt8) else 0])) at hown2
            rw [List.nil_append, ← hla] at hown2
            clear hla
            have hrr2 := hrr.ext hb2
            go_wp2_with (first | (at_builtin; go_must (refine wpList_append_row rfl (.tmp 149) (.tmp 150) rfl elemB w5.heap.size _ _ _ rfl hown2 wa.heap.size r.length cr Ar (bvs r) (by simp [bvs]) rfl hrr2 (row_none hrr2) (bvs_one r) (by unfold maxLen; omega) (by omega) hb2.size ?_)))
            intro v3 wb hown3 hg3
            have hx3 := below_of_own (ext_trans hb hb2) hown2 hg3 (ext_trans hb hb2).size hb.size
            have e3 : wb.ownsRow w5.heap.size 5 1 v3 l.length (bvs l) := by
              rw [HX.out.1, ← HLA.out, ← bvs_append, List.length_append]; exact hown3
            obtain ⟨A3, c3, rfl, _, _⟩ := own_form e3
            have hr3 := Row.own e3
            clear hown2 hown3 hg3 e3 hrr2
            go_wp2_with fail
            refine (SameBytes_yes _ _ A3 A c3 c _ _ l _ hr3 (hr.ext hx3) rfl rfl).mono ?_
            rintro e wd ⟨rfl, rfl⟩
            go_wp2_with fail
            refine (awake_any _).mono ?_
            rintro e wq ⟨rfl, hbq⟩
            go_wp2_with fail
            go_ret
            exact ⟨rfl, ext_trans hx3 hbq⟩

set_option maxRecDepth 100000 in
set_option maxHeartbeats 1600000 in
theorem canon_big (A : Option Addr) (k c : Nat) (w : World) (hl : 2000 < k) :
    Calls Try.prog 8 #[.slice A k c] w (fun e w' => e = .returned (.bool true) ∧ Below w.heap.size w w') := by
  have hl' : (2000 : Int) < (k : Int) := by omega
  go_enter Try.func8, Try.ntmps8
  go_wp2_with fail
  refine (awake_any w).mono ?_
  rintro e w8 ⟨rfl, hb8⟩
  go_wp2_with fail
  go_ret
  exact ⟨rfl, hb8⟩
end Go.Proofs.Ytpmjfbdnfdeblaa
