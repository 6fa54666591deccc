/-
  content.alike, at each type of its elements.
-/
import Derived.Test.YtmlnmcoophnlaaaGreatSames6
import Derived.Laws.StructEq
set_option linter.unusedVariables false
set_option linter.unusedSimpArgs false
namespace Go.Proofs.YtmlnmcoophnlaaaGreat
open Go.RowKit
attribute [local go_sem] Addr.add_mid
theorem two_at1 {w : World} {g o : Nat} {u v : Value} (h0 : w.cell? ⟨g, o, none⟩ = some u) (h1 : w.cell? ⟨g, o + 1, none⟩ = some v) : CellsAt w ⟨g, o, none⟩ [u, v] := fun j x hx => by
  rw [Addr.add_mid]
  match j, hx with
  | 0, hx => simp at hx; subst hx; exact h0
  | 1, hx => simp at hx; subst hx; exact h1
  | j + 2, hx => simp at hx
set_option maxRecDepth 100000 in
set_option maxHeartbeats 1000000 in
theorem AlikeS_any {B B2 : Nat} {A A2 : Option Addr} {c c2 : Nat} {l m : List (ByteArray)} {w : World} (hr : Row w B A (svs l)) (hr2 : Row w B2 A2 (svs m)) (hl : l.length ≤ 1073741824) (hm : m.length ≤ 1073741824) :
    Calls Tryz.prog 70 #[.slice A l.length c, .slice A2 m.length c2] w (Asks (decide (l = m)) w) := by
  by_cases hlm : l.length = m.length
  · have hx : ((l.length : Int) != (m.length : Int)) = false := by rw [hlm]; simp
    have HLM := hide hlm
    go_enter Tryz.func70, Tryz.ntmps70
    clear hlm
    go_wp2_with fail
    clear hx
    go_loopw [13] (fun i wr => ∃ k n : Nat, k ≤ l.length ∧ i = .int .i64 (k : Int) ∧ l.take k = m.take k ∧ wr = w.drewN n) (fun i _ => l.length - (intOf i).toNat)
    case atStart => exact ⟨0, 0, Nat.zero_le _, rfl, rfl, rfl⟩
    case round =>
      obtain ⟨k, n, hk, rfl, ht, rfl⟩ := hrel
      have HT := hide ht; clear ht
      by_cases hlt : k < l.length
      · have hlt2 : k < m.length := by rw [← HLM.out]; exact hlt
        obtain ⟨ad, rfl, _, hcell⟩ := hr.at (svs_get l k hlt)
        obtain ⟨ad2, rfl, _, hcell2⟩ := hr2.at (svs_get m k hlt2)
        have i0 : (0 : Int) ≤ (k : Int) := by omega
        have i1 : (k : Int) < (l.length : Int) := by omega
        have i2 : (k : Int) < (m.length : Int) := by omega
        have HE := hide (fun h : l[k] = m[k] => take_eq_step HT.out hlt hlt2 h)
        have HN := hide (fun h : l[k] ≠ m[k] => ne_of_get hlt hlt2 h)
        by_cases he : l[k] = m[k]
        · have HE' := hide (HE.out he)
          have hb : (l[k].toList == m[k].toList) = true := by rw [he]; simp
          clear he HE HN
          go_wp2_with fail
          go_quiet (fail)
          go_wp2_with fail
          go_roundw
          case rel => exact ⟨k + 1, _, by omega, by go_num, HE'.out, rfl⟩
          case measure => simp [intOf]; omega
        · have HN' := hide (HN.out he)
          have hb : (l[k].toList == m[k].toList) = false := str_ne he
          clear he HE HN
          go_wp2_with fail
          go_quiet (fail)
          go_wp2_with fail
          go_ret
          exact asks_mk2 _ _ (decide_eq_false HN'.out).symm
      · obtain rfl : k = l.length := by omega
        have HF := hide (take_eq_fin HT.out HLM.out)
        go_wp2_with fail
        go_ret
        exact asks_mk _ (decide_eq_true HF.out).symm
  · have hx : ((l.length : Int) != (m.length : Int)) = true := by simp; omega
    have HN := hide (fun h : l = m => hlm (by rw [h]))
    clear hlm
    go_enter Tryz.func70, Tryz.ntmps70
    go_wp2_with fail
    go_ret
    exact asks_mk0 (decide_eq_false HN.out).symm
set_option maxRecDepth 100000 in
set_option maxHeartbeats 1000000 in
theorem AlikeU_any {B B2 : Nat} {A A2 : Option Addr} {c c2 : Nat} {l m : List (ByteArray × Int)} {w : World} (hr : Row w B A (ucs l)) (hr2 : Row w B2 A2 (ucs m)) (hl : l.length ≤ 1073741824) (hm : m.length ≤ 1073741824) :
    Calls Tryz.prog 71 #[.slice A l.length c, .slice A2 m.length c2] w (Asks (decide (l = m)) w) := by
  by_cases hlm : l.length = m.length
  · have hx : ((l.length : Int) != (m.length : Int)) = false := by rw [hlm]; simp
    have HLM := hide hlm
    go_enter Tryz.func71, Tryz.ntmps71
    clear hlm
    go_wp2_with fail
    clear hx
    go_loopw [13] (fun i wr => ∃ k n : Nat, k ≤ l.length ∧ i = .int .i64 (k : Int) ∧ l.take k = m.take k ∧ wr = w.drewN n) (fun i _ => l.length - (intOf i).toNat)
    case atStart => exact ⟨0, 0, Nat.zero_le _, rfl, rfl, rfl⟩
    case round =>
      obtain ⟨k, n, hk, rfl, ht, rfl⟩ := hrel
      have HT := hide ht; clear ht
      by_cases hlt : k < l.length
      · have hlt2 : k < m.length := by rw [← HLM.out]; exact hlt
        obtain ⟨b1, o1, rfl, hb1, hc⟩ := hr.fix (ucs_get l k hlt).1
        have hcell := hc _ _ (ucs_get l k hlt).1
        have hcell' := cell_assoc (hc _ _ (ucs_get l k hlt).2)
        obtain ⟨b2, o2, rfl, hb2, hc2⟩ := hr2.fix (ucs_get m k hlt2).1
        have hcell2 := hc2 _ _ (ucs_get m k hlt2).1
        have hcell2' := cell_assoc (hc2 _ _ (ucs_get m k hlt2).2)
        clear hc hc2
        have i0 : (0 : Int) ≤ (k : Int) := by omega
        have i1 : (k : Int) < (l.length : Int) := by omega
        have i2 : (k : Int) < (m.length : Int) := by omega
        have HE := hide (fun h : l[k] = m[k] => take_eq_step HT.out hlt hlt2 h)
        have HN := hide (fun h : l[k] ≠ m[k] => ne_of_get hlt hlt2 h)
        by_cases he : l[k] = m[k]
        · have HE' := hide (HE.out he)
          have hq1 : (l[k].1.toList == m[k].1.toList) = true := str_yes (by rw [he])
          have hq2 : (l[k].2 == m[k].2) = true := by rw [he]; simp
          clear he HE HN
          go_wp2_with fail
          go_quiet (fail)
          go_wp2_with fail
          go_roundw
          case rel => exact ⟨k + 1, _, by omega, by go_num, HE'.out, rfl⟩
          case measure => simp [intOf]; omega
        · have HN' := hide (HN.out he)
          by_cases h1 : l[k].1 = m[k].1
          · have hq1 : (l[k].1.toList == m[k].1.toList) = true := str_yes h1
            have hq2 : (l[k].2 == m[k].2) = false := by
              have : l[k].2 ≠ m[k].2 := fun h2 => he (Prod.ext h1 h2)
              simpa using this
            clear he HE HN h1
            go_wp2_with fail
            go_quiet (fail)
            go_wp2_with fail
            go_ret
            exact asks_mk2 _ _ (decide_eq_false HN'.out).symm
          · have hq1 : (l[k].1.toList == m[k].1.toList) = false := str_ne h1
            clear he HE HN h1
            go_wp2_with fail
            go_quiet (fail)
            go_wp2_with fail
            go_ret
            exact asks_mk2 _ _ (decide_eq_false HN'.out).symm
      · obtain rfl : k = l.length := by omega
        have HF := hide (take_eq_fin HT.out HLM.out)
        go_wp2_with fail
        go_ret
        exact asks_mk _ (decide_eq_true HF.out).symm
  · have hx : ((l.length : Int) != (m.length : Int)) = true := by simp; omega
    have HN := hide (fun h : l = m => hlm (by rw [h]))
    clear hlm
    go_enter Tryz.func71, Tryz.ntmps71
    go_wp2_with fail
    go_ret
    exact asks_mk0 (decide_eq_false HN.out).symm
set_option maxRecDepth 100000 in
set_option maxHeartbeats 1000000 in
theorem AlikeK_any {B B2 : Nat} {A A2 : Option Addr} {c c2 : Nat} {l m : List (Int × Int)} {w : World} (hr : Row w B A (kcs l)) (hr2 : Row w B2 A2 (kcs m)) (hl : l.length ≤ 1073741824) (hm : m.length ≤ 1073741824) :
    Calls Tryz.prog 72 #[.slice A l.length c, .slice A2 m.length c2] w (Asks (decide (l = m)) w) := by
  by_cases hlm : l.length = m.length
  · have hx : ((l.length : Int) != (m.length : Int)) = false := by rw [hlm]; simp
    have HLM := hide hlm
    go_enter Tryz.func72, Tryz.ntmps72
    clear hlm
    go_wp2_with fail
    clear hx
    go_loopw [13] (fun i wr => ∃ k n : Nat, k ≤ l.length ∧ i = .int .i64 (k : Int) ∧ l.take k = m.take k ∧ wr = w.drewN n) (fun i _ => l.length - (intOf i).toNat)
    case atStart => exact ⟨0, 0, Nat.zero_le _, rfl, rfl, rfl⟩
    case round =>
      obtain ⟨k, n, hk, rfl, ht, rfl⟩ := hrel
      have HT := hide ht; clear ht
      by_cases hlt : k < l.length
      · have hlt2 : k < m.length := by rw [← HLM.out]; exact hlt
        obtain ⟨b1, o1, rfl, hb1, hc⟩ := hr.fix (kcs_get l k hlt).1
        have hcell := hc _ _ (kcs_get l k hlt).1
        have hcell' := cell_assoc (hc _ _ (kcs_get l k hlt).2)
        obtain ⟨b2, o2, rfl, hb2, hc2⟩ := hr2.fix (kcs_get m k hlt2).1
        have hcell2 := hc2 _ _ (kcs_get m k hlt2).1
        have hcell2' := cell_assoc (hc2 _ _ (kcs_get m k hlt2).2)
        clear hc hc2
        have i0 : (0 : Int) ≤ (k : Int) := by omega
        have i1 : (k : Int) < (l.length : Int) := by omega
        have i2 : (k : Int) < (m.length : Int) := by omega
        have HE := hide (fun h : l[k] = m[k] => take_eq_step HT.out hlt hlt2 h)
        have HN := hide (fun h : l[k] ≠ m[k] => ne_of_get hlt hlt2 h)
        by_cases he : l[k] = m[k]
        · have HE' := hide (HE.out he)
          have hq1 : (l[k].1 == m[k].1) = true := by rw [he]; simp
          have hq2 : (l[k].2 == m[k].2) = true := by rw [he]; simp
          clear he HE HN
          go_wp2_with fail
          go_quiet (fail)
          go_wp2_with fail
          go_roundw
          case rel => exact ⟨k + 1, _, by omega, by go_num, HE'.out, rfl⟩
          case measure => simp [intOf]; omega
        · have HN' := hide (HN.out he)
          by_cases h1 : l[k].1 = m[k].1
          · have hq1 : (l[k].1 == m[k].1) = true := by simpa using h1
            have hq2 : (l[k].2 == m[k].2) = false := by
              have : l[k].2 ≠ m[k].2 := fun h2 => he (Prod.ext h1 h2)
              simpa using this
            clear he HE HN h1
            go_wp2_with fail
            go_quiet (fail)
            go_wp2_with fail
            go_ret
            exact asks_mk2 _ _ (decide_eq_false HN'.out).symm
          · have hq1 : (l[k].1 == m[k].1) = false := by simpa using h1
            clear he HE HN h1
            go_wp2_with fail
            go_quiet (fail)
            go_wp2_with fail
            go_ret
            exact asks_mk2 _ _ (decide_eq_false HN'.out).symm
      · obtain rfl : k = l.length := by omega
        have HF := hide (take_eq_fin HT.out HLM.out)
        go_wp2_with fail
        go_ret
        exact asks_mk _ (decide_eq_true HF.out).symm
  · have hx : ((l.length : Int) != (m.length : Int)) = true := by simp; omega
    have HN := hide (fun h : l = m => hlm (by rw [h]))
    clear hlm
    go_enter Tryz.func72, Tryz.ntmps72
    go_wp2_with fail
    go_ret
    exact asks_mk0 (decide_eq_false HN.out).symm
end Go.Proofs.YtmlnmcoophnlaaaGreat
