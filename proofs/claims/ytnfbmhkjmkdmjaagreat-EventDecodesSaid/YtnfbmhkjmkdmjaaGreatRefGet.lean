/-
  fedchatref05: GetInt.
-/
import Derived.Test.YtnfbmhkjmkdmjaaGreatMem
import Derived.Test.YtnfbmhkjmkdmjaaGreatDecRef
import Derived.Test.YtnfbmhkjmkdmjaaGreatNum
import Derived.Deep.DeepCutAuto
import Derived.Deep.QuietTactic
import Derived.BigQuiet
set_option linter.unusedVariables false
set_option linter.unusedSimpArgs false
namespace Go.Proofs.YtnfbmhkjmkdmjaaGreat
open Go.RowKit

/-- what the reference's GetInt hands back: the bytes lie in the argument's own memory -/
def RGot (B : Nat) (first : Value) (rest : List UInt8) (ok : Bool) (w : World) (e : Ending) (w' : World) : Prop :=
  ∃ A c, e = .returned (.tuple #[first, .slice A rest.length c, .bool ok]) ∧ Row w' B A (bvs rest) ∧ rest.length ≤ c ∧ Below w.heap.size w w'

def RGotI (B : Nat) (l : List UInt8) (w : World) (e : Ending) (w' : World) : Prop := match geti l with | none => RGot B (.int .i64 0) [] false w e w' | some (n, k) => RGot B (.int .i64 n) (l.drop k) true w e w'
theorem rgot_none {B : Nat} {l : List UInt8} {w w' : World} {v : Value} (h : geti l = none) (hv : v = .tuple #[.int .i64 0, .slice none 0 0, .bool false]) (hb : Below w.heap.size w w') : RGotI B l w (.returned v) w' := by
  unfold RGotI; rw [h]; exact ⟨none, 0, by rw [hv]; rfl, Row.nil, Nat.le_refl _, hb⟩
theorem rgot_some {B : Nat} {l : List UInt8} {w w' : World} {v : Value} {n : Int} {k c : Nat} {A : Option Addr} (h : geti l = some (n, k)) (hv : v = .tuple #[.int .i64 n, .slice A (l.length - k) c, .bool true]) (hr : Row w' B A (bvs (l.drop k))) (hc : l.length - k ≤ c) (hb : Below w.heap.size w w') :
    RGotI B l w (.returned v) w' := by
  unfold RGotI; rw [h]; exact ⟨A, c, by rw [hv, List.length_drop], hr, by rw [List.length_drop]; exact hc, hb⟩

set_option maxRecDepth 100000 in
set_option maxHeartbeats 1600000 in
theorem RGetInt_any (B : Nat) (A : Option Addr) (c : Nat) (l : List UInt8) (w : World) (hr : Row w B A (bvs l)) (hc : l.length ≤ c) (hl : l.length ≤ 16777216) :
    Calls Tryz.prog 76 #[.slice A l.length c] w (RGotI B l w) := by
  go_enter Tryz.func76, Tryz.ntmps76
  go_wp2_with fail
  go_loop [5] (fun i => ∃ k : Nat, k ≤ l.length ∧ k ≤ 10 ∧ i = .int .i64 (k : Int) ∧ Great l k) (fun i => l.length - (intOf i).toNat)
  case atStart => exact ⟨0, Nat.zero_le _, by decide, rfl, fun j hj => absurd hj (by omega)⟩
  case round =>
    obtain ⟨k, hk, hk10, rfl, hgr⟩ := hrel
    have HGR := hide hgr; clear hgr
    by_cases hlt : k < l.length
    · obtain ⟨ad, rfl, hadB, hcell⟩ := hr.at (bvs_get l k hlt)
      unfold bv at hcell
      obtain ⟨x, hx⟩ : ∃ x, x = l[k].toNat := ⟨_, rfl⟩
      have hx256 : x < 256 := by rw [hx]; exact UInt8.toNat_lt _
      rw [← hx] at hcell
      have HX := hide hx; clear hx
      by_cases h10 : k < 10
      · have hb10 : ((k : Int) == 10) = false := beq_eq_false_iff_ne.2 (by omega)
        have hbl : ((k : Int) == (l.length : Int)) = false := beq_eq_false_iff_ne.2 (by omega)
        by_cases hbig : 128 ≤ x
        · go_wp2_with fail
          go_round
          case rel =>
            refine ⟨k + 1, by omega, by omega, by go_num, fun j hj => ?_⟩
            by_cases hjk : j = k
            · subst hjk; rw [getD_get hlt, ← HX.out]; exact hbig
            · exact HGR.out j (by omega)
          case measure => simp [intOf]; omega
        · obtain ⟨b9, hb9⟩ : ∃ b, ((k : Int) == 9) = b := ⟨_, rfl⟩
          obtain ⟨b0, hb0⟩ : ∃ b, ((x : Int) == 0) = b := ⟨_, rfl⟩
          have H9 : Hid (b9 = true ↔ k = 9) := by simp only [Hid, ← hb9, beq_iff_eq]; omega
          have H0 : Hid (b0 = true ↔ x = 0) := by simp only [Hid, ← hb0, beq_iff_eq]; omega
          have FA : Hid (b9 = true → 1 < x → geti l = none) := fun h h1 => great_long HGR.out hlt (H9.out.1 h) (by rw [← HX.out]; exact h1)
          have FZ : Hid (b0 = true → 0 < k → geti l = none) := fun h h1 => great_zero HGR.out hlt h10 h1 (by rw [← HX.out]; exact H0.out.1 h)
          have FF : Hid ((b9 = true → x ≤ 1) → (b0 = true → ¬ 0 < k) → geti l = some (unzig (decS l (k + 1)), k + 1) ∧ decS l (k + 1) < 2 ^ 64) := fun h1 h2 =>
            great_fin HGR.out hlt h10 (by rw [← HX.out]; rintro ⟨a, b⟩; have := h1 (H9.out.2 a); omega) (by rw [← HX.out]; omega) (by rw [← HX.out]; rintro ⟨a, b⟩; exact h2 (H0.out.2 a) b)
          have hrun := run_cut elemB (some ad) l.length c (k + 1) (by omega)
          rw [show ((k + 1 : Nat) : Int) = (k : Int) + 1 from by omega] at hrun
          clear H9 H0 HGR
          cases b9 <;> cases b0
          all_goals
            go_wp2_with fail
            all_goals first
              | (go_ret3; exact rgot_none (FA.out (by simp) (by omega)) rfl (Below.refl _ _))
              | (go_ret3; exact rgot_none (FZ.out (by simp) (by assumption)) rfl (Below.refl _ _))
              | (have F : geti l = some (unzig (decS l (k + 1)), k + 1) ∧ decS l (k + 1) < 2 ^ 64 := FF.out (by intro h; first | omega | (cases h)) (by intro h; first | assumption | (cases h))
                 have HFF := hide F
                 clear FA FZ FF F
                 have hr' := hr.cutA (size := 1) (k := k + 1) (c := c) (by simp [bvs]) hc
                 rw [show (bvs l).drop ((k + 1) * 1) = bvs (l.drop (k + 1)) from by simp [bvs]] at hr'
                 obtain ⟨K, hK, HK⟩ := named (decS l (k + 1))
                 rw [← hK] at HFF
                 clear hK
                 go_loop [6, 7] (fun u i => ∃ (i' u' : Nat), i' ≤ k + 1 ∧ i = .int .i64 ((i' : Int) - 1) ∧ u = .int .u64 (u' : Int) ∧ Hid (decS l i' + u' * 2 ^ (7 * i') = K)) (fun _ i => (intOf i + 1).toNat)
                 case atStart => exact ⟨k + 1, 0, Nat.le_refl _, by congr 1; omega, rfl, by simp [Hid, HK.out]⟩
                 case round =>
                   obtain ⟨i', u', hi', rfl, rfl, hD⟩ := hrel
                   rcases i' with _ | i
                   · have hu' : u' = K := by have := hD.out; simpa [decS] using this
                     subst hu'
                     rw [show ((0 : Nat) : Int) - 1 = -1 from rfl]
                     have h2 := HFF.out.2
                     have hw : IntKind.u64.wrap ((u' : Int) / 2) = (u' : Int) / 2 := by rw [wrap_u64]; omega
                     have hw2 : wrap64 ((u' : Int) / 2) = (u' : Int) / 2 := IntWalk.wrap64_in _ (by constructor <;> omega)
                     have hw3 : wrap64 (-((u' : Int) / 2)) = -((u' : Int) / 2) := IntWalk.wrap64_in _ (by constructor <;> omega)
                     have hw4 : wrap64 (-((u' : Int) / 2) - 1) = -((u' : Int) / 2) - 1 := IntWalk.wrap64_in _ (by constructor <;> omega)
                     have hz1 : (u' : Int) % 2 = 1 → unzig u' = -((u' : Int) / 2) - 1 := fun h => by rw [← unzig_neg u' h2 (by omega)]; omega
                     have hz2 : ¬ (u' : Int) % 2 = 1 → unzig u' = (u' : Int) / 2 := fun h => by unfold unzig; rw [if_neg (by omega)]; omega
                     have HZ1 := hide hz1; have HZ2 := hide hz2
                     clear h2 hD hz1 hz2
                     by_cases ho : (u' : Int) % 2 = 1
                     · have hob : ((u' : Int) % 2 == 1) = true := beq_iff_eq.2 ho
                       have HO := hide ho
                       clear ho
                       go_wp2_with fail
                       go_quiet (fail)
                       go_wp2_with fail
                       go_ret3
                       exact rgot_some HFF.out.1 (by rw [HZ1.out HO.out]; rfl) hr' (by omega) (below_drewN (Below.refl _ _) _)
                     · have hob : ((u' : Int) % 2 == 1) = false := beq_eq_false_iff_ne.2 ho
                       have HO := hide ho
                       clear ho
                       go_wp2_with fail
                       go_quiet (fail)
                       go_wp2_with fail
                       go_ret3
                       exact rgot_some HFF.out.1 (by rw [HZ2.out HO.out]; rfl) hr' (by omega) (below_drewN (Below.refl _ _) _)
                   · rw [show ((i + 1 : Nat) : Int) - 1 = (i : Int) from by omega]
                     obtain ⟨ad', had, _, hci⟩ := hr.at (bvs_get l i (by omega))
                     injection had with had; subst had
                     unfold bv at hci
                     obtain ⟨y, hy, HY⟩ := named l[i].toNat
                     have hy256 : y < 256 := by rw [hy]; exact UInt8.toNat_lt _
                     have hdn := decS_down hD.out
                     rw [getD_get (by omega), ← hy] at hdn
                     have hle := decS_le hdn
                     have h2 := HFF.out.2
                     have hm1 : IntKind.u64.wrap ((u' : Int) * 128) = (u' : Int) * 128 := by rw [wrap_u64]; omega
                     have hm2 : IntKind.u64.wrap ((u' : Int) * 128 + (y : Int) % 128) = (u' : Int) * 128 + (y : Int) % 128 := by rw [wrap_u64]; omega
                     rw [← hy] at hci
                     have HDN := hide hdn
                     clear hy hdn h2 hle hD
                     go_wp2_with fail
                     go_round
                     case rel => exact ⟨i, u' * 128 + y % 128, by omega, rfl, by go_num, HDN.out⟩
                     case measure => simp [intOf] <;> omega)
      · obtain rfl : k = 10 := by omega
        have HF := hide (great_ten HGR.out (by omega))
        go_wp2_with fail
        go_ret3
        exact rgot_none HF.out rfl (Below.refl _ _)
    · obtain rfl : k = l.length := by omega
      have HF := hide (great_end HGR.out rfl hk10)
      by_cases h10 : l.length = 10
      · have hb10 : ((l.length : Int) == 10) = true := beq_iff_eq.2 (by omega)
        have HH10 := hide h10
        clear h10
        go_wp2_with fail
        go_ret3
        exact rgot_none HF.out rfl (Below.refl _ _)
      · have hb10 : ((l.length : Int) == 10) = false := beq_eq_false_iff_ne.2 (by omega)
        go_wp2_with fail
        go_ret3
        exact rgot_none HF.out rfl (Below.refl _ _)
end Go.Proofs.YtnfbmhkjmkdmjaaGreat
