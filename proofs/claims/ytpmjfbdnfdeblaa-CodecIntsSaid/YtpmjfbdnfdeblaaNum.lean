/-
  codec.number.
-/
import Derived.Test.YtpmjfbdnfdeblaaRows
import Derived.Test.YtpmjfbdnfdeblaaBits
import Derived.Test.YtpmjfbdnfdeblaaMem
set_option linter.unusedVariables false
set_option linter.unusedSimpArgs false
namespace Go.Proofs.Ytpmjfbdnfdeblaa
open Go.RowKit

theorem elemB : Elem Try.prog 22 5 (.int .u8 0) 1 1 := ⟨Try.underlying22, by kernel_rfl, rfl, by decide⟩

/-- what 'number' does to an owned row of bytes -/
def OwnB (B : Nat) (l : List UInt8) (w : World) (e : Ending) (w' : World) : Prop :=
  ∃ v', e = .returned v' ∧ w'.ownsRow B 5 1 v' l.length (bvs l) ∧ Below B w w'

set_option maxRecDepth 100000 in
set_option maxHeartbeats 400000 in
theorem number_any (B : Nat) (v : Value) (l : List UInt8) (n : Int) (w : World) (h1 : -9223372036854775808 ≤ n) (h2 : n < 9223372036854775808)
    (hown : w.ownsRow B 5 1 v l.length (bvs l)) (hB : B ≤ w.heap.size) (hl : l.length ≤ 1099511627776) :
    Calls Try.prog 34 #[v, .int .i64 n] w (OwnB B (l ++ Enc.enc (zig n)) w) := by
  have HZ0 := hide (fun h : 0 ≤ n => zig_pos h)
  have HZ1 := hide (fun h : n < 0 => zig_neg h h1)
  have HZL := hide (Enc.enc_len (zig n) (zig_lt h1 h2))
  have HL := hide (zig_lt h1 h2)
  by_cases h0 : n < 0
  all_goals go_enter Try.func34, Try.ntmps34
  all_goals go_wp2
  all_goals first | rw [HZ0.out h0] | rw [HZ1.out h0]
  all_goals
    go_loopw [0, 5] (fun v u wr => ∃ (pre : List UInt8) (u' : Nat), u = .int .u64 (u' : Int) ∧ Hid (Enc.enc (zig n) = pre ++ Enc.enc u') ∧ Hid (u' < 18446744073709551616) ∧ wr.ownsRow B 5 1 v (l.length + pre.length) (bvs (l ++ pre)) ∧ Below B w wr)
      (fun _ u _ => (intOf u).toNat)
    case atStart => exact ⟨[], _, rfl, by exact rfl, HL, by simpa using hown, Below.refl _ _⟩
    case round =>
      obtain ⟨pre, u', rfl, henc, hu, hown, hnx⟩ := hrel
      have hpl : pre.length ≤ 10 := by have := HZL.out; rw [henc.out] at this; simp at this; omega
      have hBr : B ≤ wr.heap.size := Nat.le_trans hB hnx.size
      by_cases hlt : u' < 128
      · go_wp2_with (first | (at_builtin; go_must (refine wpList_append_new rfl (.tmp 23) (.tmp 26) rfl elemB B _ _ _ rfl hown 1 _ rfl rfl (by simp [Value.oneCell']) (by decide) (by unfold maxLen; omega) (by omega) hBr ?_)))
        intro v' w1 hown1 hgrow
        go_wp2
        go_ret
        refine ⟨_, rfl, ?_, below_of_own hnx hown hgrow hBr (Nat.le_refl _)⟩
        rw [henc.out, Enc.enc_small _ hlt]
        rw [bvs_snoc (by omega)] at hown1
        simpa [Nat.add_assoc] using hown1
      · go_wp2_with (first | (at_builtin; go_must (refine wpList_append_new rfl (.tmp 15) (.tmp 19) rfl elemB B _ _ _ rfl hown 1 _ rfl rfl (by simp [Value.oneCell']) (by decide) (by unfold maxLen; omega) (by omega) hBr ?_)))
        intro v' w1 hown1 hgrow
        have hb1 := below_of_own hnx hown hgrow hBr (Nat.le_refl _)
        have hd : ((u' / 128 : Nat) : Int) = (u' : Int) / 128 := by omega
        have HD := hide hd; clear hd
        go_wp2
        go_roundw
        case rel =>
          refine ⟨pre ++ [UInt8.ofNat (u' % 128 + 128)], u' / 128, by rw [HD.out], ?_, ?_, ?_, hb1⟩
          · have h := henc.out; rw [Enc.enc_big _ hlt] at h; simpa [Hid] using h
          · have h := hu.out; simp only [Hid]; omega
          · rw [bits_or_128, bvs_snoc (by omega)] at hown1
            simpa [Nat.add_assoc] using hown1
        case measure => simp [intOf]; omega
end Go.Proofs.Ytpmjfbdnfdeblaa
