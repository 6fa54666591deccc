/-
  The reference's Put and Sorted of numbers: what the law of the stage asks of them.
-/
import Derived.Test.YtbehflldghhopaaAmong
import Derived.Test.YtbehflldghhopaaConvL
set_option linter.unusedVariables false
set_option linter.unusedSimpArgs false
namespace Go.Proofs.Ytbehflldghhopaa
open Go.RowKit
attribute [local go_sem] Addr.add_mid

def PutL (l : List Int) (n : Int) (ys : List Int) : Prop := (n ∈ l ∧ ys = l) ∨ (n ∉ l ∧ ∃ k, k ≤ l.length ∧ ys = l.take k ++ ([n] ++ l.drop k))
/-- numbers that are read -/
def SlI (w : World) (v : Value) (l : List Int) : Prop := ∃ A c, v = .slice A l.length c ∧ Row w w.heap.size A (ivs l) ∧ (A = none → l.length = 0) ∧ l.length ≤ c
theorem SlI.ext {w w' : World} {v : Value} {l : List Int} (h : SlI w v l) (hb : Below w.heap.size w w') : SlI w' v l := by
  obtain ⟨A, c, rfl, h1, h2, h3⟩ := h; exact ⟨A, c, rfl, h1.ext hb, h2, h3⟩
theorem slice_none {w : World} {base n c : Nat} {e : TypeId} {A : Option Addr} {xs : List Value} (h : w.ownsRow base e 1 (.slice A n c) n xs) : A = none → n = 0 := by
  rintro rfl
  rcases h.2 with ⟨hv, _⟩ | ⟨g, cap, cur, hv, _⟩
  · injection hv
  · simp at hv
def GivesP (l : List Int) (n : Int) (w : World) (e : Ending) (w' : World) : Prop := ∃ v ys, e = .returned v ∧ SlI w' v ys ∧ PutL l n ys ∧ Below w.heap.size w w'

set_option maxRecDepth 100000 in
set_option maxHeartbeats 1000000 in
theorem Put_any {v : Value} {l : List Int} {n : Int} {w : World} (hr : SlI w v l) (hl : l.length ≤ 1048576) :
    Calls Try.prog 47 #[v, .int .i64 n] w (GivesP l n w) := by
  obtain ⟨A, c, rfl, hrow, hA, hc⟩ := hr
  have hca := R1Has_any (n := n) (c := c) hrow (by omega)
  obtain ⟨mb, hmb⟩ : ∃ z, z = decide (n ∈ l) := ⟨_, rfl⟩
  rw [← hmb] at hca
  have HCA := hide hca; have HMB := hide hmb
  clear hca hmb
  go_enter Try.func47, Try.ntmps47
  go_wp2_with fail
  refine HCA.out.mono ?_
  rintro z w2 ⟨rfl, rfl⟩
  clear HCA
  cases mb
  · have hnot : n ∉ l := of_decide_eq_false HMB.out.symm
    have HNOT := hide hnot
    clear hnot
    go_wp2_with fail
    go_loop [5] (fun i => ∃ k : Nat, k ≤ l.length ∧ i = .int .i64 (k : Int)) (fun i => l.length - (intOf i).toNat)
    case atStart => exact ⟨0, Nat.zero_le _, rfl⟩
    case round =>
      obtain ⟨k, hk, rfl⟩ := hrel
      have hend : ∀ (hkk : k ≤ l.length), True := fun _ => trivial
      have hhead := run_head elemI A l.length c k (by omega)
      have hcut := run_cut elemI A l.length c k hk
      have hive : (ivs l).take k = ivs (l.take k) := by simp [ivs, List.map_take]
      have hivd : (ivs l).drop (k * 1) = ivs (l.drop k) := by simp [ivs, List.map_drop]
      have hr1 := hrow.take k
      rw [hive] at hr1
      have hr2 := hrow.cutA (size := 1) (k := k) (by rw [ivs_length, Nat.mul_one]) hc
      rw [hivd] at hr2
      have hA2 : cutA A c k 1 = none → l.length - k = 0 := fun h => by
        unfold cutA at h
        split at h
        · omega
        · have := hA (by simpa using h); omega
      have hx1 : Below w.heap.size w (w.alloc (.cells #[] 3)) := ext_alloc (ext_refl _) _
      have own1 : (w.alloc (.cells #[] 3)).ownsRow w.heap.size 3 1 (.slice (some ⟨w.heap.size, 0, none⟩) 0 0) 0 [] := own_empty w _ _
      by_cases hlt : k < l.length
      · have i0 : (0 : Int) ≤ (k : Int) := by omega
        have i1 : (k : Int) < (l.length : Int) := by omega
        obtain ⟨b, o, rfl, hbb, hcc⟩ := Row.fix hrow (ivs_get l k hlt)
        have hc0 := hcc _ _ (ivs_get l k hlt)
        obtain ⟨x, hx⟩ : ∃ x, x = l[k] := ⟨_, rfl⟩
        rw [← hx] at hc0
        clear hcc hx
        by_cases hxn : x < n
        · have t1 : decide (x < n) = true := decide_eq_true hxn
          clear hr1 hr2 own1
          go_wp2_with fail
          go_round
          case rel => exact ⟨k + 1, by omega, by go_num⟩
          case measure => simp [intOf]; omega
        · have t1 : decide (x < n) = false := decide_eq_false hxn
          have hl1 : (ivs (l.take k)).length = k * 1 := by rw [ivs_length, List.length_take, Nat.min_eq_left hk, Nat.mul_one]
          have hl2 : (ivs (l.drop k)).length = (l.length - k) * 1 := by rw [ivs_length, List.length_drop, Nat.mul_one]
          have hys : (l.take k ++ ([n] ++ l.drop k)).length = k + 1 + (l.length - k) := by simp only [List.length_append, List.length_take, List.length_drop, List.length_cons, List.length_nil]; omega
          have HYS := hide hys; have HK := hide hk
          obtain ⟨m2, hm2⟩ : ∃ x, x = l.length - k := ⟨_, rfl⟩
          rw [← hm2] at hcut hl2 hA2
          have hm2l : k + 1 + m2 ≤ 1048577 := by omega
          have HM2 := hide hm2
          obtain ⟨X1, hX1⟩ : ∃ x, x = ivs (l.take k) := ⟨_, rfl⟩
          obtain ⟨X2, hX2⟩ : ∃ x, x = ivs (l.drop k) := ⟨_, rfl⟩
          have hivy : X1 ++ [.int .i64 n] ++ X2 = ivs (l.take k ++ ([n] ++ l.drop k)) := by rw [hX1, hX2]; simp [ivs]
          have HIV := hide hivy
          rw [← hX1] at hr1 hl1
          rw [← hX2] at hr2 hl2
          have o1 : ∀ u ∈ X1, u.oneCell' = true := by rw [hX1]; exact ivs_one _
          have o2 : ∀ u ∈ X2, u.oneCell' = true := by rw [hX2]; exact ivs_one _
          have hr19 := hr1.ext hx1
          clear hys hm2 hX1 hX2 hivy hr1 hive hivd
          go_wp2_with (at_builtin; go_must (refine wpList_append_row rfl (.tmp 25) (.tmp 28) rfl elemI w.heap.size _ 0 [] rfl own1 _ k c (some ⟨b, o, none⟩) X1 hl1 rfl hr19 (fun h => by cases h) o1 (by unfold maxLen; omega) (by omega) hx1.size ?_))
          intro v5 w5 ho5 hg5
          have hb5 : Below w.heap.size w w5 := below_of_own hx1 own1 hg5 hx1.size (Nat.le_refl _)
          clear own1 hg5 hr19
          go_wp2_with (at_builtin; go_must (refine wpList_append_new rfl (.tmp 30) (.tmp 32) rfl elemI w.heap.size _ k X1 rfl ho5 1 _ rfl rfl (by simp [Value.oneCell']) (by decide) (by unfold maxLen; omega) (by omega) hb5.size ?_))
          intro v6 w6 ho6 hg6
          have hb6 : Below w.heap.size w w6 := below_of_own hb5 ho5 hg6 hb5.size (Nat.le_refl _)
          have hr26 := hr2.ext hb6
          have hX3 : X1 ++ (#[Value.int .i64 n] : Array Value).toList = X1 ++ [.int .i64 n] := rfl
          rw [hX3] at ho6
          obtain ⟨X12, hX12⟩ : ∃ x, x = X1 ++ [.int .i64 n] := ⟨_, rfl⟩
          rw [← hX12] at ho6
          rw [← hX12] at HIV
          obtain ⟨k1, hk1⟩ : ∃ x, x = k + 1 := ⟨_, rfl⟩
          rw [← hk1] at ho6 hm2l
          rw [← hk1] at HYS
          clear ho5 hg6 hX12 hk1 hX3 hr2 hb5
          go_wp2_with (at_builtin; go_must (refine wpList_append_row rfl (.tmp 34) (.tmp 37) rfl elemI w.heap.size _ k1 X12 rfl ho6 _ m2 (c - k) (cutA (some ⟨b, o, none⟩) c k 1) X2 hl2 rfl hr26 hA2 o2 (by unfold maxLen; omega) (by omega) hb6.size ?_))
          intro v7 w7 ho7 hg7
          have hb7 : Below w.heap.size w w7 := below_of_own hb6 ho6 hg7 hb6.size (Nat.le_refl _)
          rw [HIV.out, HM2.out, ← HYS.out] at ho7
          obtain ⟨A7, c7, rfl, hcc7, _⟩ := own_form ho7
          have HR7 := hide (Row.own ho7)
          have HA7 := hide (slice_none ho7)
          clear ho6 ho7 hg7 hr26 hb6
          go_wp2_with fail
          go_ret
          exact ⟨_, _, rfl, ⟨A7, c7, rfl, HR7.out, HA7.out, hcc7⟩, .inr ⟨HNOT.out, k, HK.out, rfl⟩, hb7⟩
      · obtain rfl : k = l.length := by omega
        have hl1 : (ivs (l.take l.length)).length = l.length * 1 := by rw [ivs_length, List.length_take, Nat.min_eq_left hk, Nat.mul_one]
        have hl2 : (ivs (l.drop l.length)).length = (l.length - l.length) * 1 := by rw [ivs_length, List.length_drop, Nat.mul_one]
        have hys : (l.take l.length ++ ([n] ++ l.drop l.length)).length = l.length + 1 + (l.length - l.length) := by simp only [List.length_append, List.length_take, List.length_drop, List.length_cons, List.length_nil]; omega
        have HYS := hide hys; have HK := hide hk
        obtain ⟨m2, hm2⟩ : ∃ x, x = l.length - l.length := ⟨_, rfl⟩
        rw [← hm2] at hcut hl2 hA2
        have hm2l : l.length + 1 + m2 ≤ 1048577 := by omega
        have HM2 := hide hm2
        obtain ⟨X1, hX1⟩ : ∃ x, x = ivs (l.take l.length) := ⟨_, rfl⟩
        obtain ⟨X2, hX2⟩ : ∃ x, x = ivs (l.drop l.length) := ⟨_, rfl⟩
        have hivy : X1 ++ [.int .i64 n] ++ X2 = ivs (l.take l.length ++ ([n] ++ l.drop l.length)) := by rw [hX1, hX2]; simp [ivs]
        have HIV := hide hivy
        rw [← hX1] at hr1 hl1
        rw [← hX2] at hr2 hl2
        have o1 : ∀ u ∈ X1, u.oneCell' = true := by rw [hX1]; exact ivs_one _
        have o2 : ∀ u ∈ X2, u.oneCell' = true := by rw [hX2]; exact ivs_one _
        have hr19 := hr1.ext hx1
        clear hys hm2 hX1 hX2 hivy hr1 hive hivd
        go_wp2_with (at_builtin; go_must (refine wpList_append_row rfl (.tmp 25) (.tmp 28) rfl elemI w.heap.size _ 0 [] rfl own1 _ l.length c A X1 hl1 rfl hr19 (fun h => hA h) o1 (by unfold maxLen; omega) (by omega) hx1.size ?_))
        intro v5 w5 ho5 hg5
        have hb5 : Below w.heap.size w w5 := below_of_own hx1 own1 hg5 hx1.size (Nat.le_refl _)
        clear own1 hg5 hr19
        go_wp2_with (at_builtin; go_must (refine wpList_append_new rfl (.tmp 30) (.tmp 32) rfl elemI w.heap.size _ l.length X1 rfl ho5 1 _ rfl rfl (by simp [Value.oneCell']) (by decide) (by unfold maxLen; omega) (by omega) hb5.size ?_))
        intro v6 w6 ho6 hg6
        have hb6 : Below w.heap.size w w6 := below_of_own hb5 ho5 hg6 hb5.size (Nat.le_refl _)
        have hr26 := hr2.ext hb6
        have hX3 : X1 ++ (#[Value.int .i64 n] : Array Value).toList = X1 ++ [.int .i64 n] := rfl
        rw [hX3] at ho6
        obtain ⟨X12, hX12⟩ : ∃ x, x = X1 ++ [.int .i64 n] := ⟨_, rfl⟩
        rw [← hX12] at ho6
        rw [← hX12] at HIV
        obtain ⟨k1, hk1⟩ : ∃ x, x = l.length + 1 := ⟨_, rfl⟩
        rw [← hk1] at ho6 hm2l
        rw [← hk1] at HYS
        clear ho5 hg6 hX12 hk1 hX3 hr2 hb5
        go_wp2_with (at_builtin; go_must (refine wpList_append_row rfl (.tmp 34) (.tmp 37) rfl elemI w.heap.size _ k1 X12 rfl ho6 _ m2 (c - l.length) (cutA A c l.length 1) X2 hl2 rfl hr26 hA2 o2 (by unfold maxLen; omega) (by omega) hb6.size ?_))
        intro v7 w7 ho7 hg7
        have hb7 : Below w.heap.size w w7 := below_of_own hb6 ho6 hg7 hb6.size (Nat.le_refl _)
        rw [HIV.out, HM2.out, ← HYS.out] at ho7
        obtain ⟨A7, c7, rfl, hcc7, _⟩ := own_form ho7
        have HR7 := hide (Row.own ho7)
        have HA7 := hide (slice_none ho7)
        clear ho6 ho7 hg7 hr26 hb6
        go_wp2_with fail
        go_ret
        exact ⟨_, _, rfl, ⟨A7, c7, rfl, HR7.out, HA7.out, hcc7⟩, .inr ⟨HNOT.out, l.length, HK.out, rfl⟩, hb7⟩
  · have hin : n ∈ l := of_decide_eq_true HMB.out.symm
    go_wp2_with fail
    go_ret
    exact ⟨_, l, rfl, ⟨A, c, rfl, hrow, hA, hc⟩, .inl ⟨hin, rfl⟩, ext_refl _⟩
end Go.Proofs.Ytbehflldghhopaa
