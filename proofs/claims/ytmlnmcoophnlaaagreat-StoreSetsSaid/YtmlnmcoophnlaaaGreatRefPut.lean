/-
  fedchatref05: Int, PutInt, PutText, PutInts, PutTexts, PutBool.
-/
import Derived.Test.YtmlnmcoophnlaaaGreatNum
import Derived.Test.YtmlnmcoophnlaaaGreatMem
set_option linter.unusedVariables false
set_option linter.unusedSimpArgs false
namespace Go.Proofs.YtmlnmcoophnlaaaGreat
open Go.RowKit

theorem bv_rem (u : Nat) : Value.int .u8 ((u : Int) % 128 + 128) = bv (UInt8.ofNat (u % 128 + 128)) := bv_of (by omega) (by omega)

set_option maxRecDepth 100000 in
set_option maxHeartbeats 400000 in
theorem RInt_any (n : Int) (w : World) (h1 : -9223372036854775808 ≤ n) (h2 : n < 9223372036854775808) :
    Calls Tryz.prog 185 #[.int .i64 n] w (OwnB w.heap.size (encI n) w) := by
  have HZ0 := hide (fun h : 0 ≤ n => zig_pos h)
  have HZ1 := hide (fun h : n < 0 => zig_neg h h1)
  have HZL := hide (Enc.enc_len (zig n) (zig_lt h1 h2))
  have HL := hide (zig_lt h1 h2)
  by_cases h0 : n < 0
  all_goals go_enter Tryz.func185, Tryz.ntmps185
  all_goals go_wp2
  all_goals first | rw [HZ0.out h0] | rw [HZ1.out h0]
  all_goals
    go_loopw [3, 4] (fun u v wr => ∃ (pre : List UInt8) (u' : Nat), u = .int .u64 (u' : Int) ∧ Hid (Enc.enc (zig n) = pre ++ Enc.enc u') ∧ Hid (u' < 18446744073709551616) ∧ wr.ownsRow w.heap.size 5 1 v pre.length (bvs pre) ∧ Below w.heap.size w wr)
      (fun u _ _ => (intOf u).toNat)
    case atStart => exact ⟨[], _, rfl, by exact rfl, HL, World.ownsRow_nil _ _ _ _, Below.refl _ _⟩
    case round =>
      obtain ⟨pre, u', rfl, henc, hu, hown, hnx⟩ := hrel
      have hpl : pre.length ≤ 10 := by have := HZL.out; rw [henc.out] at this; simp at this; omega
      have hBr : w.heap.size ≤ wr.heap.size := hnx.size
      by_cases hlt : u' < 128
      · go_wp2_with (first | (at_builtin; go_must (refine wpList_append_new rfl (.tmp 23) (.tmp 26) rfl elemB w.heap.size _ _ _ rfl hown 1 _ rfl rfl (by simp [Value.oneCell']) (by decide) (by unfold maxLen; omega) (by omega) hBr ?_)))
        intro v' w1 hown1 hgrow
        go_wp2
        go_ret
        refine ⟨_, rfl, ?_, below_of_own hnx hown hgrow hBr (Nat.le_refl _)⟩
        rw [encI, henc.out, Enc.enc_small _ hlt]
        rw [bvs_snoc (by omega)] at hown1
        simpa [Nat.add_assoc] using hown1
      · go_wp2_with (first | (at_builtin; go_must (refine wpList_append_new rfl (.tmp 14) (.tmp 19) rfl elemB w.heap.size _ _ _ rfl hown 1 _ rfl rfl (by simp [Value.oneCell']) (by decide) (by unfold maxLen; omega) (by omega) hBr ?_)))
        intro v' w1 hown1 hgrow
        have hb1 := below_of_own hnx hown hgrow hBr (Nat.le_refl _)
        have hd : IntKind.u64.wrap ((u' : Int) / 128) = ((u' / 128 : Nat) : Int) := by have := hu.out; rw [wrap_u64]; omega
        have HD := hide hd; clear hd
        go_wp2
        go_roundw
        case rel =>
          refine ⟨pre ++ [UInt8.ofNat (u' % 128 + 128)], u' / 128, by rw [HD.out], ?_, ?_, ?_, hb1⟩
          · have h := henc.out; rw [Enc.enc_big _ hlt] at h; simpa [Hid] using h
          · have h := hu.out; simp only [Hid]; omega
          · rw [bv_rem] at hown1
            rw [← bvs_append, List.length_append]
            exact hown1
        case measure => rw [HD.out]; simp [intOf]; omega

set_option maxRecDepth 100000 in
set_option maxHeartbeats 400000 in
theorem RPutInt_any (A : Option Addr) (c : Nat) (l : List UInt8) (n : Int) (w : World) (hr : Row w w.heap.size A (bvs l)) (h1 : -9223372036854775808 ≤ n) (h2 : n < 9223372036854775808) (hl : l.length ≤ 1073741824) :
    Calls Tryz.prog 143 #[.slice A l.length c, .int .i64 n] w (OwnB w.heap.size (l ++ encI n) w) := by
  have hr0 := row_alloc hr (.cells #[] 5)
  have hle := Enc.enc_len (zig n) (zig_lt h1 h2)
  obtain ⟨la, hla, HLA⟩ := named (encI n)
  have hle' : la.length ≤ 10 := by rw [hla]; exact hle
  clear hla hle
  go_enter Tryz.func143, Tryz.ntmps143
  go_wp2_with (first | (at_builtin; go_must (refine wpList_append_row rfl (.tmp 5) (.tmp 6) rfl elemB w.heap.size _ 0 [] rfl (own_empty w _ _) _ l.length c A (bvs l) (by simp [bvs]) rfl hr0 (row_none hr) (bvs_one l) (by unfold maxLen; omega) (by omega) (by simp) ?_)))
  intro v1 w1 hown1 hg1
  have hb1 := below_of_own (Below.alloc (Below.refl w.heap.size w) (Nat.le_refl _) (.cells #[] 5)) (own_empty w _ 1) hg1 (by simp) (Nat.le_refl _)
  have e1 : w1.ownsRow w.heap.size 5 1 v1 l.length (bvs l) := by simpa using hown1
  clear hown1 hg1
  go_wp2_with fail
  refine (RInt_any n w1 h1 h2).mono ?_
  rintro e w2 ⟨v2, rfl, hown2, hb2⟩
  rw [← HLA.out] at hown2
  obtain ⟨A2, c2, rfl, _, _⟩ := own_form hown2
  have hr2 := Row.own hown2
  replace e1 := own_below e1 hb2
  go_wp2_with (first | (at_builtin; go_must (refine wpList_append_row rfl (.tmp 7) (.tmp 9) rfl elemB w.heap.size _ _ _ rfl e1 _ la.length c2 A2 (bvs la) (by simp [bvs]) rfl hr2 (row_none hr2) (bvs_one la) (by unfold maxLen; omega) (by omega) (ext_trans hb1 hb2).size ?_)))
  intro v3 w3 hown3 hg3
  go_wp2_with fail
  go_ret
  refine ⟨_, rfl, ?_, below_of_own (ext_trans hb1 hb2) e1 hg3 (ext_trans hb1 hb2).size (Nat.le_refl _)⟩
  rw [← HLA.out, List.length_append, ← bvs_append]
  exact hown3

set_option maxRecDepth 100000 in
set_option maxHeartbeats 400000 in
theorem RPutText_any (A : Option Addr) (c : Nat) (l : List UInt8) (s : ByteArray) (w : World) (hr : Row w w.heap.size A (bvs l)) (hl : l.length ≤ 1073741824) (hs : s.size ≤ 1073741824) :
    Calls Tryz.prog 144 #[.slice A l.length c, .string s] w (OwnB w.heap.size (l ++ encS s) w) := by
  have hle := Enc.enc_len (zig s.size) (zig_lt (by omega) (by omega))
  obtain ⟨la, hla, HLA⟩ := named (l ++ encI s.size)
  have hle' : la.length ≤ 1073741834 := by rw [hla, List.length_append]; simp only [encI]; omega
  clear hla hle
  go_enter Tryz.func144, Tryz.ntmps144
  go_wp2_with fail
  refine (RPutInt_any A c l s.size w hr (by omega) (by omega) hl).mono ?_
  rintro e w1 ⟨v1, rfl, hown1, hb1⟩
  rw [← HLA.out] at hown1
  go_wp2_with (with_reducible refine wpList_to_bytes rfl (.tmp 9) 9 77 5 rfl Tryz.underlying9 Tryz.underlying77 Tryz.underlying5 s rfl ?_)
  intro A2 c2 w2 hr2 hc2 hb2
  replace hown1 := own_below hown1 hb2
  go_wp2_with (first | (at_builtin; go_must (refine wpList_append_row rfl (.tmp 8) (.tmp 10) rfl elemB w.heap.size _ _ _ rfl hown1 _ s.size c2 A2 (bvs s.data.toList) (by rw [bvs_length, Enc.size_toList]; simp) rfl hr2 (fun h => by rw [← Enc.size_toList]; exact row_none hr2 h) (bvs_one _) (by unfold maxLen; omega) (by omega) (ext_trans hb1 hb2).size ?_)))
  intro v3 w3 hown3 hg3
  go_wp2_with fail
  go_ret
  refine ⟨_, rfl, ?_, below_of_own (ext_trans hb1 hb2) hown1 hg3 (ext_trans hb1 hb2).size (Nat.le_refl _)⟩
  rw [encS, ← List.append_assoc, ← HLA.out, List.length_append, ← bvs_append, Enc.size_toList]
  exact hown3

set_option maxRecDepth 100000 in
set_option maxHeartbeats 400000 in
theorem RPutBool_any (A : Option Addr) (c : Nat) (l : List UInt8) (is : Bool) (w : World) (hr : Row w w.heap.size A (bvs l)) (hl : l.length ≤ 1073741824) :
    Calls Tryz.prog 145 #[.slice A l.length c, .bool is] w (OwnB w.heap.size (l ++ [if is then 1 else 0]) w) := by
  have hr0 := row_alloc hr (.cells #[] 5)
  cases is
  all_goals
    go_enter Tryz.func145, Tryz.ntmps145
    go_wp2_with (first | (at_builtin; go_must (refine wpList_append_row rfl (.tmp 6) (.tmp 7) rfl elemB w.heap.size _ 0 [] rfl (own_empty w _ _) _ l.length c A (bvs l) (by simp [bvs]) rfl hr0 (row_none hr) (bvs_one l) (by unfold maxLen; omega) (by omega) (by simp) ?_)))
    intro v1 w1 hown1 hg1
    have hb1 := below_of_own (Below.alloc (Below.refl w.heap.size w) (Nat.le_refl _) (.cells #[] 5)) (own_empty w _ 1) hg1 (by simp) (Nat.le_refl _)
    have e1 : w1.ownsRow w.heap.size 5 1 v1 l.length (bvs l) := by simpa using hown1
    clear hown1 hg1
    go_wp2_with (first | (at_builtin; go_must (refine wpList_append_new rfl _ _ rfl elemB w.heap.size _ _ _ rfl e1 1 _ rfl rfl (by simp [Value.oneCell']) (by decide) (by unfold maxLen; omega) (by omega) hb1.size ?_)))
    intro v2 w2 hown2 hgrow
    go_wp2
    go_ret
    refine ⟨_, rfl, ?_, below_of_own hb1 e1 hgrow hb1.size (Nat.le_refl _)⟩
    simpa [bvs, bv] using hown2

set_option maxRecDepth 100000 in
set_option maxHeartbeats 400000 in
theorem RPutInts_any (A : Option Addr) (c : Nat) (l : List UInt8) (A2 : Option Addr) (c2 : Nat) (ns : List Int) (w : World) (hr : Row w w.heap.size A (bvs l)) (hr2 : Row w w.heap.size A2 (ivs ns)) (hi : ∀ n ∈ ns, I64 n)
    (hl : l.length + (encL encI ns).length ≤ 1073741824) (hn : ns.length ≤ 1073741824) :
    Calls Tryz.prog 146 #[.slice A l.length c, .slice A2 ns.length c2] w (OwnB w.heap.size (l ++ encL encI ns) w) := by
  have HL := hide hl; clear hl
  have hl0 : l.length ≤ 1073741824 := by have := HL.out; omega
  go_enter Tryz.func146, Tryz.ntmps146
  go_wp2_with fail
  refine (RPutInt_any A c l ns.length w hr (by omega) (by omega) (by omega)).mono ?_
  rintro e w1 ⟨v1, rfl, hown1, hb⟩
  go_wp2_with fail
  go_loopw [5, 6] (fun v i wr => ∃ k : Nat, k ≤ ns.length ∧ i = .int .i64 (k : Int) ∧ wr.ownsRow w.heap.size 5 1 v (l ++ (encI ns.length ++ (ns.take k).flatMap encI)).length (bvs (l ++ (encI ns.length ++ (ns.take k).flatMap encI))) ∧ Below w.heap.size w wr)
    (fun _ i _ => ns.length - (intOf i).toNat)
  case atStart => exact ⟨0, Nat.zero_le _, rfl, by simpa using hown1, hb⟩
  case round =>
    obtain ⟨k, hk, rfl, hownk, hnx⟩ := hrel
    by_cases hlt : k < ns.length
    · obtain ⟨ad, rfl, _, hcell⟩ := (hr2.below hnx).at (ivs_get ns k hlt)
      obtain ⟨q1, q2⟩ := hi _ (List.getElem_mem hlt)
      have hsn := Enc.flatMap_snoc encI ns k hlt
      have HSN := hide hsn; clear hsn
      obtain ⟨lk, hlk, HLK⟩ := named (l ++ (encI ns.length ++ (ns.take k).flatMap encI))
      obtain ⟨ln, hln, HLN⟩ := named (encI ns[k])
      have hlen : lk.length + ln.length ≤ 1073741824 := by
        have := Enc.flatMap_get encI ns k hlt; have := HL.out; rw [hlk, hln]; simp only [encL, List.length_append] at *; omega
      rw [← hlk] at hownk
      clear hlk hln
      go_wp2_with fail
      refine (RInt_any _ wr q1 q2).mono ?_
      rintro e w2 ⟨v2, rfl, hown2, hb2⟩
      rw [← HLN.out] at hown2
      obtain ⟨A4, c4, rfl, _, _⟩ := own_form hown2
      have hr4 := Row.own hown2
      replace hownk := own_below hownk hb2
      have hnx2 := ext_trans hnx hb2
      go_wp2_with (first | (at_builtin; go_must (refine wpList_append_row rfl (.tmp 17) (.tmp 22) rfl elemB w.heap.size _ _ _ rfl hownk _ ln.length c4 A4 (bvs ln) (by simp [bvs]) rfl hr4 (row_none hr4) (bvs_one ln) (by unfold maxLen; omega) (by omega) hnx2.size ?_)))
      intro v3 w3 hown3 hg3
      have hnx3 := below_of_own hnx2 hownk hg3 hnx2.size (Nat.le_refl _)
      go_wp2_with fail
      go_roundw
      case rel =>
        refine ⟨k + 1, by omega, by go_num, ?_, hnx3⟩
        rw [HSN.out, ← List.append_assoc (encI _), ← List.append_assoc l, ← HLK.out, ← HLN.out, List.length_append, ← bvs_append]
        exact hown3
      case measure => simp [intOf]; omega
    · obtain rfl : k = ns.length := by omega
      go_wp2_with fail
      go_ret
      refine ⟨_, rfl, ?_, hnx⟩
      simpa [encL] using hownk

set_option maxRecDepth 100000 in
set_option maxHeartbeats 400000 in
theorem RPutTexts_any (A : Option Addr) (c : Nat) (l : List UInt8) (A2 : Option Addr) (c2 : Nat) (ns : List ByteArray) (w : World) (hr : Row w w.heap.size A (bvs l)) (hr2 : Row w w.heap.size A2 (svs ns))
    (hl : l.length + (encL encS ns).length ≤ 1073741824) (hn : ns.length ≤ 1073741824) :
    Calls Tryz.prog 149 #[.slice A l.length c, .slice A2 ns.length c2] w (OwnB w.heap.size (l ++ encL encS ns) w) := by
  have HL := hide hl; clear hl
  have hl0 : l.length ≤ 1073741824 := by have := HL.out; omega
  go_enter Tryz.func149, Tryz.ntmps149
  go_wp2_with fail
  refine (RPutInt_any A c l ns.length w hr (by omega) (by omega) (by omega)).mono ?_
  rintro e w1 ⟨v1, rfl, hown1, hb⟩
  go_wp2_with fail
  go_loopw [5, 6] (fun v i wr => ∃ k : Nat, k ≤ ns.length ∧ i = .int .i64 (k : Int) ∧ wr.ownsRow w.heap.size 5 1 v (l ++ (encI ns.length ++ (ns.take k).flatMap encS)).length (bvs (l ++ (encI ns.length ++ (ns.take k).flatMap encS))) ∧ Below w.heap.size w wr)
    (fun _ i _ => ns.length - (intOf i).toNat)
  case atStart => exact ⟨0, Nat.zero_le _, rfl, by simpa using hown1, hb⟩
  case round =>
    obtain ⟨k, hk, rfl, hownk, hnx⟩ := hrel
    by_cases hlt : k < ns.length
    · obtain ⟨ad, rfl, _, hcell⟩ := (hr2.below hnx).at (svs_get ns k hlt)
      have hsn := Enc.flatMap_snoc encS ns k hlt
      have HSN := hide hsn; clear hsn
      obtain ⟨lk, hlk, HLK⟩ := named (l ++ (encI ns.length ++ (ns.take k).flatMap encS))
      have hlen : lk.length + ns[k].size ≤ 1073741824 := by
        have := Enc.flatMap_get encS ns k hlt; have := HL.out; have := Enc.size_toList ns[k]; rw [hlk]; simp only [encL, encS, List.length_append] at *; omega
      rw [← hlk] at hownk
      clear hlk
      obtain ⟨A4, c4, rfl, _, _⟩ := own_form hownk
      have hr4 := Row.own hownk
      go_wp2_with fail
      refine (RPutText_any A4 c4 lk ns[k] wr hr4 (by omega) (by omega)).mono ?_
      rintro e w2 ⟨v2, rfl, hown2, hb2⟩
      go_wp2_with fail
      go_roundw
      case rel =>
        refine ⟨k + 1, by omega, by go_num, ?_, ext_trans hnx hb2⟩
        rw [HSN.out, ← List.append_assoc (encI _), ← List.append_assoc l, ← HLK.out]
        exact own_more hown2 hnx.size
      case measure => simp [intOf]; omega
    · obtain rfl : k = ns.length := by omega
      go_wp2_with fail
      go_ret
      refine ⟨_, rfl, ?_, hnx⟩
      simpa [encL] using hownk
end Go.Proofs.YtmlnmcoophnlaaaGreat
