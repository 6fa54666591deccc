/-
  codec.number.
  codec: room, rest, PutInt, PutBool, text, PutText.
-/
import Derived.Test.YtmlnmcoophnlaaaGreatRows
import Derived.Test.YtmlnmcoophnlaaaGreatEnc
import Derived.Test.YtmlnmcoophnlaaaGreatMem
import Derived.Lib.AppendStr
set_option linter.unusedVariables false
set_option linter.unusedSimpArgs false
namespace Go.Proofs.YtmlnmcoophnlaaaGreat
section
open Go.RowKit

theorem elemB : Elem Tryz.prog 77 5 (.int .u8 0) 1 1 := ⟨Tryz.underlying77, by kernel_rfl, rfl, by decide⟩

/-- what 'number' does to an owned row of bytes -/
def OwnB (B : Nat) (l : List UInt8) (w : World) (e : Ending) (w' : World) : Prop :=
  ∃ v', e = .returned v' ∧ w'.ownsRow B 5 1 v' l.length (bvs l) ∧ Below B w w'

set_option maxRecDepth 100000 in
set_option maxHeartbeats 400000 in
theorem number_any (B : Nat) (v : Value) (l : List UInt8) (n : Int) (w : World) (h1 : -9223372036854775808 ≤ n) (h2 : n < 9223372036854775808)
    (hown : w.ownsRow B 5 1 v l.length (bvs l)) (hB : B ≤ w.heap.size) (hl : l.length ≤ 1099511627776) :
    Calls Tryz.prog 164 #[v, .int .i64 n] w (OwnB B (l ++ Enc.enc (zig n)) w) := by
  have HZ0 := hide (fun h : 0 ≤ n => zig_pos h)
  have HZ1 := hide (fun h : n < 0 => zig_neg h h1)
  have HZL := hide (Enc.enc_len (zig n) (zig_lt h1 h2))
  have HL := hide (zig_lt h1 h2)
  by_cases h0 : n < 0
  all_goals go_enter Tryz.func164, Tryz.ntmps164
  all_goals go_wp2
  all_goals first | rw [HZ0.out h0] | rw [HZ1.out h0]
  all_goals
    go_loopw [0, 5] (fun v u wr => ∃ (pre : List UInt8) (u' : Nat), u = .int .u64 (u' : Int) ∧ Hid (Enc.enc (zig n) = pre ++ Enc.enc u') ∧ Hid (u' < 18446744073709551616) ∧ wr.ownsRow B 5 1 v (l.length + pre.length) (bvs (l ++ pre)) ∧ Below B w wr)
      (fun _ u _ => (intOf u).toNat)
    case atStart => exact ⟨[], _, rfl, by exact rfl, HL, by simpa using hown, Below.refl _ _⟩
    case round =>
      obtain ⟨pre, u', rfl, henc, hu, hown, hnx⟩ := hrel
      have hpl : pre.length ≤ 10 := by have := HZL.out; rw [henc.out] at this; simp at this; omega
      have hBr : B ≤ wr.heap.size := Nat.le_trans hB hnx.size
      by_cases hlt : u' < 128
      · go_wp2_with (first | (at_builtin; go_must (refine wpList_append_new rfl (.tmp 23) (.tmp 26) rfl elemB B _ _ _ rfl hown 1 _ rfl rfl (by simp [Value.oneCell']) (by decide) (by unfold maxLen; omega) (by omega) hBr ?_)))
        intro v' w1 hown1 hgrow
        go_wp2
        go_ret
        refine ⟨_, rfl, ?_, below_of_own hnx hown hgrow hBr (Nat.le_refl _)⟩
        rw [henc.out, Enc.enc_small _ hlt]
        rw [bvs_snoc (by omega)] at hown1
        simpa [Nat.add_assoc] using hown1
      · go_wp2_with (first | (at_builtin; go_must (refine wpList_append_new rfl (.tmp 15) (.tmp 19) rfl elemB B _ _ _ rfl hown 1 _ rfl rfl (by simp [Value.oneCell']) (by decide) (by unfold maxLen; omega) (by omega) hBr ?_)))
        intro v' w1 hown1 hgrow
        have hb1 := below_of_own hnx hown hgrow hBr (Nat.le_refl _)
        have hd : ((u' / 128 : Nat) : Int) = (u' : Int) / 128 := by omega
        have HD := hide hd; clear hd
        go_wp2
        go_roundw
        case rel =>
          refine ⟨pre ++ [UInt8.ofNat (u' % 128 + 128)], u' / 128, by rw [HD.out], ?_, ?_, ?_, hb1⟩
          · have h := henc.out; rw [Enc.enc_big _ hlt] at h; simpa [Hid] using h
          · have h := hu.out; simp only [Hid]; omega
          · rw [bits_or_128, bvs_snoc (by omega)] at hown1
            simpa [Nat.add_assoc] using hown1
        case measure => simp [intOf]; omega
end

section
open Go.RowKit

set_option maxRecDepth 100000 in
set_option maxHeartbeats 400000 in
theorem room_any (A : Option Addr) (c : Nat) (l : List UInt8) (more : Int) (w : World) (hr : Row w w.heap.size A (bvs l)) (h0 : 0 ≤ more) (h1 : more ≤ 1099511627776) (hl : l.length ≤ 1099511627776) :
    Calls Tryz.prog 163 #[.slice A l.length c, .int .i64 more] w (OwnB w.heap.size l w) := by
  obtain ⟨m, rfl⟩ := Int.eq_ofNat_of_zero_le h0
  go_enter Tryz.func163, Tryz.ntmps163
  go_wp2_with (first | (at_make; go_must (refine wpList_make rfl (.tmp 7) (.tmp 11) rfl elemB w.heap.size .i64 .i64 _ _ l.length (l.length + m) rfl rfl rfl (by simp) (by omega) (by omega) (by unfold maxLen; omega) (Nat.le_refl _) ?_)))
  rintro g w1 rfl hown hgrow hsz
  have hr1 := hr.grown hgrow (Nat.le_refl _) (by simp)
  have hb1 := (Below.refl w.heap.size w).grown hgrow (Nat.le_refl _) (by simp)
  go_wp2_with (with_reducible refine wpList_copy rfl (.tmp 13) (.tmp 14) 77 rfl elemB w.heap.size w.heap.size l.length _ _ hown 0 _ l.length _ rfl w.heap.size A l.length c l.length (bvs l) rfl (by simp) (by simp [bvs]) hr1 (bvs_one l) (by omega) (by simp [Addr.add]) ?_)
  intro w2 hown2 hgrow2
  go_wp2
  go_ret
  refine ⟨_, rfl, ?_, hb1.grown hgrow2 (by omega) (by simp)⟩
  rw [patch_all _ _ (by simp [bvs, size_madeCells])] at hown2
  exact hown2

theorem room_at (A : Option Addr) (n c : Nat) (l : List UInt8) (more : Int) (w : World) (hr : Row w w.heap.size A (bvs l)) (hn : l.length = n) (h0 : 0 ≤ more) (h1 : more ≤ 1099511627776) (hl : n ≤ 1099511627776) :
    Calls Tryz.prog 163 #[.slice A n c, .int .i64 more] w (OwnB w.heap.size l w) := by
  subst hn
  exact room_any A c l more w hr h0 h1 hl

/-- what a function leaves that hands back new bytes -/
theorem OwnB.more {B B' : Nat} {l : List UInt8} {w : World} {e : Ending} {w' : World} (h : OwnB B l w e w') (hB : B' ≤ B) : OwnB B' l w e w' := by
  obtain ⟨v', he, h1, h2⟩ := h
  exact ⟨v', he, own_more h1 hB, h2.mono hB⟩

set_option maxRecDepth 100000 in
set_option maxHeartbeats 400000 in
theorem PutInt_any (A : Option Addr) (c : Nat) (l : List UInt8) (n : Int) (w : World) (hr : Row w w.heap.size A (bvs l)) (h1 : -9223372036854775808 ≤ n) (h2 : n < 9223372036854775808) (hl : l.length ≤ 1073741824) :
    Calls Tryz.prog 96 #[.slice A l.length c, .int .i64 n] w (OwnB w.heap.size (l ++ Enc.enc (zig n)) w) := by
  go_enter Tryz.func96, Tryz.ntmps96
  go_wp2_with fail
  refine (room_any A c l 10 w hr (by decide) (by decide) (by omega)).mono ?_
  rintro e w1 ⟨v1, rfl, hown, hb⟩
  go_wp2_with fail
  refine (number_any w.heap.size v1 l n w1 h1 h2 hown hb.size (by omega)).mono ?_
  rintro e w2 ⟨v2, rfl, hown2, hb2⟩
  go_wp2_with fail
  go_ret
  exact ⟨_, rfl, hown2, hb.trans hb2⟩

set_option maxRecDepth 100000 in
set_option maxHeartbeats 400000 in
theorem PutBool_any (A : Option Addr) (c : Nat) (l : List UInt8) (is : Bool) (w : World) (hr : Row w w.heap.size A (bvs l)) (hl : l.length ≤ 1073741824) :
    Calls Tryz.prog 97 #[.slice A l.length c, .bool is] w (OwnB w.heap.size (l ++ [if is then 1 else 0]) w) := by
  cases is
  all_goals
    go_enter Tryz.func97, Tryz.ntmps97
    go_wp2_with fail
    refine (room_any A c l 1 w hr (by decide) (by decide) (by omega)).mono ?_
    rintro e w1 ⟨v1, rfl, hown, hb⟩
    go_wp2_with (first | (at_builtin; go_must (refine wpList_append_new rfl _ _ rfl elemB w.heap.size _ _ _ rfl hown 1 _ rfl rfl (by simp [Value.oneCell']) (by decide) (by unfold maxLen; omega) (by omega) hb.size ?_)))
    intro v2 w2 hown2 hgrow
    go_wp2
    go_ret
    refine ⟨_, rfl, ?_, below_of_own hb hown hgrow hb.size (Nat.le_refl _)⟩
    simpa [bvs, bv] using hown2

set_option maxRecDepth 100000 in
set_option maxHeartbeats 400000 in
theorem text_any (B : Nat) (v : Value) (l : List UInt8) (s : ByteArray) (w : World) (hown : w.ownsRow B 5 1 v l.length (bvs l)) (hB : B ≤ w.heap.size) (hl : l.length ≤ 1073741824) (hs : s.size ≤ 1073741824) :
    Calls Tryz.prog 162 #[v, .string s] w (OwnB B (l ++ encS s) w) := by
  go_enter Tryz.func162, Tryz.ntmps162
  go_wp2_with fail
  refine (number_any B v l s.size w (by omega) (by omega) hown hB (by omega)).mono ?_
  rintro e w1 ⟨v1, rfl, hown1, hb⟩
  obtain ⟨i0, hi, hz0, hz1, hz2⟩ := info_parts elemB.info
  have hle := Enc.enc_len (zig s.size) (zig_lt (by omega) (by omega))
  have hll : (l ++ Enc.enc (zig s.size)).length ≤ 1073741834 := by simp; omega
  clear hle
  generalize hl1 : l ++ Enc.enc (zig s.size) = l1 at hown1 hll
  have HL1 := hide hl1; clear hl1
  go_wp2_with (first | (at_builtin; go_must (refine Lib.wpList_append_own_string _ rfl _ _ 77 9 rfl B 5 i0 Tryz.underlying77 Tryz.underlying9 hi hz0 hz1 hz2 _ _ _ rfl hown1 s rfl (by unfold maxLen; omega) (by omega) (Nat.le_trans hB hb.size) ?_)))
  intro v2 w2 hown2 hgrow _
  go_wp2
  go_ret
  refine ⟨_, rfl, ?_, below_of_own hb hown1 hgrow (Nat.le_trans hB hb.size) (Nat.le_refl _)⟩
  have e1 : Lib.strCells s = bvs s.data.toList := rfl
  have e2 := (Enc.size_toList s).symm
  rw [e1, bvs_append, e2, ← List.length_append] at hown2
  rw [encS, encI, ← List.append_assoc, HL1.out]
  exact hown2

set_option maxRecDepth 100000 in
set_option maxHeartbeats 400000 in
theorem PutText_any (A : Option Addr) (c : Nat) (l : List UInt8) (s : ByteArray) (w : World) (hr : Row w w.heap.size A (bvs l)) (hl : l.length ≤ 1073741824) (hs : s.size ≤ 1073741824) :
    Calls Tryz.prog 95 #[.slice A l.length c, .string s] w (OwnB w.heap.size (l ++ encS s) w) := by
  go_enter Tryz.func95, Tryz.ntmps95
  go_wp2_with fail
  refine (room_any A c l _ w hr (by omega) (by omega) (by omega)).mono ?_
  rintro e w1 ⟨v1, rfl, hown, hb⟩
  go_wp2_with fail
  refine (text_any w.heap.size v1 l s w1 hown hb.size hl hs).mono ?_
  rintro e w2 ⟨v2, rfl, hown2, hb2⟩
  go_wp2_with fail
  go_ret
  exact ⟨_, rfl, hown2, hb.trans hb2⟩

set_option maxRecDepth 100000 in
set_option maxHeartbeats 400000 in
theorem list_ints (B : Nat) (v : Value) (l : List UInt8) (A : Option Addr) (c : Nat) (ns : List Int) (w : World) (hown : w.ownsRow B 5 1 v l.length (bvs l)) (hB : B ≤ w.heap.size) (hr : Row w B A (ivs ns)) (hi : ∀ n ∈ ns, I64 n)
    (hl : l.length + (encL encI ns).length ≤ 1073741824) (hn : ns.length ≤ 1073741824) :
    Calls Tryz.prog 193 #[v, .slice A ns.length c, .func (Fn.func 164) #[] #[]] w (OwnB B (l ++ encL encI ns) w) := by
  have HL := hide hl; clear hl
  have hl0 : l.length ≤ 1073741824 := by have := HL.out; omega
  go_enter Tryz.func193, Tryz.ntmps193
  go_wp2_with fail
  refine (number_any B v l ns.length w (by omega) (by omega) hown hB (by omega)).mono ?_
  rintro e w1 ⟨v1, rfl, hown1, hb⟩
  go_wp2_with fail
  go_loopw [0, 15] (fun v i wr => ∃ k : Nat, k ≤ ns.length ∧ i = .int .i64 (k : Int) ∧ wr.ownsRow B 5 1 v (l ++ (encI ns.length ++ (ns.take k).flatMap encI)).length (bvs (l ++ (encI ns.length ++ (ns.take k).flatMap encI))) ∧ Below B w wr)
    (fun _ i _ => ns.length - (intOf i).toNat)
  case atStart => exact ⟨0, Nat.zero_le _, rfl, by simpa [encI] using hown1, hb⟩
  case round =>
    obtain ⟨k, hk, rfl, hownk, hnx⟩ := hrel
    by_cases hlt : k < ns.length
    · obtain ⟨ad, rfl, _, hcell⟩ := (hr.below hnx).at (ivs_get ns k hlt)
      obtain ⟨q1, q2⟩ := hi _ (List.getElem_mem hlt)
      have hsn := Enc.flatMap_snoc encI ns k hlt
      have HSN := hide hsn; clear hsn
      have hlen : (l ++ (encI ns.length ++ (ns.take k).flatMap encI)).length ≤ 1073741824 := by
        have := Enc.flatMap_len encI ns k; have := HL.out; simp [encL] at *; omega
      go_wp2_with fail
      refine (number_any B _ _ _ _ q1 q2 hownk (Nat.le_trans hB hnx.size) (by omega)).mono ?_
      rintro e w2 ⟨v2, rfl, hown2, hb2⟩
      go_wp2_with fail
      go_roundw
      case rel =>
        refine ⟨k + 1, by omega, by go_num, ?_, hnx.trans hb2⟩
        rw [HSN.out]
        simpa [encI] using hown2
      case measure => simp [intOf]; omega
    · obtain rfl : k = ns.length := by omega
      go_wp2_with fail
      go_ret
      refine ⟨_, rfl, ?_, hnx⟩
      simpa [encL] using hownk

set_option maxRecDepth 100000 in
set_option maxHeartbeats 400000 in
theorem list_texts (B : Nat) (v : Value) (l : List UInt8) (A : Option Addr) (c : Nat) (ns : List ByteArray) (w : World) (hown : w.ownsRow B 5 1 v l.length (bvs l)) (hB : B ≤ w.heap.size) (hr : Row w B A (svs ns))
    (hl : l.length + (encL encS ns).length ≤ 1073741824) (hn : ns.length ≤ 1073741824) :
    Calls Tryz.prog 165 #[v, .slice A ns.length c, .func (Fn.func 162) #[] #[]] w (OwnB B (l ++ encL encS ns) w) := by
  have HL := hide hl; clear hl
  have hl0 : l.length ≤ 1073741824 := by have := HL.out; omega
  go_enter Tryz.func165, Tryz.ntmps165
  go_wp2_with fail
  refine (number_any B v l ns.length w (by omega) (by omega) hown hB (by omega)).mono ?_
  rintro e w1 ⟨v1, rfl, hown1, hb⟩
  go_wp2_with fail
  go_loopw [0, 15] (fun v i wr => ∃ k : Nat, k ≤ ns.length ∧ i = .int .i64 (k : Int) ∧ wr.ownsRow B 5 1 v (l ++ (encI ns.length ++ (ns.take k).flatMap encS)).length (bvs (l ++ (encI ns.length ++ (ns.take k).flatMap encS))) ∧ Below B w wr)
    (fun _ i _ => ns.length - (intOf i).toNat)
  case atStart => exact ⟨0, Nat.zero_le _, rfl, by simpa [encI] using hown1, hb⟩
  case round =>
    obtain ⟨k, hk, rfl, hownk, hnx⟩ := hrel
    by_cases hlt : k < ns.length
    · obtain ⟨ad, rfl, _, hcell⟩ := (hr.below hnx).at (svs_get ns k hlt)
      have hsn := Enc.flatMap_snoc encS ns k hlt
      have HSN := hide hsn; clear hsn
      have hlen : (l ++ (encI ns.length ++ (ns.take k).flatMap encS)).length + ns[k].size ≤ 1073741824 := by
        have := Enc.flatMap_get encS ns k hlt; have := HL.out; have := Enc.size_toList ns[k]; simp [encL, encS] at *; omega
      go_wp2_with fail
      refine (text_any B _ _ _ _ hownk (Nat.le_trans hB hnx.size) (by omega) (by omega)).mono ?_
      rintro e w2 ⟨v2, rfl, hown2, hb2⟩
      go_wp2_with fail
      go_roundw
      case rel =>
        refine ⟨k + 1, by omega, by go_num, ?_, hnx.trans hb2⟩
        rw [HSN.out]
        simpa using hown2
      case measure => simp [intOf]; omega
    · obtain rfl : k = ns.length := by omega
      go_wp2_with fail
      go_ret
      refine ⟨_, rfl, ?_, hnx⟩
      simpa [encL] using hownk

set_option maxRecDepth 100000 in
set_option maxHeartbeats 400000 in
theorem PutInts_any (A : Option Addr) (c : Nat) (l : List UInt8) (A2 : Option Addr) (c2 : Nat) (ns : List Int) (w : World) (hr : Row w w.heap.size A (bvs l)) (hr2 : Row w w.heap.size A2 (ivs ns)) (hi : ∀ n ∈ ns, I64 n)
    (hl : l.length + (encL encI ns).length ≤ 1073741824) (hs : ns.length ≤ 16777216) :
    Calls Tryz.prog 172 #[.slice A l.length c, .slice A2 ns.length c2] w (OwnB w.heap.size (l ++ encL encI ns) w) := by
  go_enter Tryz.func172, Tryz.ntmps172
  go_wp2_with fail
  refine (room_any A c l _ w hr (by omega) (by omega) (by omega)).mono ?_
  rintro e w1 ⟨v1, rfl, hown, hb⟩
  go_wp2_with fail
  refine (list_ints w.heap.size v1 l A2 c2 ns w1 hown hb.size (hr2.below hb) hi hl (by omega)).mono ?_
  rintro e w2 ⟨v2, rfl, hown2, hb2⟩
  go_wp2_with fail
  go_ret
  exact ⟨_, rfl, hown2, hb.trans hb2⟩

set_option maxRecDepth 100000 in
set_option maxHeartbeats 400000 in
theorem PutTexts_any (A : Option Addr) (c : Nat) (l : List UInt8) (A2 : Option Addr) (c2 : Nat) (ns : List ByteArray) (w : World) (hr : Row w w.heap.size A (bvs l)) (hr2 : Row w w.heap.size A2 (svs ns))
    (hl : l.length + (encL encS ns).length ≤ 1073741824) (hs : ns.length ≤ 16777216) :
    Calls Tryz.prog 98 #[.slice A l.length c, .slice A2 ns.length c2] w (OwnB w.heap.size (l ++ encL encS ns) w) := by
  go_enter Tryz.func98, Tryz.ntmps98
  go_wp2_with fail
  refine (room_any A c l _ w hr (by omega) (by omega) (by omega)).mono ?_
  rintro e w1 ⟨v1, rfl, hown, hb⟩
  go_wp2_with fail
  refine (list_texts w.heap.size v1 l A2 c2 ns w1 hown hb.size (hr2.below hb) hl (by omega)).mono ?_
  rintro e w2 ⟨v2, rfl, hown2, hb2⟩
  go_wp2_with fail
  go_ret
  exact ⟨_, rfl, hown2, hb.trans hb2⟩
end
end Go.Proofs.YtmlnmcoophnlaaaGreat
