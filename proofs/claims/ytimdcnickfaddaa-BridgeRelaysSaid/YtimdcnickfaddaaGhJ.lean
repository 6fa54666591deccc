/-
  The reference's Bind.
-/
import Derived.Test.YtimdcnickfaddaaGhI
set_option linter.unusedVariables false
set_option linter.unusedSimpArgs false
namespace Go.Proofs.Ytimdcnickfaddaa
open Go.RowKit Go.Maps
open Classical
section
attribute [local go_sem] Addr.add_mid
set_option maxRecDepth 100000 in
set_option maxHeartbeats 4000000 in
theorem r51_Bind (A : Option Addr) (c : Nat) (l : List Gh) (net name srv : ByteArray) (w : World) (hr : Row w w.heap.size A (ghs l)) (hl : l.length ≤ 1000) (hs : SmallG 1000 l) (hcap : l.length ≤ c) (hcm : c ≤ maxLen) (h1 : net.size ≤ 1000) (h2 : name.size ≤ 1000) (h3 : srv.size ≤ 1000) :
    Calls Try.prog 18 #[.slice A l.length c, .string net, .string name, .string srv] w (BindR w l net name srv) := by
  have CU := fun W => r51_User net name srv W h1 h2 h3
  by_cases he : userE net.data.toList name.data.toList srv.data.toList = 0
  case neg =>
    obtain ⟨er, her⟩ : ∃ er, userE net.data.toList name.data.toList srv.data.toList = er := ⟨_, rfl⟩
    rw [her] at he
    simp only [userV_bad her he] at CU
    have HB := hide (bindE_err (l := l) her he)
    have HE := hide he
    have he' : (er != 0) = true := by simpa using he
    clear her he
    go_enter Try.func18, Try.ntmps18
    go_wp2_with (go_at_call 12; refine (CU _).mono ?_; rintro e w1 ⟨rfl, hb1⟩)
    go_ret3
    exact bindR_bad HB.out HE.out hb1
  obtain ⟨gu, hgu⟩ : ∃ gu, (newG net name srv).user = gu := ⟨_, rfl⟩
  have hV : userV net name srv = .tuple #[.string gu, .int .i64 0] := by
    unfold userV userS
    rw [he, if_pos rfl, ← hgu]; rfl
  simp only [hV] at CU
  have HGU := hide hgu
  have HE := hide he
  clear hV hgu he
  have CF := fun W (hb : Below w.heap.size w W) => r51_find A c l net name W (hr.ext hb) hl
  cases hf : findG (idOf net name) l with
  | some g =>
    obtain ⟨k, hk, hgk, hfi⟩ := findG_ix hf
    obtain ⟨b, o, rfl, hb, hc⟩ := gh_cells hr hk
    rw [hgk] at hc
    have HC := hide hc
    simp only [hfi] at CF
    clear hc hfi hgk
    go_enter Try.func18, Try.ntmps18
    go_wp2_with (first | (go_at_call 12; refine (CU _).mono ?_; rintro e w1 ⟨rfl, hb1⟩) | (go_at_call 46; refine (CF _ hb1).mono ?_; rintro e w2 ⟨rfl, hw2⟩; rw [hw2]; clear hw2 w2; have p := gh_three (HC.out.ext hb1 hb); obtain ⟨p0, p1, p2⟩ := p))
    go_quiet (fail)
    go_wp2_with fail
    go_ret3
    have hbn := below_drewN hb1 nq
    exact bindR_has (v := .slice (some ⟨b, o, none⟩) l.length c) HE.out hf ⟨_, c, rfl, hr.ext hbn, hcap, hcm⟩ hbn
  | none =>
    have hfi : findI (idOf net name) l = -1 := by unfold findI; rw [hf]; rfl
    simp only [hfi] at CF
    clear hfi
    go_enter Try.func18, Try.ntmps18
    by_cases h200 : 200 ≤ l.length
    · have HB := hide (show bindE l (newG net name srv) srv.data.toList = 29 from by rw [bindE_ok HE.out, hf]; exact if_pos h200)
      go_wp2_with (first | (go_at_call 12; refine (CU _).mono ?_; rintro e w1 ⟨rfl, hb1⟩) | (go_at_call 46; refine (CF _ hb1).mono ?_; rintro e w2 ⟨rfl, hw2⟩; rw [hw2]; clear hw2 w2))
      go_ret3
      exact bindR_bad HB.out (by decide) hb1
    go_wp2_with (first | (go_at_call 12; refine (CU _).mono ?_; rintro e w1 ⟨rfl, hb1⟩) | (go_at_call 46; refine (CF _ hb1).mono ?_; rintro e w2 ⟨rfl, hw2⟩; rw [hw2]; clear hw2 w2))
    clear CF CU
    go_loop [14] (fun i => ∃ k : Nat, k ≤ l.length ∧ i = .int .i64 (k : Int) ∧ Hid (∀ g ∈ l.take k, idLt g.id (idOf net name) = true)) (fun i => l.length - (intOf i).toNat)
    case atStart => exact ⟨0, Nat.zero_le _, rfl, by simp [Hid]⟩
    case round =>
    obtain ⟨k, hk, rfl, HT⟩ := hrel
    by_cases hlt : k < l.length
    · obtain ⟨b', o, rfl, hb', hc⟩ := gh_cells hr hlt
      obtain ⟨p0, p1, p2⟩ := gh_three (hc.ext hb1 hb')
      have hah : idLt l[k].id (idOf net name) = (Op.bytesLess l[k].net.toList net.toList || (l[k].net.toList == net.toList && Op.bytesLess l[k].name.toList name.toList)) := rfl
      obtain ⟨x, hx⟩ : ∃ x, Op.bytesLess l[k].net.toList net.toList = x := ⟨_, rfl⟩
      obtain ⟨y, hy⟩ : ∃ y, (l[k].net.toList == net.toList) = y := ⟨_, rfl⟩
      obtain ⟨z, hz⟩ : ∃ z, Op.bytesLess l[k].name.toList name.toList = z := ⟨_, rfl⟩
      rw [hx, hy, hz] at hah
      have HAH := hide hah
      clear hah hc
      cases x
      · cases y
        · have HAT := hide (show atR (newG net name srv).id l = k from by rw [newG_id]; exact atR_at hk HT.out (fun _ => by rw [HAH.out]; rfl))
          have hbz := hb1

          have hrun1 := fun w => run_head elemG (some (⟨b', o, none⟩ : Addr)) l.length c k (by omega) w
          have hrun2 := fun w => run_cut elemG (some (⟨b', o, none⟩ : Addr)) l.length c k (by omega) w
          have CUT := fun W (hb : Below w.heap.size w W) => (hr.below hb).cutA (size := 3) (k := k) (c := c) (ghs_length l) hcap
          have hbz0 := ext_alloc hbz (.cells #[] 68)
          have hown0 := own_more (own_empty w1 68 3) hbz.size
          have rz1 := (hr.below hbz0).take (k * 3)
          rw [ghs_take] at rz1
          simp only [ghs_drop] at CUT
          have hn1 : (some (⟨b', o, none⟩ : Addr)) = none → k = 0 := fun h => by have := ghs_none hr h; omega
          have hn2 : cutA (some (⟨b', o, none⟩ : Addr)) c k 3 = none → l.length - k = 0 := fun h => by have := ghs_none (CUT _ hbz) h; rw [List.length_drop] at this; exact this
          have hlen1 : (ghs (l.take k)).length = k * 3 := by rw [ghs_length, List.length_take, Nat.min_eq_left (by omega)]
          have hlen2 : (ghs (l.drop k)).length = (l.length - k) * 3 := by rw [ghs_length, List.length_drop]
          obtain ⟨xs1, hxs1⟩ : ∃ xs, ghs (l.take k) = xs := ⟨_, rfl⟩
          obtain ⟨xs2, hxs2⟩ : ∃ xs, ghs (l.drop k) = xs := ⟨_, rfl⟩
          have o1 := ghs_one (l.take k)
          have o2 := ghs_one (l.drop k)
          have hput := put_at HAT.out
          rw [hxs1] at rz1 hlen1 o1 hput
          rw [hxs2] at hlen2 o2 hput
          simp only [hxs2] at CUT
          obtain ⟨A2, hA2⟩ : ∃ A2, cutA (some (⟨b', o, none⟩ : Addr)) c k 3 = A2 := ⟨_, rfl⟩
          rw [hA2] at hn2
          simp only [hA2] at CUT hrun2
          have hgc : gc (newG net name srv) = [.string net, .string name, .string gu] := by rw [← HGU.out]; rfl
          rw [hgc] at hput
          have HPUT := hide hput
          have hlen3 : k + (1 + (l.length - k)) = (putG l (newG net name srv)).length := by rw [putG_length]; omega
          have HLEN := hide hlen3
          clear hxs1 hxs2 hA2 hput hgc hlen3
          go_wp2_with (first | (refine wpList_build0 (te := 0) rfl rfl Try.underlying32 strcG (by decide) (by decide) ?_) | (at_builtin; go_must (refine wpList_append_row rfl _ (.tmp 77) rfl elemG w.heap.size _ 0 [] rfl hown0 w.heap.size k c (some (⟨b', o, none⟩ : Addr)) xs1 hlen1 rfl rz1 hn1 o1 (by unfold maxLen; omega) (by omega) hbz0.size ?_)))
          intro v1 w8 hown8 hg8
          have hb8 := hbz0.grown hg8 hbz0.size (fun q hq => (hown0.lt q hq).1)
          go_wp2_with (first | (refine wpList_buildS (te := 0) rfl (.tmp 82) rfl Try.underlying32 strcG (by decide) (by decide) #[.string net, .string name, .string gu] rfl rfl ?_) | (at_builtin; go_must (refine wpList_append_new rfl (.tmp 78) (.tmp 83) rfl elemG w.heap.size _ _ _ rfl hown8 1 _ rfl rfl (by simp [Value.oneCell']) (by decide) (by unfold maxLen; omega) (by omega) hb8.size ?_)))
          intro v2 w9 hown9 hg9
          have hb9 := hb8.grown hg9 hb8.size (fun q hq => (hown8.lt q hq).1)
          go_wp2_with (at_builtin; go_must (refine wpList_append_row rfl (.tmp 85) (.tmp 88) rfl elemG w.heap.size _ _ _ rfl hown9 w.heap.size (l.length - k) (c - k) A2 xs2 hlen2 rfl (CUT _ hb9) hn2 o2 (by unfold maxLen; omega) (by omega) hb9.size ?_))
          intro v3 w10 hown10 hg10
          have hb10 := hb9.grown hg10 hb9.size (fun q hq => (hown9.lt q hq).1)
          go_wp2
          go_ret3
          obtain ⟨A9, c9, rfl, q1, q2⟩ := own_form hown10
          have hq : k + 1 + (l.length - k) = (putG l (newG net name srv)).length := by have := HLEN.out; omega
          rw [hq] at hown10 q1
          have hrow := Row.own hown10
          have hx : xs1 ++ Value.string net :: .string name :: .string gu :: xs2 = ghs (putG l (newG net name srv)) := by have := HPUT.out; simpa using this
          rw [hx] at hrow
          have hfin := bindR_new (v := .slice A9 (putG l (newG net name srv)).length c9) (srv := srv) HE.out hf h200 ⟨A9, c9, rfl, hrow, q1, q2⟩ hb10
          rw [HGU.out] at hfin
          show BindR w l net name srv (.returned (.tuple #[.slice A9 (k + 1 + (l.length - k)) c9, .string gu, .int .i64 0])) _
          rw [hq]
          exact hfin
        · cases z
          · have HAT := hide (show atR (newG net name srv).id l = k from by rw [newG_id]; exact atR_at hk HT.out (fun _ => by rw [HAH.out]; rfl))
            have hbz := hb1

            have hrun1 := fun w => run_head elemG (some (⟨b', o, none⟩ : Addr)) l.length c k (by omega) w
            have hrun2 := fun w => run_cut elemG (some (⟨b', o, none⟩ : Addr)) l.length c k (by omega) w
            have CUT := fun W (hb : Below w.heap.size w W) => (hr.below hb).cutA (size := 3) (k := k) (c := c) (ghs_length l) hcap
            have hbz0 := ext_alloc hbz (.cells #[] 68)
            have hown0 := own_more (own_empty w1 68 3) hbz.size
            have rz1 := (hr.below hbz0).take (k * 3)
            rw [ghs_take] at rz1
            simp only [ghs_drop] at CUT
            have hn1 : (some (⟨b', o, none⟩ : Addr)) = none → k = 0 := fun h => by have := ghs_none hr h; omega
            have hn2 : cutA (some (⟨b', o, none⟩ : Addr)) c k 3 = none → l.length - k = 0 := fun h => by have := ghs_none (CUT _ hbz) h; rw [List.length_drop] at this; exact this
            have hlen1 : (ghs (l.take k)).length = k * 3 := by rw [ghs_length, List.length_take, Nat.min_eq_left (by omega)]
            have hlen2 : (ghs (l.drop k)).length = (l.length - k) * 3 := by rw [ghs_length, List.length_drop]
            obtain ⟨xs1, hxs1⟩ : ∃ xs, ghs (l.take k) = xs := ⟨_, rfl⟩
            obtain ⟨xs2, hxs2⟩ : ∃ xs, ghs (l.drop k) = xs := ⟨_, rfl⟩
            have o1 := ghs_one (l.take k)
            have o2 := ghs_one (l.drop k)
            have hput := put_at HAT.out
            rw [hxs1] at rz1 hlen1 o1 hput
            rw [hxs2] at hlen2 o2 hput
            simp only [hxs2] at CUT
            obtain ⟨A2, hA2⟩ : ∃ A2, cutA (some (⟨b', o, none⟩ : Addr)) c k 3 = A2 := ⟨_, rfl⟩
            rw [hA2] at hn2
            simp only [hA2] at CUT hrun2
            have hgc : gc (newG net name srv) = [.string net, .string name, .string gu] := by rw [← HGU.out]; rfl
            rw [hgc] at hput
            have HPUT := hide hput
            have hlen3 : k + (1 + (l.length - k)) = (putG l (newG net name srv)).length := by rw [putG_length]; omega
            have HLEN := hide hlen3
            clear hxs1 hxs2 hA2 hput hgc hlen3
            go_wp2_with (first | (refine wpList_build0 (te := 0) rfl rfl Try.underlying32 strcG (by decide) (by decide) ?_) | (at_builtin; go_must (refine wpList_append_row rfl _ (.tmp 77) rfl elemG w.heap.size _ 0 [] rfl hown0 w.heap.size k c (some (⟨b', o, none⟩ : Addr)) xs1 hlen1 rfl rz1 hn1 o1 (by unfold maxLen; omega) (by omega) hbz0.size ?_)))
            intro v1 w8 hown8 hg8
            have hb8 := hbz0.grown hg8 hbz0.size (fun q hq => (hown0.lt q hq).1)
            go_wp2_with (first | (refine wpList_buildS (te := 0) rfl (.tmp 82) rfl Try.underlying32 strcG (by decide) (by decide) #[.string net, .string name, .string gu] rfl rfl ?_) | (at_builtin; go_must (refine wpList_append_new rfl (.tmp 78) (.tmp 83) rfl elemG w.heap.size _ _ _ rfl hown8 1 _ rfl rfl (by simp [Value.oneCell']) (by decide) (by unfold maxLen; omega) (by omega) hb8.size ?_)))
            intro v2 w9 hown9 hg9
            have hb9 := hb8.grown hg9 hb8.size (fun q hq => (hown8.lt q hq).1)
            go_wp2_with (at_builtin; go_must (refine wpList_append_row rfl (.tmp 85) (.tmp 88) rfl elemG w.heap.size _ _ _ rfl hown9 w.heap.size (l.length - k) (c - k) A2 xs2 hlen2 rfl (CUT _ hb9) hn2 o2 (by unfold maxLen; omega) (by omega) hb9.size ?_))
            intro v3 w10 hown10 hg10
            have hb10 := hb9.grown hg10 hb9.size (fun q hq => (hown9.lt q hq).1)
            go_wp2
            go_ret3
            obtain ⟨A9, c9, rfl, q1, q2⟩ := own_form hown10
            have hq : k + 1 + (l.length - k) = (putG l (newG net name srv)).length := by have := HLEN.out; omega
            rw [hq] at hown10 q1
            have hrow := Row.own hown10
            have hx : xs1 ++ Value.string net :: .string name :: .string gu :: xs2 = ghs (putG l (newG net name srv)) := by have := HPUT.out; simpa using this
            rw [hx] at hrow
            have hfin := bindR_new (v := .slice A9 (putG l (newG net name srv)).length c9) (srv := srv) HE.out hf h200 ⟨A9, c9, rfl, hrow, q1, q2⟩ hb10
            rw [HGU.out] at hfin
            show BindR w l net name srv (.returned (.tuple #[.slice A9 (k + 1 + (l.length - k)) c9, .string gu, .int .i64 0])) _
            rw [hq]
            exact hfin
          · have HN := hide (take_next (p := fun g => idLt g.id (idOf net name) = true) HT.out hlt (by rw [HAH.out]; rfl))
            go_wp2_with fail
            go_round
            case rel => exact ⟨k + 1, by omega, by go_num, HN.out⟩
            case measure => (simp [intOf]; try omega)
      · have HN := hide (take_next (p := fun g => idLt g.id (idOf net name) = true) HT.out hlt (by rw [HAH.out]; rfl))
        go_wp2_with fail
        go_round
        case rel => exact ⟨k + 1, by omega, by go_num, HN.out⟩
        case measure => (simp [intOf]; try omega)
    · obtain rfl : k = l.length := by omega
      have HAT := hide (show atR (newG net name srv).id l = l.length from by rw [newG_id]; exact atR_at hk HT.out (fun h => absurd h hlt))
      have hbz := hb1
      have hrun1 := fun w => run_head elemG A l.length c l.length (by omega) w
      have hrun2 := fun w => run_cut elemG A l.length c l.length (by omega) w
      have CUT := fun W (hb : Below w.heap.size w W) => (hr.below hb).cutA (size := 3) (k := l.length) (c := c) (ghs_length l) hcap
      have hbz0 := ext_alloc hbz (.cells #[] 68)
      have hown0 := own_more (own_empty w1 68 3) hbz.size
      have rz1 := (hr.below hbz0).take (l.length * 3)
      rw [ghs_take] at rz1
      simp only [ghs_drop] at CUT
      have hn1 : A = none → l.length = 0 := fun h => by have := ghs_none hr h; omega
      have hn2 : cutA A c l.length 3 = none → l.length - l.length = 0 := fun h => by have := ghs_none (CUT _ hbz) h; rw [List.length_drop] at this; exact this
      have hlen1 : (ghs (l.take l.length)).length = l.length * 3 := by rw [ghs_length, List.length_take, Nat.min_eq_left (by omega)]
      have hlen2 : (ghs (l.drop l.length)).length = (l.length - l.length) * 3 := by rw [ghs_length, List.length_drop]
      obtain ⟨xs1, hxs1⟩ : ∃ xs, ghs (l.take l.length) = xs := ⟨_, rfl⟩
      obtain ⟨xs2, hxs2⟩ : ∃ xs, ghs (l.drop l.length) = xs := ⟨_, rfl⟩
      have o1 := ghs_one (l.take l.length)
      have o2 := ghs_one (l.drop l.length)
      have hput := put_at HAT.out
      rw [hxs1] at rz1 hlen1 o1 hput
      rw [hxs2] at hlen2 o2 hput
      simp only [hxs2] at CUT
      obtain ⟨A2, hA2⟩ : ∃ A2, cutA A c l.length 3 = A2 := ⟨_, rfl⟩
      rw [hA2] at hn2
      simp only [hA2] at CUT hrun2
      have hgc : gc (newG net name srv) = [.string net, .string name, .string gu] := by rw [← HGU.out]; rfl
      rw [hgc] at hput
      have HPUT := hide hput
      have hlen3 : l.length + (1 + (l.length - l.length)) = (putG l (newG net name srv)).length := by rw [putG_length]; omega
      have HLEN := hide hlen3
      clear hxs1 hxs2 hA2 hput hgc hlen3
      simp only [Nat.sub_self] at hrun2 hlen2
      replace hn2 : A2 = none → 0 = 0 := fun _ => rfl
      go_wp2_with (first | (refine wpList_build0 (te := 0) rfl rfl Try.underlying32 strcG (by decide) (by decide) ?_) | (at_builtin; go_must (refine wpList_append_row rfl _ (.tmp 77) rfl elemG w.heap.size _ 0 [] rfl hown0 w.heap.size l.length c A xs1 hlen1 rfl rz1 hn1 o1 (by unfold maxLen; omega) (by omega) hbz0.size ?_)))
      intro v1 w8 hown8 hg8
      have hb8 := hbz0.grown hg8 hbz0.size (fun q hq => (hown0.lt q hq).1)
      go_wp2_with (first | (refine wpList_buildS (te := 0) rfl (.tmp 82) rfl Try.underlying32 strcG (by decide) (by decide) #[.string net, .string name, .string gu] rfl rfl ?_) | (at_builtin; go_must (refine wpList_append_new rfl (.tmp 78) (.tmp 83) rfl elemG w.heap.size _ _ _ rfl hown8 1 _ rfl rfl (by simp [Value.oneCell']) (by decide) (by unfold maxLen; omega) (by omega) hb8.size ?_)))
      intro v2 w9 hown9 hg9
      have hb9 := hb8.grown hg9 hb8.size (fun q hq => (hown8.lt q hq).1)
      go_wp2_with (at_builtin; go_must (refine wpList_append_row rfl (.tmp 85) (.tmp 88) rfl elemG w.heap.size _ _ _ rfl hown9 w.heap.size 0 (c - l.length) A2 xs2 hlen2 rfl (CUT _ hb9) (fun _ => rfl) o2 (by unfold maxLen; omega) (by omega) hb9.size ?_))
      intro v3 w10 hown10 hg10
      have hb10 := hb9.grown hg10 hb9.size (fun q hq => (hown9.lt q hq).1)
      go_wp2
      go_ret3
      obtain ⟨A9, c9, rfl, q1, q2⟩ := own_form hown10
      have hq : l.length + 1 = (putG l (newG net name srv)).length := by have := HLEN.out; omega
      rw [hq] at hown10 q1
      have hrow := Row.own hown10
      have hx : xs1 ++ Value.string net :: .string name :: .string gu :: xs2 = ghs (putG l (newG net name srv)) := by have := HPUT.out; simpa using this
      rw [hx] at hrow
      have hfin := bindR_new (v := .slice A9 (putG l (newG net name srv)).length c9) (srv := srv) HE.out hf h200 ⟨A9, c9, rfl, hrow, q1, q2⟩ hb10
      rw [HGU.out] at hfin
      show BindR w l net name srv (.returned (.tuple #[.slice A9 (l.length + 1) c9, .string gu, .int .i64 0])) _
      rw [hq]
      exact hfin
end
end Go.Proofs.Ytimdcnickfaddaa
