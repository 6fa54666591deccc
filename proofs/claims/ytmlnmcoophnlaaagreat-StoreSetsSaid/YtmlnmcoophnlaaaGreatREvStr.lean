/-
  The reference's Encode of an event.
  The sum of bytes: the reference's.
  The reference: Strip, Hash, Whole, IdOf, Sign of an event.
-/
import Derived.Test.YtmlnmcoophnlaaaGreatEvStr
import Derived.Test.YtmlnmcoophnlaaaGreatEncR
import Derived.Test.YtmlnmcoophnlaaaGreatEvVer
set_option linter.unusedVariables false
set_option linter.unusedSimpArgs false
namespace Go.Proofs.YtmlnmcoophnlaaaGreat
section
open Go.RowKit
attribute [local go_sem] Addr.add_mid
def partR (e : Ev) : Nat → List UInt8
  | 0 => encI e.id
  | 1 => encS e.room
  | 2 => encS e.sender
  | 3 => encI e.kind
  | 4 => [if e.state then 1 else 0]
  | 5 => encS e.key
  | 6 => encI e.time
  | 7 => encI e.depth
  | 8 => encL encI e.prev
  | 9 => encL encI e.auth
  | 10 => encS (str (encCon e.con))
  | 11 => encI e.hash
  | 12 => encS e.server
  | _ => encI e.sum
def prefR (e : Ev) : Nat → List UInt8
  | 0 => []
  | k + 1 => prefR e k ++ partR e k
theorem prefR_all (e : Ev) : prefR e 14 = encEv e := by simp [prefR, partR, encEv]
theorem prefR_mono (e : Ev) (k : Nat) : ∀ j, (prefR e k).length ≤ (prefR e (k + j)).length
  | 0 => Nat.le_refl _
  | j + 1 => by
    have := prefR_mono e k j
    rw [← Nat.add_assoc, prefR, List.length_append]; omega
theorem prefR_le {e : Ev} (h : (encEv e).length ≤ 1073741824) (k : Nat) (hk : k ≤ 14) : (prefR e k).length ≤ 1073741824 := by
  obtain ⟨j, hj⟩ : ∃ j, k + j = 14 := ⟨14 - k, by omega⟩
  have := prefR_mono e k j
  rw [hj, prefR_all] at this
  omega
theorem RputN_b {v : Value} {l L : List UInt8} {A2 : Option Addr} {c2 : Nat} {ns : List Int} {w : World} (h : Bf w v l) (hr2 : Row w w.heap.size A2 (ivs ns)) (hi : ∀ n ∈ ns, I64 n) (hn : ns.length ≤ 16777216) (hl : L.length ≤ 1073741824) (hL : l ++ encL encI ns = L) : Calls Tryz.prog 146 #[v, .slice A2 ns.length c2] w (GivesB L w) := by
  obtain ⟨A, c, rfl, _, hr⟩ := h
  exact (RPutInts_any A c l A2 c2 ns w hr hr2 hi (by rw [← hL, List.length_append] at hl; exact hl) (by omega)).mono fun e w' hg => hg.gives hL
set_option maxRecDepth 100000 in
set_option maxHeartbeats 20000000 in
theorem R7Encode_any {S : Nat → Prop} {cs : List Value} {e : Ev} {w : World} (hr : EvR w S cs e) (hp : e.puts) :
    Calls Tryz.prog 87 #[.agg cs.toArray] w (GivesB (encEv e) w) := by
  obtain ⟨s0, s1, s2, s3, s4, s5, s6, s7, s26, s27, s28⟩ := hr.gets
  obtain ⟨A8, c8, A9, c9, s8, s9, hv8, hv9⟩ : ∃ A8 c8 A9 c9, cs[8]? = some (.slice A8 e.prev.length c8) ∧ cs[9]? = some (.slice A9 e.auth.length c9) ∧ Row w w.heap.size A8 (ivs e.prev) ∧ Row w w.heap.size A9 (ivs e.auth) := by
    obtain ⟨vp, vq, s8, s9, hvp, hvq⟩ := hr.lists
    obtain ⟨A8, c8, rfl, _, _, _, h8, _⟩ := hvp.form
    obtain ⟨A9, c9, rfl, _, _, _, h9, _⟩ := hvq.form
    exact ⟨A8, c8, A9, c9, s8, s9, h8, h9⟩
  have HP := hide hp
  have HO := hide (prefR_le hp.all)
  have HLC := hide (show ((cs.drop 10).take 16).length = 16 by rw [List.length_take, List.length_drop, hr.length]; rfl)
  have B := heap_alloc_new w (.cells cs.toArray 35)
  have hb0 := ext_alloc (ext_refl w) (.cells cs.toArray 35)
  have HCE := hide (fun W (k : Below w.heap.size w W) => R6Encode_any (hr.con.ext k) hp.con)
  have HV8 := hide hv8; have HV9 := hide hv9
  clear hr hp hv8 hv9
  go_enter Tryz.func87, Tryz.ntmps87
  go_upto_region 1 with fail
  generalize w.alloc (.cells cs.toArray 35) = W0 at B hb0 ⊢
  have HB0 := hide B; clear B
  have h0 : Bf W0 (.slice none 0 0) (prefR e 0) := Bf.nil W0
  have r : W0.cell? ⟨w.heap.size, 0, none⟩ = some (.int .i64 e.id) := box_at HB0.out s0
  have CT := RputI_b (L := prefR e 1) _ h0 HP.out.id (HO.out 0 (by decide)) rfl
  go_upto_region 2 with (go_at_call 143; refine CT.mono ?_; rintro x0 W1 ⟨v1, rfl, h1, hx⟩; have HB1 := hide (box_below HB0.out hx); have hb1 := ext_trans hb0 hx; clear hx r HB0)
  clear CT
  have r : W1.cell? ⟨w.heap.size, 1, none⟩ = some (.string e.room) := box_at HB1.out s1
  have CT := RputS_b (L := prefR e 2) _ h1 HP.out.room (HO.out 1 (by decide)) rfl
  go_upto_region 3 with (go_at_call 144; refine CT.mono ?_; rintro x1 W2 ⟨v2, rfl, h2, hx⟩; have HB2 := hide (box_below HB1.out hx); have hb2 := ext_trans hb1 hx; clear hx r HB1)
  clear CT
  have r : W2.cell? ⟨w.heap.size, 2, none⟩ = some (.string e.sender) := box_at HB2.out s2
  have CT := RputS_b (L := prefR e 3) _ h2 HP.out.sender (HO.out 2 (by decide)) rfl
  go_upto_region 4 with (go_at_call 144; refine CT.mono ?_; rintro x2 W3 ⟨v3, rfl, h3, hx⟩; have HB3 := hide (box_below HB2.out hx); have hb3 := ext_trans hb2 hx; clear hx r HB2)
  clear CT
  have r : W3.cell? ⟨w.heap.size, 3, none⟩ = some (.int .i64 e.kind) := box_at HB3.out s3
  have CT := RputI_b (L := prefR e 4) _ h3 HP.out.kind (HO.out 3 (by decide)) rfl
  go_upto_region 5 with (go_at_call 143; refine CT.mono ?_; rintro x3 W4 ⟨v4, rfl, h4, hx⟩; have HB4 := hide (box_below HB3.out hx); have hb4 := ext_trans hb3 hx; clear hx r HB3)
  clear CT
  have r : W4.cell? ⟨w.heap.size, 4, none⟩ = some (.bool e.state) := box_at HB4.out s4
  have CT := RputT_b (L := prefR e 5) _ h4 (HO.out 4 (by decide)) rfl
  go_upto_region 6 with (go_at_call 145; refine CT.mono ?_; rintro x4 W5 ⟨v5, rfl, h5, hx⟩; have HB5 := hide (box_below HB4.out hx); have hb5 := ext_trans hb4 hx; clear hx r HB4)
  clear CT
  have r : W5.cell? ⟨w.heap.size, 5, none⟩ = some (.string e.key) := box_at HB5.out s5
  have CT := RputS_b (L := prefR e 6) _ h5 HP.out.key (HO.out 5 (by decide)) rfl
  go_upto_region 7 with (go_at_call 144; refine CT.mono ?_; rintro x5 W6 ⟨v6, rfl, h6, hx⟩; have HB6 := hide (box_below HB5.out hx); have hb6 := ext_trans hb5 hx; clear hx r HB5)
  clear CT
  have r : W6.cell? ⟨w.heap.size, 6, none⟩ = some (.int .i64 e.time) := box_at HB6.out s6
  have CT := RputI_b (L := prefR e 7) _ h6 HP.out.time (HO.out 6 (by decide)) rfl
  go_upto_region 8 with (go_at_call 143; refine CT.mono ?_; rintro x6 W7 ⟨v7, rfl, h7, hx⟩; have HB7 := hide (box_below HB6.out hx); have hb7 := ext_trans hb6 hx; clear hx r HB6)
  clear CT
  have r : W7.cell? ⟨w.heap.size, 7, none⟩ = some (.int .i64 e.depth) := box_at HB7.out s7
  have CT := RputI_b (L := prefR e 8) _ h7 HP.out.depth (HO.out 7 (by decide)) rfl
  go_upto_region 9 with (go_at_call 143; refine CT.mono ?_; rintro x7 W8 ⟨v8, rfl, h8, hx⟩; have HB8 := hide (box_below HB7.out hx); have hb8 := ext_trans hb7 hx; clear hx r HB7)
  clear CT
  have r : W8.cell? ⟨w.heap.size, 8, none⟩ = some (.slice A8 e.prev.length c8) := box_at HB8.out s8
  have CT := RputN_b (c2 := c8) (L := prefR e 9) h8 (HV8.out.ext hb8) HP.out.prev HP.out.prevL (HO.out 9 (by decide)) rfl
  go_upto_region 10 with (go_at_call 146; refine CT.mono ?_; rintro x8 W9 ⟨v9, rfl, h9, hx⟩; have HB9 := hide (box_below HB8.out hx); have hb9 := ext_trans hb8 hx; clear hx r HB8)
  clear CT
  have r : W9.cell? ⟨w.heap.size, 9, none⟩ = some (.slice A9 e.auth.length c9) := box_at HB9.out s9
  have CT := RputN_b (c2 := c9) (L := prefR e 10) h9 (HV9.out.ext hb9) HP.out.auth HP.out.authL (HO.out 10 (by decide)) rfl
  go_upto_region 11 with (go_at_call 146; refine CT.mono ?_; rintro x9 W10 ⟨v10, rfl, h10, hx⟩; have HB10 := hide (box_below HB9.out hx); have hb10 := ext_trans hb9 hx; clear hx r HB9)
  clear CT
  have CE := HCE.out _ hb10
  obtain ⟨ec, hec⟩ : ∃ ec, encCon e.con = ec := ⟨_, rfl⟩
  have hel := HP.out.con.all
  rw [hec] at CE hel
  have HEC := hide hec
  clear hec
  have HEL := hide hel
  clear hel
  have HH10 := hide h10
  have CT := fun (U : World) (hb : Below W10.heap.size W10 U) => RputS_b (L := prefR e 11) (str ec) (HH10.out.ext hb) (by rw [str_size]; exact HEL.out) (HO.out 10 (by decide)) (by rw [← HEC.out]; rfl)
  go_upto_region 12 with (first
    | refine wpList_loadS rfl (.tmp 44) rfl strcC ⟨w.heap.size, 10, none⟩ rfl ((cs.drop 10).take 16) HLC.out (box_cells HB10.out 10 16) ?_
    | (go_at_call 90; refine CE.mono ?_; rintro xa Wa ⟨va, rfl, ⟨Aa, ca, rfl, hca, Qa⟩, hba⟩; have hcv := run_string (P := Tryz.prog) Wa 77 9 5 Tryz.underlying77 Tryz.underlying5 Tryz.underlying9 (c := ca) Qa rfl (fun h => row_none Qa h))
    | (go_at_call 144; refine (CT _ hba).mono ?_; rintro x10 W11 ⟨v11, rfl, h11, hx⟩; have HB11 := hide (box_below (box_below HB10.out hba) hx); have hb11 := ext_trans (ext_trans hb10 hba) hx; clear hx))
  clear CT CE hba hcv Qa hca HH10 h10 HB10
  have r : W11.cell? ⟨w.heap.size, 26, none⟩ = some (.int .i64 e.hash) := box_at HB11.out s26
  have CT := RputI_b (L := prefR e 12) _ h11 HP.out.hash (HO.out 11 (by decide)) rfl
  go_upto_region 13 with (go_at_call 143; refine CT.mono ?_; rintro x11 W12 ⟨v12, rfl, h12, hx⟩; have HB12 := hide (box_below HB11.out hx); have hb12 := ext_trans hb11 hx; clear hx r HB11)
  clear CT
  have r : W12.cell? ⟨w.heap.size, 27, none⟩ = some (.string e.server) := box_at HB12.out s27
  have CT := RputS_b (L := prefR e 13) _ h12 HP.out.server (HO.out 12 (by decide)) rfl
  go_upto_region 14 with (go_at_call 144; refine CT.mono ?_; rintro x12 W13 ⟨v13, rfl, h13, hx⟩; have HB13 := hide (box_below HB12.out hx); have hb13 := ext_trans hb12 hx; clear hx r HB12)
  clear CT
  have r : W13.cell? ⟨w.heap.size, 28, none⟩ = some (.int .i64 e.sum) := box_at HB13.out s28
  have CT := RputI_b (L := prefR e 14) _ h13 HP.out.sum (HO.out 13 (by decide)) rfl
  go_wp2_with (go_at_call 143; refine CT.mono ?_; rintro x13 W14 ⟨v14, rfl, h14, hx⟩; have HB14 := hide (box_below HB13.out hx); have hb14 := ext_trans hb13 hx; clear hx r HB13)
  go_ret
  exact ⟨v14, rfl, by rw [← prefR_all]; exact h14, hb14⟩
end

section
open Go.RowKit
attribute [local go_sem] Addr.add_mid
theorem rem_mask (n : Nat) : Int.tmod (n : Int) 4611686018427387904 = ((n % 4611686018427387904 : Nat) : Int) := by
  rw [Int.tmod_eq_emod_of_nonneg (by omega)]; omega
set_option maxRecDepth 100000 in
set_option maxHeartbeats 1600000 in
theorem R4Fold_start {A : Option Addr} {c B : Nat} {l : List UInt8} {w : World} (hr : Row w B A (bvs l)) (hl : l.length ≤ 1073741824) :
    Calls Tryz.prog 141 #[.int .i64 860922984064492325, .slice A l.length c] w (fun e w' => e = .returned (.int .i64 (sumN l : Nat)) ∧ w' = w) := by
  go_enter Tryz.func141, Tryz.ntmps141
  go_wp2_with fail
  go_loop [5, 6] (fun u i => ∃ k : Nat, k ≤ l.length ∧ i = .int .i64 (k : Int) ∧ u = .int .u64 ((l.take k).foldl stepN 860922984064492325 : Nat)) (fun _ i => l.length - (intOf i).toNat)
  case atStart => exact ⟨0, Nat.zero_le _, rfl, rfl⟩
  case round =>
  obtain ⟨k, hk, rfl, rfl⟩ := hrel
  by_cases hlt : k < l.length
  · obtain ⟨b, o, rfl, hb, hc⟩ := hr.fix (bvs_get l k hlt)
    have r0 := hc _ _ (bvs_get l k hlt)
    have HS := hide (fold_step hlt)
    have hu := foldN_lt (l.take k) 860922984064492325 (by decide)
    obtain ⟨u, hU⟩ : ∃ u, (l.take k).foldl stepN 860922984064492325 = u := ⟨_, rfl⟩
    rw [hU] at hu ⊢
    have HU := hide hU
    obtain ⟨x, hx⟩ : ∃ x, l[k] = x := ⟨_, rfl⟩
    simp only [bv] at r0
    rw [hx] at r0
    have HX := hide hx
    have e1 : bits .xor .u64 (u : Int) (x.toNat : Int) = ((u ^^^ x.toNat : Nat) : Int) := bits_xor_u64_nat _ _ (by omega) (by have := x.toNat_lt; omega)
    have e2 := mul_wrap (u ^^^ x.toNat)
    have e3 := rem_mask ((u ^^^ x.toNat) * 1099511628211 % 18446744073709551616)
    rw [mod_mod62] at e3
    clear hU hx hc
    go_wp2_with fail
    go_round
    case rel => exact ⟨k + 1, by omega, by go_num, by
      rw [HS.out, HU.out, HX.out, stepN, show IntKind.u64.wrap (x.toNat : Int) = (x.toNat : Int) by rw [IntKind.wrap_u64]; have := x.toNat_lt; omega, e1, e2, e3]⟩
    case measure => (simp [intOf]; try omega)
  · obtain rfl : k = l.length := by omega
    have HS := hide (show (l.take l.length).foldl stepN 860922984064492325 = sumN l by rw [List.take_length, sumN])
    rw [HS.out]
    have hu := sumN_lt l
    clear HS
    go_wp2_with fail
    go_ret
    exact ⟨by go_num, rfl⟩
set_option maxRecDepth 100000 in
set_option maxHeartbeats 1600000 in
theorem R4Sum_any {A : Option Addr} {c B : Nat} {l : List UInt8} {w : World} (hr : Row w B A (bvs l)) (hl : l.length ≤ 1073741824) :
    Calls Tryz.prog 86 #[.slice A l.length c] w (fun e w' => e = .returned (.int .i64 (sumN l : Nat)) ∧ w' = w) := by
  have CF := R4Fold_start (c := c) hr hl
  clear hr
  have CS : ∀ W, Calls Tryz.prog 142 #[] W (fun e w' => e = .returned (.int .i64 860922984064492325) ∧ w' = W) := fun W => by
    go_enter Tryz.func142, Tryz.ntmps142
    go_wp2_with fail
    go_ret
    exact ⟨rfl, rfl⟩
  go_enter Tryz.func86, Tryz.ntmps86
  go_wp2_with (first | (go_at_call 142; refine (CS _).mono ?_; rintro e w1 ⟨rfl, hw1⟩; rw [hw1]; clear hw1 w1) | (go_at_call 141; refine CF.mono ?_; rintro e w2 ⟨rfl, hw2⟩; rw [hw2]; clear hw2 w2))
  go_ret
  exact ⟨rfl, rfl⟩
end

section
open Go.RowKit
attribute [local go_sem] Addr.add_mid
set_option maxRecDepth 100000 in
set_option maxHeartbeats 4000000 in
theorem R7Strip_any {S : Nat → Prop} {cs : List Value} {e : Ev} {w : World} (he : EvR w S cs e) (hf : e.con.fit) :
    Calls Tryz.prog 85 #[.agg cs.toArray] w (GivesE S (stripE e) w) := by
  have hn := he.length
  have h3 := he.some3
  have hone := he.one
  have HE := hide he
  have HN := hide hn
  clear hn
  have hc0 := (he.con.weak (S' := fun b => S b ∧ b < w.heap.size) fun _ hb hlt => ⟨hb, hlt⟩)
  have HC := hide (fun o1 o2 => hc0.ext (below_two w o1 o2))
  clear he hc0
  go_enter Tryz.func85, Tryz.ntmps85
  go_wp2_with (first
    | refine wpList_zeroS rfl rfl strcE ?_
    | refine wpList_loadS rfl (.tmp 5) rfl strcC ⟨w.heap.size, 10, none⟩ rfl ((cs.drop 10).take 16) (by have := HN.out; simp; omega) (box_cells (C := cs) (tb := 35) (heap_alloc2_old w _ _) 10 16) ?_)
  refine (R6Strip_any (k := e.kind) (HC.out _ _)).mono ?_
  rintro x w1 ⟨cs', rfl, hc', hb1⟩
  have hn' := hc'.length
  have HN' := hide hn'
  have hone' := hc'.one
  have hB1 := box_below (heap_alloc2_old w (.cells cs.toArray 35) (.cells evZero 35)) hb1
  have hB2 := box_below (heap_alloc2_new w (.cells cs.toArray 35) (.cells evZero 35)) hb1
  have HC' := hide hc'; have HB1 := hide hb1
  clear hc' hb1 HC
  go_wp2_with (refine wpList_storeB rfl (.tmp 8) (.tmp 7) rfl rfl strcC w.heap.size 10 rfl cs' rfl hn' hone' cs 35 hB1 (by have := HN.out; omega) ?_)
  intro w2 hB1' g1 hz2
  have hB2' := box_grown hB2 g1 (by omega)
  have hp : (patch cs 10 cs').length = 29 := by have := HN.out; rw [patch_length _ _ _ (by omega)]; exact this
  have hpo : ∀ u ∈ patch cs 10 cs', u.oneCell' = true := by
    intro u hu
    rcases List.mem_append.1 hu with hu | hu
    · exact hone u (List.mem_of_mem_take hu)
    · rcases List.mem_append.1 hu with hu | hu
      · exact hone' u hu
      · exact hone u (List.mem_of_mem_drop hu)
  clear hB1 hB2
  go_wp2_with (first
    | refine wpList_loadS rfl (.tmp 1) rfl strcE ⟨w.heap.size, 0, none⟩ rfl (patch cs 10 cs') hp (box_all hB1') ?_
    | refine wpList_storeB rfl (.tmp 2) (.tmp 9) rfl rfl strcE (w.heap.size + 1) 0 rfl (patch cs 10 cs') rfl hp hpo evZero.toList 35 hB2' (by decide) ?_)
  intro w3 hB3 g2 hz3
  rw [patch_all _ _ (by rw [hp]; rfl)] at hB3
  have hend := strip_end HE.out HC'.out HB1.out g1 g2
  rw [show cs.take 10 ++ (cs' ++ cs.drop 26) = patch cs 10 cs' by simp [patch, hn']] at hend
  have HEND := hide hend
  clear hend
  go_wp2_with fail
  exact bodyPost_cell strcE rfl (w.heap.size + 1) rfl rfl hB3 (by simpa using hp) ⟨_, rfl, HEND.out.1, HEND.out.2⟩
set_option maxRecDepth 100000 in
set_option maxHeartbeats 4000000 in
theorem R7Hash_any {S : Nat → Prop} {cs : List Value} {e : Ev} {w : World} (hr : EvR w S cs e) (hp : e.con.puts) :
    Calls Tryz.prog 65 #[.agg cs.toArray] w (fun x w' => x = .returned (.int .i64 (hashV e)) ∧ Below w.heap.size w w') := by
  have BE := heap_alloc_new w (.cells cs.toArray 35)
  have hb := ext_alloc (ext_refl w) (.cells cs.toArray 35)
  have CE := R6Encode_any (hr.con.ext hb) hp
  have HLC := hide (show ((cs.drop 10).take 16).length = 16 by rw [List.length_take, List.length_drop, hr.length]; rfl)
  have HV := hide (show hashV e = ((sumN (encCon e.con) : Nat) : Int) from rfl)
  have HLe := hide hp.all
  obtain ⟨l, hl⟩ : ∃ l, encCon e.con = l := ⟨_, rfl⟩
  rw [hl] at CE HV HLe
  have HBE := hide BE
  clear hr hl BE hp
  go_enter Tryz.func65, Tryz.ntmps65
  go_wp2_with (first
    | refine wpList_loadS rfl (.tmp 3) rfl strcC ⟨w.heap.size, 10, none⟩ rfl ((cs.drop 10).take 16) HLC.out (box_cells HBE.out 10 16) ?_
    | (go_at_call 90; refine CE.mono ?_; rintro x w2 ⟨v2, rfl, ⟨A2, c2, rfl, hc2, Q2⟩, hb2⟩; have CS := R4Sum_any (c := c2) Q2 HLe.out)
    | (go_at_call 86; refine CS.mono ?_; rintro x w3 ⟨rfl, hw3⟩; rw [hw3]; clear hw3 w3))
  go_ret
  exact ⟨by rw [HV.out]; rfl, ext_trans hb hb2⟩
set_option maxRecDepth 100000 in
set_option maxHeartbeats 4000000 in
theorem R7Whole_any {S : Nat → Prop} {cs : List Value} {e : Ev} {w : World} (hr : EvR w S cs e) (hp : e.con.puts) :
    Calls Tryz.prog 45 #[.agg cs.toArray] w (Says (wholeB e) w) := by
  have s26 := hr.gets.2.2.2.2.2.2.2.2.1
  have HL := hide hr.length
  have BE := heap_alloc_new w (.cells cs.toArray 35)
  have hb := ext_alloc (ext_refl w) (.cells cs.toArray 35)
  have CH := fun W (h : Below w.heap.size w W) => R7Hash_any (hr.ext h) hp
  obtain ⟨hv, hhv⟩ : ∃ v, hashV e = v := ⟨_, rfl⟩
  simp only [hhv] at CH
  have HV := hide (show wholeB e = (hv == e.hash) by unfold wholeB; rw [hhv])
  have HBE := hide BE
  clear hr hp BE hhv
  go_enter Tryz.func45, Tryz.ntmps45
  go_wp2_with fail
  refine wp_region_now (by kernel_rfl) ?_
  intro Y hY
  have T0 : Below Y.heap.size Y Y := ext_refl Y
  have HBY := hide (box_below HBE.out hY)
  refine wpAnyP_take (i := 0) rfl (by kernel_rfl) (by kernel_rfl) (by kernel_rfl) (by kernel_rfl) (fun _ _ _ h => h) (yieldsIf_loadS rfl (.tmp 1) rfl strcE ⟨w.heap.size, 0, none⟩ rfl cs HL.out (fun w2 hT => box_all (box_below HBY.out hT))) T0 ?_
  refine wpAnyP_take (i := 2) rfl (by kernel_rfl) (by kernel_rfl) (by kernel_rfl) (by kernel_rfl) (fun _ _ _ h => h) (yieldsIf_run (.pointer (some ⟨w.heap.size, 26, none⟩)) rfl (fun w' => by go_simp)) T0 ?_
  refine wpAnyP_take (i := 3) rfl (by kernel_rfl) (by kernel_rfl) (by kernel_rfl) (by kernel_rfl) (fun _ _ _ h => h) (yieldsIf_load rfl rfl Tryz.underlying3 rfl rfl (fun w2 hT => box_at (box_below HBY.out hT) (j := 26) (u := .int .i64 e.hash) s26)) T0 ?_
  go_simp
  go_simp
  refine wpAnyP_oneQ (i := 1) (by kernel_rfl) rfl ?_
  go_wp2_with fail
  refine (CH _ (ext_trans hb (ext_trans hY T0))).mono ?_
  rintro x c1 ⟨rfl, hc1⟩
  have T1 := ext_trans T0 hc1
  go_wp2_with fail
  refine nextQ T1 ?_
  go_simp
  refine wpAnyP_take (i := 4) rfl (by kernel_rfl) (by kernel_rfl) (by kernel_rfl) (by kernel_rfl) (fun _ _ _ h => h) (yieldsIf_run (.bool (hv == e.hash)) rfl (fun w' => by go_simp)) T1 ?_
  refine wpAnyP_take (i := 5) rfl (by kernel_rfl) (by kernel_rfl) (by kernel_rfl) (by kernel_rfl) (fun _ _ _ h => h) (yieldsIf_run (.bool (hv == e.hash)) rfl (fun w' => by go_simp)) T1 ?_
  go_simp
  refine wpAnyP_done (by kernel_rfl) ?_
  go_wp2_with fail
  go_ret
  exact ⟨by rw [HV.out]; rfl, ext_trans hb (ext_trans hY T1)⟩
set_option maxRecDepth 100000 in
set_option maxHeartbeats 4000000 in
theorem R7IdOf_any {S : Nat → Prop} {cs : List Value} {e : Ev} {w : World} (hr : EvR w S cs e) (hf : e.con.fit) (hp : (plainE e).puts) :
    Calls Tryz.prog 63 #[.agg cs.toArray] w (fun x w' => x = .returned (.int .i64 (idV e)) ∧ Below w.heap.size w w') := by
  have HL := hide hr.length
  have BE := heap_alloc_new w (.cells cs.toArray 35)
  have hb := ext_alloc (ext_refl w) (.cells cs.toArray 35)
  have CS := R7Strip_any (hr.ext hb) hf
  have HP := hide hp
  have HV := hide (show idV e = ((sumN (encEv (plainE e)) : Nat) : Int) from rfl)
  have HBE := hide BE
  clear hr hf hp BE
  go_enter Tryz.func63, Tryz.ntmps63
  go_upto_region 2 with (first
    | refine wpList_loadS rfl (.tmp 1) rfl strcE ⟨w.heap.size, 0, none⟩ rfl cs HL.out (box_all HBE.out) ?_
    | (go_at_call 85; refine CS.mono ?_; rintro x w2 ⟨cs2, rfl, R2, hb2⟩; have HL2 := hide R2.length; have HO2 := hide R2.one)
    | refine wpList_newS rfl rfl strcE rfl (.tmp 3) (.tmp 5) rfl rfl rfl cs2.toArray rfl (by simpa using HL2.out) (by simpa using HO2.out) ?_)
  have B2 := heap_alloc_new w2 (.cells cs2.toArray 35)
  have hb3 := ext_alloc (ext_refl w2) (.cells cs2.toArray 35)
  have R3 := (R2.any.weak (S' := fun b => b < w2.heap.size) (fun b _ h => h)).ext hb3
  have hle := hb2.size
  have KB := ext_trans hb (ext_trans hb2 hb3)
  generalize w2.alloc (.cells cs2.toArray 35) = w3 at B2 hb3 R3 KB ⊢
  obtain ⟨g, hg⟩ : ∃ g, w2.heap.size = g := ⟨_, rfl⟩
  rw [hg] at B2 R3 hle
  try rw [hg]
  have hge : w.heap.size ≤ g := by have := hb.size; omega
  clear hb hb2 hb3 R2 CS HBE
  go_wp2_with (refine wpList_store1 rfl (.tmp 7) (.const (.int .i64 0)) rfl rfl sizeI g 0 rfl (.int .i64 0) rfl rfl cs2 35 B2 (by rw [HL2.out]; decide) ?_)
  intro w4 B4 g4 z4
  have R4 := R3.grown g4 (fun q hq e => by injection e with e; omega)
  have KB4 := KB.grown g4 KB.size (fun q hq => by injection hq with hq; omega)
  clear R3 KB B2 g4 z4
  have HLp := hide (show (patch cs2 0 [.int .i64 0]).length = 29 by rw [patch_length _ _ _ (by rw [HL2.out]; decide)]; exact HL2.out)
  go_wp2_with (refine wpList_storeB rfl (.tmp 8) (.tmp 6) rfl rfl strcSig g 27 rfl [.string ⟨#[]⟩, .int .i64 0] rfl rfl (by decide) (patch cs2 0 [.int .i64 0]) 35 B4 (by rw [HLp.out]; decide) ?_)
  intro w5 B5 g5 z5
  have R5 := R4.grown g5 (fun q hq e => by injection e with e; omega)
  have KB5 := KB4.grown g5 KB4.size (fun q hq => by injection hq with hq; omega)
  have R6 : EvR w5 (fun b => b < g) (patch (patch cs2 0 [.int .i64 0]) 27 [.string ⟨#[]⟩, .int .i64 0]) (plainE e) := by
    obtain ⟨vp, vq, va, vd, vu, vk, rfl, h1, h2, h3, h4, h5, h6⟩ := R5
    exact ⟨vp, vq, va, vd, vu, vk, rfl, h1, h2, h3, h4, h5, h6⟩
  have HL6 := hide R6.length
  have CE := R7Encode_any R6 HP.out
  have HLe := hide HP.out.all
  obtain ⟨l, hl⟩ : ∃ l, encEv (plainE e) = l := ⟨_, rfl⟩
  rw [hl] at CE HLe
  have HV' := HV.out
  rw [hl] at HV'
  have HVV := hide HV'
  have HB5 := hide B5
  clear R4 R5 R6 KB4 B4 g5 z5 hl HV HV' B5
  go_wp2_with (first
    | refine wpList_loadS rfl (.tmp 3) rfl strcE ⟨g, 0, none⟩ rfl (patch (patch cs2 0 [.int .i64 0]) 27 [.string ⟨#[]⟩, .int .i64 0]) HL6.out (box_all HB5.out) ?_
    | (go_at_call 87; refine CE.mono ?_; rintro x w6 ⟨v6, rfl, ⟨A6, c6, rfl, hc6, Q6⟩, hb6⟩; have CSu := R4Sum_any (c := c6) Q6 HLe.out)
    | (go_at_call 86; refine CSu.mono ?_; rintro x w7 ⟨rfl, hw7⟩; rw [hw7]; clear hw7 w7))
  go_ret
  exact ⟨by rw [HVV.out]; rfl, ext_trans KB5 hb6⟩
end
end Go.Proofs.YtmlnmcoophnlaaaGreat
