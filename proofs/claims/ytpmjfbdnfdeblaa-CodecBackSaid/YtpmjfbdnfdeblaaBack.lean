/-
  fedchatlaw05: CodecBack, the walk.
-/
import Derived.Test.YtpmjfbdnfdeblaaAwake
import Derived.Test.YtpmjfbdnfdeblaaGreat
import Derived.Test.YtpmjfbdnfdeblaaDecLaws
set_option linter.unusedVariables false
set_option linter.unusedSimpArgs false
namespace Go.Proofs.Ytpmjfbdnfdeblaa
open Go.RowKit

/-- the sizes of the strings bound the bytes of their encodings -/
theorem encTexts_le (l : List ByteArray) (hl : l.length < 9223372036854775808) (hs : sizes l < 9223372036854775808) : (encL encS l).length ≤ 10 + 10 * l.length + sizes l := by
  have h1 := encI_le (I64_nat hl)
  have key : ∀ l : List ByteArray, sizes l < 9223372036854775808 → (l.flatMap encS).length ≤ 10 * l.length + sizes l := by
    intro l
    induction l with
    | nil => intro _; simp
    | cons s r ih =>
      intro h
      simp only [sizes] at h
      have h2 := encS_le s (by omega)
      have h3 := ih (by omega)
      simp only [List.flatMap_cons, List.length_append, List.length_cons, sizes]; omega
  have := key l hs
  simp only [encL, List.length_append]; omega

theorem cell_ext {w w' : World} {p : Addr} {v : Value} (h : w.cell? p = some v) (k : Below w.heap.size w w') : w'.cell? p = some v := (k.cell (World.block_lt_of_cell? w p h)).trans h

set_option maxRecDepth 100000 in
set_option maxHeartbeats 3200000 in
theorem back_small (A0 A3 A4 A1 : Option Addr) (n0 c0 c3 c4 c1 : Nat) (N : Int) (s : ByteArray) (L : List Int) (T : List ByteArray) (is : Bool) (more : List UInt8) (w : World) (hr3 : Row w w.heap.size A3 (ivs L)) (hr4 : Row w w.heap.size A4 (svs T)) (hr1 : Row w w.heap.size A1 (bvs more))
    (hN : I64 N) (hL : ∀ x ∈ L, I64 x) (hg : greatB n0 s.size L.length T.length (sizes T) = false) (hm : more.length ≤ 2000) (hT : ∀ t ∈ T, t.size ≤ 9223372036854775807) :
    Calls Try.prog 7 #[.agg #[.slice A0 n0 c0, .int .i64 N, .string s, .slice A3 L.length c3, .slice A4 T.length c4, .bool is], .slice A1 more.length c1] w (fun e w' => e = .returned (.bool true) ∧ Below w.heap.size w w') := by
  simp only [greatB, decide_eq_false_iff_not] at hg
  have hg' : greatB n0 s.size L.length T.length (sizes T) = false := by simp only [greatB, decide_eq_false_iff_not]; exact hg
  have HG := hide hg'
  have b2 : s.size ≤ 2000 := by omega
  have b3 : L.length ≤ 2000 := by omega
  have b4 : T.length ≤ 2000 := by omega
  have b5 : sizes T ≤ 2000 := by omega
  have e1 := encI_le hN
  have e2 := encS_le s (by omega)
  have e3 := encInts_le L (by omega) hL
  have e4 := encTexts_le T (by omega) (by omega)
  clear hg hg'
  have G := hide (great_any A0 A3 A4 n0 c0 L.length c3 c4 N s T is (w.alloc (.cells #[.slice A0 n0 c0, .int .i64 N, .string s, .slice A3 L.length c3, .slice A4 T.length c4, .bool is] 32)) (row_alloc hr4 _) (by omega) hT)
  rw [HG.out] at G
  go_enter Try.func7, Try.ntmps7
  go_wp2_with fail
  refine G.out.mono ?_
  rintro e w1 ⟨rfl, hb1⟩
  have hbox := (Box.new w #[.slice A0 n0 c0, .int .i64 N, .string s, .slice A3 L.length c3, .slice A4 T.length c4, .bool is] 32).ext hb1
  have hb := ext_trans (ext_alloc (ext_refl w) _) hb1
  clear hb1 G HG
  replace hr1 := hr1.ext hb
  replace hr3 := hr3.ext hb
  replace hr4 := hr4.ext hb
  have f1 := hbox.cell (j := 1) rfl
  have f2 := hbox.cell (j := 2) rfl
  have f3 := hbox.cell (j := 3) rfl
  have f4 := hbox.cell (j := 4) rfl
  have f5 := hbox.cell (j := 5) rfl
  go_wp2_with fail
  obtain ⟨la, hla, HLA⟩ := named (encI N)
  obtain ⟨lb, hlb, HLB⟩ := named (la ++ encS s)
  obtain ⟨lc, hlc, HLC⟩ := named (lb ++ encL encI L)
  obtain ⟨ld, hld, HLD⟩ := named (lc ++ encL encS T)
  obtain ⟨le, hle, HLE⟩ := named (ld ++ [if is then 1 else 0])
  have ba : la.length ≤ 10 := by rw [hla]; exact e1
  have bb : lb.length ≤ 2020 := by rw [hlb, List.length_append]; omega
  have bc : lc.length + 0 ≤ 22030 := by rw [hlc, List.length_append]; omega
  have bc' : lb.length + (encL encI L).length ≤ 22030 := by omega
  have bd : ld.length ≤ 44040 := by rw [hld, List.length_append]; omega
  have bd' : lc.length + (encL encS T).length ≤ 44040 := by omega
  have be : le.length ≤ 44041 := by rw [hle, List.length_append]; simp only [List.length_cons, List.length_nil]; omega
  clear hla hlb hlc hld hle e1 e2 e3 e4
  go_region_held3 (fun w' => w'.cell? ⟨w.heap.size, 1, none⟩ = some (.int .i64 N) ∧ w'.cell? ⟨w.heap.size, 2, none⟩ = some (.string s) ∧ w'.cell? ⟨w.heap.size, 3, none⟩ = some (.slice A3 L.length c3) ∧ w'.cell? ⟨w.heap.size, 4, none⟩ = some (.slice A4 T.length c4) ∧ w'.cell? ⟨w.heap.size, 5, none⟩ = some (.bool is))
    (first | (go_split_ands; exact ⟨cell_ext (by assumption) hbk, cell_ext (by assumption) hbk, cell_ext (by assumption) hbk, cell_ext (by assumption) hbk, cell_ext (by assumption) hbk⟩) | go_keep)
    (first
      | (go_at_call 10; refine (PutInt_any none 0 [] N _ Row.nil hN.1 hN.2 (by decide)).mono ?_; rintro e wa ⟨va, rfl, howna, hbk⟩; change wa.ownsRow _ _ _ _ ([] ++ encI N).length (bvs ([] ++ encI N)) at howna; rw [List.nil_append, ← HLA.out] at howna; obtain ⟨Aa, ca, rfl, _, _⟩ := own_form howna; have hx1 := ext_trans (ext_drew (ext_refl w1)) hbk)
      | (go_at_call 16; refine (PutText_any Aa ca la s _ (Row.own howna) (by omega) (by omega)).mono ?_; rintro e wb ⟨vb, rfl, hownb, hbk⟩; rw [← HLB.out] at hownb; obtain ⟨Ab, cb, rfl, _, _⟩ := own_form hownb; have hx2 := ext_trans hx1 hbk)
      | (go_at_call 18; refine (PutInts_any Ab cb lb A3 c3 L _ (Row.own hownb) (hr3.ext hx2) hL (by omega) (by omega)).mono ?_; rintro e wc ⟨vc, rfl, hownc, hbk⟩; rw [← HLC.out] at hownc; obtain ⟨Ac, cc, rfl, _, _⟩ := own_form hownc; have hx3 := ext_trans hx2 hbk)
      | (go_at_call 20; refine (PutTexts_any Ac cc lc A4 c4 T _ (Row.own hownc) (hr4.ext hx3) (by omega) (by omega)).mono ?_; rintro e wd ⟨vd, rfl, hownd, hbk⟩; rw [← HLD.out] at hownd; obtain ⟨Ad, cd, rfl, _, _⟩ := own_form hownd; have hx4 := ext_trans hx3 hbk)
      | (go_at_call 11; refine (PutBool_any Ad cd ld is _ (Row.own hownd) (by omega)).mono ?_; rintro e we ⟨ve, rfl, howne, hbk⟩; rw [← HLE.out] at howne; have hx5 := ext_trans hx4 hbk))
  clear bc bc' bd'
  have hr1e := hr1.ext hx5
  go_wp2_with (first | (at_builtin; go_must (refine wpList_append_row rfl (.tmp 35) (.tmp 36) rfl elemB wd.heap.size _ _ _ rfl howne we.heap.size more.length c1 A1 (bvs more) (by simp [bvs]) rfl hr1e (row_none hr1e) (bvs_one more) (by unfold maxLen; omega) (by omega) hbk.size ?_)))
  intro vf wf hownf hgf
  have hx6 := below_of_own hx5 howne hgf hx5.size hx4.size
  obtain ⟨lf, hlf, HLF⟩ := named (le ++ more)
  have bf : lf.length ≤ 46041 := by rw [hlf, List.length_append]; omega
  have ef : wf.ownsRow wd.heap.size 5 1 vf lf.length (bvs lf) := by rw [hlf]; simpa [bvs] using hownf
  obtain ⟨Af, cf, rfl, hcf, _⟩ := own_form ef
  have hrf := Row.own ef
  have HDEC : Hid (lf = encI N ++ (encS s ++ (encL encI L ++ (encL encS T ++ ((if is then 1 else 0) :: more))))) := by
    simp only [Hid, hlf, HLE.out, HLD.out, HLC.out, HLB.out, HLA.out]; simp
  clear hlf hownf hgf ef howna hownb hownc hownd howne hx1 hx2 hx3 hx4 hx5 hr1e HLA HLB HLC HLD HLE HLF ba bb bd be hbk
  clear f1 f2 f3 f4 f5
  have f1 := (hbox.ext hx6).cell (j := 1) rfl
  have g1 : getI lf = some (N, encS s ++ (encL encI L ++ (encL encS T ++ ((if is then 1 else 0) :: more)))) := by rw [HDEC.out]; exact getI_enc N hN _
  obtain ⟨r1, hr1', HR1⟩ := named (encS s ++ (encL encI L ++ (encL encS T ++ ((if is then 1 else 0) :: more))))
  rw [← hr1'] at g1
  have k1 : r1.length ≤ 46041 := by have := (getI_canon g1).1; rw [this, List.length_append] at bf; omega
  clear hr1'
  have C1 := hide (GetInt_some (c := cf) hrf hcf (by omega) g1)
  clear g1
  go_wp2_with fail
  refine C1.out.mono ?_
  rintro e wg ⟨vg, rfl, howng, hbk⟩
  have hx7 := ext_trans hx6 hbk
  obtain ⟨Ag, cg, rfl, hcg, _⟩ := own_form howng
  have hrg := Row.own howng
  clear howng hbk C1 hrf
  have f2 := (hbox.ext hx7).cell (j := 2) rfl
  replace f1 := (hbox.ext hx7).cell (j := 1) rfl
  have g2 : getS r1 = some (s.data.toList, encL encI L ++ (encL encS T ++ ((if is then 1 else 0) :: more))) := by rw [HR1.out]; exact getS_enc s (by omega) _
  obtain ⟨r2, hr2', HR2⟩ := named (encL encI L ++ (encL encS T ++ ((if is then 1 else 0) :: more)))
  rw [← hr2'] at g2
  have k2 : r2.length ≤ 46041 := by rw [HR1.out, ← hr2', List.length_append] at k1; omega
  clear hr2'
  have C2 := hide (GetText_some (c := cg) hrg hcg (by omega) g2)
  clear g2
  go_wp2_with fail
  refine C2.out.mono ?_
  rintro e wh ⟨vh, rfl, hownh, hbk⟩
  rw [str_toList]
  have hx8 := ext_trans hx7 hbk
  obtain ⟨Ah, ch, rfl, hch, _⟩ := own_form hownh
  have hrh := Row.own hownh
  clear hownh hbk C2 hrg
  replace f2 := (hbox.ext hx8).cell (j := 2) rfl
  have f3 := (hbox.ext hx8).cell (j := 3) rfl
  have g3 : getL geti r2 = some (L, encL encS T ++ ((if is then 1 else 0) :: more)) := by rw [HR2.out]; exact getInts_enc L _ (by omega) hL
  obtain ⟨r3, hr3', HR3⟩ := named (encL encS T ++ ((if is then 1 else 0) :: more))
  rw [← hr3'] at g3
  have k3 : r3.length ≤ 46041 := by rw [HR2.out, ← hr3', List.length_append] at k2; omega
  clear hr3'
  have C3 := hide (GetInts_some (c := ch) hrh hch (by omega) g3)
  clear g3
  go_wp2_with fail
  refine C3.out.mono ?_
  rintro e wi ⟨vi, vj, rfl, howni, hownj, hbk⟩
  have hx9 := ext_trans hx8 hbk
  rw [ivs_length] at howni
  obtain ⟨Ai, ci, rfl, hci, _⟩ := own_form howni
  obtain ⟨Aj, cj, rfl, hcj, _⟩ := own_form hownj
  have hri := Row.own howni
  have hrj := Row.own hownj
  clear howni hownj hbk C3 hrh
  replace f3 := (hbox.ext hx9).cell (j := 3) rfl
  go_wp2_with fail
  refine (SameInts_yes _ _ Ai A3 ci c3 _ _ L _ hri (hr3.ext hx9) rfl rfl (by omega)).mono ?_
  rintro e wk ⟨rfl, hbk⟩
  have hx10 := ext_trans hx9 hbk
  replace hrj := hrj.ext hbk
  clear hbk hri f2
  have f4 := (hbox.ext hx10).cell (j := 4) rfl
  have g4 : getL getw r3 = some (T.map fun s => s.data.toList, ((if is then 1 else 0) :: more)) := by rw [HR3.out]; exact getTexts_enc T _ (by omega) (fun t ht => by
    obtain ⟨k, hk, rfl⟩ := List.mem_iff_getElem.1 ht
    have := sizes_get T k hk
    omega)
  obtain ⟨r4, hr4', HR4⟩ := named ((if is then (1 : UInt8) else 0) :: more)
  rw [← hr4'] at g4
  have k4 : r4.length ≤ 46041 := by rw [hr4', List.length_cons]; omega
  clear hr4'
  have C4 := hide (GetTexts_some (c := cj) hrj hcj (by omega) g4)
  clear g4
  go_wp2_with fail
  refine C4.out.mono ?_
  rintro e wl ⟨vl, vm, rfl, hownl, hownm, hbk⟩
  have hx11 := ext_trans hx10 hbk
  rw [sls_svs, List.map_map, show (str ∘ fun s : ByteArray => s.data.toList) = id from rfl, List.map_id, svs_length] at hownl
  obtain ⟨Al, cl, rfl, hcl, _⟩ := own_form hownl
  obtain ⟨Am, cm, rfl, hcm, _⟩ := own_form hownm
  have hrl := Row.own hownl
  have hrm := Row.own hownm
  clear hownl hownm hbk C4 hrj f3
  replace f4 := (hbox.ext hx11).cell (j := 4) rfl
  go_wp2_with fail
  refine (SameTexts_yes _ _ Al A4 cl c4 _ _ T _ hrl (hr4.ext hx11) rfl rfl (by omega)).mono ?_
  rintro e wn ⟨rfl, hbk⟩
  have hx12 := ext_trans hx11 hbk
  replace hrm := hrm.ext hbk
  clear hbk hrl
  have f5 := (hbox.ext hx12).cell (j := 5) rfl
  have g5 : getB r4 = some (is, more) := by rw [HR4.out]; exact getB_enc is more
  have C5 := hide (GetBool_some (c := cm) hrm hcm (by omega) g5)
  clear g5
  go_wp2_with fail
  refine C5.out.mono ?_
  rintro e wo ⟨vo, rfl, howno, hbk⟩
  have hx13 := ext_trans hx12 hbk
  obtain ⟨Ao, co, rfl, hco, _⟩ := own_form howno
  have hro := Row.own howno
  clear howno hbk C5 hrm f4
  replace f5 := (hbox.ext hx13).cell (j := 5) rfl
  go_wp2_with fail
  refine (SameBytes_yes _ _ Ao A1 co c1 _ _ more _ hro (hr1.ext hx13) rfl rfl).mono ?_
  rintro e wp ⟨rfl, rfl⟩
  go_wp2_with fail
  refine (awake_any _).mono ?_
  rintro e wq ⟨rfl, hbk⟩
  go_wp2_with fail
  go_ret
  exact ⟨rfl, ext_trans hb (ext_trans hx13 hbk)⟩

set_option maxRecDepth 100000 in
set_option maxHeartbeats 1600000 in
theorem back_great (A0 A3 A4 A1 : Option Addr) (n0 n3 c0 c3 c4 c1 n1 : Nat) (N : Int) (s : ByteArray) (T : List ByteArray) (is : Bool) (w : World) (hr4 : Row w w.heap.size A4 (svs T))
    (hg : greatB n0 s.size n3 T.length (sizes T) = true) (hT : ∀ t ∈ T, t.size ≤ 9223372036854775807) (hl : T.length ≤ 9223372036854775807) :
    Calls Try.prog 7 #[.agg #[.slice A0 n0 c0, .int .i64 N, .string s, .slice A3 n3 c3, .slice A4 T.length c4, .bool is], .slice A1 n1 c1] w (fun e w' => e = .returned (.bool true) ∧ Below w.heap.size w w') := by
  have G := hide (great_any A0 A3 A4 n0 c0 n3 c3 c4 N s T is (w.alloc (.cells #[.slice A0 n0 c0, .int .i64 N, .string s, .slice A3 n3 c3, .slice A4 T.length c4, .bool is] 32)) (row_alloc hr4 _) hl hT)
  rw [hg] at G
  clear hg
  go_enter Try.func7, Try.ntmps7
  go_wp2_with fail
  refine G.out.mono ?_
  rintro e w1 ⟨rfl, hb1⟩
  have hb := ext_trans (ext_alloc (ext_refl w) _) hb1
  clear hb1
  go_wp2_with fail
  refine (awake_any _).mono ?_
  rintro e wq ⟨rfl, hbk⟩
  go_wp2_with fail
  go_ret
  exact ⟨rfl, ext_trans hb hbk⟩

set_option maxRecDepth 100000 in
set_option maxHeartbeats 1600000 in
theorem back_long (A0 A3 A4 A1 : Option Addr) (n0 n3 c0 c3 c4 c1 n1 : Nat) (N : Int) (s : ByteArray) (T : List ByteArray) (is : Bool) (w : World) (hr4 : Row w w.heap.size A4 (svs T))
    (hg : greatB n0 s.size n3 T.length (sizes T) = false) (hT : ∀ t ∈ T, t.size ≤ 9223372036854775807) (hl : T.length ≤ 9223372036854775807) (hn : 2000 < n1) :
    Calls Try.prog 7 #[.agg #[.slice A0 n0 c0, .int .i64 N, .string s, .slice A3 n3 c3, .slice A4 T.length c4, .bool is], .slice A1 n1 c1] w (fun e w' => e = .returned (.bool true) ∧ Below w.heap.size w w') := by
  have G := hide (great_any A0 A3 A4 n0 c0 n3 c3 c4 N s T is (w.alloc (.cells #[.slice A0 n0 c0, .int .i64 N, .string s, .slice A3 n3 c3, .slice A4 T.length c4, .bool is] 32)) (row_alloc hr4 _) hl hT)
  rw [hg] at G
  clear hg
  go_enter Try.func7, Try.ntmps7
  go_wp2_with fail
  refine G.out.mono ?_
  rintro e w1 ⟨rfl, hb1⟩
  have hb := ext_trans (ext_alloc (ext_refl w) _) hb1
  clear hb1
  go_wp2_with fail
  refine (awake_any _).mono ?_
  rintro e wq ⟨rfl, hbk⟩
  go_wp2_with fail
  go_ret
  exact ⟨rfl, ext_trans hb hbk⟩
end Go.Proofs.Ytpmjfbdnfdeblaa
