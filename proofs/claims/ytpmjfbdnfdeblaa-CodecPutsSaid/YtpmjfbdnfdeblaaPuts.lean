/-
  fedchatlaw05: CodecPuts, the walk.
-/
import Derived.Test.YtpmjfbdnfdeblaaAwake
import Derived.Test.YtpmjfbdnfdeblaaGreat
import Derived.Test.YtpmjfbdnfdeblaaRefPut
import Derived.Test.YtpmjfbdnfdeblaaDecLaws
import Derived.Test.YtpmjfbdnfdeblaaEncLe
set_option linter.unusedVariables false
set_option linter.unusedSimpArgs false
namespace Go.Proofs.Ytpmjfbdnfdeblaa
open Go.RowKit

set_option maxRecDepth 100000 in
set_option maxHeartbeats 3200000 in
theorem puts_small (A0 A3 A4 : Option Addr) (c0 c3 c4 : Nat) (b : List UInt8) (N : Int) (s : ByteArray) (L : List Int) (T : List ByteArray) (is : Bool) (w : World) (hr0 : Row w w.heap.size A0 (bvs b)) (hr3 : Row w w.heap.size A3 (ivs L)) (hr4 : Row w w.heap.size A4 (svs T))
    (hN : I64 N) (hL : ∀ x ∈ L, I64 x) (hg : greatB b.length s.size L.length T.length (sizes T) = false) (hT : ∀ t ∈ T, t.size ≤ 9223372036854775807) :
    Calls Try.prog 4 #[.agg #[.slice A0 b.length c0, .int .i64 N, .string s, .slice A3 L.length c3, .slice A4 T.length c4, .bool is]] w (fun e w' => e = .returned (.bool true) ∧ Below w.heap.size w w') := by
  have HG := hide hg
  simp only [greatB, decide_eq_false_iff_not] at hg
  have b1 : b.length ≤ 2000 := by omega
  have b2 : s.size ≤ 2000 := by omega
  have b3 : L.length ≤ 2000 := by omega
  have b4 : T.length ≤ 2000 := by omega
  have e3 := encInts_le L (by omega) hL
  have e4 := encTexts_le T (by omega) (by omega)
  have e3' : b.length + (encL encI L).length ≤ 1073741824 := by omega
  have e4' : b.length + (encL encS T).length ≤ 1073741824 := by omega
  clear hg e3 e4
  have G := hide (great_any A0 A3 A4 b.length c0 L.length c3 c4 N s T is (w.alloc (.cells #[.slice A0 b.length c0, .int .i64 N, .string s, .slice A3 L.length c3, .slice A4 T.length c4, .bool is] 32)) (row_alloc hr4 _) (by omega) hT)
  rw [HG.out] at G
  go_enter Try.func4, Try.ntmps4
  go_wp2_with fail
  refine G.out.mono ?_
  rintro e w1 ⟨rfl, hb1⟩
  have hbox := (Box.new w #[.slice A0 b.length c0, .int .i64 N, .string s, .slice A3 L.length c3, .slice A4 T.length c4, .bool is] 32).ext hb1
  have hb := ext_trans (ext_alloc (ext_refl w) _) hb1
  clear hb1 G HG
  replace hr0 := hr0.ext hb
  replace hr3 := hr3.ext hb
  replace hr4 := hr4.ext hb
  have f0 := hbox.cell (j := 0) rfl
  have f1 := hbox.cell (j := 1) rfl
  have f2 := hbox.cell (j := 2) rfl
  have f3 := hbox.cell (j := 3) rfl
  have f4 := hbox.cell (j := 4) rfl
  have f5 := hbox.cell (j := 5) rfl
  go_wp2_with fail
  simp only [List.append]
  have hx := ext_drew (ext_refl w1)
  obtain ⟨l1, hq, H1⟩ := named (b ++ encI N)
  clear hq
  obtain ⟨l2, hq, H2⟩ := named (b ++ encS s)
  clear hq
  obtain ⟨l3, hq, H3⟩ := named (b ++ encL encI L)
  clear hq
  obtain ⟨l4, hq, H4⟩ := named (b ++ encL encS T)
  clear hq
  obtain ⟨l5, hq, H5⟩ := named (b ++ [if is then 1 else 0])
  clear hq
  go_region_held3 (fun w' => w'.cell? ⟨w.heap.size, 0, none⟩ = some (.slice A0 b.length c0) ∧ w'.cell? ⟨w.heap.size, 1, none⟩ = some (.int .i64 N) ∧ w'.cell? ⟨w.heap.size, 2, none⟩ = some (.string s) ∧ w'.cell? ⟨w.heap.size, 3, none⟩ = some (.slice A3 L.length c3) ∧ w'.cell? ⟨w.heap.size, 4, none⟩ = some (.slice A4 T.length c4) ∧ w'.cell? ⟨w.heap.size, 5, none⟩ = some (.bool is))
    (first | (go_split_ands; exact ⟨cell_ext (by assumption) hbk, cell_ext (by assumption) hbk, cell_ext (by assumption) hbk, cell_ext (by assumption) hbk, cell_ext (by assumption) hbk, cell_ext (by assumption) hbk⟩) | go_keep)
    (first
      | (go_at_call 10; refine (PutInt_any A0 c0 b N _ (hr0.ext hx) hN.1 hN.2 (by omega)).mono ?_; rintro e wa ⟨va, rfl, howna, hbk⟩; change World.ownsRow _ _ _ _ _ (b ++ encI N).length (bvs (b ++ encI N)) at howna; rw [← H1.out] at howna; obtain ⟨Aa, ca, rfl, _, _⟩ := own_form howna; have hra := Row.own howna; replace hx := ext_trans hx hbk)
      | (go_at_call 15; refine (RPutInt_any A0 c0 b N _ (hr0.ext hx) hN.1 hN.2 (by omega)).mono ?_; rintro e wb ⟨vb, rfl, hownb, hbk⟩; rw [← H1.out] at hownb; obtain ⟨Ab, cb, rfl, _, _⟩ := own_form hownb; have hrb := Row.own hownb; replace hra := hra.ext hbk; replace hx := ext_trans hx hbk)
      | (go_at_call 16; refine (PutText_any A0 c0 b s _ (hr0.ext hx) (by omega) (by omega)).mono ?_; rintro e wa ⟨va, rfl, howna, hbk⟩; rw [← H2.out] at howna; obtain ⟨Aa, ca, rfl, _, _⟩ := own_form howna; have hra := Row.own howna; replace hx := ext_trans hx hbk)
      | (go_at_call 17; refine (RPutText_any A0 c0 b s _ (hr0.ext hx) (by omega) (by omega)).mono ?_; rintro e wb ⟨vb, rfl, hownb, hbk⟩; rw [← H2.out] at hownb; obtain ⟨Ab, cb, rfl, _, _⟩ := own_form hownb; have hrb := Row.own hownb; replace hra := hra.ext hbk; replace hx := ext_trans hx hbk)
      | (go_at_call 18; refine (PutInts_any A0 c0 b A3 c3 L _ (hr0.ext hx) (hr3.ext hx) hL e3' (by omega)).mono ?_; rintro e wa ⟨va, rfl, howna, hbk⟩; rw [← H3.out] at howna; obtain ⟨Aa, ca, rfl, _, _⟩ := own_form howna; have hra := Row.own howna; replace hx := ext_trans hx hbk)
      | (go_at_call 19; refine (RPutInts_any A0 c0 b A3 c3 L _ (hr0.ext hx) (hr3.ext hx) hL e3' (by omega)).mono ?_; rintro e wb ⟨vb, rfl, hownb, hbk⟩; rw [← H3.out] at hownb; obtain ⟨Ab, cb, rfl, _, _⟩ := own_form hownb; have hrb := Row.own hownb; replace hra := hra.ext hbk; replace hx := ext_trans hx hbk)
      | (go_at_call 20; refine (PutTexts_any A0 c0 b A4 c4 T _ (hr0.ext hx) (hr4.ext hx) e4' (by omega)).mono ?_; rintro e wa ⟨va, rfl, howna, hbk⟩; rw [← H4.out] at howna; obtain ⟨Aa, ca, rfl, _, _⟩ := own_form howna; have hra := Row.own howna; replace hx := ext_trans hx hbk)
      | (go_at_call 21; refine (RPutTexts_any A0 c0 b A4 c4 T _ (hr0.ext hx) (hr4.ext hx) e4' (by omega)).mono ?_; rintro e wb ⟨vb, rfl, hownb, hbk⟩; rw [← H4.out] at hownb; obtain ⟨Ab, cb, rfl, _, _⟩ := own_form hownb; have hrb := Row.own hownb; replace hra := hra.ext hbk; replace hx := ext_trans hx hbk)
      | (go_at_call 11; refine (PutBool_any A0 c0 b is _ (hr0.ext hx) (by omega)).mono ?_; rintro e wa ⟨va, rfl, howna, hbk⟩; rw [← H5.out] at howna; obtain ⟨Aa, ca, rfl, _, _⟩ := own_form howna; have hra := Row.own howna; replace hx := ext_trans hx hbk)
      | (go_at_call 22; refine (RPutBool_any A0 c0 b is _ (hr0.ext hx) (by omega)).mono ?_; rintro e wb ⟨vb, rfl, hownb, hbk⟩; rw [← H5.out] at hownb; obtain ⟨Ab, cb, rfl, _, _⟩ := own_form hownb; have hrb := Row.own hownb; replace hra := hra.ext hbk; replace hx := ext_trans hx hbk)
      | (go_at_call 14; refine (SameBytes_yes _ _ _ _ _ _ _ _ _ _ hra hrb rfl rfl).mono ?_; rintro e wz ⟨rfl, rfl⟩)
      | (go_at_call 9; refine (awake_any _).mono ?_; rintro e wz ⟨rfl, hbk⟩; replace hx := ext_trans hx hbk))
  go_wp2_with fail
  go_ret
  exact ⟨rfl, ext_trans hb hx⟩

set_option maxRecDepth 100000 in
set_option maxHeartbeats 1600000 in
theorem puts_great (A0 A3 A4 : Option Addr) (n0 n3 c0 c3 c4 : Nat) (N : Int) (s : ByteArray) (T : List ByteArray) (is : Bool) (w : World) (hr4 : Row w w.heap.size A4 (svs T))
    (hg : greatB n0 s.size n3 T.length (sizes T) = true) (hT : ∀ t ∈ T, t.size ≤ 9223372036854775807) (hl : T.length ≤ 9223372036854775807) :
    Calls Try.prog 4 #[.agg #[.slice A0 n0 c0, .int .i64 N, .string s, .slice A3 n3 c3, .slice A4 T.length c4, .bool is]] w (fun e w' => e = .returned (.bool true) ∧ Below w.heap.size w w') := by
  have G := hide (great_any A0 A3 A4 n0 c0 n3 c3 c4 N s T is (w.alloc (.cells #[.slice A0 n0 c0, .int .i64 N, .string s, .slice A3 n3 c3, .slice A4 T.length c4, .bool is] 32)) (row_alloc hr4 _) hl hT)
  rw [hg] at G
  clear hg
  go_enter Try.func4, Try.ntmps4
  go_wp2_with fail
  refine G.out.mono ?_
  rintro e w1 ⟨rfl, hb1⟩
  have hb := ext_trans (ext_alloc (ext_refl w) _) hb1
  clear hb1
  go_wp2_with fail
  refine (awake_any _).mono ?_
  rintro e wq ⟨rfl, hbk⟩
  go_wp2_with fail
  go_ret
  exact ⟨rfl, ext_trans hb hbk⟩
end Go.Proofs.Ytpmjfbdnfdeblaa
