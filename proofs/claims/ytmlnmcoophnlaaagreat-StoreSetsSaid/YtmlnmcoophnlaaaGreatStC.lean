/-
  Sets of events: slices.Clone and slices.Insert at events.
  Sets of events: the code's Put.
  Sets of events: the reference's Put.
-/
import Derived.Test.YtmlnmcoophnlaaaGreatStB
import Derived.Test.YtmlnmcoophnlaaaGreatPhases
import Derived.BigQuiet
import Derived.Test.YtmlnmcoophnlaaaGreatStA
import Derived.Test.YtmlnmcoophnlaaaGreatREvStr
set_option linter.unusedVariables false
set_option linter.unusedSimpArgs false
namespace Go.Proofs.YtmlnmcoophnlaaaGreat
section
open Go.RowKit
attribute [local go_sem] Addr.add_mid
theorem told_app {w : World} {S : Nat → Prop} {css : List (List Value)} {l : List Ev} {cs : List Value} {e : Ev} (k : Nat) (ht : Told (EvR w S) css l) (he : EvR w S cs e) : Told (EvR w S) (css.take k ++ ([cs] ++ css.drop k)) (l.take k ++ (e :: l.drop k)) :=
  (ht.take k).append ((Told.one he).append (ht.drop k))
theorem run_eqNil (ad : Addr) (n c : Nat) (w : World) : (binOp .eql 22 (.slice (some ad) n c) (.slice none 0 0)).run Tryz.prog w = .ok (.bool false) w := by
  first | kernel_rfl | rfl | simp [binOp, run_underlying Tryz.underlying22]
theorem run_isNil (c : Nat) (w : World) : (binOp .eql 22 (.slice none 0 c) (.slice none 0 0)).run Tryz.prog w = .ok (.bool true) w := by
  first | kernel_rfl | rfl | simp [binOp, run_underlying Tryz.underlying22]
set_option maxRecDepth 100000 in
set_option maxHeartbeats 4000000 in
theorem SClone_any {S : Nat → Prop} {v : Value} {l : List Ev} {w : World} (hr : EvsR w S v l) (hl : l.length ≤ 1000000) :
    Calls Tryz.prog 35 #[v] w (GivesO (fun b => S b ∧ b < w.heap.size) l w) := by
  have hr' := hr.weak (S' := fun b => S b ∧ b < w.heap.size) fun _ hs h => ⟨hs, h⟩
  obtain ⟨A, c, css, rfl, h1, h2, h3, hrow, ht⟩ := hr'.form
  clear hr hr'
  cases A with
  | none =>
    have h0 : l = [] := List.eq_nil_of_length_eq_zero (h3 rfl)
    subst h0
    have hnn := run_isNil c
    go_enter Tryz.func35, Tryz.ntmps35
    go_wp2_with fail
    go_ret
    exact ⟨_, rfl, ownE_nil _ _ _, ext_refl _⟩
  | some ad =>
    have HL := hide (told_len ht)
    have HO := hide (told_one ht)
    have HT := hide ht
    have hx1 : Below w.heap.size w (w.alloc (.cells #[] 35)) := ext_alloc (ext_refl _) _
    have own1 : (w.alloc (.cells #[] 35)).ownsRow w.heap.size 35 29 (.slice (some ⟨w.heap.size, 0, none⟩) 0 0) 0 [] := own_empty w _ _
    have hrow1 := hrow.ext hx1
    have hnn := run_eqNil ad l.length c
    clear ht hrow
    go_enter Tryz.func35, Tryz.ntmps35
    go_wp2_with (first
      | refine wpList_build0 rfl rfl Tryz.underlying22 strcE (by decide) (by decide) ?_
      | (at_builtin; go_must (refine wpList_append_row rfl (.tmp 5) (.tmp 6) rfl elemE w.heap.size _ 0 [] rfl own1 _ l.length c (some ad) css.flatten HL.out rfl hrow1 nofun HO.out (by unfold maxLen; omega) (by omega) hx1.size ?_)))
    intro v3 w3 hown3 hg3
    have hb3 := below_of_own hx1 own1 hg3 hx1.size (Nat.le_refl _)
    have HO3 : Hid (w3.ownsRow w.heap.size 35 29 v3 l.length css.flatten) := by have := hown3; simpa [Hid] using this
    clear hown3 hg3 own1 hrow1 hx1
    go_wp2_with fail
    go_ret
    exact ⟨_, rfl, ⟨css, HO3.out, HT.out.imp fun _ _ h => h.ext hb3⟩, hb3⟩
theorem run_cutg (g n c k : Nat) (hk : k ≤ n) (hc : c ≠ k) (w : World) (K : Int) (hK : K = (k : Int)) : (Instr.slice 22 (.slice (some ⟨g, 0, none⟩) n c) (some (.int .i64 K)) none none).run Tryz.prog w = .ok (.slice (some ⟨g, k * 29, none⟩) (n - k) (c - k)) w := by
  subst hK
  have h := run_cut elemE (some ⟨g, 0, none⟩) n c k hk w
  rw [h]
  unfold cutA
  rw [if_neg hc]
  have : (⟨g, 0, none⟩ : Addr).add (k * 29) = ⟨g, k * 29, none⟩ := by by_cases hj : k * 29 = 0 <;> simp [Addr.add, hj]
  simp [this]
def InsV (B : Nat) (l : List Ev) (w : World) (x : Ending) (w' : World) : Prop := ∃ v', x = .returned v' ∧ OwnE B w' (fun b => b < B) v' l ∧ Below B w w'
set_option maxRecDepth 100000 in
set_option maxHeartbeats 4000000 in
theorem SInsert_any {B : Nat} {v : Value} {l : List Ev} {cs : List Value} {e : Ev} {k vb : Nat} {w : World} (ho : OwnE B w (fun b => b < B) v l) (he : EvR w (fun b => b < B) cs e) (hB : B ≤ w.heap.size) (hk : k ≤ l.length) (hl : l.length ≤ 100000) (hvb : w.heap[vb]? = some (.cells cs.toArray 35 (0, 0))) (hne : ∀ g, v.ownBlock = some g → g ≠ vb) :
    Calls Tryz.prog 37 #[v, .int .i64 (k : Int), .slice (some ⟨vb, 0, none⟩) 1 1] w (InsV B (l.take k ++ (e :: l.drop k)) w) := by
  obtain ⟨css, hown, ht⟩ := ho
  have HT := hide (told_app k ht he)
  have HT0 := hide ht
  have HE := hide he
  have HL := hide he.length; have HO := hide he.one
  have hvw := (Array.getElem?_eq_some_iff.1 hvb).1
  have HRV : Hid (Row w w.heap.size (some ⟨vb, 0, none⟩) cs) := fun _ => ⟨⟨vb, 0, none⟩, rfl, hvw, box_all hvb⟩
  obtain ⟨A, c, rfl, hnc, hcm⟩ := own_form hown
  have hcut := run_cut elemE A l.length c k hk
  by_cases hkl : k = l.length
  · subst hkl
    have HOWN := hide hown
    clear hown he ht hvb
    go_enter Tryz.func37, Tryz.ntmps37
    go_wp2_with (at_builtin; go_must (refine wpList_append_row rfl (.tmp 23) (.tmp 24) rfl elemE B _ l.length css.flatten rfl HOWN.out w.heap.size 1 1 (some ⟨vb, 0, none⟩) cs (by have := HL.out; omega) rfl HRV.out nofun HO.out (by unfold maxLen; omega) (by omega) hB ?_))
    intro v3 w3 hown3 hg3
    have hb3 := below_of_own (Below.refl B w) HOWN.out hg3 hB (Nat.le_refl _)
    have HO3 := hide hown3
    have HT3 := hide (HT.out.imp fun _ _ h => h.grown hg3 (fun b hb e => by have := (HOWN.out.lt b e).1; omega))
    clear hown3 hg3
    go_wp2_with fail
    go_ret
    have h3 := HT3.out
    rw [List.take_length, List.drop_length] at h3
    rw [List.take_length, List.drop_length]
    refine ⟨_, rfl, ⟨_, ?_, h3⟩, hb3⟩
    have hcl : css.length = l.length := HT0.out.length
    rw [← hcl, List.take_length, List.drop_length]
    have := HO3.out
    simpa using this
  · have hlt : k < l.length := by omega
    obtain ⟨g, c', hv, hg1, hg2, hc'⟩ := own_block8 hown (by omega) (by decide)
    injection hv with hv1 _ hv3
    subst hv1 hv3
    have hgv := hne g rfl
    have tk := ht.take k
    have td := ht.drop k
    have ha : (css.take k).flatten.length = k * 29 := by rw [told_len tk, List.length_take, Nat.min_eq_left hk]
    have hb : (css.drop k).flatten.length = (l.length - k) * 29 := by rw [told_len td, List.length_drop]
    have oa := told_one tk
    have ob := told_one td
    have hxs : css.flatten = (css.take k).flatten ++ (css.drop k).flatten := by rw [← List.flatten_append, List.take_append_drop]
    have hrow := Row.own hown
    have r1 := hrow.take (k * 29)
    rw [flat_take k (told_size ht)] at r1
    have r2 := hrow.cutA (size := 29) (k := k) (c := c) (told_len ht) hnc
    rw [flat_drop k (told_size ht)] at r2
    have hcutk : cutA (some ⟨g, 0, none⟩) c k 29 = some ⟨g, k * 29, none⟩ := by
      unfold cutA
      rw [if_neg (by omega)]
      by_cases hj : k * 29 = 0 <;> simp [Addr.add, hj]
    rw [hcutk] at r2
    obtain ⟨a', hA'⟩ : ∃ y, y = (css.take k).flatten := ⟨_, rfl⟩
    obtain ⟨b', hB'⟩ : ∃ y, y = (css.drop k).flatten := ⟨_, rfl⟩
    have HF := hide (show (css.take k ++ ([cs] ++ css.drop k)).flatten = a' ++ (cs ++ b') by rw [hA', hB']; simp)
    rw [← hA', ← hB'] at hxs
    rw [← hA'] at ha r1 oa
    rw [← hB'] at hb ob r2
    rw [hxs] at hown
    have hkk : ((k : Int) == (l.length : Int)) = false := by simp; omega
    have hlen : (l.take k ++ (e :: l.drop k)).length = l.length + 1 := by simp; omega
    have HLN := hide hlen
    have HA := hide ha; have HB := hide hb; have HOA := hide oa; have HOB := hide ob
    have HR1 := hide r1; have HR2 := hide r2
    have HOWN := hide hown
    have HV := hide hvb
    have HG1 := hide hg1
    clear hcutk hA' hB' tk td ht he hrow oa ob ha hb hlen r1 r2 hown hxs hvb
    have hw1 : IntKind.i64.wrap ((k : Int) + 1) = (k : Int) + 1 := by rw [IntKind.wrap_i64]; omega
    by_cases hroom : c < l.length + 1
    · have hgt : decide ((c : Int) < (l.length : Int) + 1) = true := decide_eq_true (by omega)
      have hhead := run_head elemE (some ⟨g, 0, none⟩) l.length c k (by omega)
      go_enter Tryz.func37, Tryz.ntmps37
      go_wp2_with (at_builtin; go_must (refine wpList_append_zeros rfl (.tmp 34) (.tmp 39) 3 rfl Tryz.underlying3 elemE B w.heap.size (some ⟨g, 0, none⟩) k c (l.length + 1 - k) a' rfl HA.out HR1.out nofun (by omega) _ rfl (by omega) (by omega) (by omega) (by unfold maxLen; omega) hB ?_))
      intro g3 G zs W hg3 hzl hownW hbW
      have e1 : k + (l.length + 1 - k) = l.length + 1 := by omega
      rw [e1] at hownW ⊢
      have hGc := (own_cap hownW).1
      have HG3 := hide hg3
      have HZL := hide hzl
      have HOW := hide hownW
      have hcutN := fun W => run_cutg g3 (l.length + 1) G k (by omega) (by omega) W (k : Int) rfl
      clear hgt hhead hcut hg3 hzl hownW
      have hrv := HRV.out.ext hbW
      go_wp2_with (refine wpList_copy rfl (.tmp 43) (.tmp 44) _ rfl elemE B g3 (l.length + 1) G (a' ++ zs) HOW.out k (some ⟨g3, k * 29, none⟩) (l.length + 1 - k) (G - k) rfl W.heap.size (some ⟨vb, 0, none⟩) 1 1 1 cs rfl (by omega) (by have := HL.out; omega) hrv HO.out (by omega) (fun _ => by simp [Addr.add]) ?_)
      intro w2 hown2 hg2
      have hb2 : Below w.heap.size w w2 := hbW.grown hg2 hbW.size (fun q hq => by injection hq with hq; have := HG3.out; omega)
      have HO2 := hide hown2
      clear hown2 hg2 hcutN hrv
      have hcutA := fun W => run_cutg g3 (l.length + 1) G (k + 1) (by omega) (by omega) W ((k : Int) + 1) (by omega)
      have hcutB := fun W => run_cutg g l.length c k (by omega) (by omega) W (k : Int) rfl
      have hr3 := HR2.out.ext hb2
      have e2 : l.length + 1 - (k + 1) = l.length - k := by omega
      rw [e2] at hcutA
      go_wp2_with fail
      refine wp_region_still_tail 8 (by kernel_rfl) (by kernel_rfl) ?_
      simp only [List.take_succ_cons, List.take_zero, List.drop_succ_cons, List.drop_zero]
      iterate 8 still_step
      refine wpStill_nil ?_
      go_wp2_with (refine wpList_copy rfl (.tmp 50) (.tmp 53) _ rfl elemE B g3 (l.length + 1) G _ (show w2.drew.ownsRow _ _ _ _ _ _ from HO2.out) (k + 1) (some ⟨g3, (k + 1) * 29, none⟩) (l.length - k) (G - (k + 1)) rfl w2.heap.size (some ⟨g, k * 29, none⟩) (l.length - k) (c - k) (l.length - k) b' rfl (by omega) HB.out (show Row w2.drew _ _ _ from hr3) HOB.out (by omega) (fun _ => by simp [Addr.add]) ?_)
      intro w3 hown3 hg3'
      have hb3 := (ext_drew hb2).grown hg3' hb2.size (fun q hq => by injection hq with hq; have := HG3.out; omega)
      rw [show k * 29 = a'.length from HA.out.symm, show (k + 1) * 29 = a'.length + cs.length by have := HA.out; have := HL.out; omega, patch_grow a' b' cs zs (by have := HZL.out; have := HB.out; have := HL.out; omega), ← HF.out] at hown3
      have HO3 := hide hown3
      clear hown3 hg3' hcutA hcutB hr3 HO2
      go_wp2_with fail
      go_ret
      exact ⟨_, rfl, ⟨_, by rw [HLN.out]; exact HO3.out, HT.out.imp fun _ _ h => h.ext hb3⟩, hb3.mono hB⟩
    · have hgt : decide ((c : Int) < (l.length : Int) + 1) = false := decide_eq_false (by omega)
      obtain ⟨ys, hyl, hownR⟩ := own_room HOWN.out (show l.length ≤ l.length + 1 by omega) (by omega)
      rw [List.append_assoc] at hownR
      have hhead := run_head elemE (some ⟨g, 0, none⟩) l.length c (l.length + 1) (by omega)
      rw [show ((l.length + 1 : Nat) : Int) = (l.length : Int) + 1 by omega] at hhead
      have hcutA := fun W => run_cutg g (l.length + 1) c (k + 1) (by omega) (by omega) W ((k : Int) + 1) (by omega)
      have hcutB := fun W => run_cutg g (l.length + 1) c k (by omega) (by omega) W (k : Int) rfl
      have e2 : l.length + 1 - (k + 1) = l.length - k := by omega
      rw [e2] at hcutA
      have hov : ∀ lb cb, (callFunc 51 #[.slice (some ⟨vb, 0, none⟩) 1 1, .slice (some ⟨g, (k + 1) * 29, none⟩) lb cb]).run Tryz.prog w = .ok (.value (.bool false)) w := fun lb cb => by
        rw [run_callFunc_extern Tryz.func51 (by kernel_rfl) (by kernel_rfl) (by kernel_rfl) (e := Extern.SlicesOverlaps.overlaps #[22, 22] #[4]) (by kernel_rfl),
          Lib.run_overlaps_apart w 22 4 35 Tryz.underlying22 29 (run_size elemE) ⟨vb, 0, none⟩ ⟨g, (k + 1) * 29, none⟩ 1 1 lb cb (fun e => hgv e.symm) 35 35 _ _ (box_shape HV.out) (own_shape HOWN.out) (by omega) (frozen_of_row w vb 0 _ _ HV.out) (frozen_of_row w vb _ _ _ HV.out)]
        rfl
      have HOR := hide hownR
      have HYL := hide hyl
      clear hownR hyl hcut
      go_enter Tryz.func37, Tryz.ntmps37
      go_wp2_with (simp only [hov])
      refine wp_region_still_tail 8 (by kernel_rfl) (by kernel_rfl) ?_
      simp only [List.take_succ_cons, List.take_zero, List.drop_succ_cons, List.drop_zero]
      iterate 8 still_step
      refine wpStill_nil ?_
      go_wp2_with (refine wpList_copy rfl (.tmp 73) (.tmp 76) _ rfl elemE B g (l.length + 1) c _ (show w.drew.ownsRow _ _ _ _ _ _ from HOR.out) (k + 1) (some ⟨g, (k + 1) * 29, none⟩) (l.length - k) (c - (k + 1)) rfl w.heap.size (some ⟨g, k * 29, none⟩) (l.length + 1 - k) (c - k) (l.length - k) b' rfl (by omega) HB.out (show Row w.drew _ _ _ from HR2.out) HOB.out (by omega) (fun _ => by simp [Addr.add]) ?_)
      intro w2 hown2 hg2
      have hb2 := (below_drewN (Below.refl B w) 1).grown hg2 hB (fun q hq => by injection hq with hq; have := HG1.out; omega)
      have HO2 := hide hown2
      have HV2 : Hid (w2.heap[vb]? = some (.cells cs.toArray 35 (0, 0))) := box_grown (w := w.drew) HV.out hg2 hgv
      have HT2 := hide (HT.out.imp fun _ _ h => (h.ext (ext_drew (ext_refl w))).grown hg2 (fun b hb e => by injection e with e; have := HG1.out; omega))
      have hrv : Row w2 w2.heap.size (some ⟨vb, 0, none⟩) cs := fun _ => ⟨⟨vb, 0, none⟩, rfl, (Array.getElem?_eq_some_iff.1 HV2.out).1, box_all HV2.out⟩
      clear hown2 hg2 hov hhead hcutA
      go_wp2_with (refine wpList_copy rfl (.tmp 80) (.tmp 81) _ rfl elemE B g (l.length + 1) c _ HO2.out k (some ⟨g, k * 29, none⟩) (l.length + 1 - k) (c - k) rfl w2.heap.size (some ⟨vb, 0, none⟩) 1 1 1 cs rfl (by omega) (by have := HL.out; omega) hrv HO.out (by omega) (fun _ => by simp [Addr.add]) ?_)
      intro w3 hown3 hg3
      have hb3 := hb2.grown hg3 (Nat.le_trans hB hb2.size) (fun q hq => by injection hq with hq; have := HG1.out; omega)
      have HT3 := hide (HT2.out.imp fun _ _ h => h.grown hg3 (fun b hb e => by injection e with e; have := HG1.out; omega))
      rw [show k * 29 = a'.length from HA.out.symm, show (k + 1) * 29 = a'.length + cs.length by have := HA.out; have := HL.out; omega, patch_shift a' b' cs ys (by have := HYL.out; have := HL.out; omega), ← HF.out] at hown3
      have HO3 := hide hown3
      clear hown3 hg3 hcutB hrv HO2
      go_wp2_with fail
      go_ret
      exact ⟨_, rfl, ⟨_, by rw [HLN.out]; exact HO3.out, HT3.out⟩, hb3⟩
end

section
open Go.RowKit
attribute [local go_sem] Addr.add_mid
def PutV (l : List Ev) (e : Ev) (w : World) (x : Ending) (w' : World) : Prop := ∃ v', x = .returned (.tuple #[v', .int .i64 (putC l e)]) ∧ EvsR w' Any v' (putE l e) ∧ Below w.heap.size w w'
theorem OwnE.more {base base' : Nat} {w : World} {S : Nat → Prop} {v : Value} {l : List Ev} (h : OwnE base w S v l) (hb : base' ≤ base) : OwnE base' w S v l := by
  obtain ⟨css, h1, h2⟩ := h
  exact ⟨css, own_more h1 hb, h2⟩
theorem OwnE.weak {base : Nat} {w : World} {S S' : Nat → Prop} {v : Value} {l : List Ev} (h : OwnE base w S v l) (hS : ∀ b, S b → b < w.heap.size → S' b) : OwnE base w S' v l := by
  obtain ⟨css, h1, h2⟩ := h
  exact ⟨css, h1, h2.imp fun _ _ h => h.weak hS⟩
set_option maxRecDepth 100000 in
set_option maxHeartbeats 4000000 in
theorem SPut_any {v : Value} {l : List Ev} {cs : List Value} {e : Ev} {w : World} (hr : EvsR w Any v l) (he : EvR w Any cs e) (hl : l.length < 2000) (hP : ∀ x ∈ l, x.con.puts) (hp : e.con.puts) :
    Calls Tryz.prog 13 #[v, .agg cs.toArray] w (PutV l e w) := by
  have hr0 := hr.weak (S' := fun b => b < w.heap.size) fun _ _ h => h
  have he0 := he.weak (S' := fun b => b < w.heap.size) fun _ _ h => h
  have CP := hide (fun (W : World) (h : Below w.heap.size w W) => Splace_any (id := e.id) (hr0.ext h) (show l.length ≤ 1000000 by omega))
  have CC := hide (fun (W : World) (h : Below w.heap.size w W) => SClone_any (hr0.ext h) (show l.length ≤ 1000000 by omega))
  obtain ⟨A, c, css, rfl, h1, h2, _, hrow, ht⟩ := hr0.form
  have HE := hide he0
  have HL := hide he.length; have HO := hide he.one
  have HP := hide hP; have HPE := hide hp
  have hb0 := ext_alloc (ext_refl w) (.cells cs.toArray 35)
  have BX := heap_alloc_new w (.cells cs.toArray 35)
  have q0 := he.gets.1
  have q1 := he.gets.2.1
  clear hr hr0 he he0 hP hp
  go_enter Tryz.func13, Tryz.ntmps13
  go_wp2_with fail
  generalize w.alloc (.cells cs.toArray 35) = W0 at hb0 BX ⊢
  obtain ⟨g3, hg3⟩ : ∃ g, g = w.heap.size := ⟨_, rfl⟩
  rw [← hg3] at BX ⊢
  have HG3 := hide hg3
  clear hg3
  go_loopw [12] (fun i wr => ∃ k : Nat, k ≤ l.length ∧ i = .int .i64 (k : Int) ∧ Hid (∀ x ∈ l.take k, x.room = e.room) ∧ Below W0.heap.size W0 wr) (fun i _ => l.length - (intOf i).toNat)
  case atStart => exact ⟨0, Nat.zero_le _, rfl, by simp [Hid], ext_refl _⟩
  case round =>
  obtain ⟨k, hk, rfl, HT, hnx⟩ := hrel
  have hnw := ext_trans hb0 hnx
  have BR := box_below BX hnx
  by_cases hlt : k < l.length
  · obtain ⟨b1, o1, cs1, rfl, hb1, he1, _, hc1⟩ := evs_at (hrow.ext hnw) (ht.imp fun _ _ h => h.ext hnw) k hlt
    have HC := hide hc1
    have HL1 := hide he1.length; have HO1 := hide he1.one
    have HY := hide (fun h : l[k].room = e.room => on_step HT.out hlt h)
    have HN := hide (fun h : l[k].room ≠ e.room => put_off (offB_at hlt h))
    have kx := ext_alloc (ext_refl wr) (.cells cs1.toArray 35)
    have r7 := box_at (heap_alloc_new wr (.cells cs1.toArray 35)) he1.gets.2.1
    have r3 := box_at (box_below BR kx) q1
    have hnx2 := ext_trans hnx kx
    have hnw2 := ext_trans hnw kx
    obtain ⟨x, hx⟩ : ∃ x, x = l[k].room := ⟨_, rfl⟩
    rw [← hx] at r7 HY HN
    clear hc1 he1 hx
    go_upto_region 4 with (first
      | refine wpList_loadS rfl (.tmp 14) rfl strcE ⟨b1, o1 + k * 29, none⟩ rfl cs1 HL1.out (cells_range HC.out) ?_
      | refine wpList_newS rfl rfl strcE rfl (.tmp 7) (.tmp 15) rfl rfl rfl cs1.toArray rfl (by simpa using HL1.out) (by simpa using HO1.out) ?_)
    generalize wr.alloc (.cells cs1.toArray 35) = w2 at kx r3 r7 hnx2 hnw2 ⊢
    clear kx hnx hnw
    by_cases hq : x = e.room
    · have t1 : (x.toList == e.room.toList) = true := str_yes hq
      have HS := hide (HY.out hq)
      clear hq HY HN
      go_wp2_with fail
      go_roundw
      case rel => exact ⟨k + 1, by omega, by go_num, HS.out, hnx2⟩
      case measure => (simp [intOf]; try omega)
    · have t1 : (x.toList == e.room.toList) = false := str_ne hq
      have HF := hide (HN.out hq)
      clear hq HY HN
      go_wp2_with fail
      go_ret2
      exact ⟨.slice none 0 0, by rw [HF.out.1]; rfl, by rw [HF.out.2]; exact EvsR.nil _ _, hnw2⟩
  · obtain rfl : k = l.length := by omega
    have HON := hide (offB_none (show ∀ x ∈ l, x.room = e.room by have := HT.out; rwa [List.take_length] at this))
    have r0 := box_at BR q0
    have CPW := CP.out _ hnw
    have hl2 : decide ((2000 : Int) ≤ (l.length : Int)) = false := decide_eq_false (by omega)
    clear HT
    cases hh : hasId l e.id with
    | true =>
      have hk0 := placeN_lt hh
      have hpi : placeI l e.id = ((placeN l e.id : Nat) : Int) := by unfold placeI; rw [if_pos hh]
      obtain ⟨x0, hx0⟩ : ∃ x, x = l[placeN l e.id] := ⟨_, rfl⟩
      have HF := hide (show putE l e = if wholeB e = true ∧ wholeB x0 = false then l.set (placeN l e.id) e else l by rw [hx0]; exact put_hit HON.out hk0)
      have HPX : Hid x0.con.puts := by rw [hx0]; exact HP.out _ (List.getElem_mem hk0)
      have HX := hide hx0
      rw [hpi] at CPW
      have hneg : ¬ (((placeN l e.id : Nat) : Int) < 0) := by omega
      clear hpi hh hl2
      obtain ⟨k0, hkk⟩ : ∃ k, k = placeN l e.id := ⟨_, rfl⟩
      rw [← hkk] at hk0 CPW hneg HF
      have HX : Hid (x0 = l[k0]) := by subst hkk; exact hx0
      clear hx0 hkk
      go_upto_region 12 with (first
        | (go_at_call 34; refine CPW.mono ?_; rintro x w5 ⟨rfl, hb5⟩)
        | (go_at_call 35; refine (CC.out _ (ext_trans hnw hb5)).mono ?_; rintro x w9 ⟨v9, rfl, own9, hb9⟩))
      have hn9 := ext_trans (ext_trans hnw hb5) hb9
      have B9 := hide (box_below (box_below BR hb5) hb9)
      have own9 := (own9.more (ext_trans hnw hb5).size).weak (S' := fun b => b < w.heap.size) fun _ h _ => h.1
      clear hnw hb5 hb9 BR r0 CPW CP CC hnx
      obtain ⟨css9, o9, t9⟩ := own9
      obtain ⟨g9, c9, rfl, hg91, hg92, hc9⟩ := own_block8 o9 (by omega) (by decide)
      have HO9 := hide o9; have HT9 := hide t9
      obtain ⟨b1, o1, cs1, rfl, hb1, he1, _, hc1⟩ := evs_at (hrow.ext hn9) (ht.imp fun _ _ h => h.ext hn9) k0 hk0
      rw [← HX.out] at he1
      have HC1 := hide hc1
      have HL1 := hide he1.length
      have CW1 := Whole_any (HE.out.ext hn9) HPE.out
      have HW2 := hide (fun (W : World) (h : Below w9.heap.size w9 W) => Whole_any (he1.ext h) HPX.out)
      have hg99 := hg91
      clear o9 t9 he1 hc1 ht hrow hg91
      obtain ⟨a1, ha1⟩ : ∃ y, y = wholeB e := ⟨_, rfl⟩
      obtain ⟨a2, ha2⟩ : ∃ y, y = wholeB x0 := ⟨_, rfl⟩
      rw [← ha1] at CW1 HF
      rw [← ha2] at HW2 HF
      clear ha1 ha2
      cases a1 with
      | false =>
        go_wp2_with (first
          | refine wpList_loadS rfl (.tmp 3) rfl strcE ⟨g3, 0, none⟩ rfl cs HL.out (box_all B9.out) ?_
          | (go_at_call 36; (with_reducible refine CW1.mono ?_); rintro x w10 ⟨rfl, hb10⟩))
        go_ret2
        exact ⟨_, by rw [put_on HON.out]; rfl, by rw [HF.out]; exact (OwnE.below ⟨css9, HO9.out, HT9.out⟩ hb10).any, ext_trans hn9 hb10⟩
      | true =>
        cases a2 with
        | true =>
          go_wp2_with (first
            | refine wpList_loadS rfl (.tmp 3) rfl strcE ⟨g3, 0, none⟩ rfl cs HL.out (box_all B9.out) ?_
            | refine wpList_loadS rfl (.tmp 42) rfl strcE ⟨b1, o1 + k0 * 29, none⟩ rfl cs1 HL1.out (cells_range (range_below HC1.out hb10)) ?_
            | (go_at_call 36; first
              | ((with_reducible refine CW1.mono ?_); rintro x w10 ⟨rfl, hb10⟩)
              | ((with_reducible refine (HW2.out _ hb10).mono ?_); rintro x w11 ⟨rfl, hb11⟩)))
          have hb12 := ext_trans hb10 hb11
          go_ret2
          exact ⟨_, by rw [put_on HON.out]; rfl, by rw [HF.out]; exact (OwnE.below ⟨css9, HO9.out, HT9.out⟩ hb12).any, ext_trans hn9 hb12⟩
        | false =>
          go_upto_region 13 with (first
            | refine wpList_loadS rfl (.tmp 3) rfl strcE ⟨g3, 0, none⟩ rfl cs HL.out (box_all B9.out) ?_
            | refine wpList_loadS rfl (.tmp 42) rfl strcE ⟨b1, o1 + k0 * 29, none⟩ rfl cs1 HL1.out (cells_range (range_below HC1.out hb10)) ?_
            | (go_at_call 36; first
              | ((with_reducible refine CW1.mono ?_); rintro x w10 ⟨rfl, hb10⟩)
              | ((with_reducible refine (HW2.out _ hb10).mono ?_); rintro x w11 ⟨rfl, hb11⟩)))
          have hb12 := ext_trans hb10 hb11
          have hn12 := ext_trans hn9 hb12
          have B12 := hide (box_below B9.out hb12)
          have O12 := hide (own_below HO9.out hb12)
          have T12 := hide (HT9.out.imp fun _ _ h => h.ext hb12)
          have E12 := hide (HE.out.ext hn12)
          clear hb10 hb11 hb12 HW2 B9 HC1
          go_wp2_with (first
            | refine wpList_loadS rfl (.tmp 3) rfl strcE ⟨g3, 0, none⟩ rfl cs HL.out (box_all B12.out) ?_
            | refine wpList_storeS rfl (.tmp 50) (.tmp 49) rfl rfl strcE O12.out k0 hk0 ⟨g9, k0 * 29, none⟩ (by rw [Addr.add_mid, Nat.zero_add]) rfl cs rfl HL.out HO.out ?_)
          intro w13 o13 hg13
          rw [flat_patch8 k0 cs (told_size T12.out) (by rw [T12.out.length]; exact hk0) HL.out] at o13
          have t13 : Told (EvR w13 (fun b => b < w.heap.size)) (css9.set k0 cs) (l.set k0 e) := (Told.set k0 T12.out E12.out).imp fun _ _ h => h.grown hg13 (fun b hb e => by injection e with e; omega)
          have hn13 := hn12.grown hg13 hn12.size (fun q hq => by injection hq with hq; omega)
          have O13 := hide o13; have T13 := hide t13
          clear o13 t13 hg13 O12 T12 E12
          go_wp2_with fail
          go_ret2
          refine ⟨_, by rw [put_on HON.out]; rfl, ?_, hn13⟩
          rw [HF.out, if_pos (by simp)]
          exact OwnE.any (base := w.heap.size) ⟨_, by rw [List.length_set]; exact O13.out, T13.out⟩
    | false =>
      have hpi : placeI l e.id = -1 := by unfold placeI; rw [hh]; rfl
      have HF := hide (put_new HON.out hh)
      rw [hpi] at CPW
      go_wp2_with (first
        | (go_at_call 34; refine CPW.mono ?_; rintro x w5 ⟨rfl, hb5⟩)
        | (go_at_call 35; refine (CC.out _ (ext_trans hnw hb5)).mono ?_; rintro x w9 ⟨v9, rfl, own9, hb9⟩))
      have hn9 := ext_trans (ext_trans hnw hb5) hb9
      have B9 := hide (box_below (box_below BR hb5) hb9)
      have HOW := hide ((own9.more (ext_trans hnw hb5).size).weak (S' := fun b => b < w.heap.size) fun _ h _ => h.1)
      have HLT : Hid (∀ g, v9.ownBlock = some g → g < w9.heap.size) := by
        obtain ⟨css9, o9, _⟩ := own9
        exact fun g h => (o9.lt g h).2
      clear hnw hb5 hb9 BR r0 CPW CP CC own9 hnx hl2 hpi hh
      go_loopw [8] (fun i wr => ∃ k : Nat, k ≤ l.length ∧ i = .int .i64 (k : Int) ∧ Hid (∀ x ∈ l.take k, x.id < e.id) ∧ Below w9.heap.size w9 wr) (fun i _ => l.length - (intOf i).toNat)
      case atStart => exact ⟨0, Nat.zero_le _, rfl, by simp [Hid], ext_refl _⟩
      case round =>
      obtain ⟨k, hk, rfl, HT, hnx⟩ := hrel
      have hn := ext_trans hn9 hnx
      by_cases hlt : k < l.length
      · obtain ⟨b1, o1, cs1, rfl, hb1, he1, _, hc1⟩ := evs_at (hrow.ext hn) (ht.imp fun _ _ h => h.ext hn) k hlt
        have z1 := hc1 0 _ he1.gets.1
        simp only [Nat.add_zero] at z1
        have z3 := box_at (box_below B9.out hnx) q0
        have hlti : decide ((k : Int) < (l.length : Int)) = true := decide_eq_true (by omega)
        have HY := hide (fun h : l[k].id < e.id => lt_step HT.out hlt h)
        have HN := hide (fun h : ¬ l[k].id < e.id => beforeN_eq hk HT.out (fun _ => h))
        obtain ⟨x, hx⟩ : ∃ x, x = l[k].id := ⟨_, rfl⟩
        rw [← hx] at z1 HY HN
        clear hc1 he1 hx
        by_cases hq : x < e.id
        · have t1 : decide (x < e.id) = true := decide_eq_true hq
          have HS := hide (HY.out hq)
          clear hq HY HN
          go_wp2_with fail
          go_quiet (fail)
          have hnq := ext_trans hnx (below_drewN (ext_refl wr) nq)
          go_wp2_with fail
          go_roundw
          case rel => exact ⟨k + 1, by omega, by go_num, HS.out, hnq⟩
          case measure => (simp [intOf]; try omega)
        · have t1 : decide (x < e.id) = false := decide_eq_false hq
          have HBN := hide (HN.out hq)
          clear hq HY HN
          go_wp2_with fail
          go_quiet (fail)
          have hq := below_drewN (ext_refl wr) nq
          have hn10 := ext_trans (ext_trans hn9 hnx) hq
          have hx9 := ext_trans hnx hq
          have B10 := hide (box_below (box_below B9.out hnx) hq)
          have k11 := ext_alloc (ext_refl (wr.drewN nq)) (.cells cs.toArray 35)
          have O11 := OwnE.below HOW.out (ext_trans hx9 k11)
          have E11 := HE.out.ext (ext_trans hn10 k11)
          have BV := heap_alloc_new (wr.drewN nq) (.cells cs.toArray 35)
          have hsz := (ext_trans hn10 k11).size
          have CI := SInsert_any (k := k) O11 E11 hsz hk (by omega) BV (fun g h e => by
            have := HLT.out g h
            have := hx9.size
            omega)
          have hn11 := (ext_trans hn10 k11)
          clear O11 E11 BV hsz hq hnx hx9 k11 hn10 HOW
          go_wp2_with (first
            | refine wpList_loadS rfl (.tmp 3) rfl strcE ⟨g3, 0, none⟩ rfl cs HL.out (box_all B10.out) ?_
            | refine wpList_buildS (te := 0) rfl (.tmp 70) rfl Tryz.underlying22 strcE (by decide) (by decide) cs.toArray rfl (by simpa using HL.out) ?_
            | (go_at_call 37; refine CI.mono ?_; rintro x w14 ⟨v14, rfl, o14, hb14⟩))
          go_ret2
          exact ⟨v14, by rw [put_on HON.out]; rfl, by rw [HF.out, HBN.out]; exact o14.any, hn11.trans hb14⟩
      · obtain rfl : k = l.length := by omega
        have HBN := hide (beforeN_eq hk HT.out (fun h => absurd h hlt))
        have z3 := box_at (box_below B9.out hnx) q0
        have hlti : decide ((l.length : Int) < (l.length : Int)) = false := decide_eq_false (by omega)
        clear HT
        go_wp2_with fail
        go_quiet (fail)
        have hq := below_drewN (ext_refl wr) nq
        have hn10 := ext_trans (ext_trans hn9 hnx) hq
        have hx9 := ext_trans hnx hq
        have B10 := hide (box_below (box_below B9.out hnx) hq)
        have k11 := ext_alloc (ext_refl (wr.drewN nq)) (.cells cs.toArray 35)
        have O11 := OwnE.below HOW.out (ext_trans hx9 k11)
        have E11 := HE.out.ext (ext_trans hn10 k11)
        have BV := heap_alloc_new (wr.drewN nq) (.cells cs.toArray 35)
        have hsz := (ext_trans hn10 k11).size
        have CI := SInsert_any (k := l.length) O11 E11 hsz (Nat.le_refl _) (by omega) BV (fun g h e => by
          have := HLT.out g h
          have := hx9.size
          omega)
        have hn11 := (ext_trans hn10 k11)
        clear O11 E11 BV hsz hq hnx hx9 k11 hn10 HOW
        go_wp2_with (first
          | refine wpList_loadS rfl (.tmp 3) rfl strcE ⟨g3, 0, none⟩ rfl cs HL.out (box_all B10.out) ?_
          | refine wpList_buildS (te := 0) rfl (.tmp 70) rfl Tryz.underlying22 strcE (by decide) (by decide) cs.toArray rfl (by simpa using HL.out) ?_
          | (go_at_call 37; refine CI.mono ?_; rintro x w14 ⟨v14, rfl, o14, hb14⟩))
        go_ret2
        exact ⟨v14, by rw [put_on HON.out]; rfl, by rw [HF.out, HBN.out]; exact o14.any, hn11.trans hb14⟩
end

section
open Go.RowKit
attribute [local go_sem] Addr.add_mid
theorem not_id {l : List Ev} {id : Int} (h : hasId l id = false) {k : Nat} (hk : k < l.length) : l[k].id ≠ id := fun e => by
  have : hasId l id = true := hasId_mem.2 ⟨l[k], List.getElem_mem hk, e⟩
  rw [h] at this; cases this
set_option maxRecDepth 100000 in
set_option maxHeartbeats 4000000 in
theorem R8Put_any {v : Value} {l : List Ev} {cs : List Value} {e : Ev} {w : World} (hr : EvsR w Any v l) (he : EvR w Any cs e) (hl : l.length < 2000) (hP : ∀ x ∈ l, x.con.puts) (hp : e.con.puts) :
    Calls Tryz.prog 25 #[v, .agg cs.toArray] w (PutV l e w) := by
  have hr0 := hr.weak (S' := fun b => b < w.heap.size) fun _ _ h => h
  have he0 := he.weak (S' := fun b => b < w.heap.size) fun _ _ h => h
  have CP := hide (fun (W : World) (h : Below w.heap.size w W) => R8place_any (id := e.id) (hr0.ext h) (show l.length ≤ 1000000 by omega))
  obtain ⟨A, c, css, rfl, h1, h2, h3, hrow, ht⟩ := hr0.form
  have HE := hide he0
  have HL := hide he.length; have HO := hide he.one
  have HP := hide hP; have HPE := hide hp
  have HTL := hide (told_len ht); have HTO := hide (told_one ht)
  have hb0 := ext_alloc (ext_refl w) (.cells cs.toArray 35)
  have BX := heap_alloc_new w (.cells cs.toArray 35)
  have hz0 : (w.alloc (.cells cs.toArray 35)).heap.size = w.heap.size + 1 := by simp
  have q0 := he.gets.1
  have q1 := he.gets.2.1
  clear hr hr0 he he0 hP hp
  go_enter Tryz.func25, Tryz.ntmps25
  go_wp2_with fail
  generalize w.alloc (.cells cs.toArray 35) = W0 at hb0 BX hz0 ⊢
  have HZ0 := hide hz0
  obtain ⟨g3, hg3⟩ : ∃ g, g = w.heap.size := ⟨_, rfl⟩
  rw [← hg3] at BX ⊢
  have HG3 := hide hg3
  clear hg3 hz0
  go_loopw [6] (fun i wr => ∃ k : Nat, k ≤ l.length ∧ i = .int .i64 (k : Int) ∧ Hid (∀ x ∈ l.take k, x.room = e.room) ∧ Below W0.heap.size W0 wr) (fun i _ => l.length - (intOf i).toNat)
  case atStart => exact ⟨0, Nat.zero_le _, rfl, by simp [Hid], ext_refl _⟩
  case round =>
  obtain ⟨k, hk, rfl, HT, hnx⟩ := hrel
  have hnw := ext_trans hb0 hnx
  have BR := box_below BX hnx
  by_cases hlt : k < l.length
  · obtain ⟨b1, o1, cs1, rfl, hb1, he1, _, hc1⟩ := evs_at (hrow.ext hnw) (ht.imp fun _ _ h => h.ext hnw) k hlt
    have z1 := hc1 1 _ he1.gets.2.1
    have z3 := box_at BR q1
    have HY := hide (fun h : l[k].room = e.room => on_step HT.out hlt h)
    have HN := hide (fun h : l[k].room ≠ e.room => put_off (offB_at hlt h))
    obtain ⟨x, hx⟩ : ∃ x, x = l[k].room := ⟨_, rfl⟩
    rw [← hx] at z1 HY HN
    clear hc1 he1 hx
    by_cases hq : x = e.room
    · have t1 : (x.toList == e.room.toList) = true := str_yes hq
      have HS := hide (HY.out hq)
      clear hq HY HN
      go_wp2_with fail
      go_quiet (fail)
      have hnq := ext_trans hnx (below_drewN (ext_refl wr) nq)
      go_wp2_with fail
      go_roundw
      case rel => exact ⟨k + 1, by omega, by go_num, HS.out, hnq⟩
      case measure => (simp [intOf]; try omega)
    · have t1 : (x.toList == e.room.toList) = false := str_ne hq
      have HF := hide (HN.out hq)
      clear hq HY HN
      go_wp2_with fail
      go_quiet (fail)
      have hnq := ext_trans hnw (below_drewN (ext_refl wr) nq)
      go_wp2_with fail
      go_ret2
      exact ⟨.slice none 0 0, by rw [HF.out.1]; rfl, by rw [HF.out.2]; exact EvsR.nil _ _, hnq⟩
  · obtain rfl : k = l.length := by omega
    have HON := hide (offB_none (show ∀ x ∈ l, x.room = e.room by have := HT.out; rwa [List.take_length] at this))
    have hl2 : decide ((2000 : Int) ≤ (l.length : Int)) = false := decide_eq_false (by omega)
    have hx1 : Below wr.heap.size wr (wr.alloc (.cells #[] 35)) := ext_alloc (ext_refl _) _
    have own1 : (wr.alloc (.cells #[] 35)).ownsRow W0.heap.size 35 29 (.slice (some ⟨wr.heap.size, 0, none⟩) 0 0) 0 [] := own_more (own_empty wr _ _) hnx.size
    have hrow1 := (hrow.ext hnw).ext hx1
    have hnx1 := ext_trans hnx hx1
    clear HT
    go_upto_region 7 with (first
      | refine wpList_build0 rfl rfl Tryz.underlying22 strcE (by decide) (by decide) ?_
      | (at_builtin; go_must (refine wpList_append_row rfl (.tmp 25) (.tmp 26) rfl elemE W0.heap.size _ 0 [] rfl own1 _ l.length c A css.flatten HTL.out rfl hrow1 h3 HTO.out (by unfold maxLen; omega) (by omega) hnx1.size ?_)))
    intro v7 w7 hown7 hg7
    have hnx7 := below_of_own hnx1 own1 hg7 hnx1.size (Nat.le_refl _)
    have hn7 := ext_trans hb0 hnx7
    have HO7 : Hid (w7.ownsRow W0.heap.size 35 29 v7 l.length css.flatten) := by have := hown7; simpa [Hid] using this
    have B7 := hide (box_below BX hnx7)
    have r0 := box_at B7.out q0
    have CPW := CP.out _ hn7
    have HT7 := hide (ht.imp fun _ _ h => h.ext hn7)
    clear hown7 hg7 own1 hrow1 hx1 hnx1 hnw BR hnx
    cases hh : hasId l e.id with
    | true =>
      have hk0 := placeN_lt hh
      have hpi : placeI l e.id = ((placeN l e.id : Nat) : Int) := by unfold placeI; rw [if_pos hh]
      obtain ⟨x0, hx0⟩ : ∃ x, x = l[placeN l e.id] := ⟨_, rfl⟩
      have HF := hide (show putE l e = if wholeB e = true ∧ wholeB x0 = false then l.set (placeN l e.id) e else l by rw [hx0]; exact put_hit HON.out hk0)
      have HPX : Hid x0.con.puts := by rw [hx0]; exact HP.out _ (List.getElem_mem hk0)
      rw [hpi] at CPW
      have hneg : ¬ (((placeN l e.id : Nat) : Int) < 0) := by omega
      clear hpi hh hl2
      obtain ⟨k0, hkk⟩ : ∃ k, k = placeN l e.id := ⟨_, rfl⟩
      rw [← hkk] at hk0 CPW hneg HF
      have HX : Hid (x0 = l[k0]) := by subst hkk; exact hx0
      clear hx0 hkk
      obtain ⟨g9, c9, rfl, hg91, hg92, hc9⟩ := own_block8 HO7.out (by omega) (by decide)
      obtain ⟨b1, o1, cs1, rfl, hb1, he1, _, hc1⟩ := evs_at (hrow.ext hn7) HT7.out k0 hk0
      rw [← HX.out] at he1
      have HC1 := hide hc1
      have HL1 := hide he1.length
      have CW1 := R7Whole_any (HE.out.ext hn7) HPE.out
      have HW2 := hide (fun (W : World) (h : Below w7.heap.size w7 W) => R7Whole_any (he1.ext h) HPX.out)
      clear he1 hc1 ht hrow
      obtain ⟨a1, ha1⟩ : ∃ y, y = wholeB e := ⟨_, rfl⟩
      obtain ⟨a2, ha2⟩ : ∃ y, y = wholeB x0 := ⟨_, rfl⟩
      rw [← ha1] at CW1 HF
      rw [← ha2] at HW2 HF
      clear ha1 ha2
      cases a1 with
      | false =>
        go_wp2_with (first
          | (go_at_call 40; refine CPW.mono ?_; rintro x w5 ⟨rfl, hw5⟩; rw [hw5]; clear hw5 w5)
          | refine wpList_loadS rfl (.tmp 3) rfl strcE ⟨g3, 0, none⟩ rfl cs HL.out (box_all B7.out) ?_
          | (go_at_call 45; (with_reducible refine CW1.mono ?_); rintro x w10 ⟨rfl, hb10⟩))
        go_ret2
        exact ⟨_, by rw [put_on HON.out]; rfl, by rw [HF.out]; exact (OwnE.below ⟨css, HO7.out, HT7.out⟩ hb10).any, ext_trans hn7 hb10⟩
      | true =>
        cases a2 with
        | true =>
          go_wp2_with (first
            | (go_at_call 40; refine CPW.mono ?_; rintro x w5 ⟨rfl, hw5⟩; rw [hw5]; clear hw5 w5)
            | refine wpList_loadS rfl (.tmp 3) rfl strcE ⟨g3, 0, none⟩ rfl cs HL.out (box_all B7.out) ?_
            | refine wpList_loadS rfl (.tmp 39) rfl strcE ⟨b1, o1 + k0 * 29, none⟩ rfl cs1 HL1.out (cells_range (range_below HC1.out hb10)) ?_
            | (go_at_call 45; first
              | ((with_reducible refine CW1.mono ?_); rintro x w10 ⟨rfl, hb10⟩)
              | ((with_reducible refine (HW2.out _ hb10).mono ?_); rintro x w11 ⟨rfl, hb11⟩)))
          have hb12 := ext_trans hb10 hb11
          go_ret2
          exact ⟨_, by rw [put_on HON.out]; rfl, by rw [HF.out]; exact (OwnE.below ⟨css, HO7.out, HT7.out⟩ hb12).any, ext_trans hn7 hb12⟩
        | false =>
          go_upto_region 10 with (first
            | (go_at_call 40; refine CPW.mono ?_; rintro x w5 ⟨rfl, hw5⟩; rw [hw5]; clear hw5 w5)
            | refine wpList_loadS rfl (.tmp 3) rfl strcE ⟨g3, 0, none⟩ rfl cs HL.out (box_all B7.out) ?_
            | refine wpList_loadS rfl (.tmp 39) rfl strcE ⟨b1, o1 + k0 * 29, none⟩ rfl cs1 HL1.out (cells_range (range_below HC1.out hb10)) ?_
            | (go_at_call 45; first
              | ((with_reducible refine CW1.mono ?_); rintro x w10 ⟨rfl, hb10⟩)
              | ((with_reducible refine (HW2.out _ hb10).mono ?_); rintro x w11 ⟨rfl, hb11⟩)))
          have hb12 := ext_trans hb10 hb11
          have hn12 := ext_trans hn7 hb12
          have B12 := hide (box_below B7.out hb12)
          have O12 := hide (own_below HO7.out hb12)
          have T12 := hide (HT7.out.imp fun _ _ h => h.ext hb12)
          have E12 := hide (HE.out.ext hn12)
          clear hb10 hb11 hb12 HW2 B7 HC1
          go_wp2_with (first
            | refine wpList_loadS rfl (.tmp 3) rfl strcE ⟨g3, 0, none⟩ rfl cs HL.out (box_all B12.out) ?_
            | refine wpList_storeS rfl (.tmp 47) (.tmp 46) rfl rfl strcE O12.out k0 hk0 ⟨g9, k0 * 29, none⟩ (by rw [Addr.add_mid, Nat.zero_add]) rfl cs rfl HL.out HO.out ?_)
          intro w13 o13 hg13
          rw [flat_patch8 k0 cs (told_size T12.out) (by rw [T12.out.length]; exact hk0) HL.out] at o13
          have hbw := hb0.size
          have t13 : Told (EvR w13 (fun b => b < w.heap.size)) (css.set k0 cs) (l.set k0 e) := (Told.set k0 T12.out E12.out).imp fun _ _ h => h.grown hg13 (fun b hb e => by injection e with e; omega)
          have hn13 := hn12.grown hg13 hn12.size (fun q hq => by injection hq with hq; omega)
          have O13 := hide o13; have T13 := hide t13
          clear o13 t13 hg13 O12 T12 E12
          go_wp2_with fail
          go_ret2
          refine ⟨_, by rw [put_on HON.out]; rfl, ?_, hn13⟩
          rw [HF.out, if_pos (by simp)]
          exact OwnE.any (base := W0.heap.size) ⟨_, by rw [List.length_set]; exact O13.out, T13.out⟩
    | false =>
      have hpi : placeI l e.id = -1 := by unfold placeI; rw [hh]; rfl
      have HF := hide (put_new HON.out hh)
      have HNI := hide hh
      rw [hpi] at CPW
      clear hpi hh
      go_wp2_with (go_at_call 40; refine CPW.mono ?_; rintro x w5 ⟨rfl, hw5⟩; rw [hw5]; clear hw5 w5)
      clear hl2 CPW r0 CP
      go_loopw [9] (fun i wr => ∃ k : Nat, k ≤ l.length ∧ i = .int .i64 (k : Int) ∧ Hid (∀ x ∈ l.take k, x.id < e.id) ∧ Below w7.heap.size w7 wr) (fun i _ => l.length - (intOf i).toNat)
      case atStart => exact ⟨0, Nat.zero_le _, rfl, by simp [Hid], ext_refl _⟩
      case round =>
      obtain ⟨k, hk, rfl, HT, hnx⟩ := hrel
      have hn := ext_trans hn7 hnx
      have z3 := box_at (box_below B7.out hnx) q0
      by_cases hlt : k < l.length
      · obtain ⟨b1, o1, cs1, rfl, hb1, he1, _, hc1⟩ := evs_at (hrow.ext hn) (ht.imp fun _ _ h => h.ext hn) k hlt
        have z1 := hc1 0 _ he1.gets.1
        simp only [Nat.add_zero] at z1
        have hlti : decide ((k : Int) < (l.length : Int)) = true := decide_eq_true (by omega)
        have HY := hide (fun h : l[k].id < e.id => lt_step HT.out hlt h)
        have HN := hide (fun h : ¬ l[k].id < e.id => beforeN_eq hk HT.out (fun _ => h))
        have hne := not_id HNI.out hlt
        obtain ⟨x, hx⟩ : ∃ x, x = l[k].id := ⟨_, rfl⟩
        rw [← hx] at z1 HY HN hne
        clear hc1 he1 hx
        by_cases hq : x < e.id
        · have t1 : decide (x ≤ e.id) = true := decide_eq_true (by omega)
          have HS := hide (HY.out hq)
          clear hq HY HN hne
          go_wp2_with fail
          go_quiet (fail)
          have hnq := ext_trans hnx (below_drewN (ext_refl wr) nq)
          go_wp2_with fail
          go_roundw
          case rel => exact ⟨k + 1, by omega, by go_num, HS.out, hnq⟩
          case measure => (simp [intOf]; try omega)
        · have t1 : decide (x ≤ e.id) = false := decide_eq_false (by omega)
          have HBN := hide (HN.out hq)
          clear hq HY HN hne
          go_wp2_with fail
          go_quiet (fail)
          have hq := below_drewN (ext_refl wr) nq
          have hx9 := ext_trans hnx hq
          have hn10 := ext_trans hn7 hx9
          have B10 := hide (box_below B7.out hx9)
          have O10 := own_below HO7.out hx9
          have T10 := hide (HT7.out.imp fun _ _ h => h.ext hx9)
          have hz10 : W0.heap.size ≤ (wr.drewN nq).heap.size := Nat.le_trans hnx7.size hx9.size
          have HNX := hide (ext_trans hnx7 hx9)
          have E10 := hide (HE.out.ext hn10)
          have HKB : Hid (k = beforeN l e.id) := HBN.out.symm
          clear hq hx9 hnx hn z3 hlti hn7 B7 HO7 HT7 hnx7 HNI hrow ht
          generalize wr.drewN nq = w10 at B10 O10 T10 hz10 HNX E10 hn10 ⊢
          obtain ⟨A7, c7, rfl, _⟩ := own_form O10
          go_upto_region 18 with (first
            | refine wpList_loadS rfl (.tmp 3) rfl strcE ⟨g3, 0, none⟩ rfl cs HL.out (box_all B10.out) ?_
            | refine wpList_buildS (te := 0) rfl (.tmp 69) rfl Tryz.underlying22 strcE (by decide) (by decide) cs.toArray rfl (by simpa using HL.out) ?_
            | (at_builtin; go_must (refine wpList_append_new rfl (.tmp 68) (.tmp 70) rfl elemE W0.heap.size _ l.length css.flatten rfl O10 1 cs.toArray (by simpa using HL.out) rfl (by simpa using HO.out) (by decide) (by unfold maxLen; omega) (by omega) hz10 ?_)))
          intro v11 w11 o11 hg11
          have hlt11 := fun g h => (O10.lt g h).1
          have hn11 := below_of_own hn10 O10 hg11 hn10.size hb0.size
          have hnx11 := below_of_own HNX.out O10 hg11 hz10 (Nat.le_refl _)
          obtain ⟨g5, c5, rfl, hg51, hg52, hc5⟩ := own_block8 o11 (by omega) (by decide)
          have HO11 : Hid (∃ css5 : List (List Value), w11.ownsRow W0.heap.size 35 29 (.slice (some ⟨g5, 0, none⟩) (l.length + 1) c5) (l.length + 1) css5.flatten ∧ Told (EvR w11 (fun b => b < w.heap.size)) css5 (l.take l.length ++ e :: l.drop l.length)) := by
            refine ⟨css ++ [cs], ?_, ?_⟩
            · have := o11; simpa using this
            · rw [List.take_length, List.drop_length]
              have hgr : ∀ b, b < w.heap.size → (Value.slice A7 l.length c7).ownBlock ≠ some b := fun b hb e => by have := hlt11 b e; have := HZ0.out; omega
              exact ((T10.out.imp fun _ _ h => h.grown hg11 hgr).append (Told.one (E10.out.grown hg11 hgr)))
          have HG5 := hide (show w.heap.size < g5 by have := HZ0.out; omega)
          clear o11 hg11 hlt11 O10 T10 B10 HNX E10 hg51 hg52 hn10 hz10
          go_wp2_with fail
          go_loopw [10] (fun i wr => ∃ (j : Nat) (y : Ev) (css5 : List (List Value)), k ≤ j ∧ j ≤ l.length ∧ i = .int .i64 (j : Int) ∧ wr.ownsRow W0.heap.size 35 29 (.slice (some ⟨g5, 0, none⟩) (l.length + 1) c5) (l.length + 1) css5.flatten ∧ Told (EvR wr (fun b => b < w.heap.size)) css5 (l.take j ++ y :: l.drop j) ∧ Below w.heap.size w wr ∧ Below W0.heap.size W0 wr) (fun i _ => (intOf i).toNat)
          case atStart =>
            obtain ⟨css5, o5, t5⟩ := HO11.out
            exact ⟨l.length, e, css5, hk, Nat.le_refl _, by go_num, o5, t5, hn11, hnx11⟩
          case round =>
          clear HO11 hn11 hnx11
          obtain ⟨j, y, css5, hkj, hj, rfl, o5, t5, hn5, hnx5⟩ := hrel
          by_cases hjk : k < j
          · obtain ⟨j', rfl⟩ : ∃ j', j = j' + 1 := ⟨j - 1, by omega⟩
            have hS : (l.take (j' + 1) ++ y :: l.drop (j' + 1)).length = l.length + 1 := by simp; omega
            obtain ⟨b5, o6, cs6, hA5, _, he6, _, hc6⟩ := evs_at (Row.own o5) t5 j' (by omega)
            injection hA5 with hA5
            injection hA5 with hA5 hA6
            subst hA5 hA6
            have g1 := get_shift (y := y) (show 0 < j' + 1 by omega) hj
            simp only [Nat.add_sub_cancel] at g1
            have g2 : (l.take (j' + 1) ++ y :: l.drop (j' + 1))[j']'(by omega) = l[j']'(by omega) := by
              have := List.getElem?_eq_getElem (l := l.take (j' + 1) ++ y :: l.drop (j' + 1)) (i := j') (by omega)
              rw [g1] at this
              exact (Option.some.inj this).symm
            rw [g2] at he6
            have HS := hide (set_shift (y := y) (show 0 < j' + 1 by omega) hj)
            simp only [Nat.add_sub_cancel] at HS
            obtain ⟨z, hz⟩ : ∃ z, z = l[j']'(by omega) := ⟨_, rfl⟩
            rw [← hz] at he6 HS
            have hc7 : wr.rangeAt g5 (j' * 29) cs6 := by have := hc6; simp only [Nat.zero_add] at this; exact this
            have HC6 := hide hc7
            have HL6 := hide he6.length; have HO6 := hide he6.one
            have H5 := hide o5; have T5 := hide t5; have E6 := hide he6
            have HSL := hide hS
            have hlt2 : ((j' : Int) + 1) < (l.length : Int) + 1 := by omega
            clear o5 t5 he6 hc6 hc7 g1 g2 hz hS
            go_wp2_with (first
              | refine wpList_loadS rfl (.tmp 85) rfl strcE ⟨g5, j' * 29, none⟩ rfl cs6 HL6.out (cells_range HC6.out) ?_
              | refine wpList_storeS rfl (.tmp 87) (.tmp 86) rfl rfl strcE H5.out (j' + 1) (by omega) ⟨g5, (j' + 1) * 29, none⟩ (by rw [Addr.add_mid, Nat.zero_add]) rfl cs6 rfl HL6.out HO6.out ?_)
            intro w12 o12 hg12
            rw [flat_patch8 (j' + 1) cs6 (told_size T5.out) (by rw [T5.out.length, HSL.out]; omega) HL6.out] at o12
            have t12 : Told (EvR w12 (fun b => b < w.heap.size)) (css5.set (j' + 1) cs6) (l.take j' ++ z :: l.drop j') := by
              have := (Told.set (j' + 1) T5.out E6.out).imp fun _ _ h => EvR.grown h hg12 (fun b hb e => by injection e with e; have := HG5.out; omega)
              rwa [HS.out] at this
            have hn12 := hn5.grown hg12 hn5.size (fun q hq => by injection hq with hq; have := HG5.out; omega)
            have hnx12 := hnx5.grown hg12 hnx5.size (fun q hq => by injection hq with hq; have := HG5.out; have := HZ0.out; omega)
            have H12 := hide o12; have T12 := hide t12
            clear o12 t12 hg12 H5 T5 E6 HC6
            go_wp2_with fail
            go_roundw
            case rel => exact ⟨j', z, _, by omega, by omega, by go_num, H12.out, T12.out, hn12, hnx12⟩
            case measure => (simp [intOf]; try omega)
          · obtain rfl : j = k := by omega
            have HS := hide (set_last (l := l) (y := y) (z := e) hj)
            have B5 := hide (box_below BX hnx5)
            have H5 := hide o5; have T5 := hide t5
            have E5 := hide (HE.out.ext hn5)
            clear o5 t5
            go_wp2_with (first
              | refine wpList_loadS rfl (.tmp 3) rfl strcE ⟨g3, 0, none⟩ rfl cs HL.out (box_all B5.out) ?_
              | refine wpList_storeS rfl (.tmp 91) (.tmp 90) rfl rfl strcE H5.out j (by omega) ⟨g5, j * 29, none⟩ (by rw [Addr.add_mid, Nat.zero_add]) rfl cs rfl HL.out HO.out ?_)
            intro w12 o12 hg12
            rw [flat_patch8 j cs (told_size T5.out) (by rw [T5.out.length]; simp; omega) HL.out] at o12
            have t12 : Told (EvR w12 (fun b => b < w.heap.size)) (css5.set j cs) (l.take j ++ e :: l.drop j) := by
              have := (Told.set j T5.out E5.out).imp fun _ _ h => EvR.grown h hg12 (fun b hb e => by injection e with e; have := HG5.out; omega)
              rwa [HS.out] at this
            have hn12 := hn5.grown hg12 hn5.size (fun q hq => by injection hq with hq; have := HG5.out; omega)
            have H12 := hide o12; have T12 := hide t12
            clear o12 t12 hg12 H5 T5 E5
            go_wp2_with fail
            go_ret2
            refine ⟨_, by rw [put_on HON.out]; rfl, ?_, hn12⟩
            rw [HF.out, ← HKB.out]
            exact OwnE.any (base := W0.heap.size) ⟨_, by have := H12.out; rwa [show (l.take j ++ e :: l.drop j).length = l.length + 1 by simp; omega], T12.out⟩
      · obtain rfl : k = l.length := by omega
        have HBN := hide (beforeN_eq hk HT.out (fun h => absurd h hlt))
        have hlti : decide ((l.length : Int) < (l.length : Int)) = false := decide_eq_false (by omega)
        clear HT
        go_wp2_with fail
        go_quiet (fail)
        have hq := below_drewN (ext_refl wr) nq
        have hx9 := ext_trans hnx hq
        have hn10 := ext_trans hn7 hx9
        have B10 := hide (box_below B7.out hx9)
        have O10 := own_below HO7.out hx9
        have T10 := hide (HT7.out.imp fun _ _ h => h.ext hx9)
        have hz10 : W0.heap.size ≤ (wr.drewN nq).heap.size := Nat.le_trans hnx7.size hx9.size
        have HNX := hide (ext_trans hnx7 hx9)
        have E10 := hide (HE.out.ext hn10)
        have HKB : Hid (l.length = beforeN l e.id) := HBN.out.symm
        clear hq hx9 hnx hn z3 hlti hn7 B7 HO7 HT7 hnx7 HNI hrow ht
        generalize wr.drewN nq = w10 at B10 O10 T10 hz10 HNX E10 hn10 ⊢
        obtain ⟨A7, c7, rfl, _⟩ := own_form O10
        go_upto_region 18 with (first
          | refine wpList_loadS rfl (.tmp 3) rfl strcE ⟨g3, 0, none⟩ rfl cs HL.out (box_all B10.out) ?_
          | refine wpList_buildS (te := 0) rfl (.tmp 69) rfl Tryz.underlying22 strcE (by decide) (by decide) cs.toArray rfl (by simpa using HL.out) ?_
          | (at_builtin; go_must (refine wpList_append_new rfl (.tmp 68) (.tmp 70) rfl elemE W0.heap.size _ l.length css.flatten rfl O10 1 cs.toArray (by simpa using HL.out) rfl (by simpa using HO.out) (by decide) (by unfold maxLen; omega) (by omega) hz10 ?_)))
        intro v11 w11 o11 hg11
        have hlt11 := fun g h => (O10.lt g h).1
        have hn11 := below_of_own hn10 O10 hg11 hn10.size hb0.size
        have hnx11 := below_of_own HNX.out O10 hg11 hz10 (Nat.le_refl _)
        obtain ⟨g5, c5, rfl, hg51, hg52, hc5⟩ := own_block8 o11 (by omega) (by decide)
        have HO11 : Hid (∃ css5 : List (List Value), w11.ownsRow W0.heap.size 35 29 (.slice (some ⟨g5, 0, none⟩) (l.length + 1) c5) (l.length + 1) css5.flatten ∧ Told (EvR w11 (fun b => b < w.heap.size)) css5 (l.take l.length ++ e :: l.drop l.length)) := by
          refine ⟨css ++ [cs], ?_, ?_⟩
          · have := o11; simpa using this
          · rw [List.take_length, List.drop_length]
            have hgr : ∀ b, b < w.heap.size → (Value.slice A7 l.length c7).ownBlock ≠ some b := fun b hb e => by have := hlt11 b e; have := HZ0.out; omega
            exact ((T10.out.imp fun _ _ h => h.grown hg11 hgr).append (Told.one (E10.out.grown hg11 hgr)))
        have HG5 := hide (show w.heap.size < g5 by have := HZ0.out; omega)
        clear o11 hg11 hlt11 O10 T10 B10 HNX E10 hg51 hg52 hn10 hz10
        go_wp2_with fail
        go_loopw [10] (fun i wr => ∃ (j : Nat) (y : Ev) (css5 : List (List Value)), l.length ≤ j ∧ j ≤ l.length ∧ i = .int .i64 (j : Int) ∧ wr.ownsRow W0.heap.size 35 29 (.slice (some ⟨g5, 0, none⟩) (l.length + 1) c5) (l.length + 1) css5.flatten ∧ Told (EvR wr (fun b => b < w.heap.size)) css5 (l.take j ++ y :: l.drop j) ∧ Below w.heap.size w wr ∧ Below W0.heap.size W0 wr) (fun i _ => (intOf i).toNat)
        case atStart =>
          obtain ⟨css5, o5, t5⟩ := HO11.out
          exact ⟨l.length, e, css5, Nat.le_refl _, Nat.le_refl _, by go_num, o5, t5, hn11, hnx11⟩
        case round =>
        clear HO11 hn11 hnx11
        obtain ⟨j, y, css5, hkj, hj, rfl, o5, t5, hn5, hnx5⟩ := hrel
        by_cases hjk : l.length < j
        · omega
        · obtain rfl : j = l.length := by omega
          have HS := hide (set_last (l := l) (y := y) (z := e) hj)
          have B5 := hide (box_below BX hnx5)
          have H5 := hide o5; have T5 := hide t5
          have E5 := hide (HE.out.ext hn5)
          clear o5 t5
          go_wp2_with (first
            | refine wpList_loadS rfl (.tmp 3) rfl strcE ⟨g3, 0, none⟩ rfl cs HL.out (box_all B5.out) ?_
            | refine wpList_storeS rfl (.tmp 91) (.tmp 90) rfl rfl strcE H5.out l.length (by omega) ⟨g5, l.length * 29, none⟩ (by rw [Addr.add_mid, Nat.zero_add]) rfl cs rfl HL.out HO.out ?_)
          intro w12 o12 hg12
          rw [flat_patch8 l.length cs (told_size T5.out) (by rw [T5.out.length]; simp) HL.out] at o12
          have t12 : Told (EvR w12 (fun b => b < w.heap.size)) (css5.set l.length cs) (l.take l.length ++ e :: l.drop l.length) := by
            have := (Told.set l.length T5.out E5.out).imp fun _ _ h => EvR.grown h hg12 (fun b hb e => by injection e with e; have := HG5.out; omega)
            rwa [HS.out] at this
          have hn12 := hn5.grown hg12 hn5.size (fun q hq => by injection hq with hq; have := HG5.out; omega)
          have H12 := hide o12; have T12 := hide t12
          clear o12 t12 hg12 H5 T5 E5
          go_wp2_with fail
          go_ret2
          refine ⟨_, by rw [put_on HON.out]; rfl, ?_, hn12⟩
          rw [HF.out, ← HKB.out]
          exact OwnE.any (base := W0.heap.size) ⟨_, by have := H12.out; rwa [show (l.take l.length ++ e :: l.drop l.length).length = l.length + 1 by simp], T12.out⟩
end
end Go.Proofs.YtmlnmcoophnlaaaGreat
