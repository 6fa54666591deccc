/-
  fedchatlaw07: changed. Small events, with room to grow.
-/
import Derived.Test.YtnfbmhkjmkdmjaaLives
import Derived.Test.YtnfbmhkjmkdmjaaEvP
import Derived.Test.YtnfbmhkjmkdmjaaW7P
import Derived.Test.YtnfbmhkjmkdmjaaPhaseB
import Derived.Test.YtnfbmhkjmkdmjaaElemT
set_option linter.unusedVariables false
set_option linter.unusedSimpArgs false
namespace Go.Proofs.Ytnfbmhkjmkdmjaa
open Go.RowKit
attribute [local go_sem] Addr.add_mid
structure Ev.tight (e : Ev) : Prop where
  good : e.good
  room : e.room.size ≤ 100
  key : e.key.size ≤ 100
  prev : e.prev.length ≤ 60
  auth : e.auth.length ≤ 60
set_option maxRecDepth 100000 in
set_option maxHeartbeats 20000000 in
theorem tight7_any {S : Nat → Prop} {cs : List Value} {e : Ev} {w : World} (hr : EvR w S cs e) (ho : e.ok) :
    Calls Try.prog 7 #[.agg cs.toArray] w (SaysT e.tight w) := by
  obtain ⟨_, s1, s2, _, _, s5, _, _, _, s27, _⟩ := hr.gets
  obtain ⟨A8, c8, A9, c9, s8, s9⟩ : ∃ A8 c8 A9 c9, cs[8]? = some (.slice A8 e.prev.length c8) ∧ cs[9]? = some (.slice A9 e.auth.length c9) := by
    obtain ⟨vp, vq, s8, s9, hvp, hvq⟩ := hr.lists
    obtain ⟨A8, c8, rfl, _⟩ := hvp.form
    obtain ⟨A9, c9, rfl, _⟩ := hvq.form
    exact ⟨A8, c8, A9, c9, s8, s9⟩
  have HLC := hide (show ((cs.drop 10).take 16).length = 16 by rw [List.length_take, List.length_drop, hr.length]; rfl)
  have B := heap_alloc_new w (.cells cs.toArray 34)
  have hb := ext_alloc (ext_refl w) (.cells cs.toArray 34)
  have CC := fun W (h : Below w.heap.size w W) => slight_any (hr.con.ext h)
  have HO := hide ho
  clear hr ho
  by_cases h1 : e.prev.length ≤ 60 ∧ e.auth.length ≤ 60 ∧ e.room.size ≤ 100 ∧ e.sender.size ≤ 100 ∧ e.key.size ≤ 100 ∧ e.server.size ≤ 100
  rotate_left
  · have h2 : (¬ (e.prev.length ≤ 60)) ∨ (e.prev.length ≤ 60 ∧ ((¬ e.auth.length ≤ 60) ∨ (e.auth.length ≤ 60 ∧ ((¬ (e.room.size : Int) ≤ 100) ∨ ((e.room.size : Int) ≤ 100 ∧ ((¬ (e.sender.size : Int) ≤ 100) ∨ ((e.sender.size : Int) ≤ 100 ∧ ((¬ (e.key.size : Int) ≤ 100) ∨ ((e.key.size : Int) ≤ 100 ∧ ¬ (e.server.size : Int) ≤ 100))))))))) := by omega
    clear h1
    have r1 := box_at B s1
    have r2 := box_at B s2
    have r5 := box_at B s5
    have r8 := box_at B s8
    have r9 := box_at B s9
    have r27 := box_at B s27
    clear B CC HO
    go_enter Try.func7, Try.ntmps7
    rcases h2 with h | ⟨h, h2 | ⟨h2, h3 | ⟨h3, h4 | ⟨h4, h5 | ⟨h5, h6⟩⟩⟩⟩⟩
    all_goals
      go_wp2_with fail
      go_ret
      exact ⟨false, rfl, (fun h => by cases h), hb⟩
  obtain ⟨h1, h2, h3, h4, h5, h6⟩ := h1
  have HT := hide (show e.room.size ≤ 100 ∧ e.sender.size ≤ 100 ∧ e.key.size ≤ 100 ∧ e.server.size ≤ 100 ∧ e.prev.length ≤ 60 ∧ e.auth.length ≤ 60 by omega)
  have d3 : (e.room.size : Int) ≤ 100 := by omega
  have d4 : (e.sender.size : Int) ≤ 100 := by omega
  have d5 : (e.key.size : Int) ≤ 100 := by omega
  have d6 : (e.server.size : Int) ≤ 100 := by omega
  clear h3 h4 h5 h6
  have r1 := box_at B s1
  have r2 := box_at B s2
  have r5 := box_at B s5
  have r8 := box_at B s8
  have r9 := box_at B s9
  have r27 := box_at B s27
  have HB := hide B
  clear B
  go_enter Try.func7, Try.ntmps7
  go_wp2_with (first
    | refine wpList_loadS rfl (.tmp 39) rfl strcC ⟨w.heap.size, 10, none⟩ rfl ((cs.drop 10).take 16) HLC.out (box_cells HB.out 10 16) ?_
    | (go_at_call 16; refine (CC _ hb).mono ?_; rintro x w3 ⟨b, rfl, hf, hb3⟩; have HF := hide hf; clear hf))
  go_ret
  exact ⟨b, rfl, fun h => ⟨⟨HO.out, by have := HT.out.1; omega, by have := HT.out.2.1; omega, by have := HT.out.2.2.1; omega, by have := HT.out.2.2.2.1; omega, by have := HT.out.2.2.2.2.1; omega, by have := HT.out.2.2.2.2.2; omega, HF.out h⟩, HT.out.1, HT.out.2.2.1, HT.out.2.2.2.2.1, HT.out.2.2.2.2.2⟩, ext_trans hb hb3⟩

theorem wrap_I64 (x : Int) : I64 (IntKind.i64.wrap x) := by
  have h : IntKind.i64.wrap x = if 9223372036854775808 ≤ x % 18446744073709551616 then x % 18446744073709551616 - 18446744073709551616 else x % 18446744073709551616 := by simp [IntKind.wrap, IntKind.bits, IntKind.signed]
  rw [h]; unfold I64; split <;> omega
theorem bits_I64 (op : BinOp) (x y : Int) : I64 (bits op .i64 x y) := wrap_I64 _
theorem strcCh : Strc Try.prog 41 #[.int .i64 0, .int .i64 0] 2 := ⟨⟨_, Try.underlying41, rfl⟩, by kernel_rfl, rfl⟩
theorem sizeIs : (Try.prog.info? 23).map (·.size) = some 1 := by kernel_rfl
section
variable {w : World} {S : Nat → Prop} {cs : List Value} {e : Ev}
theorem EvR.p6 (h : EvR w S cs e) (x : Int) : EvR w S (patch cs 6 [.int .i64 x]) { e with time := x } := by obtain ⟨vp, vq, va, vd, vu, vk, rfl, h1, h2, h3, h4, h5, h6⟩ := h; exact ⟨vp, vq, va, vd, vu, vk, rfl, h1, h2, h3, h4, h5, h6⟩
theorem EvR.p7 (h : EvR w S cs e) (x : Int) : EvR w S (patch cs 7 [.int .i64 x]) { e with depth := x } := by obtain ⟨vp, vq, va, vd, vu, vk, rfl, h1, h2, h3, h4, h5, h6⟩ := h; exact ⟨vp, vq, va, vd, vu, vk, rfl, h1, h2, h3, h4, h5, h6⟩
theorem EvR.p26 (h : EvR w S cs e) (x : Int) : EvR w S (patch cs 26 [.int .i64 x]) { e with hash := x } := by obtain ⟨vp, vq, va, vd, vu, vk, rfl, h1, h2, h3, h4, h5, h6⟩ := h; exact ⟨vp, vq, va, vd, vu, vk, rfl, h1, h2, h3, h4, h5, h6⟩
theorem EvR.p1 (h : EvR w S cs e) (x : ByteArray) : EvR w S (patch cs 1 [.string x]) { e with room := x } := by obtain ⟨vp, vq, va, vd, vu, vk, rfl, h1, h2, h3, h4, h5, h6⟩ := h; exact ⟨vp, vq, va, vd, vu, vk, rfl, h1, h2, h3, h4, h5, h6⟩
theorem EvR.p5 (h : EvR w S cs e) (x : ByteArray) : EvR w S (patch cs 5 [.string x]) { e with key := x } := by obtain ⟨vp, vq, va, vd, vu, vk, rfl, h1, h2, h3, h4, h5, h6⟩ := h; exact ⟨vp, vq, va, vd, vu, vk, rfl, h1, h2, h3, h4, h5, h6⟩
theorem EvR.p8 (h : EvR w S cs e) {v : Value} {l : List Int} (hv : Slc w S v 1 l.length (ivs l)) : EvR w S (patch cs 8 [v]) { e with prev := l } := by obtain ⟨vp, vq, va, vd, vu, vk, rfl, h1, h2, h3, h4, h5, h6⟩ := h; exact ⟨v, vq, va, vd, vu, vk, rfl, hv, h2, h3, h4, h5, h6⟩
theorem EvR.p9 (h : EvR w S cs e) {v : Value} {l : List Int} (hv : Slc w S v 1 l.length (ivs l)) : EvR w S (patch cs 9 [v]) { e with auth := l } := by obtain ⟨vp, vq, va, vd, vu, vk, rfl, h1, h2, h3, h4, h5, h6⟩ := h; exact ⟨vp, v, va, vd, vu, vk, rfl, h1, hv, h3, h4, h5, h6⟩
theorem EvR.c8 (h : EvR w S cs e) : ∃ A8 c8 A9 c9, cs[8]? = some (.slice A8 e.prev.length c8) ∧ cs[9]? = some (.slice A9 e.auth.length c9) ∧ Row w w.heap.size A8 (ivs e.prev) ∧ Row w w.heap.size A9 (ivs e.auth) ∧ (A8 = none → e.prev.length = 0) ∧ (A9 = none → e.auth.length = 0) := by
  obtain ⟨vp, vq, s8, s9, hvp, hvq⟩ := h.lists
  obtain ⟨A8, c8, rfl, _, _, n8, h8, _⟩ := hvp.form
  obtain ⟨A9, c9, rfl, _, _, n9, h9, _⟩ := hvq.form
  exact ⟨A8, c8, A9, c9, s8, s9, h8, h9, n8, n9⟩
end
/-- what stands of an event after a change -/
def Alike (e f : Ev) : Prop := f.good ∧ f.id = e.id
section
variable {e : Ev}
theorem alike_time (h : e.tight) {x : Int} (hx : I64 x) : Alike e { e with time := x } := by
  obtain ⟨⟨⟨o1, o2, o3, o4, o5, o6, o7, o8, o9, o10, o11, o12, o13⟩, p1, p2, p3, p4, p5, p6, p7⟩, q1, q2, q3, q4⟩ := h
  exact ⟨⟨⟨o1, o2, o3, o4, o5, hx, o7, o8, o9, o10, o11, o12, o13⟩, p1, p2, p3, p4, p5, p6, p7⟩, rfl⟩
theorem alike_depth (h : e.tight) {x : Int} (hx : I64 x) : Alike e { e with depth := x } := by
  obtain ⟨⟨⟨o1, o2, o3, o4, o5, o6, o7, o8, o9, o10, o11, o12, o13⟩, p1, p2, p3, p4, p5, p6, p7⟩, q1, q2, q3, q4⟩ := h
  exact ⟨⟨⟨o1, o2, o3, o4, o5, o6, hx, o8, o9, o10, o11, o12, o13⟩, p1, p2, p3, p4, p5, p6, p7⟩, rfl⟩
theorem alike_hash (h : e.tight) {x : Int} (hx : I64 x) : Alike e { e with hash := x } := by
  obtain ⟨⟨⟨o1, o2, o3, o4, o5, o6, o7, o8, o9, o10, o11, o12, o13⟩, p1, p2, p3, p4, p5, p6, p7⟩, q1, q2, q3, q4⟩ := h
  exact ⟨⟨⟨o1, o2, o3, o4, o5, o6, o7, o8, o9, o10, hx, o12, o13⟩, p1, p2, p3, p4, p5, p6, p7⟩, rfl⟩
theorem size_x (s : ByteArray) : (s ++ (⟨#[120]⟩ : ByteArray)).size = s.size + 1 := by rw [ByteArray.size_append]; rfl
theorem alike_room (h : e.tight) : Alike e { e with room := e.room ++ ⟨#[120]⟩ } := by
  obtain ⟨⟨⟨o1, o2, o3, o4, o5, o6, o7, o8, o9, o10, o11, o12, o13⟩, p1, p2, p3, p4, p5, p6, p7⟩, q1, q2, q3, q4⟩ := h
  exact ⟨⟨⟨o1, by show (e.room ++ _).size ≤ _; rw [size_x]; unfold maxLen; omega, o3, o4, o5, o6, o7, o8, o9, o10, o11, o12, o13⟩, by show (e.room ++ _).size ≤ _; rw [size_x]; omega, p2, p3, p4, p5, p6, p7⟩, rfl⟩
theorem alike_key (h : e.tight) : Alike e { e with key := e.key ++ ⟨#[120]⟩ } := by
  obtain ⟨⟨⟨o1, o2, o3, o4, o5, o6, o7, o8, o9, o10, o11, o12, o13⟩, p1, p2, p3, p4, p5, p6, p7⟩, q1, q2, q3, q4⟩ := h
  exact ⟨⟨⟨o1, o2, o3, o4, by show (e.key ++ _).size ≤ _; rw [size_x]; unfold maxLen; omega, o6, o7, o8, o9, o10, o11, o12, o13⟩, p1, p2, by show (e.key ++ _).size ≤ _; rw [size_x]; omega, p4, p5, p6, p7⟩, rfl⟩
theorem ints_snoc {l : List Int} {x : Int} (h : ∀ n ∈ l, I64 n) (hx : I64 x) : ∀ n ∈ l ++ [x], I64 n := fun n hn => by
  rcases List.mem_append.1 hn with hn | hn
  · exact h n hn
  · simp only [List.mem_cons, List.not_mem_nil, or_false] at hn; subst hn; exact hx
theorem alike_prev (h : e.tight) {x : Int} (hx : I64 x) : Alike e { e with prev := e.prev ++ [x] } := by
  obtain ⟨⟨⟨o1, o2, o3, o4, o5, o6, o7, o8, o9, o10, o11, o12, o13⟩, p1, p2, p3, p4, p5, p6, p7⟩, q1, q2, q3, q4⟩ := h
  exact ⟨⟨⟨o1, o2, o3, o4, o5, o6, o7, ints_snoc o8 hx, o9, o10, o11, o12, o13⟩, p1, p2, p3, p4, by show (e.prev ++ [x]).length ≤ _; rw [List.length_append]; simp; omega, p6, p7⟩, rfl⟩
theorem alike_auth (h : e.tight) {x : Int} (hx : I64 x) : Alike e { e with auth := e.auth ++ [x] } := by
  obtain ⟨⟨⟨o1, o2, o3, o4, o5, o6, o7, o8, o9, o10, o11, o12, o13⟩, p1, p2, p3, p4, p5, p6, p7⟩, q1, q2, q3, q4⟩ := h
  exact ⟨⟨⟨o1, o2, o3, o4, o5, o6, o7, o8, ints_snoc o9 hx, o10, o11, o12, o13⟩, p1, p2, p3, p4, p5, by show (e.auth ++ [x]).length ≤ _; rw [List.length_append]; simp; omega, p7⟩, rfl⟩
end
/-- one of seven -/
theorem mod7 (n : Int) : n % 7 = 0 ∨ n % 7 = 1 ∨ n % 7 = 2 ∨ n % 7 = 3 ∨ n % 7 = 4 ∨ n % 7 = 5 ∨ n % 7 = 6 := by omega
/-- what changed hands back -/
def ChV (e : Ev) (w : World) (x : Ending) (w' : World) : Prop := ∃ cs f, x = .returned (.agg cs.toArray) ∧ EvR w' Any cs f ∧ Alike e f ∧ Below w.heap.size w w'
set_option maxRecDepth 100000 in
set_option maxHeartbeats 20000000 in
theorem changed_any {cs : List Value} {e : Ev} {fd by_ : Int} {w : World} (hr : EvR w Any cs e) (ht : e.tight) (hby : I64 by_) :
    Calls Try.prog 14 #[.agg cs.toArray, .agg #[.int .i64 fd, .int .i64 by_]] w (ChV e w) := by
  obtain ⟨s0, s1, s2, s3, s4, s5, s6, s7, s26, s27, s28⟩ := hr.gets
  obtain ⟨A8, c8, A9, c9, s8, s9, h8, h9, n8, n9⟩ := hr.c8
  have HL := hide hr.length
  have HT := hide ht
  have HBY := hide hby
  have l8 := ht.prev
  have l9 := ht.auth
  have BA := box_below (heap_alloc2_old w (.cells cs.toArray 34) (.cells #[.int .i64 fd, .int .i64 by_] 41)) (ext_alloc (ext_refl _) (.cells evZero 34))
  have BB := box_below (heap_alloc2_new w (.cells cs.toArray 34) (.cells #[.int .i64 fd, .int .i64 by_] 41)) (ext_alloc (ext_refl _) (.cells evZero 34))
  have BC := heap_alloc_new ((w.alloc (.cells cs.toArray 34)).alloc (.cells #[.int .i64 fd, .int .i64 by_] 41)) (.cells evZero 34)
  have hb := ext_trans (below_two w (.cells cs.toArray 34) (.cells #[.int .i64 fd, .int .i64 by_] 41)) (ext_alloc (ext_refl _) (.cells evZero 34))
  have hz : ((w.alloc (.cells cs.toArray 34)).alloc (.cells #[.int .i64 fd, .int .i64 by_] 41)).heap.size = w.heap.size + 1 + 1 := by simp
  have hsz : (((w.alloc (.cells cs.toArray 34)).alloc (.cells #[.int .i64 fd, .int .i64 by_] 41)).alloc (.cells evZero 34)).heap.size = w.heap.size + 1 + 1 + 1 := by simp
  rw [hz] at BC
  have R := ((hr.weak (S' := fun b => b < w.heap.size) (fun b _ h => h)).ext hb)
  have h8 := h8.ext hb
  have h9 := h9.ext hb
  clear hr ht hby s0 s2 s3 s4 s27 s28
  go_enter Try.func14, Try.ntmps14
  go_upto_region 1 with (refine wpList_zeroS rfl rfl strcE ?_)
  generalize ((w.alloc (.cells cs.toArray 34)).alloc (.cells #[.int .i64 fd, .int .i64 by_] 41)).alloc (.cells evZero 34) = W at BA BB BC hb R h8 h9 hsz ⊢
  have f0 := box_at (C := [.int .i64 fd, .int .i64 by_]) BB (j := 0) (u := .int .i64 fd) rfl
  have f1 := box_at (C := [.int .i64 fd, .int .i64 by_]) BB (j := 1) (u := .int .i64 by_) rfl
  have r1 := box_at BA s1
  have r5 := box_at BA s5
  have r6 := box_at BA s6
  have r7 := box_at BA s7
  have r26 := box_at BA s26
  have HBA := hide BA; have HBB := hide BB; have HBC := hide BC
  clear s1 s5 s6 s7 s26 hz BA BB BC
  have hm7 : (IntKind.u64.wrap fd).tmod 7 = 0 ∨ (IntKind.u64.wrap fd).tmod 7 = 1 ∨ (IntKind.u64.wrap fd).tmod 7 = 2 ∨ (IntKind.u64.wrap fd).tmod 7 = 3 ∨ (IntKind.u64.wrap fd).tmod 7 = 4 ∨ (IntKind.u64.wrap fd).tmod 7 = 5 ∨ (IntKind.u64.wrap fd).tmod 7 = 6 := by
    rw [Int.tmod_eq_emod_of_nonneg (by rw [wrap_u64]; omega)]
    exact mod7 _
  go_upto_region 3 with fail
  generalize (IntKind.u64.wrap fd).tmod 7 = m at hm7 ⊢
  obtain ⟨g, hg⟩ : ∃ g, w.heap.size = g := ⟨_, rfl⟩
  try rw [hg] at HBA HBB HBC f0 f1 r1 r5 r6 r7 r26 R hsz hb
  have HGG := hide hg
  simp only [hg]
  clear hg
  rcases hm7 with rfl | rfl | rfl | rfl | rfl | rfl | rfl
  · go_wp2_with (refine wpList_store1 rfl (.tmp 20) (.tmp 19) rfl rfl sizeI g 6 rfl _ rfl rfl cs 34 HBA.out (by rw [HL.out]; simp) ?_)
    intro w4 B4 g4 z4
    have R4 := (R.grown g4 (fun q hq e => by injection e with e; omega)).p6 (bits .xor .i64 e.time by_)
    have AL := hide (alike_time HT.out (bits_I64 .xor e.time by_))
    have KB := hb.grown g4 (by omega) (fun q hq => by injection hq with hq; omega)
    have HLC := hide R4.length; have HON := hide R4.one
    have BC4 := box_grown HBC.out g4 (by omega)
    have HB4 := hide B4
    clear B4 g4
    go_wp2_with (first
      | refine wpList_loadS rfl (.tmp 2) rfl strcE ⟨g, 0, none⟩ rfl _ HLC.out (box_all HB4.out) ?_
      | refine wpList_storeB rfl (.tmp 4) (.tmp 65) rfl rfl strcE (g + 1 + 1) 0 rfl _ rfl HLC.out HON.out evZero.toList 34 BC4 (by decide) ?_)
    intro w5 B5 g5 z5
    rw [patch_all _ _ (by rw [HLC.out]; rfl)] at B5
    have R5 := R4.grown g5 (fun q hq e => by injection e with e; omega)
    have KB5 := KB.grown g5 (by have := KB.size; omega) (fun q hq => by injection hq with hq; omega)
    go_wp2_with fail
    refine bodyPost_cell strcE rfl (g + 1 + 1) rfl rfl B5 (by rw [List.size_toArray]; exact HLC.out) ⟨_, _, rfl, R5.any, AL.out, by rw [HGG.out]; exact KB5⟩
  · go_wp2_with (refine wpList_store1 rfl (.tmp 28) (.tmp 27) rfl rfl sizeI g 7 rfl _ rfl rfl cs 34 HBA.out (by rw [HL.out]; simp) ?_)
    intro w4 B4 g4 z4
    have R4 := (R.grown g4 (fun q hq e => by injection e with e; omega)).p7 (bits .xor .i64 e.depth by_)
    have AL := hide (alike_depth HT.out (bits_I64 .xor e.depth by_))
    have KB := hb.grown g4 (by omega) (fun q hq => by injection hq with hq; omega)
    have HLC := hide R4.length; have HON := hide R4.one
    have BC4 := box_grown HBC.out g4 (by omega)
    have HB4 := hide B4
    clear B4 g4
    go_wp2_with (first
      | refine wpList_loadS rfl (.tmp 2) rfl strcE ⟨g, 0, none⟩ rfl _ HLC.out (box_all HB4.out) ?_
      | refine wpList_storeB rfl (.tmp 4) (.tmp 65) rfl rfl strcE (g + 1 + 1) 0 rfl _ rfl HLC.out HON.out evZero.toList 34 BC4 (by decide) ?_)
    intro w5 B5 g5 z5
    rw [patch_all _ _ (by rw [HLC.out]; rfl)] at B5
    have R5 := R4.grown g5 (fun q hq e => by injection e with e; omega)
    have KB5 := KB.grown g5 (by have := KB.size; omega) (fun q hq => by injection hq with hq; omega)
    go_wp2_with fail
    refine bodyPost_cell strcE rfl (g + 1 + 1) rfl rfl B5 (by rw [List.size_toArray]; exact HLC.out) ⟨_, _, rfl, R5.any, AL.out, by rw [HGG.out]; exact KB5⟩
  · have qs : ¬ 9223372036854775807 < e.room.size + 1 := by have := HT.out.room; omega
    go_wp2_with (refine wpList_store1 rfl (.tmp 34) (.tmp 33) rfl rfl sizeS g 1 rfl _ rfl rfl cs 34 HBA.out (by rw [HL.out]; simp) ?_)
    intro w4 B4 g4 z4
    have R4 := (R.grown g4 (fun q hq e => by injection e with e; omega)).p1 (e.room ++ ⟨#[120]⟩)
    have AL := hide (alike_room HT.out)
    have KB := hb.grown g4 (by omega) (fun q hq => by injection hq with hq; omega)
    have HLC := hide R4.length; have HON := hide R4.one
    have BC4 := box_grown HBC.out g4 (by omega)
    have HB4 := hide B4
    clear B4 g4
    go_wp2_with (first
      | refine wpList_loadS rfl (.tmp 2) rfl strcE ⟨g, 0, none⟩ rfl _ HLC.out (box_all HB4.out) ?_
      | refine wpList_storeB rfl (.tmp 4) (.tmp 65) rfl rfl strcE (g + 1 + 1) 0 rfl _ rfl HLC.out HON.out evZero.toList 34 BC4 (by decide) ?_)
    intro w5 B5 g5 z5
    rw [patch_all _ _ (by rw [HLC.out]; rfl)] at B5
    have R5 := R4.grown g5 (fun q hq e => by injection e with e; omega)
    have KB5 := KB.grown g5 (by have := KB.size; omega) (fun q hq => by injection hq with hq; omega)
    go_wp2_with fail
    refine bodyPost_cell strcE rfl (g + 1 + 1) rfl rfl B5 (by rw [List.size_toArray]; exact HLC.out) ⟨_, _, rfl, R5.any, AL.out, by rw [HGG.out]; exact KB5⟩
  · go_upto_region 10 with fail
    have hbx : Below W.heap.size W W.drew := ext_drew (ext_refl W)
    have B0 := box_below HBA.out hbx
    have C0 := box_below HBB.out hbx
    have HBC := hide (box_below HBC.out hbx)
    have R := R.ext hbx
    have h8 := h8.ext hbx
    have hszd : W.drew.heap.size = g + 1 + 1 + 1 := hsz
    have hb := hb.trans (hbx.mono (by omega))
    obtain ⟨wd, hWD⟩ : ∃ wd, wd = W.drew := ⟨_, rfl⟩
    rw [← hWD] at B0 C0 HBC R h8 hszd hb
    refine wp_region_phase (fun w' => w'.heap[g]? = some (.cells cs.toArray 34 (0, 0)) ∧ w'.heap[g + 1]? = some (.cells #[.int .i64 fd, .int .i64 by_] 41 (0, 0))) [9] (by kernel_rfl) ?_
    rw [show { W with drawn := W.drawn + 1 } = wd from hWD.symm]
    clear hWD hbx
    have T0 := And.intro B0 C0
    refine wpAnyP_take (i := 1) rfl (by kernel_rfl) (by kernel_rfl) (by kernel_rfl) (by kernel_rfl) (fun _ _ _ h => h) (yieldsIf_run (.pointer (some ⟨g, 8, none⟩)) rfl (fun w' => by go_simp)) T0 ?_
    refine wpAnyP_take (i := 2) rfl (by kernel_rfl) (by kernel_rfl) (by kernel_rfl) (by kernel_rfl) (fun _ _ _ h => h) (yieldsIf_load rfl rfl Try.underlying23 rfl rfl (fun w2 hT => box_at hT.1 (j := 8) (u := .slice A8 e.prev.length c8) s8)) T0 ?_
    refine wpAnyP_take (i := 4) rfl (by kernel_rfl) (by kernel_rfl) (by kernel_rfl) (by kernel_rfl) (fun _ _ _ h => h) (yieldsIf_run (.pointer (some ⟨g + 1, 1, none⟩)) rfl (fun w' => by go_simp)) T0 ?_
    refine wpAnyP_take (i := 5) rfl (by kernel_rfl) (by kernel_rfl) (by kernel_rfl) (by kernel_rfl) (fun _ _ _ h => h) (yieldsIf_load rfl rfl Try.underlying3 rfl rfl (fun w2 hT => box_at (C := [.int .i64 fd, .int .i64 by_]) hT.2 (j := 1) (u := .int .i64 by_) rfl)) T0 ?_
    go_simp
    refine wpAnyP_twoQ (i := 0) (j := 6) (by kernel_rfl) rfl rfl ?_ ?_
    · go_wp2_with fail
      have k1 : Below (g + 1 + 1 + 1) wd (wd.alloc (.cells #[] 3)) := by have h := ext_alloc (ext_refl wd) (.cells #[] 3); rw [hszd] at h; exact h
      have own1 := own_empty wd 3 1
      rw [hszd] at own1
      have s1 : (wd.alloc (.cells #[] 3)).heap.size = (g + 1 + 1 + 1) + 1 := by simp [hszd]
      generalize wd.alloc (.cells #[] 3) = w1 at k1 own1 s1 ⊢
      have k1' : Below wd.heap.size wd w1 := by rw [hszd]; exact k1
      have T1 := And.intro (box_below B0 k1') (box_below C0 k1')
      have row1 := h8.ext k1'
      refine nextQ T1 ?_
      go_simp
      refine wpAnyP_twoQ (i := 3) (j := 6) (by kernel_rfl) rfl rfl ?_ ?_
      · refine wpList_append_row rfl (.tmp 37) (.tmp 39) rfl elemI (g + 1 + 1 + 1) _ 0 [] rfl own1 _ e.prev.length c8 A8 (ivs e.prev) (by simp [ivs]) rfl row1 n8 (by intro u hu; obtain ⟨n, _, rfl⟩ := List.mem_map.1 hu; rfl) (by unfold maxLen; omega) (by omega) (by omega) ?_
        intro v2 w2 hown2 hg2
        have k2 := below_of_own k1 own1 hg2 (by omega) (Nat.le_refl _)
        have k2' : Below wd.heap.size wd w2 := by rw [hszd]; exact k2
        rw [Nat.zero_add, List.nil_append] at hown2
        obtain ⟨A2, c2, rfl, _, _⟩ := own_form hown2
        have T2 := And.intro (box_below B0 k2') (box_below C0 k2')
        have s2 : (g + 1 + 1 + 1) ≤ w2.heap.size := by have := k2.size; omega
        refine nextQ T2 ?_
        clear hg2 own1 T1
        go_simp
        refine wpAnyP_oneQ (i := 6) (by kernel_rfl) rfl ?_
        go_wp2_with fail
        have k3 := k2.alloc s2 (.cells #[.int .i64 by_] 3)
        have k3' : Below wd.heap.size wd (w2.alloc (.cells #[.int .i64 by_] 3)) := by rw [hszd]; exact k3
        have T3 := And.intro (box_below B0 k3') (box_below C0 k3')
        refine nextQ T3 ?_
        go_simp
        refine wpAnyP_oneQ (i := 7) (by kernel_rfl) rfl ?_
        refine wpList_append_new rfl (.tmp 40) (.tmp 43) rfl elemI (g + 1 + 1 + 1) (.slice A2 e.prev.length c2) e.prev.length (ivs e.prev) rfl hown2 1 #[.int .i64 by_] rfl rfl (by simp [Value.oneCell']) (by decide) (by unfold maxLen; omega) (by omega) s2 ?_
        intro v4 w4 hown4 hg4
        have k4 := below_of_own k2 hown2 hg4 s2 (Nat.le_refl _)
        have k4' : Below wd.heap.size wd w4 := by rw [hszd]; exact k4
        have T4 := And.intro (box_below B0 k4') (box_below C0 k4')
        clear T3 T2 hg4 k3 k3' hown2
        obtain ⟨LL, hLL, HLL⟩ := named (e.prev ++ [by_])
        have hown9 : w4.ownsRow (g + 1 + 1 + 1) 3 1 v4 LL.length (ivs LL) := by
          have h := hown4
          first | rw [show ivs e.prev ++ [Value.int .i64 by_] = ivs (e.prev ++ [by_]) by simp [ivs]] at h | rw [show ivs e.prev ++ ivs [by_] = ivs (e.prev ++ [by_]) by simp [ivs]] at h
          rw [hLL, List.length_append]; exact h
        clear hLL hown4
        have SV := Slc.own hown9 (by decide)
        obtain ⟨A9', c9', rfl, _⟩ := SV.form
        have HBC5 := hide (box_below HBC.out k4')
        have R5 := (R.weak (S' := fun b => b < g ∨ (g + 1 + 1 + 1) ≤ b) (fun b h _ => .inl h)).ext k4'
        have SV5 := SV.weak (S' := fun b => b < g ∨ (g + 1 + 1 + 1) ≤ b) (fun b h _ => .inr h)
        have hb5 := hb.trans (k4'.mono (by omega))
        have hs5 : g + 1 + 1 + 1 ≤ w4.heap.size := by have := k4'.size; omega
        refine nextQ T4 ?_
        go_simp
        refine wpAnyP_oneQ (i := 8) (by kernel_rfl) rfl ?_
        go_wp2_with fail
        refine nextQ T4 ?_
        go_simp
        refine wpAnyP_oneQ (i := 9) (by kernel_rfl) rfl ?_
        refine wpList_store1 rfl (.tmp 45) (.tmp 44) rfl rfl sizeIs g 8 rfl _ rfl rfl cs 34 T4.1 (by rw [HL.out]; simp) ?_
        intro w4 B4 g4 z4
        refine nextQ_bad (by kernel_rfl) ?_
        go_simp
        refine wpAnyP_done (by kernel_rfl) ?_
        have R4 := (R5.grown g4 (fun q hq e => by injection e with e; omega)).p8 (SV5.grown g4 (fun q hq e => by injection e with e; omega))
        have AL := hide (show Alike e { e with prev := LL } by rw [HLL.out]; exact alike_prev HT.out HBY.out)
        have KB := hb5.grown g4 (by omega) (fun q hq => by injection hq with hq; omega)
        have HLC := hide R4.length; have HON := hide R4.one
        have BC4 := box_grown HBC5.out g4 (by omega)
        have HB4 := hide B4
        clear B4 g4 R5 SV5 SV hown9
        go_wp2_with (first
          | refine wpList_loadS rfl (.tmp 2) rfl strcE ⟨g, 0, none⟩ rfl _ HLC.out (box_all HB4.out) ?_
          | refine wpList_storeB rfl (.tmp 4) (.tmp 65) rfl rfl strcE (g + 1 + 1) 0 rfl _ rfl HLC.out HON.out evZero.toList 34 BC4 (by decide) ?_)
        intro w5 B5 g5 z5
        rw [patch_all _ _ (by rw [HLC.out]; rfl)] at B5
        have R6 := R4.grown g5 (fun q hq e => by injection e with e; omega)
        have KB5 := KB.grown g5 (by have := KB.size; omega) (fun q hq => by injection hq with hq; omega)
        go_wp2_with fail
        refine bodyPost_cell strcE rfl (g + 1 + 1) rfl rfl B5 (by rw [List.size_toArray]; exact HLC.out) ⟨_, _, rfl, R6.any, AL.out, by rw [HGG.out]; exact KB5⟩
      · go_wp2_with fail
        have ka := ext_alloc (ext_refl w1) (.cells #[.int .i64 by_] 3)
        have lit := (Slc.weak (lit_slc w1 [by_] 1 rfl (by decide)) (S' := fun b => b = (g + 1 + 1 + 1) + 1) (fun b h h2 => by have := s1; simp at h2; omega))
        rw [s1] at lit
        have own2 := own_below own1 ka
        have k2 := k1.alloc (by omega) (.cells #[.int .i64 by_] 3)
        have s2 : (g + 1 + 1 + 1) ≤ (w1.alloc (.cells #[.int .i64 by_] 3)).heap.size := by simp [s1]
        change Slc (w1.alloc (.cells #[.int .i64 by_] 3)) _ _ _ _ _ at lit
        generalize w1.alloc (.cells #[.int .i64 by_] 3) = w2 at lit own2 k2 s2 ka ⊢
        have k2' : Below wd.heap.size wd w2 := by rw [hszd]; exact k2
        have T2 := And.intro (box_below B0 k2') (box_below C0 k2')
        have row2 := h8.ext k2'
        refine nextQ T2 ?_
        clear own1 T1 row1 ka
        go_simp
        refine wpAnyP_oneQ (i := 3) (by kernel_rfl) rfl ?_
        refine wpList_append_row rfl (.tmp 37) (.tmp 39) rfl elemI (g + 1 + 1 + 1) _ 0 [] rfl own2 _ e.prev.length c8 A8 (ivs e.prev) (by simp [ivs]) rfl row2 n8 (by intro u hu; obtain ⟨n, _, rfl⟩ := List.mem_map.1 hu; rfl) (by unfold maxLen; omega) (by omega) s2 ?_
        intro v3 w3 hown3 hg3
        have lit := lit.grown hg3 (fun b hb e => by simp only [Value.ownBlock] at e; injection e with e; have hb' : b = g + 1 + 1 + 1 + 1 := hb; have e' : g + 1 + 1 + 1 = b := e; omega)
        have k3 := below_of_own k2 own2 hg3 s2 (Nat.le_refl _)
        have k3' : Below wd.heap.size wd w3 := by rw [hszd]; exact k3
        rw [Nat.zero_add, List.nil_append] at hown3
        obtain ⟨A3, c3, rfl, _, _⟩ := own_form hown3
        have T3 := And.intro (box_below B0 k3') (box_below C0 k3')
        have s3 : (g + 1 + 1 + 1) ≤ w3.heap.size := by have := k3.size; omega
        obtain ⟨Al, cl, hAl, _, _, _, rowl, _⟩ := lit.form
        injection hAl with e1 e2 e3
        subst e1 e3
        refine nextQ T3 ?_
        clear hg3 own2 T2 row2
        go_simp
        refine wpAnyP_oneQ (i := 7) (by kernel_rfl) rfl ?_
        refine wpList_append_row rfl (.tmp 40) (.tmp 43) rfl elemI (g + 1 + 1 + 1) (.slice A3 e.prev.length c3) e.prev.length (ivs e.prev) rfl hown3 _ 1 1 _ (ivs [by_]) (by simp [ivs]) rfl rowl (fun h => nomatch h) (by intro u hu; obtain ⟨n, _, rfl⟩ := List.mem_map.1 hu; rfl) (by unfold maxLen; omega) (by omega) s3 ?_
        intro v4 w4 hown4 hg4
        have k4 := below_of_own k3 hown3 hg4 s3 (Nat.le_refl _)
        have k4' : Below wd.heap.size wd w4 := by rw [hszd]; exact k4
        have T4 := And.intro (box_below B0 k4') (box_below C0 k4')
        clear T3 hg4 hown3
        obtain ⟨LL, hLL, HLL⟩ := named (e.prev ++ [by_])
        have hown9 : w4.ownsRow (g + 1 + 1 + 1) 3 1 v4 LL.length (ivs LL) := by
          have h := hown4
          first | rw [show ivs e.prev ++ [Value.int .i64 by_] = ivs (e.prev ++ [by_]) by simp [ivs]] at h | rw [show ivs e.prev ++ ivs [by_] = ivs (e.prev ++ [by_]) by simp [ivs]] at h
          rw [hLL, List.length_append]; exact h
        clear hLL hown4
        have SV := Slc.own hown9 (by decide)
        obtain ⟨A9', c9', rfl, _⟩ := SV.form
        have HBC5 := hide (box_below HBC.out k4')
        have R5 := (R.weak (S' := fun b => b < g ∨ (g + 1 + 1 + 1) ≤ b) (fun b h _ => .inl h)).ext k4'
        have SV5 := SV.weak (S' := fun b => b < g ∨ (g + 1 + 1 + 1) ≤ b) (fun b h _ => .inr h)
        have hb5 := hb.trans (k4'.mono (by omega))
        have hs5 : g + 1 + 1 + 1 ≤ w4.heap.size := by have := k4'.size; omega
        refine nextQ T4 ?_
        go_simp
        refine wpAnyP_oneQ (i := 8) (by kernel_rfl) rfl ?_
        go_wp2_with fail
        refine nextQ T4 ?_
        go_simp
        refine wpAnyP_oneQ (i := 9) (by kernel_rfl) rfl ?_
        refine wpList_store1 rfl (.tmp 45) (.tmp 44) rfl rfl sizeIs g 8 rfl _ rfl rfl cs 34 T4.1 (by rw [HL.out]; simp) ?_
        intro w4 B4 g4 z4
        refine nextQ_bad (by kernel_rfl) ?_
        go_simp
        refine wpAnyP_done (by kernel_rfl) ?_
        have R4 := (R5.grown g4 (fun q hq e => by injection e with e; omega)).p8 (SV5.grown g4 (fun q hq e => by injection e with e; omega))
        have AL := hide (show Alike e { e with prev := LL } by rw [HLL.out]; exact alike_prev HT.out HBY.out)
        have KB := hb5.grown g4 (by omega) (fun q hq => by injection hq with hq; omega)
        have HLC := hide R4.length; have HON := hide R4.one
        have BC4 := box_grown HBC5.out g4 (by omega)
        have HB4 := hide B4
        clear B4 g4 R5 SV5 SV hown9
        go_wp2_with (first
          | refine wpList_loadS rfl (.tmp 2) rfl strcE ⟨g, 0, none⟩ rfl _ HLC.out (box_all HB4.out) ?_
          | refine wpList_storeB rfl (.tmp 4) (.tmp 65) rfl rfl strcE (g + 1 + 1) 0 rfl _ rfl HLC.out HON.out evZero.toList 34 BC4 (by decide) ?_)
        intro w5 B5 g5 z5
        rw [patch_all _ _ (by rw [HLC.out]; rfl)] at B5
        have R6 := R4.grown g5 (fun q hq e => by injection e with e; omega)
        have KB5 := KB.grown g5 (by have := KB.size; omega) (fun q hq => by injection hq with hq; omega)
        go_wp2_with fail
        refine bodyPost_cell strcE rfl (g + 1 + 1) rfl rfl B5 (by rw [List.size_toArray]; exact HLC.out) ⟨_, _, rfl, R6.any, AL.out, by rw [HGG.out]; exact KB5⟩
    · go_wp2_with fail
      have lit := (Slc.weak (lit_slc wd [by_] 1 rfl (by decide)) (S' := fun b => b = (g + 1 + 1 + 1)) (fun b h h2 => by have := hszd; simp at h2; omega))
      rw [hszd] at lit
      have k1 : Below (g + 1 + 1 + 1) wd (wd.alloc (.cells #[.int .i64 by_] 3)) := by have h := ext_alloc (ext_refl wd) (.cells #[.int .i64 by_] 3); rw [hszd] at h; exact h
      have s1 : (wd.alloc (.cells #[.int .i64 by_] 3)).heap.size = (g + 1 + 1 + 1) + 1 := by simp [hszd]
      change Slc (wd.alloc (.cells #[.int .i64 by_] 3)) _ _ _ _ _ at lit
      generalize wd.alloc (.cells #[.int .i64 by_] 3) = w1 at lit k1 s1 ⊢
      have k1' : Below wd.heap.size wd w1 := by rw [hszd]; exact k1
      have T1 := And.intro (box_below B0 k1') (box_below C0 k1')
      refine nextQ T1 ?_
      go_simp
      refine wpAnyP_oneQ (i := 0) (by kernel_rfl) rfl ?_
      go_wp2_with fail
      have ka := ext_alloc (ext_refl w1) (.cells #[] 3)
      have lit := lit.ext ka
      have own2 := own_more (base' := (g + 1 + 1 + 1)) (own_empty w1 3 1) (by omega)
      rw [s1] at own2
      have k2 := k1.alloc (by omega) (.cells #[] 3)
      have s2 : (g + 1 + 1 + 1) ≤ (w1.alloc (.cells #[] 3)).heap.size := by simp [s1]
      generalize w1.alloc (.cells #[] 3) = w2 at lit own2 k2 s2 ka ⊢
      have k2' : Below wd.heap.size wd w2 := by rw [hszd]; exact k2
      have T2 := And.intro (box_below B0 k2') (box_below C0 k2')
      have row2 := h8.ext k2'
      refine nextQ T2 ?_
      clear T1 ka
      go_simp
      refine wpAnyP_oneQ (i := 3) (by kernel_rfl) rfl ?_
      refine wpList_append_row rfl (.tmp 37) (.tmp 39) rfl elemI (g + 1 + 1 + 1) _ 0 [] rfl own2 _ e.prev.length c8 A8 (ivs e.prev) (by simp [ivs]) rfl row2 n8 (by intro u hu; obtain ⟨n, _, rfl⟩ := List.mem_map.1 hu; rfl) (by unfold maxLen; omega) (by omega) s2 ?_
      intro v3 w3 hown3 hg3
      have lit := lit.grown hg3 (fun b hb e => by simp only [Value.ownBlock] at e; injection e with e; have hb' : b = g + 1 + 1 + 1 := hb; have e' : g + 1 + 1 + 1 + 1 = b := e; omega)
      have k3 := below_of_own k2 own2 hg3 s2 (Nat.le_refl _)
      have k3' : Below wd.heap.size wd w3 := by rw [hszd]; exact k3
      rw [Nat.zero_add, List.nil_append] at hown3
      obtain ⟨A3, c3, rfl, _, _⟩ := own_form hown3
      have T3 := And.intro (box_below B0 k3') (box_below C0 k3')
      have s3 : (g + 1 + 1 + 1) ≤ w3.heap.size := by have := k3.size; omega
      obtain ⟨Al, cl, hAl, _, _, _, rowl, _⟩ := lit.form
      injection hAl with e1 e2 e3
      subst e1 e3
      refine nextQ T3 ?_
      clear hg3 own2 T2 row2
      go_simp
      refine wpAnyP_oneQ (i := 7) (by kernel_rfl) rfl ?_
      refine wpList_append_row rfl (.tmp 40) (.tmp 43) rfl elemI (g + 1 + 1 + 1) (.slice A3 e.prev.length c3) e.prev.length (ivs e.prev) rfl hown3 _ 1 1 _ (ivs [by_]) (by simp [ivs]) rfl rowl (fun h => nomatch h) (by intro u hu; obtain ⟨n, _, rfl⟩ := List.mem_map.1 hu; rfl) (by unfold maxLen; omega) (by omega) s3 ?_
      intro v4 w4 hown4 hg4
      have k4 := below_of_own k3 hown3 hg4 s3 (Nat.le_refl _)
      have k4' : Below wd.heap.size wd w4 := by rw [hszd]; exact k4
      have T4 := And.intro (box_below B0 k4') (box_below C0 k4')
      clear T3 hg4 hown3
      obtain ⟨LL, hLL, HLL⟩ := named (e.prev ++ [by_])
      have hown9 : w4.ownsRow (g + 1 + 1 + 1) 3 1 v4 LL.length (ivs LL) := by
        have h := hown4
        first | rw [show ivs e.prev ++ [Value.int .i64 by_] = ivs (e.prev ++ [by_]) by simp [ivs]] at h | rw [show ivs e.prev ++ ivs [by_] = ivs (e.prev ++ [by_]) by simp [ivs]] at h
        rw [hLL, List.length_append]; exact h
      clear hLL hown4
      have SV := Slc.own hown9 (by decide)
      obtain ⟨A9', c9', rfl, _⟩ := SV.form
      have HBC5 := hide (box_below HBC.out k4')
      have R5 := (R.weak (S' := fun b => b < g ∨ (g + 1 + 1 + 1) ≤ b) (fun b h _ => .inl h)).ext k4'
      have SV5 := SV.weak (S' := fun b => b < g ∨ (g + 1 + 1 + 1) ≤ b) (fun b h _ => .inr h)
      have hb5 := hb.trans (k4'.mono (by omega))
      have hs5 : g + 1 + 1 + 1 ≤ w4.heap.size := by have := k4'.size; omega
      refine nextQ T4 ?_
      go_simp
      refine wpAnyP_oneQ (i := 8) (by kernel_rfl) rfl ?_
      go_wp2_with fail
      refine nextQ T4 ?_
      go_simp
      refine wpAnyP_oneQ (i := 9) (by kernel_rfl) rfl ?_
      refine wpList_store1 rfl (.tmp 45) (.tmp 44) rfl rfl sizeIs g 8 rfl _ rfl rfl cs 34 T4.1 (by rw [HL.out]; simp) ?_
      intro w4 B4 g4 z4
      refine nextQ_bad (by kernel_rfl) ?_
      go_simp
      refine wpAnyP_done (by kernel_rfl) ?_
      have R4 := (R5.grown g4 (fun q hq e => by injection e with e; omega)).p8 (SV5.grown g4 (fun q hq e => by injection e with e; omega))
      have AL := hide (show Alike e { e with prev := LL } by rw [HLL.out]; exact alike_prev HT.out HBY.out)
      have KB := hb5.grown g4 (by omega) (fun q hq => by injection hq with hq; omega)
      have HLC := hide R4.length; have HON := hide R4.one
      have BC4 := box_grown HBC5.out g4 (by omega)
      have HB4 := hide B4
      clear B4 g4 R5 SV5 SV hown9
      go_wp2_with (first
        | refine wpList_loadS rfl (.tmp 2) rfl strcE ⟨g, 0, none⟩ rfl _ HLC.out (box_all HB4.out) ?_
        | refine wpList_storeB rfl (.tmp 4) (.tmp 65) rfl rfl strcE (g + 1 + 1) 0 rfl _ rfl HLC.out HON.out evZero.toList 34 BC4 (by decide) ?_)
      intro w5 B5 g5 z5
      rw [patch_all _ _ (by rw [HLC.out]; rfl)] at B5
      have R6 := R4.grown g5 (fun q hq e => by injection e with e; omega)
      have KB5 := KB.grown g5 (by have := KB.size; omega) (fun q hq => by injection hq with hq; omega)
      go_wp2_with fail
      refine bodyPost_cell strcE rfl (g + 1 + 1) rfl rfl B5 (by rw [List.size_toArray]; exact HLC.out) ⟨_, _, rfl, R6.any, AL.out, by rw [HGG.out]; exact KB5⟩
  · go_upto_region 12 with fail
    have hbx : Below W.heap.size W W.drew := ext_drew (ext_refl W)
    have B0 := box_below HBA.out hbx
    have C0 := box_below HBB.out hbx
    have HBC := hide (box_below HBC.out hbx)
    have R := R.ext hbx
    have h9 := h9.ext hbx
    have hszd : W.drew.heap.size = g + 1 + 1 + 1 := hsz
    have hb := hb.trans (hbx.mono (by omega))
    obtain ⟨wd, hWD⟩ : ∃ wd, wd = W.drew := ⟨_, rfl⟩
    rw [← hWD] at B0 C0 HBC R h9 hszd hb
    refine wp_region_phase (fun w' => w'.heap[g]? = some (.cells cs.toArray 34 (0, 0)) ∧ w'.heap[g + 1]? = some (.cells #[.int .i64 fd, .int .i64 by_] 41 (0, 0))) [9] (by kernel_rfl) ?_
    rw [show { W with drawn := W.drawn + 1 } = wd from hWD.symm]
    clear hWD hbx
    have T0 := And.intro B0 C0
    refine wpAnyP_take (i := 1) rfl (by kernel_rfl) (by kernel_rfl) (by kernel_rfl) (by kernel_rfl) (fun _ _ _ h => h) (yieldsIf_run (.pointer (some ⟨g, 9, none⟩)) rfl (fun w' => by go_simp)) T0 ?_
    refine wpAnyP_take (i := 2) rfl (by kernel_rfl) (by kernel_rfl) (by kernel_rfl) (by kernel_rfl) (fun _ _ _ h => h) (yieldsIf_load rfl rfl Try.underlying23 rfl rfl (fun w2 hT => box_at hT.1 (j := 9) (u := .slice A9 e.auth.length c9) s9)) T0 ?_
    refine wpAnyP_take (i := 4) rfl (by kernel_rfl) (by kernel_rfl) (by kernel_rfl) (by kernel_rfl) (fun _ _ _ h => h) (yieldsIf_run (.pointer (some ⟨g + 1, 1, none⟩)) rfl (fun w' => by go_simp)) T0 ?_
    refine wpAnyP_take (i := 5) rfl (by kernel_rfl) (by kernel_rfl) (by kernel_rfl) (by kernel_rfl) (fun _ _ _ h => h) (yieldsIf_load rfl rfl Try.underlying3 rfl rfl (fun w2 hT => box_at (C := [.int .i64 fd, .int .i64 by_]) hT.2 (j := 1) (u := .int .i64 by_) rfl)) T0 ?_
    go_simp
    refine wpAnyP_twoQ (i := 0) (j := 6) (by kernel_rfl) rfl rfl ?_ ?_
    · go_wp2_with fail
      have k1 : Below (g + 1 + 1 + 1) wd (wd.alloc (.cells #[] 3)) := by have h := ext_alloc (ext_refl wd) (.cells #[] 3); rw [hszd] at h; exact h
      have own1 := own_empty wd 3 1
      rw [hszd] at own1
      have s1 : (wd.alloc (.cells #[] 3)).heap.size = (g + 1 + 1 + 1) + 1 := by simp [hszd]
      generalize wd.alloc (.cells #[] 3) = w1 at k1 own1 s1 ⊢
      have k1' : Below wd.heap.size wd w1 := by rw [hszd]; exact k1
      have T1 := And.intro (box_below B0 k1') (box_below C0 k1')
      have row1 := h9.ext k1'
      refine nextQ T1 ?_
      go_simp
      refine wpAnyP_twoQ (i := 3) (j := 6) (by kernel_rfl) rfl rfl ?_ ?_
      · refine wpList_append_row rfl (.tmp 48) (.tmp 50) rfl elemI (g + 1 + 1 + 1) _ 0 [] rfl own1 _ e.auth.length c9 A9 (ivs e.auth) (by simp [ivs]) rfl row1 n9 (by intro u hu; obtain ⟨n, _, rfl⟩ := List.mem_map.1 hu; rfl) (by unfold maxLen; omega) (by omega) (by omega) ?_
        intro v2 w2 hown2 hg2
        have k2 := below_of_own k1 own1 hg2 (by omega) (Nat.le_refl _)
        have k2' : Below wd.heap.size wd w2 := by rw [hszd]; exact k2
        rw [Nat.zero_add, List.nil_append] at hown2
        obtain ⟨A2, c2, rfl, _, _⟩ := own_form hown2
        have T2 := And.intro (box_below B0 k2') (box_below C0 k2')
        have s2 : (g + 1 + 1 + 1) ≤ w2.heap.size := by have := k2.size; omega
        refine nextQ T2 ?_
        clear hg2 own1 T1
        go_simp
        refine wpAnyP_oneQ (i := 6) (by kernel_rfl) rfl ?_
        go_wp2_with fail
        have k3 := k2.alloc s2 (.cells #[.int .i64 by_] 3)
        have k3' : Below wd.heap.size wd (w2.alloc (.cells #[.int .i64 by_] 3)) := by rw [hszd]; exact k3
        have T3 := And.intro (box_below B0 k3') (box_below C0 k3')
        refine nextQ T3 ?_
        go_simp
        refine wpAnyP_oneQ (i := 7) (by kernel_rfl) rfl ?_
        refine wpList_append_new rfl (.tmp 51) (.tmp 54) rfl elemI (g + 1 + 1 + 1) (.slice A2 e.auth.length c2) e.auth.length (ivs e.auth) rfl hown2 1 #[.int .i64 by_] rfl rfl (by simp [Value.oneCell']) (by decide) (by unfold maxLen; omega) (by omega) s2 ?_
        intro v4 w4 hown4 hg4
        have k4 := below_of_own k2 hown2 hg4 s2 (Nat.le_refl _)
        have k4' : Below wd.heap.size wd w4 := by rw [hszd]; exact k4
        have T4 := And.intro (box_below B0 k4') (box_below C0 k4')
        clear T3 T2 hg4 k3 k3' hown2
        obtain ⟨LL, hLL, HLL⟩ := named (e.auth ++ [by_])
        have hown9 : w4.ownsRow (g + 1 + 1 + 1) 3 1 v4 LL.length (ivs LL) := by
          have h := hown4
          first | rw [show ivs e.auth ++ [Value.int .i64 by_] = ivs (e.auth ++ [by_]) by simp [ivs]] at h | rw [show ivs e.auth ++ ivs [by_] = ivs (e.auth ++ [by_]) by simp [ivs]] at h
          rw [hLL, List.length_append]; exact h
        clear hLL hown4
        have SV := Slc.own hown9 (by decide)
        obtain ⟨A9', c9', rfl, _⟩ := SV.form
        have HBC5 := hide (box_below HBC.out k4')
        have R5 := (R.weak (S' := fun b => b < g ∨ (g + 1 + 1 + 1) ≤ b) (fun b h _ => .inl h)).ext k4'
        have SV5 := SV.weak (S' := fun b => b < g ∨ (g + 1 + 1 + 1) ≤ b) (fun b h _ => .inr h)
        have hb5 := hb.trans (k4'.mono (by omega))
        have hs5 : g + 1 + 1 + 1 ≤ w4.heap.size := by have := k4'.size; omega
        refine nextQ T4 ?_
        go_simp
        refine wpAnyP_oneQ (i := 8) (by kernel_rfl) rfl ?_
        go_wp2_with fail
        refine nextQ T4 ?_
        go_simp
        refine wpAnyP_oneQ (i := 9) (by kernel_rfl) rfl ?_
        refine wpList_store1 rfl (.tmp 56) (.tmp 55) rfl rfl sizeIs g 9 rfl _ rfl rfl cs 34 T4.1 (by rw [HL.out]; simp) ?_
        intro w4 B4 g4 z4
        refine nextQ_bad (by kernel_rfl) ?_
        go_simp
        refine wpAnyP_done (by kernel_rfl) ?_
        have R4 := (R5.grown g4 (fun q hq e => by injection e with e; omega)).p9 (SV5.grown g4 (fun q hq e => by injection e with e; omega))
        have AL := hide (show Alike e { e with auth := LL } by rw [HLL.out]; exact alike_auth HT.out HBY.out)
        have KB := hb5.grown g4 (by omega) (fun q hq => by injection hq with hq; omega)
        have HLC := hide R4.length; have HON := hide R4.one
        have BC4 := box_grown HBC5.out g4 (by omega)
        have HB4 := hide B4
        clear B4 g4 R5 SV5 SV hown9
        go_wp2_with (first
          | refine wpList_loadS rfl (.tmp 2) rfl strcE ⟨g, 0, none⟩ rfl _ HLC.out (box_all HB4.out) ?_
          | refine wpList_storeB rfl (.tmp 4) (.tmp 65) rfl rfl strcE (g + 1 + 1) 0 rfl _ rfl HLC.out HON.out evZero.toList 34 BC4 (by decide) ?_)
        intro w5 B5 g5 z5
        rw [patch_all _ _ (by rw [HLC.out]; rfl)] at B5
        have R6 := R4.grown g5 (fun q hq e => by injection e with e; omega)
        have KB5 := KB.grown g5 (by have := KB.size; omega) (fun q hq => by injection hq with hq; omega)
        go_wp2_with fail
        refine bodyPost_cell strcE rfl (g + 1 + 1) rfl rfl B5 (by rw [List.size_toArray]; exact HLC.out) ⟨_, _, rfl, R6.any, AL.out, by rw [HGG.out]; exact KB5⟩
      · go_wp2_with fail
        have ka := ext_alloc (ext_refl w1) (.cells #[.int .i64 by_] 3)
        have lit := (Slc.weak (lit_slc w1 [by_] 1 rfl (by decide)) (S' := fun b => b = (g + 1 + 1 + 1) + 1) (fun b h h2 => by have := s1; simp at h2; omega))
        rw [s1] at lit
        have own2 := own_below own1 ka
        have k2 := k1.alloc (by omega) (.cells #[.int .i64 by_] 3)
        have s2 : (g + 1 + 1 + 1) ≤ (w1.alloc (.cells #[.int .i64 by_] 3)).heap.size := by simp [s1]
        change Slc (w1.alloc (.cells #[.int .i64 by_] 3)) _ _ _ _ _ at lit
        generalize w1.alloc (.cells #[.int .i64 by_] 3) = w2 at lit own2 k2 s2 ka ⊢
        have k2' : Below wd.heap.size wd w2 := by rw [hszd]; exact k2
        have T2 := And.intro (box_below B0 k2') (box_below C0 k2')
        have row2 := h9.ext k2'
        refine nextQ T2 ?_
        clear own1 T1 row1 ka
        go_simp
        refine wpAnyP_oneQ (i := 3) (by kernel_rfl) rfl ?_
        refine wpList_append_row rfl (.tmp 48) (.tmp 50) rfl elemI (g + 1 + 1 + 1) _ 0 [] rfl own2 _ e.auth.length c9 A9 (ivs e.auth) (by simp [ivs]) rfl row2 n9 (by intro u hu; obtain ⟨n, _, rfl⟩ := List.mem_map.1 hu; rfl) (by unfold maxLen; omega) (by omega) s2 ?_
        intro v3 w3 hown3 hg3
        have lit := lit.grown hg3 (fun b hb e => by simp only [Value.ownBlock] at e; injection e with e; have hb' : b = g + 1 + 1 + 1 + 1 := hb; have e' : g + 1 + 1 + 1 = b := e; omega)
        have k3 := below_of_own k2 own2 hg3 s2 (Nat.le_refl _)
        have k3' : Below wd.heap.size wd w3 := by rw [hszd]; exact k3
        rw [Nat.zero_add, List.nil_append] at hown3
        obtain ⟨A3, c3, rfl, _, _⟩ := own_form hown3
        have T3 := And.intro (box_below B0 k3') (box_below C0 k3')
        have s3 : (g + 1 + 1 + 1) ≤ w3.heap.size := by have := k3.size; omega
        obtain ⟨Al, cl, hAl, _, _, _, rowl, _⟩ := lit.form
        injection hAl with e1 e2 e3
        subst e1 e3
        refine nextQ T3 ?_
        clear hg3 own2 T2 row2
        go_simp
        refine wpAnyP_oneQ (i := 7) (by kernel_rfl) rfl ?_
        refine wpList_append_row rfl (.tmp 51) (.tmp 54) rfl elemI (g + 1 + 1 + 1) (.slice A3 e.auth.length c3) e.auth.length (ivs e.auth) rfl hown3 _ 1 1 _ (ivs [by_]) (by simp [ivs]) rfl rowl (fun h => nomatch h) (by intro u hu; obtain ⟨n, _, rfl⟩ := List.mem_map.1 hu; rfl) (by unfold maxLen; omega) (by omega) s3 ?_
        intro v4 w4 hown4 hg4
        have k4 := below_of_own k3 hown3 hg4 s3 (Nat.le_refl _)
        have k4' : Below wd.heap.size wd w4 := by rw [hszd]; exact k4
        have T4 := And.intro (box_below B0 k4') (box_below C0 k4')
        clear T3 hg4 hown3
        obtain ⟨LL, hLL, HLL⟩ := named (e.auth ++ [by_])
        have hown9 : w4.ownsRow (g + 1 + 1 + 1) 3 1 v4 LL.length (ivs LL) := by
          have h := hown4
          first | rw [show ivs e.auth ++ [Value.int .i64 by_] = ivs (e.auth ++ [by_]) by simp [ivs]] at h | rw [show ivs e.auth ++ ivs [by_] = ivs (e.auth ++ [by_]) by simp [ivs]] at h
          rw [hLL, List.length_append]; exact h
        clear hLL hown4
        have SV := Slc.own hown9 (by decide)
        obtain ⟨A9', c9', rfl, _⟩ := SV.form
        have HBC5 := hide (box_below HBC.out k4')
        have R5 := (R.weak (S' := fun b => b < g ∨ (g + 1 + 1 + 1) ≤ b) (fun b h _ => .inl h)).ext k4'
        have SV5 := SV.weak (S' := fun b => b < g ∨ (g + 1 + 1 + 1) ≤ b) (fun b h _ => .inr h)
        have hb5 := hb.trans (k4'.mono (by omega))
        have hs5 : g + 1 + 1 + 1 ≤ w4.heap.size := by have := k4'.size; omega
        refine nextQ T4 ?_
        go_simp
        refine wpAnyP_oneQ (i := 8) (by kernel_rfl) rfl ?_
        go_wp2_with fail
        refine nextQ T4 ?_
        go_simp
        refine wpAnyP_oneQ (i := 9) (by kernel_rfl) rfl ?_
        refine wpList_store1 rfl (.tmp 56) (.tmp 55) rfl rfl sizeIs g 9 rfl _ rfl rfl cs 34 T4.1 (by rw [HL.out]; simp) ?_
        intro w4 B4 g4 z4
        refine nextQ_bad (by kernel_rfl) ?_
        go_simp
        refine wpAnyP_done (by kernel_rfl) ?_
        have R4 := (R5.grown g4 (fun q hq e => by injection e with e; omega)).p9 (SV5.grown g4 (fun q hq e => by injection e with e; omega))
        have AL := hide (show Alike e { e with auth := LL } by rw [HLL.out]; exact alike_auth HT.out HBY.out)
        have KB := hb5.grown g4 (by omega) (fun q hq => by injection hq with hq; omega)
        have HLC := hide R4.length; have HON := hide R4.one
        have BC4 := box_grown HBC5.out g4 (by omega)
        have HB4 := hide B4
        clear B4 g4 R5 SV5 SV hown9
        go_wp2_with (first
          | refine wpList_loadS rfl (.tmp 2) rfl strcE ⟨g, 0, none⟩ rfl _ HLC.out (box_all HB4.out) ?_
          | refine wpList_storeB rfl (.tmp 4) (.tmp 65) rfl rfl strcE (g + 1 + 1) 0 rfl _ rfl HLC.out HON.out evZero.toList 34 BC4 (by decide) ?_)
        intro w5 B5 g5 z5
        rw [patch_all _ _ (by rw [HLC.out]; rfl)] at B5
        have R6 := R4.grown g5 (fun q hq e => by injection e with e; omega)
        have KB5 := KB.grown g5 (by have := KB.size; omega) (fun q hq => by injection hq with hq; omega)
        go_wp2_with fail
        refine bodyPost_cell strcE rfl (g + 1 + 1) rfl rfl B5 (by rw [List.size_toArray]; exact HLC.out) ⟨_, _, rfl, R6.any, AL.out, by rw [HGG.out]; exact KB5⟩
    · go_wp2_with fail
      have lit := (Slc.weak (lit_slc wd [by_] 1 rfl (by decide)) (S' := fun b => b = (g + 1 + 1 + 1)) (fun b h h2 => by have := hszd; simp at h2; omega))
      rw [hszd] at lit
      have k1 : Below (g + 1 + 1 + 1) wd (wd.alloc (.cells #[.int .i64 by_] 3)) := by have h := ext_alloc (ext_refl wd) (.cells #[.int .i64 by_] 3); rw [hszd] at h; exact h
      have s1 : (wd.alloc (.cells #[.int .i64 by_] 3)).heap.size = (g + 1 + 1 + 1) + 1 := by simp [hszd]
      change Slc (wd.alloc (.cells #[.int .i64 by_] 3)) _ _ _ _ _ at lit
      generalize wd.alloc (.cells #[.int .i64 by_] 3) = w1 at lit k1 s1 ⊢
      have k1' : Below wd.heap.size wd w1 := by rw [hszd]; exact k1
      have T1 := And.intro (box_below B0 k1') (box_below C0 k1')
      refine nextQ T1 ?_
      go_simp
      refine wpAnyP_oneQ (i := 0) (by kernel_rfl) rfl ?_
      go_wp2_with fail
      have ka := ext_alloc (ext_refl w1) (.cells #[] 3)
      have lit := lit.ext ka
      have own2 := own_more (base' := (g + 1 + 1 + 1)) (own_empty w1 3 1) (by omega)
      rw [s1] at own2
      have k2 := k1.alloc (by omega) (.cells #[] 3)
      have s2 : (g + 1 + 1 + 1) ≤ (w1.alloc (.cells #[] 3)).heap.size := by simp [s1]
      generalize w1.alloc (.cells #[] 3) = w2 at lit own2 k2 s2 ka ⊢
      have k2' : Below wd.heap.size wd w2 := by rw [hszd]; exact k2
      have T2 := And.intro (box_below B0 k2') (box_below C0 k2')
      have row2 := h9.ext k2'
      refine nextQ T2 ?_
      clear T1 ka
      go_simp
      refine wpAnyP_oneQ (i := 3) (by kernel_rfl) rfl ?_
      refine wpList_append_row rfl (.tmp 48) (.tmp 50) rfl elemI (g + 1 + 1 + 1) _ 0 [] rfl own2 _ e.auth.length c9 A9 (ivs e.auth) (by simp [ivs]) rfl row2 n9 (by intro u hu; obtain ⟨n, _, rfl⟩ := List.mem_map.1 hu; rfl) (by unfold maxLen; omega) (by omega) s2 ?_
      intro v3 w3 hown3 hg3
      have lit := lit.grown hg3 (fun b hb e => by simp only [Value.ownBlock] at e; injection e with e; have hb' : b = g + 1 + 1 + 1 := hb; have e' : g + 1 + 1 + 1 + 1 = b := e; omega)
      have k3 := below_of_own k2 own2 hg3 s2 (Nat.le_refl _)
      have k3' : Below wd.heap.size wd w3 := by rw [hszd]; exact k3
      rw [Nat.zero_add, List.nil_append] at hown3
      obtain ⟨A3, c3, rfl, _, _⟩ := own_form hown3
      have T3 := And.intro (box_below B0 k3') (box_below C0 k3')
      have s3 : (g + 1 + 1 + 1) ≤ w3.heap.size := by have := k3.size; omega
      obtain ⟨Al, cl, hAl, _, _, _, rowl, _⟩ := lit.form
      injection hAl with e1 e2 e3
      subst e1 e3
      refine nextQ T3 ?_
      clear hg3 own2 T2 row2
      go_simp
      refine wpAnyP_oneQ (i := 7) (by kernel_rfl) rfl ?_
      refine wpList_append_row rfl (.tmp 51) (.tmp 54) rfl elemI (g + 1 + 1 + 1) (.slice A3 e.auth.length c3) e.auth.length (ivs e.auth) rfl hown3 _ 1 1 _ (ivs [by_]) (by simp [ivs]) rfl rowl (fun h => nomatch h) (by intro u hu; obtain ⟨n, _, rfl⟩ := List.mem_map.1 hu; rfl) (by unfold maxLen; omega) (by omega) s3 ?_
      intro v4 w4 hown4 hg4
      have k4 := below_of_own k3 hown3 hg4 s3 (Nat.le_refl _)
      have k4' : Below wd.heap.size wd w4 := by rw [hszd]; exact k4
      have T4 := And.intro (box_below B0 k4') (box_below C0 k4')
      clear T3 hg4 hown3
      obtain ⟨LL, hLL, HLL⟩ := named (e.auth ++ [by_])
      have hown9 : w4.ownsRow (g + 1 + 1 + 1) 3 1 v4 LL.length (ivs LL) := by
        have h := hown4
        first | rw [show ivs e.auth ++ [Value.int .i64 by_] = ivs (e.auth ++ [by_]) by simp [ivs]] at h | rw [show ivs e.auth ++ ivs [by_] = ivs (e.auth ++ [by_]) by simp [ivs]] at h
        rw [hLL, List.length_append]; exact h
      clear hLL hown4
      have SV := Slc.own hown9 (by decide)
      obtain ⟨A9', c9', rfl, _⟩ := SV.form
      have HBC5 := hide (box_below HBC.out k4')
      have R5 := (R.weak (S' := fun b => b < g ∨ (g + 1 + 1 + 1) ≤ b) (fun b h _ => .inl h)).ext k4'
      have SV5 := SV.weak (S' := fun b => b < g ∨ (g + 1 + 1 + 1) ≤ b) (fun b h _ => .inr h)
      have hb5 := hb.trans (k4'.mono (by omega))
      have hs5 : g + 1 + 1 + 1 ≤ w4.heap.size := by have := k4'.size; omega
      refine nextQ T4 ?_
      go_simp
      refine wpAnyP_oneQ (i := 8) (by kernel_rfl) rfl ?_
      go_wp2_with fail
      refine nextQ T4 ?_
      go_simp
      refine wpAnyP_oneQ (i := 9) (by kernel_rfl) rfl ?_
      refine wpList_store1 rfl (.tmp 56) (.tmp 55) rfl rfl sizeIs g 9 rfl _ rfl rfl cs 34 T4.1 (by rw [HL.out]; simp) ?_
      intro w4 B4 g4 z4
      refine nextQ_bad (by kernel_rfl) ?_
      go_simp
      refine wpAnyP_done (by kernel_rfl) ?_
      have R4 := (R5.grown g4 (fun q hq e => by injection e with e; omega)).p9 (SV5.grown g4 (fun q hq e => by injection e with e; omega))
      have AL := hide (show Alike e { e with auth := LL } by rw [HLL.out]; exact alike_auth HT.out HBY.out)
      have KB := hb5.grown g4 (by omega) (fun q hq => by injection hq with hq; omega)
      have HLC := hide R4.length; have HON := hide R4.one
      have BC4 := box_grown HBC5.out g4 (by omega)
      have HB4 := hide B4
      clear B4 g4 R5 SV5 SV hown9
      go_wp2_with (first
        | refine wpList_loadS rfl (.tmp 2) rfl strcE ⟨g, 0, none⟩ rfl _ HLC.out (box_all HB4.out) ?_
        | refine wpList_storeB rfl (.tmp 4) (.tmp 65) rfl rfl strcE (g + 1 + 1) 0 rfl _ rfl HLC.out HON.out evZero.toList 34 BC4 (by decide) ?_)
      intro w5 B5 g5 z5
      rw [patch_all _ _ (by rw [HLC.out]; rfl)] at B5
      have R6 := R4.grown g5 (fun q hq e => by injection e with e; omega)
      have KB5 := KB.grown g5 (by have := KB.size; omega) (fun q hq => by injection hq with hq; omega)
      go_wp2_with fail
      refine bodyPost_cell strcE rfl (g + 1 + 1) rfl rfl B5 (by rw [List.size_toArray]; exact HLC.out) ⟨_, _, rfl, R6.any, AL.out, by rw [HGG.out]; exact KB5⟩
  · go_wp2_with (refine wpList_store1 rfl (.tmp 64) (.tmp 63) rfl rfl sizeI g 26 rfl _ rfl rfl cs 34 HBA.out (by rw [HL.out]; simp) ?_)
    intro w4 B4 g4 z4
    have R4 := (R.grown g4 (fun q hq e => by injection e with e; omega)).p26 (bits .xor .i64 e.hash by_)
    have AL := hide (alike_hash HT.out (bits_I64 .xor e.hash by_))
    have KB := hb.grown g4 (by omega) (fun q hq => by injection hq with hq; omega)
    have HLC := hide R4.length; have HON := hide R4.one
    have BC4 := box_grown HBC.out g4 (by omega)
    have HB4 := hide B4
    clear B4 g4
    go_wp2_with (first
      | refine wpList_loadS rfl (.tmp 2) rfl strcE ⟨g, 0, none⟩ rfl _ HLC.out (box_all HB4.out) ?_
      | refine wpList_storeB rfl (.tmp 4) (.tmp 65) rfl rfl strcE (g + 1 + 1) 0 rfl _ rfl HLC.out HON.out evZero.toList 34 BC4 (by decide) ?_)
    intro w5 B5 g5 z5
    rw [patch_all _ _ (by rw [HLC.out]; rfl)] at B5
    have R5 := R4.grown g5 (fun q hq e => by injection e with e; omega)
    have KB5 := KB.grown g5 (by have := KB.size; omega) (fun q hq => by injection hq with hq; omega)
    go_wp2_with fail
    refine bodyPost_cell strcE rfl (g + 1 + 1) rfl rfl B5 (by rw [List.size_toArray]; exact HLC.out) ⟨_, _, rfl, R5.any, AL.out, by rw [HGG.out]; exact KB5⟩
  · have qs : ¬ 9223372036854775807 < e.key.size + 1 := by have := HT.out.key; omega
    go_wp2_with (refine wpList_store1 rfl (.tmp 12) (.tmp 11) rfl rfl sizeS g 5 rfl _ rfl rfl cs 34 HBA.out (by rw [HL.out]; simp) ?_)
    intro w4 B4 g4 z4
    have R4 := (R.grown g4 (fun q hq e => by injection e with e; omega)).p5 (e.key ++ ⟨#[120]⟩)
    have AL := hide (alike_key HT.out)
    have KB := hb.grown g4 (by omega) (fun q hq => by injection hq with hq; omega)
    have HLC := hide R4.length; have HON := hide R4.one
    have BC4 := box_grown HBC.out g4 (by omega)
    have HB4 := hide B4
    clear B4 g4
    go_wp2_with (first
      | refine wpList_loadS rfl (.tmp 2) rfl strcE ⟨g, 0, none⟩ rfl _ HLC.out (box_all HB4.out) ?_
      | refine wpList_storeB rfl (.tmp 4) (.tmp 65) rfl rfl strcE (g + 1 + 1) 0 rfl _ rfl HLC.out HON.out evZero.toList 34 BC4 (by decide) ?_)
    intro w5 B5 g5 z5
    rw [patch_all _ _ (by rw [HLC.out]; rfl)] at B5
    have R5 := R4.grown g5 (fun q hq e => by injection e with e; omega)
    have KB5 := KB.grown g5 (by have := KB.size; omega) (fun q hq => by injection hq with hq; omega)
    go_wp2_with fail
    refine bodyPost_cell strcE rfl (g + 1 + 1) rfl rfl B5 (by rw [List.size_toArray]; exact HLC.out) ⟨_, _, rfl, R5.any, AL.out, by rw [HGG.out]; exact KB5⟩
end Go.Proofs.Ytnfbmhkjmkdmjaa
