/-
  StoreSets: the walk.
-/
import Derived.Test.YtmlnmcoophnlaaaGreatStW
import Derived.Test.YtmlnmcoophnlaaaGreatLift
set_option linter.unusedVariables false
set_option linter.unusedSimpArgs false
namespace Go.Proofs.YtmlnmcoophnlaaaGreat
open Go.RowKit
attribute [local go_sem] Addr.add_mid
def setE8 (l : List Ev) : List Ev := l.foldl (fun s e => insE e s) []
theorem setE8_snoc {l : List Ev} {k : Nat} (h : k < l.length) : setE8 (l.take (k + 1)) = insE l[k] (setE8 (l.take k)) := by
  unfold setE8; rw [List.take_succ_eq_append_getElem h, List.foldl_append]; rfl
theorem setF_mem {x : Ev} : ∀ {l s : List Ev}, x ∈ l.foldl (fun s e => insE e s) s → x ∈ s ∨ x ∈ l
  | [], s, h => .inl h
  | e :: l, s, h => by
    rw [List.foldl_cons] at h
    rcases setF_mem h with h | h
    · rcases insE_mem h with h | h
      · exact .inr (by rw [h]; simp)
      · exact .inl h
    · exact .inr (List.mem_cons_of_mem _ h)
theorem setE8_mem {x : Ev} {l : List Ev} (h : x ∈ setE8 l) : x ∈ l := by
  rcases setF_mem h with h | h
  · cases h
  · exact h
theorem setF_rise : ∀ {l s : List Ev}, Rise (idsE s) → Rise (idsE (l.foldl (fun s e => insE e s) s))
  | [], s, h => h
  | e :: l, s, h => by rw [List.foldl_cons]; exact setF_rise (insE_rise h)
theorem setE8_rise (l : List Ev) : Rise (idsE (setE8 l)) := setF_rise (s := []) (by simp [idsE, Rise])
theorem setF_len : ∀ {l s : List Ev}, (l.foldl (fun s e => insE e s) s).length ≤ s.length + l.length
  | [], s => by simp
  | e :: l, s => by
    rw [List.foldl_cons]
    have h := setF_len (l := l) (s := insE e s)
    have := (insE_le e s).2
    simp only [List.length_cons]
    omega
theorem setE8_len (l : List Ev) : (setE8 l).length ≤ l.length := by have := setF_len (l := l) (s := []); unfold setE8; simpa using this
theorem put_good {s : List Ev} {e : Ev} {w : World} {v : Value} {cs : List Value} (hr : EvsR w Any v s) (he : EvR w Any cs e) (hl : s.length < 2000) (hg : ∀ x ∈ s, x.good) (hge : e.good) (hrise : Rise (idsE s)) (hroom : ∀ x ∈ s, x.room = e.room) :
    Calls Tryz.prog 13 #[v, .agg cs.toArray] w (fun x w' => ∃ v', x = .returned (.tuple #[v', .int .i64 0]) ∧ EvsR w' Any v' (insE e s) ∧ Below w.heap.size w w') :=
  (SPut_any hr he hl (fun x hx => (hg x hx).cputs) hge.cputs).mono fun x w' ⟨v', h1, h2, h3⟩ => ⟨v', by rw [h1, put_on (offB_none hroom)], by rwa [putE_ins hrise (offB_none hroom)] at h2, h3⟩
theorem ssame_true {w : World} {v u : Value} {l : List Ev} {S S2 : Nat → Prop} (hr : EvsR w S v l) (hr2 : EvsR w S2 u l) (hl : l.length ≤ 1000000) (hg : ∀ e ∈ l, e.fit) : Calls Tryz.prog 14 #[v, u] w (Says true w) := by
  have h := SSame_any hr hr2 hl hl hg hg
  have e : decide (l = l) = true := decide_eq_true rfl
  rw [e] at h
  exact h
theorem setF_has {id : Int} : ∀ {l s : List Ev}, hasId (l.foldl (fun s e => insE e s) s) id = true ↔ hasId s id = true ∨ ∃ e ∈ l, e.id = id
  | [], s => by simp
  | e :: l, s => by
    rw [List.foldl_cons, setF_has, insE_has]
    constructor
    · rintro ((h | h) | ⟨x, h1, h2⟩)
      · exact .inr ⟨e, by simp, h.symm⟩
      · exact .inl h
      · exact .inr ⟨x, List.mem_cons_of_mem _ h1, h2⟩
    · rintro (h | ⟨x, h1, h2⟩)
      · exact .inl (.inr h)
      · rcases List.mem_cons.1 h1 with h1 | h1
        · exact .inl (.inl (by rw [← h2, h1]))
        · exact .inr ⟨x, h1, h2⟩
theorem has_ins (e : Ev) (s : List Ev) (id : Int) : hasId (insE e s) id = (decide (e.id = id) || hasId s id) := by
  have h := insE_has (e := e) (l := s) (id := id)
  cases h1 : hasId (insE e s) id <;> cases h2 : hasId s id <;> by_cases h3 : e.id = id <;> simp_all
def roomOf (l : List Ev) : ByteArray := match l with | [] => ⟨#[]⟩ | x :: _ => x.room
theorem roomOf_zero {l : List Ev} (h : 0 < l.length) : l[0].room = roomOf l := by
  cases l with
  | nil => simp at h
  | cons x l => rfl
def keepR (l m : List Ev) : List Ev := m.filter fun x => decide (x.room = roomOf l)
def st8 (l : List Ev) (k : Nat) : List Ev := setE8 (keepR l (l.take k))
theorem st8_on {l : List Ev} {k : Nat} (hk : k < l.length) (h : l[k].room = roomOf l) : st8 l (k + 1) = insE l[k] (st8 l k) := by
  unfold st8 keepR setE8
  rw [List.take_succ_eq_append_getElem hk, List.filter_append, List.foldl_append]
  simp [h]
theorem st8_off {l : List Ev} {k : Nat} (hk : k < l.length) (h : l[k].room ≠ roomOf l) : st8 l (k + 1) = st8 l k := by
  unfold st8 keepR setE8
  rw [List.take_succ_eq_append_getElem hk, List.filter_append, List.foldl_append]
  simp [h]
theorem st8_mem {l : List Ev} {k : Nat} {x : Ev} (h : x ∈ st8 l k) : x ∈ l ∧ x.room = roomOf l := by
  have h1 := setE8_mem h
  unfold keepR at h1
  rw [List.mem_filter] at h1
  exact ⟨List.mem_of_mem_take h1.1, by simpa using h1.2⟩
theorem st8_len (l : List Ev) (k : Nat) : (st8 l k).length ≤ l.length := by
  have h1 := setE8_len (keepR l (l.take k))
  have h2 : (keepR l (l.take k)).length ≤ (l.take k).length := List.length_filter_le _ _
  rw [List.length_take] at h2
  unfold st8
  omega
theorem st8_rise (l : List Ev) (k : Nat) : Rise (idsE (st8 l k)) := setE8_rise _
theorem st8_has {l : List Ev} {k : Nat} {id : Int} : hasId (st8 l k) id = true ↔ ∃ e ∈ l.take k, e.room = roomOf l ∧ e.id = id := by
  unfold st8 setE8
  rw [setF_has]
  unfold keepR
  simp only [List.mem_filter, decide_eq_true_eq]
  constructor
  · rintro (h | ⟨e, ⟨h1, h2⟩, h3⟩)
    · simp [hasId] at h
    · exact ⟨e, h1, h2, h3⟩
  · rintro ⟨e, h1, h2, h3⟩
    exact .inr ⟨e, ⟨h1, h2⟩, h3⟩
theorem st8_offB {l : List Ev} {k : Nat} {r : ByteArray} (h0 : 0 < k) (hk : k ≤ l.length) (hr : r ≠ roomOf l) : offB (st8 l k) r = true := by
  have hl : 0 < l.length := by omega
  have h1 : hasId (st8 l k) l[0].id = true := st8_has.2 ⟨l[0], by rw [List.mem_take_iff_getElem]; exact ⟨0, by omega, rfl⟩, roomOf_zero hl, rfl⟩
  obtain ⟨e, he, _⟩ := hasId_mem.1 h1
  unfold offB
  rw [List.any_eq_true]
  exact ⟨e, he, by rw [(st8_mem he).2]; simpa using fun h => hr h.symm⟩
theorem st8_in {l : List Ev} {k : Nat} (hk : k < l.length) (h : l[k].room = roomOf l) : hasId (st8 l l.length) l[k].id = true := st8_has.2 ⟨l[k], by rw [List.take_length]; exact List.getElem_mem hk, h, rfl⟩
theorem miss_none {s : List Ev} {y : Int} (h : hasId s y = true) : missE s [y] = [] := List.eq_nil_of_length_eq_zero (missE_nil.2 h)
theorem miss_one {s : List Ev} {y : Int} (h : hasId s y = false) : missE s [y] = [y] := by
  unfold missE onceI
  simp [h, withI]
theorem put_none {s : List Ev} {e : Ev} {w : World} {v : Value} {cs : List Value} (hr : EvsR w Any v s) (he : EvR w Any cs e) (hl : s.length < 2000) (hg : ∀ x ∈ s, x.good) (hge : e.good) (hoff : offB s e.room = true) :
    Calls Tryz.prog 13 #[v, .agg cs.toArray] w (fun x w' => ∃ A c, x = .returned (.tuple #[.slice A 0 c, .int .i64 13]) ∧ Below w.heap.size w w') :=
  (SPut_any hr he hl (fun x hx => (hg x hx).cputs) hge.cputs).mono fun x w' ⟨v', h1, h2, h3⟩ => by
    rw [(put_off hoff).1] at h1
    rw [(put_off hoff).2] at h2
    obtain ⟨A, c, _, rfl, _⟩ := h2.form
    exact ⟨A, c, h1, h3⟩
theorem get_hit {s : List Ev} {y : Int} {w : World} {v : Value} (hr : EvsR w Any v s) (hl : s.length ≤ 1000000) (h : hasId s y = true) :
    Calls Tryz.prog 15 #[v, .int .i64 y] w (fun x w' => ∃ cs : List Value, x = .returned (.tuple #[.agg cs.toArray, .bool true]) ∧ cs.length = 29 ∧ (∀ u ∈ cs, u.oneCell' = true) ∧ cs[0]? = some (.int .i64 y) ∧ Below w.heap.size w w') :=
  (SGet_any (id := y) hr hl).mono fun x w' ⟨cs, h1, h2, h3⟩ => by
    obtain ⟨e, he, hid, _⟩ := getE_some h
    rw [he] at h1 h2
    exact ⟨cs, h1, h2.length, h2.one, by have := h2.gets.1; rw [this]; show some (Value.int .i64 e.id) = _; rw [hid], h3⟩
theorem get_is {s : List Ev} {y : Int} {w : World} {v : Value} (hr : EvsR w Any v s) (hl : s.length ≤ 1000000) :
    Calls Tryz.prog 15 #[v, .int .i64 y] w (fun x w' => ∃ cs : List Value, x = .returned (.tuple #[.agg cs.toArray, .bool (hasId s y)]) ∧ cs.length = 29 ∧ (∀ u ∈ cs, u.oneCell' = true) ∧ Below w.heap.size w w') :=
  (SGet_any (id := y) hr hl).mono fun x w' ⟨cs, h1, h2, h3⟩ => by
    refine ⟨cs, ?_, h2.length, h2.one, h3⟩
    rw [h1]
    cases h : hasId s y
    · rw [getE_none h]; rfl
    · obtain ⟨e, he, _⟩ := getE_some h
      rw [he]; rfl
theorem miss_lit {s : List Ev} {y : Int} {w : World} {v : Value} (hr : EvsR w Any v s) (hl : s.length ≤ 1000000) (hy : I64 y) (hg : ∀ e ∈ s, I64 e.id) :
    Calls Tryz.prog 29 #[v, .slice (some ⟨w.heap.size, 0, none⟩) 1 1] (w.alloc (.cells #[.int .i64 y] 3)) (fun x w' => ∃ A c, x = .returned (.slice A (if hasId s y = true then 0 else 1) c) ∧ Below (w.alloc (.cells #[.int .i64 y] 3)).heap.size (w.alloc (.cells #[.int .i64 y] 3)) w') :=
  (SMissing_any (ids := [y]) (c2 := 1) (hr.ext (ext_alloc (ext_refl w) (.cells #[.int .i64 y] 3))) hl (row_lit w [.int .i64 y] #[.int .i64 y] 3 rfl rfl) (by simp) (fun n hn => by simp at hn; rw [hn]; exact hy) hg).mono fun x w' ⟨v', h1, h2, h3⟩ => by
    obtain ⟨A, c, rfl, _⟩ := own_form h2
    refine ⟨A, c, ?_, h3⟩
    rw [h1]
    cases h : hasId s y
    · rw [miss_one h]; rfl
    · rw [miss_none h]; rfl
set_option maxRecDepth 100000 in
set_option maxHeartbeats 8000000 in
theorem rising_true {A : Option Addr} {c : Nat} {l : List Int} {w : World} (hr : Row w w.heap.size A (ivs l)) (hl : l.length ≤ 1000000) (h : Rise l) :
    Calls Tryz.prog 33 #[.slice A l.length c] w (Says true w) := by
  have HRI := hide (fun k (hk : k + 1 < l.length) => (List.pairwise_iff_getElem.1 h) k (k + 1) (by omega) hk (by omega))
  clear h
  go_enter Tryz.func33, Tryz.ntmps33
  go_wp2_with fail
  go_loopw [3] (fun i wr => ∃ k : Nat, (k + 1 ≤ l.length ∨ k = 0) ∧ i = .int .i64 ((k : Int) + 1) ∧ Below w.heap.size w wr) (fun i _ => l.length - (intOf i).toNat)
  case atStart => exact ⟨0, .inr rfl, rfl, ext_refl _⟩
  case round =>
  obtain ⟨k, hk, rfl, N⟩ := hrel
  by_cases hlt : k + 1 < l.length
  · obtain ⟨b, o, rfl, hbb, hc⟩ := Row.fix (hr.ext N) (ivs_get l (k + 1) hlt)
    have z1 := hc _ _ (ivs_get l (k + 1) hlt)
    have z0 := hc _ _ (ivs_get l k (by omega))
    have hlt2 := HRI.out k hlt
    obtain ⟨x, hx⟩ : ∃ x, x = l[k] := ⟨_, rfl⟩
    obtain ⟨y, hy⟩ : ∃ y, y = l[k + 1] := ⟨_, rfl⟩
    rw [← hx] at z0 hlt2
    rw [← hy] at z1 hlt2
    have t1 : decide (y ≤ x) = false := decide_eq_false (by omega)
    clear hc hx hy hlt2
    go_wp2_with fail
    go_quiet (fail)
    have Nq := N.trans ((below_drewN (ext_refl _) nq).mono N.size)
    go_wp2_with fail
    go_roundw
    case rel => exact ⟨k + 1, by omega, by go_num, Nq⟩
    case measure => (simp [intOf]; try omega)
  · go_wp2_with fail
    go_ret
    exact ⟨rfl, N⟩
theorem st8_zero (l : List Ev) : st8 l 0 = [] := by simp [st8, keepR, setE8]
set_option maxRecDepth 100000 in
set_option maxHeartbeats 8000000 in
theorem sets_any {v : Value} {l : List Ev} {id : Int} {w : World} (hr : EvsR w Any v l) (ho : ∀ e ∈ l, e.ok) (hid : I64 id) : Calls Tryz.prog 9 #[v, .int .i64 id] w (Says true w) := by
  have CG : Calls Tryz.prog 10 #[v, .int .i64 20] w (GreatV l 20 w) := R8Great_any (n := 20) hr (by decide)
  have HO := hide ho
  have HID := hide hid
  obtain ⟨A, c, css, rfl, _, _, _, hrow, ht⟩ := hr.form
  clear hr ho hid
  go_enter Tryz.func9, Tryz.ntmps9
  go_wp2_with (go_at_call 10; refine CG.mono ?_)
  rintro x w1 ⟨b, rfl, hsh, hb1⟩
  clear CG
  cases b with
  | true =>
    go_wp2_with (go_at_call 12; refine (awake_any _).mono ?_; rintro e wl ⟨rfl, hbl⟩)
    go_ret
    exact ⟨rfl, ext_trans hb1 hbl⟩
  | false =>
    obtain ⟨hl20, hshort⟩ := hsh rfl
    have HG := hide (fun e he => (hshort e he).good (HO.out e he))
    have HK := hide (fun e he => (HG.out e he).ok.1)
    clear hsh hshort
    go_wp2_with fail
    go_loopw [5, 6, 7] (fun u q i wr => ∃ k : Nat, k ≤ l.length ∧ i = .int .i64 (k : Int) ∧ q = .bool (hasId (st8 l k) id) ∧ EvsR wr Any u (st8 l k) ∧ Below w.heap.size w wr) (fun _ _ i _ => l.length - (intOf i).toNat)
    case atStart => exact ⟨0, Nat.zero_le _, rfl, by rw [st8_zero]; rfl, by rw [st8_zero]; exact EvsR.nil _ _, hb1⟩
    case round =>
    clear hb1
    obtain ⟨k, hk, rfl, rfl, RS, N⟩ := hrel
    have hsl := st8_len l k
    have HSG := hide (fun x (hx : x ∈ st8 l k) => HG.out x (st8_mem hx).1)
    have HSR := hide (fun x (hx : x ∈ st8 l k) => (st8_mem hx).2)
    have HSI := hide (st8_rise l k)
    by_cases hlt : k < l.length
    · obtain ⟨b1, o1, ce, rfl, hbb, he1, _, hc1⟩ := evs_at (hrow.ext N) (ht.imp fun _ _ h => h.ext N) k hlt
      obtain ⟨b0, o0, cs0, hA0, hb0, he0, _, hc0⟩ := evs_at (hrow.ext N) (ht.imp fun _ _ h => h.ext N) 0 (by omega)
      injection hA0 with hA0
      injection hA0 with hA1 hA2
      subst hA1 hA2
      have zz := hc0 1 _ he0.gets.2.1
      simp only [Nat.zero_mul, Nat.add_zero] at zz
      rw [roomOf_zero (by omega)] at zz
      have HZ0 := hide (fun (W : World) (h : Below wr.heap.size wr W) => (h.cell (p := ⟨b1, o1 + 1, none⟩) hbb).trans zz)
      have zk := hc1 1 _ he1.gets.2.1
      have zi := hc1 0 _ he1.gets.1
      simp only [Nat.add_zero] at zi
      have HZ1 := hide (fun (W : World) (h : Below wr.heap.size wr W) => (h.cell (p := ⟨b1, o1 + k * 29 + 1, none⟩) hbb).trans zk)
      have HZI := hide (fun (W : World) (h : Below wr.heap.size wr W) => (h.cell (p := ⟨b1, o1 + k * 29, none⟩) hbb).trans zi)
      have HLE := hide he1.length
      have HC := hide (fun (W : World) (h : Below wr.heap.size wr W) => range_below hc1 h)
      have HGX := hide (HG.out _ (List.getElem_mem hlt))
      have HON := hide (fun h : l[k].room = roomOf l => st8_on hlt h)
      have HOFF := hide (fun h : l[k].room ≠ roomOf l => st8_off hlt h)
      have HK0 : Hid (l[k].room ≠ roomOf l → 0 < k) := fun h => by
        rcases Nat.eq_zero_or_pos k with h0 | h0
        · subst h0; exact absurd (roomOf_zero (by omega)) h
        · exact h0
      have HOB := hide (fun h : l[k].room ≠ roomOf l => st8_offB (HK0.out h) hk h)
      obtain ⟨x, hx⟩ : ∃ x, x = l[k] := ⟨_, rfl⟩
      rw [← hx] at he1 HZ1 HZI HGX HON HOFF HOB
      have HE1 := hide (fun (W : World) (h : Below wr.heap.size wr W) => (he1.ext h).any)
      clear hc1 hc0 he0 he1 zz zk zi hx HK0
      have RS0 := RS
      obtain ⟨S, hS⟩ : ∃ S, S = st8 l k := ⟨_, rfl⟩
      rw [← hS] at RS HSG HSR HSI HON HOFF HOB hsl ⊢
      clear hS RS0
      obtain ⟨As, cS, _, rfl, _⟩ := RS.form
      by_cases hq : x.room = roomOf l
      · have HS := hide (HON.out hq)
        have HXR := hide (fun y (hy : y ∈ S) => (HSR.out y hy).trans hq.symm)
        have CP := put_good RS (HE1.out wr (ext_refl _)) (by omega) HSG.out HGX.out HSI.out HXR.out
        have t1 : (x.room.toList == (roomOf l).toList) = true := str_yes hq
        have HQ := hide hq
        clear hq HOFF HOB HON
        go_upto_region 9 with (first
          | refine wpList_loadS rfl (.tmp 30) rfl strcE ⟨b1, o1 + k * 29, none⟩ rfl ce HLE.out (cells_range (HC.out wr (ext_refl _))) ?_
          | (go_at_call 13; refine CP.mono ?_; rintro y w5 ⟨v8, rfl, R8, hb5⟩))
        clear CP
        have z0 := HZ0.out _ hb5
        have z1 := HZ1.out _ hb5
        obtain ⟨A8, c8, _, rfl, _⟩ := R8.form
        go_wp2_with fail
        go_quiet (fail)
        have k6 := ext_trans hb5 (below_drewN (ext_refl w5) nq)
        have R6 := R8.ext (below_drewN (ext_refl w5) nq)
        clear R8 hb5 z0 z1
        generalize w5.drewN nq = w6 at k6 R6 ⊢
        have GN := hide (fun y (hy : y ∈ insE x S) => show y.good by
          rcases insE_mem hy with rfl | h
          · exact HGX.out
          · exact HSG.out y h)
        have RN := hide (fun y (hy : y ∈ insE x S) => show y.room = x.room by
          rcases insE_mem hy with rfl | h
          · rfl
          · exact HXR.out y h)
        have hle := insE_le x S
        have CP := put_good R6 (HE1.out w6 k6) (by omega) GN.out HGX.out (insE_rise HSI.out) RN.out
        rw [insE_again] at CP
        go_upto_region 13 with (first
          | refine wpList_loadS rfl (.tmp 56) rfl strcE ⟨b1, o1 + k * 29, none⟩ rfl ce HLE.out (cells_range (HC.out w6 k6)) ?_
          | (go_at_call 13; refine CP.mono ?_; rintro y w7 ⟨v10, rfl, R10, hb7⟩))
        clear CP
        have k7 := ext_trans k6 hb7
        have R7 := R6.ext hb7
        have CS := ssame_true R10 R7 (by omega) (fun y hy => (GN.out y hy).fitE)
        have CI := hide (fun (W : World) (h : Below w7.heap.size w7 W) => SIds_any (R7.ext h) (show (insE x S).length ≤ 1000000 by omega))
        have HRI := hide (insE_rise (e := x) HSI.out)
        have hgt : decide ((S.length : Int) + 1 < ((insE x S).length : Int)) = false := decide_eq_false (by omega)
        have hgt2 : ¬ ((S.length : Int) + 1 < ((insE x S).length : Int)) := by omega
        have hil : (idsE (insE x S)).length ≤ 1000000 := by rw [idsE_length]; omega
        clear R10 hb7 R6 k6
        go_upto_region 16 with (first
          | (go_at_call 14; refine CS.mono ?_; rintro y w8 ⟨rfl, hb8⟩)
          | (go_at_call 27; refine (CI.out _ hb8).mono ?_; rintro y w9 ⟨v9, rfl, o9, hb9⟩; obtain ⟨A9, c9, rfl, _⟩ := own_form o9; have CR := rising_true (c := c9) (Row.own o9) hil HRI.out)
          | (go_at_call 33; refine CR.mono ?_; rintro y w10 ⟨rfl, hb10⟩))
        have k8 := ext_trans (ext_trans hb8 hb9) hb10
        have k10 := ext_trans k7 k8
        have R11 := R7.ext k8
        have N10 := ext_trans N k10
        have zi := HZI.out _ k10
        have hh := has_ins x S id
        clear CS CI CR o9 hb8 hb9 hb10 R7 k7 k8 hgt hgt2 RS
        obtain ⟨q, hqq⟩ : ∃ q, q = hasId S id := ⟨_, rfl⟩
        rw [← hqq] at hh ⊢
        rw [← HS.out] at hh
        clear hqq
        cases q with
        | true =>
          go_wp2_with fail
          go_roundw
          case rel => exact ⟨k + 1, by omega, by go_num, by rw [hh]; simp, by rw [HS.out]; exact R11, N10⟩
          case measure => (simp [intOf]; try omega)
        | false =>
          by_cases hxi : x.id = id
          · have t3 : (x.id == id) = true := by simpa using hxi
            have hh2 : hasId (st8 l (k + 1)) id = true := by rw [hh]; simp [hxi]
            clear hh hxi
            go_wp2_with fail
            go_roundw
            case rel => exact ⟨k + 1, by omega, by go_num, by rw [hh2], by rw [HS.out]; exact R11, N10⟩
            case measure => (simp [intOf]; try omega)
          · have t3 : (x.id == id) = false := by simpa using hxi
            have hh2 : hasId (st8 l (k + 1)) id = false := by rw [hh]; simp [hxi]
            clear hh hxi
            go_wp2_with fail
            go_roundw
            case rel => exact ⟨k + 1, by omega, by go_num, by rw [hh2], by rw [HS.out]; exact R11, N10⟩
            case measure => (simp [intOf]; try omega)
      · have HS := hide (HOFF.out hq)
        have CP := put_none RS (HE1.out wr (ext_refl _)) (by omega) HSG.out HGX.out (HOB.out hq)
        have t1 : (x.room.toList == (roomOf l).toList) = false := str_ne hq
        clear hq HOFF HOB HON
        go_upto_region 9 with (first
          | refine wpList_loadS rfl (.tmp 30) rfl strcE ⟨b1, o1 + k * 29, none⟩ rfl ce HLE.out (cells_range (HC.out wr (ext_refl _))) ?_
          | (go_at_call 13; refine CP.mono ?_; rintro y w5 ⟨A8, c8, rfl, hb5⟩))
        clear CP
        have z0 := HZ0.out _ hb5
        have z1 := HZ1.out _ hb5
        go_wp2_with fail
        go_quiet (fail)
        have k6 := ext_trans hb5 (below_drewN (ext_refl w5) nq)
        have N6 := ext_trans N k6
        have R6 := RS.ext k6
        clear hb5 z0 z1 k6 RS
        rw [← HS.out] at R6 ⊢
        go_wp2_with fail
        go_roundw
        case rel => exact ⟨k + 1, by omega, by go_num, rfl, R6, N6⟩
        case measure => (simp [intOf]; try omega)
    · obtain rfl : k = l.length := by omega
      have HIN0 := hide (fun k (hk : k < l.length) (h : l[k].room = roomOf l) => st8_in hk h)
      have HSI64 := hide (fun e he => (HSG.out e he).ok.1)
      obtain ⟨S, hS⟩ : ∃ S, S = st8 l l.length := ⟨_, rfl⟩
      rw [← hS] at RS HSI64 HIN0 hsl ⊢
      clear hS HSR HSI HSG
      obtain ⟨As, cS, _, rfl, _⟩ := RS.form
      obtain ⟨W2, hW2⟩ : ∃ W, W = wr := ⟨_, rfl⟩
      subst hW2
      go_wp2_with fail
      go_loopw [12] (fun i wr => ∃ k : Nat, k ≤ l.length ∧ i = .int .i64 (k : Int) ∧ Below W2.heap.size W2 wr) (fun i _ => l.length - (intOf i).toNat)
      case atStart => exact ⟨0, Nat.zero_le _, rfl, ext_refl _⟩
      case round =>
      obtain ⟨k, hk, rfl, K⟩ := hrel
      have NK := ext_trans N K
      by_cases hlt : k < l.length
      · obtain ⟨b1, o1, ce, rfl, hbb, he1, _, hc1⟩ := evs_at (hrow.ext NK) (ht.imp fun _ _ h => h.ext NK) k hlt
        obtain ⟨b0, o0, cs0, hA0, hb0, he0, _, hc0⟩ := evs_at (hrow.ext NK) (ht.imp fun _ _ h => h.ext NK) 0 (by omega)
        injection hA0 with hA0
        injection hA0 with hA1 hA2
        subst hA1 hA2
        have zz := hc0 1 _ he0.gets.2.1
        simp only [Nat.zero_mul, Nat.add_zero] at zz
        rw [roomOf_zero (by omega)] at zz
        have zk := hc1 1 _ he1.gets.2.1
        have zi := hc1 0 _ he1.gets.1
        simp only [Nat.add_zero] at zi
        have HIN := hide (HIN0.out k hlt)
        have HIX := hide (HK.out _ (List.getElem_mem hlt))
        obtain ⟨x, hx⟩ : ∃ x, x = l[k] := ⟨_, rfl⟩
        rw [← hx] at zk zi HIN HIX
        clear hc1 hc0 he0 he1 hx
        by_cases hq : x.room = roomOf l
        · have HIN := hide (HIN.out hq)
          rw [← hq] at zz
          have HZ0 := hide (fun (W : World) (h : Below wr.heap.size wr W) => (h.cell (p := ⟨b1, o1 + 1, none⟩) hbb).trans zz)
          have HZ1 := hide (fun (W : World) (h : Below wr.heap.size wr W) => (h.cell (p := ⟨b1, o1 + k * 29 + 1, none⟩) hbb).trans zk)
          have HZI := hide (fun (W : World) (h : Below wr.heap.size wr W) => (h.cell (p := ⟨b1, o1 + k * 29, none⟩) hbb).trans zi)
          have CG := get_hit (RS.ext K) (by omega) HIN.out
          clear zz zk
          go_upto_region 21 with (first
            | (go_at_call 15; refine CG.mono ?_; rintro y w5 ⟨cg, rfl, hcl, hco, hc0, hb5⟩; have HCL := hide hcl; have HCO := hide hco)
            | refine wpList_newS rfl rfl strcE rfl (.tmp 13) (.tmp 112) rfl rfl rfl cg.toArray rfl (by simpa using HCL.out) (by simpa using HCO.out) ?_)
          have k6 := ext_trans hb5 (ext_alloc (ext_refl w5) (.cells cg.toArray 35))
          have z13 := box_at (heap_alloc_new w5 (.cells cg.toArray 35)) hc0
          have hbx : w5.heap.size < (w5.alloc (.cells cg.toArray 35)).heap.size := by simp
          have HZ13 := hide (fun (W : World) (h : Below (w5.alloc (.cells cg.toArray 35)).heap.size (w5.alloc (.cells cg.toArray 35)) W) => (h.cell (p := ⟨w5.heap.size, 0, none⟩) hbx).trans z13)
          have HZ0 := hide (fun (W : World) (h : Below (w5.alloc (.cells cg.toArray 35)).heap.size (w5.alloc (.cells cg.toArray 35)) W) => HZ0.out W (ext_trans k6 h))
          have HZ1 := hide (fun (W : World) (h : Below (w5.alloc (.cells cg.toArray 35)).heap.size (w5.alloc (.cells cg.toArray 35)) W) => HZ1.out W (ext_trans k6 h))
          have HZI := hide (fun (W : World) (h : Below (w5.alloc (.cells cg.toArray 35)).heap.size (w5.alloc (.cells cg.toArray 35)) W) => HZI.out W (ext_trans k6 h))
          have KK := ext_trans K k6
          clear zi z13 hbx hb5 hc0 hcl hco k6 CG HCL HCO
          generalize w5.alloc (.cells cg.toArray 35) = w6 at HZ13 HZ0 HZ1 HZI KK ⊢
          generalize w5.heap.size = g13 at HZ13 ⊢
          have i0 : (0 : Int) ≤ (k : Int) := by omega
          have i1 : (k : Int) < (l.length : Int) := by omega
          have hne : l ≠ [] := by rintro rfl; simp at hlt
          go_wp2_with fail
          refine wp_region_now (by kernel_rfl) ?_
          intro Y hY
          have T0 : Below Y.heap.size Y Y := ext_refl Y
          
          refine wpAnyP_take (i := 0) rfl (by kernel_rfl) (by kernel_rfl) (by kernel_rfl) (by kernel_rfl) (fun _ _ _ h => h) (yieldsIf_run (.slice (some ⟨b1, o1, none⟩) l.length c) rfl (fun w' => by go_simp)) T0 ?_
          refine wpAnyP_take (i := 1) rfl (by kernel_rfl) (by kernel_rfl) (by kernel_rfl) (by kernel_rfl) (fun _ _ _ h => h) (yieldsIf_run (.int .i64 (k : Int)) rfl (fun w' => by go_simp)) T0 ?_
          refine wpAnyP_take (i := 2) rfl (by kernel_rfl) (by kernel_rfl) (by kernel_rfl) (by kernel_rfl) (fun _ _ _ h => h) (yieldsIf_run (.pointer (some ⟨b1, o1 + k * 29, none⟩)) rfl (fun w' => by go_simp)) T0 ?_
          go_simp
          refine wpAnyP_take (i := 3) rfl (by kernel_rfl) (by kernel_rfl) (by kernel_rfl) (by kernel_rfl) (fun _ _ _ h => h) (yieldsIf_run (.pointer (some ⟨b1, o1 + k * 29 + 1, none⟩)) rfl (fun w' => by go_simp)) T0 ?_
          refine wpAnyP_take (i := 4) rfl (by kernel_rfl) (by kernel_rfl) (by kernel_rfl) (by kernel_rfl) (fun _ _ _ h => h) (yieldsIf_load rfl rfl Tryz.underlying9 rfl rfl (fun w2 hT => HZ1.out w2 (ext_trans hY hT))) T0 ?_
          refine wpAnyP_take (i := 5) rfl (by kernel_rfl) (by kernel_rfl) (by kernel_rfl) (by kernel_rfl) (fun _ _ _ h => h) (yieldsIf_run (.slice (some ⟨b1, o1, none⟩) l.length c) rfl (fun w' => by go_simp)) T0 ?_
          go_simp
          refine wpAnyP_take (i := 6) rfl (by kernel_rfl) (by kernel_rfl) (by kernel_rfl) (by kernel_rfl) (fun _ _ _ h => h) (yieldsIf_run (.pointer (some ⟨b1, o1, none⟩)) rfl (fun w' => by go_simp)) T0 ?_
          refine wpAnyP_take (i := 7) rfl (by kernel_rfl) (by kernel_rfl) (by kernel_rfl) (by kernel_rfl) (fun _ _ _ h => h) (yieldsIf_run (.pointer (some ⟨b1, o1 + 1, none⟩)) rfl (fun w' => by go_simp)) T0 ?_
          refine wpAnyP_take (i := 8) rfl (by kernel_rfl) (by kernel_rfl) (by kernel_rfl) (by kernel_rfl) (fun _ _ _ h => h) (yieldsIf_load rfl rfl Tryz.underlying9 rfl rfl (fun w2 hT => HZ0.out w2 (ext_trans hY hT))) T0 ?_
          go_simp
          refine wpAnyP_take (i := 9) rfl (by kernel_rfl) (by kernel_rfl) (by kernel_rfl) (by kernel_rfl) (fun _ _ _ h => h) (yieldsIf_run (.bool true) rfl (fun w' => by go_simp)) T0 ?_
          refine wpAnyP_take (i := 10) rfl (by kernel_rfl) (by kernel_rfl) (by kernel_rfl) (by kernel_rfl) (fun _ _ _ h => h) (yieldsIf_run (.bool true) rfl (fun w' => by go_simp)) T0 ?_
          refine wpAnyP_take (i := 11) rfl (by kernel_rfl) (by kernel_rfl) (by kernel_rfl) (by kernel_rfl) (fun _ _ _ h => h) (yieldsIf_run (.bool true) rfl (fun w' => by go_simp)) T0 ?_
          go_simp
          refine wpAnyP_take (i := 12) rfl (by kernel_rfl) (by kernel_rfl) (by kernel_rfl) (by kernel_rfl) (fun _ _ _ h => h) (yieldsIf_run (.bool false) rfl (fun w' => by go_simp)) T0 ?_
          refine wpAnyP_take (i := 13) rfl (by kernel_rfl) (by kernel_rfl) (by kernel_rfl) (by kernel_rfl) (fun _ _ _ h => h) (yieldsIf_run (.bool false) rfl (fun w' => by go_simp)) T0 ?_
          refine wpAnyP_take (i := 14) rfl (by kernel_rfl) (by kernel_rfl) (by kernel_rfl) (by kernel_rfl) (fun _ _ _ h => h) (yieldsIf_run (.pointer (some ⟨g13, 0, none⟩)) rfl (fun w' => by go_simp)) T0 ?_
          go_simp
          refine wpAnyP_take (i := 15) rfl (by kernel_rfl) (by kernel_rfl) (by kernel_rfl) (by kernel_rfl) (fun _ _ _ h => h) (yieldsIf_load rfl rfl Tryz.underlying3 rfl rfl (fun w2 hT => HZ13.out w2 (ext_trans hY hT))) T0 ?_
          refine wpAnyP_take (i := 16) rfl (by kernel_rfl) (by kernel_rfl) (by kernel_rfl) (by kernel_rfl) (fun _ _ _ h => h) (yieldsIf_run (.slice (some ⟨b1, o1, none⟩) l.length c) rfl (fun w' => by go_simp)) T0 ?_
          refine wpAnyP_take (i := 17) rfl (by kernel_rfl) (by kernel_rfl) (by kernel_rfl) (by kernel_rfl) (fun _ _ _ h => h) (yieldsIf_run (.int .i64 (k : Int)) rfl (fun w' => by go_simp)) T0 ?_
          go_simp
          refine wpAnyP_take (i := 18) rfl (by kernel_rfl) (by kernel_rfl) (by kernel_rfl) (by kernel_rfl) (fun _ _ _ h => h) (yieldsIf_run (.pointer (some ⟨b1, o1 + k * 29, none⟩)) rfl (fun w' => by go_simp)) T0 ?_
          refine wpAnyP_take (i := 19) rfl (by kernel_rfl) (by kernel_rfl) (by kernel_rfl) (by kernel_rfl) (fun _ _ _ h => h) (yieldsIf_run (.pointer (some ⟨b1, o1 + k * 29, none⟩)) rfl (fun w' => by go_simp)) T0 ?_
          refine wpAnyP_take (i := 20) rfl (by kernel_rfl) (by kernel_rfl) (by kernel_rfl) (by kernel_rfl) (fun _ _ _ h => h) (yieldsIf_load rfl rfl Tryz.underlying3 rfl rfl (fun w2 hT => HZI.out w2 (ext_trans hY hT))) T0 ?_
          go_simp
          refine wpAnyP_take (i := 21) rfl (by kernel_rfl) (by kernel_rfl) (by kernel_rfl) (by kernel_rfl) (fun _ _ _ h => h) (yieldsIf_run (.bool false) rfl (fun w' => by go_simp)) T0 ?_
          refine wpAnyP_take (i := 22) rfl (by kernel_rfl) (by kernel_rfl) (by kernel_rfl) (by kernel_rfl) (fun _ _ _ h => h) (yieldsIf_run (.bool false) rfl (fun w' => by go_simp)) T0 ?_
          refine wpAnyP_take (i := 23) rfl (by kernel_rfl) (by kernel_rfl) (by kernel_rfl) (by kernel_rfl) (fun _ _ _ h => h) (yieldsIf_run (.bool false) rfl (fun w' => by go_simp)) T0 ?_
          go_simp
          refine wpAnyP_take (i := 24) rfl (by kernel_rfl) (by kernel_rfl) (by kernel_rfl) (by kernel_rfl) (fun _ _ _ h => h) (yieldsIf_run (.slice As S.length cS) rfl (fun w' => by go_simp)) T0 ?_
          refine wpAnyP_take (i := 25) rfl (by kernel_rfl) (by kernel_rfl) (by kernel_rfl) (by kernel_rfl) (fun _ _ _ h => h) (yieldsIf_run (.slice (some ⟨b1, o1, none⟩) l.length c) rfl (fun w' => by go_simp)) T0 ?_
          refine wpAnyP_take (i := 26) rfl (by kernel_rfl) (by kernel_rfl) (by kernel_rfl) (by kernel_rfl) (fun _ _ _ h => h) (yieldsIf_run (.int .i64 (k : Int)) rfl (fun w' => by go_simp)) T0 ?_
          go_simp
          refine wpAnyP_take (i := 27) rfl (by kernel_rfl) (by kernel_rfl) (by kernel_rfl) (by kernel_rfl) (fun _ _ _ h => h) (yieldsIf_run (.pointer (some ⟨b1, o1 + k * 29, none⟩)) rfl (fun w' => by go_simp)) T0 ?_
          refine wpAnyP_take (i := 28) rfl (by kernel_rfl) (by kernel_rfl) (by kernel_rfl) (by kernel_rfl) (fun _ _ _ h => h) (yieldsIf_run (.pointer (some ⟨b1, o1 + k * 29, none⟩)) rfl (fun w' => by go_simp)) T0 ?_
          refine wpAnyP_take (i := 29) rfl (by kernel_rfl) (by kernel_rfl) (by kernel_rfl) (by kernel_rfl) (fun _ _ _ h => h) (yieldsIf_load rfl rfl Tryz.underlying3 rfl rfl (fun w2 hT => HZI.out w2 (ext_trans hY hT))) T0 ?_
          go_simp
          go_simp
          refine wpAnyP_oneQ (i := 30) (by kernel_rfl) rfl ?_
          go_wp2_with fail
          have T1 := ext_trans T0 (ext_alloc (ext_refl Y) (.cells #[.int .i64 x.id] 3))
          refine nextQ T1 ?_
          go_simp
          go_simp
          refine wpAnyP_oneQ (i := 31) (by kernel_rfl) rfl ?_
          go_wp2_with fail
          refine (miss_lit (RS.ext (ext_trans KK (ext_trans hY T0))) (by omega) HIX.out HSI64.out).mono ?_
          rintro e c2 ⟨A9, c9, rfl, hc2⟩
          rw [if_pos HIN.out]
          have T2 := ext_trans T1 hc2
          go_wp2_with fail
          refine nextQ T2 ?_
          go_simp
          refine wpAnyP_take (i := 32) rfl (by kernel_rfl) (by kernel_rfl) (by kernel_rfl) (by kernel_rfl) (fun _ _ _ h => h) (yieldsIf_run (.int .i64 0) rfl (fun w' => by go_simp)) T2 ?_
          refine wpAnyP_take (i := 33) rfl (by kernel_rfl) (by kernel_rfl) (by kernel_rfl) (by kernel_rfl) (fun _ _ _ h => h) (yieldsIf_run (.bool false) rfl (fun w' => by go_simp)) T2 ?_
          refine wpAnyP_take (i := 34) rfl (by kernel_rfl) (by kernel_rfl) (by kernel_rfl) (by kernel_rfl) (fun _ _ _ h => h) (yieldsIf_run (.bool false) rfl (fun w' => by go_simp)) T2 ?_
          go_simp
          refine wpAnyP_take (i := 35) rfl (by kernel_rfl) (by kernel_rfl) (by kernel_rfl) (by kernel_rfl) (fun _ _ _ h => h) (yieldsIf_run (.bool false) rfl (fun w' => by go_simp)) T2 ?_
          go_simp
          refine wpAnyP_done (by kernel_rfl) ?_
          have KF := ext_trans KK (ext_trans hY T2)
          go_wp2_with fail
          go_roundw
          case rel => exact ⟨k + 1, by omega, by go_num, KF⟩
          case measure => (simp [intOf]; try omega)
        · have t1 : (x.room.toList == (roomOf l).toList) = false := str_ne hq
          have CG := get_is (y := x.id) (RS.ext K) (by omega)
          obtain ⟨q, hqq⟩ : ∃ q, q = hasId S x.id := ⟨_, rfl⟩
          rw [← hqq] at CG
          clear hqq hq HIN
          go_upto_region 21 with (first
            | (go_at_call 15; refine CG.mono ?_; rintro y w5 ⟨cg, rfl, hcl, hco, hb5⟩; have HCL := hide hcl; have HCO := hide hco)
            | refine wpList_newS rfl rfl strcE rfl (.tmp 13) (.tmp 112) rfl rfl rfl cg.toArray rfl (by simpa using HCL.out) (by simpa using HCO.out) ?_)
          have k6 := ext_trans hb5 (ext_alloc (ext_refl w5) (.cells cg.toArray 35))
          have z0 := (k6.cell (p := ⟨b1, o1 + 1, none⟩) hbb).trans zz
          have z1 := (k6.cell (p := ⟨b1, o1 + k * 29 + 1, none⟩) hbb).trans zk
          clear zz zk zi hb5 hcl hco CG HCL HCO
          generalize w5.alloc (.cells cg.toArray 35) = w6 at k6 z0 z1 ⊢
          go_wp2_with fail
          go_quiet (fail)
          have KF := ext_trans (ext_trans K k6) (below_drewN (ext_refl w6) nq)
          go_wp2_with fail
          go_roundw
          case rel => exact ⟨k + 1, by omega, by go_num, KF⟩
          case measure => (simp [intOf]; try omega)
      · obtain rfl : k = l.length := by omega
        have CG := get_is (y := id) (RS.ext K) (by omega)
        have CM := hide (fun (W : World) (h : Below W2.heap.size W2 W) => miss_lit (y := id) (RS.ext h) (show S.length ≤ 1000000 by omega) HID.out HSI64.out)
        obtain ⟨q, hqq⟩ : ∃ q, q = hasId S id := ⟨_, rfl⟩
        rw [← hqq] at CG CM ⊢
        clear hqq
        go_upto_region 24 with (first
          | (go_at_call 15; refine CG.mono ?_; rintro y w5 ⟨cg, rfl, hcl, hco, hb5⟩; have HCL := hide hcl; have HCO := hide hco)
          | refine wpList_newS rfl rfl strcE rfl (.tmp 15) (.tmp 154) rfl rfl rfl cg.toArray rfl (by simpa using HCL.out) (by simpa using HCO.out) ?_)
        have K6 := ext_trans (ext_trans K hb5) (ext_alloc (ext_refl w5) (.cells cg.toArray 35))
        have CM := CM.out _ K6
        clear hb5 hcl hco CG HCL HCO
        generalize w5.alloc (.cells cg.toArray 35) = w6 at K6 CM ⊢
        have K7 := ext_trans K6 (ext_alloc (ext_refl w6) (.cells #[.int .i64 id] 3))
        cases q
        all_goals
          go_wp2_with (first
            | (go_at_call 29; refine CM.mono ?_; rintro y w8 ⟨A8, c8, rfl, hb8⟩; have K8 := ext_trans K7 hb8)
            | (go_at_call 12; refine (awake_any _).mono ?_; rintro e wl ⟨rfl, hbl⟩))
          go_ret
          exact ⟨rfl, ext_trans N (ext_trans K8 hbl)⟩
end Go.Proofs.YtmlnmcoophnlaaaGreat
