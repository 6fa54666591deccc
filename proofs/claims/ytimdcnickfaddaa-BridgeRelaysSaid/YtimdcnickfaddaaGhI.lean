/-
  Both Binds: what they hand back; bridge.Bind.
-/
import Derived.Test.YtimdcnickfaddaaGhH
set_option linter.unusedVariables false
set_option linter.unusedSimpArgs false
namespace Go.Proofs.Ytimdcnickfaddaa
open Go.RowKit Go.Maps
open Classical
section
attribute [local go_sem] Addr.add_mid
def Tells (w : World) (v : Value) (l : List Gh) : Prop := ∃ A c, v = .slice A l.length c ∧ Row w w.heap.size A (ghs l) ∧ l.length ≤ c ∧ c ≤ maxLen
def newG (net name srv : ByteArray) : Gh := ⟨net, name, str (ghostL net.data.toList name.data.toList srv.data.toList)⟩
theorem newG_id (net name srv : ByteArray) : (newG net name srv).id = idOf net name := rfl
/-- what Bind hands back -/
def BindR (w : World) (l : List Gh) (net name srv : ByteArray) (e : Ending) (w' : World) : Prop :=
  ∃ v u, e = .returned (.tuple #[v, .string u, .int .i64 (bindE l (newG net name srv) srv.data.toList)]) ∧ Below w.heap.size w w' ∧
    (bindE l (newG net name srv) srv.data.toList = 0 → Tells w' v (bindG l (newG net name srv)) ∧ u = bindU l (newG net name srv)) ∧
    (bindE l (newG net name srv) srv.data.toList ≠ 0 → v = .slice none 0 0 ∧ u = ⟨#[]⟩)
theorem bindE_err {l : List Gh} {net name srv : ByteArray} {e : Int} (h : userE net.data.toList name.data.toList srv.data.toList = e) (h0 : e ≠ 0) : bindE l (newG net name srv) srv.data.toList = e := by
  have h' : userE (newG net name srv).net.toList (newG net name srv).name.toList srv.data.toList = e := by
    show userE net.toList name.toList _ = e
    rw [bt, bt]; exact h
  unfold bindE
  rw [if_pos (by rw [h']; exact h0), h']
theorem bindE_ok {l : List Gh} {net name srv : ByteArray} (h : userE net.data.toList name.data.toList srv.data.toList = 0) : bindE l (newG net name srv) srv.data.toList = match findG (idOf net name) l with | some _ => 0 | none => if 200 ≤ l.length then 29 else 0 := by
  have h' : userE (newG net name srv).net.toList (newG net name srv).name.toList srv.data.toList = 0 := by
    show userE net.toList name.toList _ = 0
    rw [bt, bt]; exact h
  unfold bindE
  rw [if_neg (by rw [h']; simp)]
  rfl
theorem bindR_bad {w w' : World} {l : List Gh} {net name srv : ByteArray} {e : Int} (h : bindE l (newG net name srv) srv.data.toList = e) (h0 : e ≠ 0) (hb : Below w.heap.size w w') : BindR w l net name srv (.returned (.tuple #[.slice none 0 0, .string ⟨#[]⟩, .int .i64 e])) w' :=
  ⟨_, _, by rw [h], hb, fun h1 => absurd (h.symm.trans h1) h0, fun _ => ⟨rfl, rfl⟩⟩
theorem bindR_has {w w' : World} {l : List Gh} {net name srv : ByteArray} {g : Gh} {v : Value} (hu : userE net.data.toList name.data.toList srv.data.toList = 0) (hf : findG (idOf net name) l = some g) (ht : Tells w' v l) (hb : Below w.heap.size w w') : BindR w l net name srv (.returned (.tuple #[v, .string g.user, .int .i64 0])) w' := by
  have he : bindE l (newG net name srv) srv.data.toList = 0 := by rw [bindE_ok hu, hf]
  refine ⟨_, _, by rw [he], hb, fun _ => ⟨?_, ?_⟩, fun h => absurd he h⟩
  · unfold bindG; rw [newG_id, hf]; exact ht
  · unfold bindU; rw [newG_id, hf]
theorem bindR_new {w w' : World} {l : List Gh} {net name srv : ByteArray} {v : Value} (hu : userE net.data.toList name.data.toList srv.data.toList = 0) (hf : findG (idOf net name) l = none) (hl : ¬ 200 ≤ l.length) (ht : Tells w' v (putG l (newG net name srv))) (hb : Below w.heap.size w w') : BindR w l net name srv (.returned (.tuple #[v, .string (newG net name srv).user, .int .i64 0])) w' := by
  have he : bindE l (newG net name srv) srv.data.toList = 0 := by rw [bindE_ok hu, hf]; exact if_neg hl
  refine ⟨_, _, by rw [he], hb, fun _ => ⟨?_, ?_⟩, fun h => absurd he h⟩
  · unfold bindG; rw [newG_id, hf]; exact ht
  · unfold bindU; rw [newG_id, hf]
theorem ghs_take (l : List Gh) : ∀ k, (ghs l).take (k * 3) = ghs (l.take k) := by
  induction l with
  | nil => intro k; simp [ghs]
  | cons g l ih =>
    intro k
    cases k with
    | zero => simp [ghs]
    | succ k =>
      have e : (k + 1) * 3 = k * 3 + 3 := by omega
      rw [e]
      show List.take (k * 3 + 3) (.string g.net :: .string g.name :: .string g.user :: ghs l) = .string g.net :: .string g.name :: .string g.user :: ghs (l.take k)
      rw [← ih]; rfl
theorem ghs_drop (l : List Gh) : ∀ k, (ghs l).drop (k * 3) = ghs (l.drop k) := by
  induction l with
  | nil => intro k; simp [ghs]
  | cons g l ih =>
    intro k
    cases k with
    | zero => simp [ghs]
    | succ k =>
      have e : (k + 1) * 3 = k * 3 + 3 := by omega
      rw [e]
      show List.drop (k * 3 + 3) (.string g.net :: .string g.name :: .string g.user :: ghs l) = ghs (l.drop k)
      rw [← ih]; rfl
theorem ghs_none {w : World} {B : Nat} {A : Option Addr} {l : List Gh} (hr : Row w B A (ghs l)) (h : A = none) : l.length = 0 := by
  cases l with
  | nil => rfl
  | cons g l => obtain ⟨ad, h1, _⟩ := hr (by simp [ghs, gc]); rw [h] at h1; cases h1
theorem atC_at {a : Ident} : ∀ {l : List Gh} {k : Nat} (hk : k ≤ l.length), (∀ g ∈ l.take k, idLt a g.id = false) → (∀ h : k < l.length, idLt a l[k].id = true) → atC a l = k
  | [], k, hk, _, _ => by simp at hk; rw [hk]; rfl
  | g :: l, 0, _, _, h2 => by
    have : idLt a g.id = true := h2 (by simp)
    unfold atC; rw [if_neg (by rw [this]; simp)]
  | g :: l, k + 1, hk, h1, h2 => by
    have h0 : idLt a g.id = false := h1 g (by simp)
    have ih := atC_at (a := a) (l := l) (k := k) (by simpa using hk) (fun x hx => h1 x (by simp [hx])) (fun h => h2 (by simpa using h))
    unfold atC; rw [if_pos h0, ih]
theorem atR_at {a : Ident} : ∀ {l : List Gh} {k : Nat} (hk : k ≤ l.length), (∀ g ∈ l.take k, idLt g.id a = true) → (∀ h : k < l.length, idLt l[k].id a = false) → atR a l = k
  | [], k, hk, _, _ => by simp at hk; rw [hk]; rfl
  | g :: l, 0, _, _, h2 => by
    have : idLt g.id a = false := h2 (by simp)
    unfold atR; rw [if_neg (by rw [this]; simp)]
  | g :: l, k + 1, hk, h1, h2 => by
    have h0 : idLt g.id a = true := h1 g (by simp)
    have ih := atR_at (a := a) (l := l) (k := k) (by simpa using hk) (fun x hx => h1 x (by simp [hx])) (fun h => h2 (by simpa using h))
    unfold atR; rw [if_pos h0, ih]
theorem put_at {l : List Gh} {x : Gh} {k : Nat} (h : atR x.id l = k) : ghs (l.take k) ++ gc x ++ ghs (l.drop k) = ghs (putG l x) := by
  unfold putG
  rw [h]
  simp [ghs]
set_option maxRecDepth 100000 in
set_option maxHeartbeats 4000000 in
theorem br_Bind (A : Option Addr) (c : Nat) (l : List Gh) (net name srv : ByteArray) (w : World) (hr : Row w w.heap.size A (ghs l)) (hl : l.length ≤ 1000) (hs : SmallG 1000 l) (hcap : l.length ≤ c) (hcm : c ≤ maxLen) (h1 : net.size ≤ 1000) (h2 : name.size ≤ 1000) (h3 : srv.size ≤ 1000) :
    Calls Try.prog 17 #[.slice A l.length c, .string net, .string name, .string srv] w (BindR w l net name srv) := by
  have CU := fun W => br_User net name srv W h1 h2 h3
  by_cases he : userE net.data.toList name.data.toList srv.data.toList = 0
  case neg =>
    obtain ⟨er, her⟩ : ∃ er, userE net.data.toList name.data.toList srv.data.toList = er := ⟨_, rfl⟩
    rw [her] at he
    simp only [userV_bad her he] at CU
    have HB := hide (bindE_err (l := l) her he)
    have HE := hide he
    have he' : (er != 0) = true := by simpa using he
    clear her he
    go_enter Try.func17, Try.ntmps17
    go_wp2_with (go_at_call 11; refine (CU _).mono ?_; rintro e w1 ⟨rfl, hb1⟩)
    go_ret3
    exact bindR_bad HB.out HE.out hb1
  obtain ⟨gu, hgu⟩ : ∃ gu, (newG net name srv).user = gu := ⟨_, rfl⟩
  have hV : userV net name srv = .tuple #[.string gu, .int .i64 0] := by
    unfold userV userS
    rw [he, if_pos rfl, ← hgu]; rfl
  simp only [hV] at CU
  have HGU := hide hgu
  have HE := hide he
  clear hV hgu he
  go_enter Try.func17, Try.ntmps17
  go_upto_region 4 with (go_at_call 11; refine (CU _).mono ?_; rintro e w1 ⟨rfl, hb1⟩)
  go_upto_region 5 with fail
  have B13 := heap_alloc_new w1 (.cells #[.string net, .string name] 70)
  have hbX := ext_alloc hb1 (.cells #[.string net, .string name] 70)
  generalize (w1.alloc (.cells #[.string net, .string name] 70)) = X at B13 hbX ⊢
  obtain ⟨g13, hg13⟩ : ∃ g13, w1.heap.size = g13 := ⟨_, rfl⟩
  rw [hg13] at B13 ⊢
  clear hg13 hb1 CU
  refine wp_region_phase (fun w' => w'.heap[g13]? = some (.cells #[.string net, .string name] 70 (0, 0))) [] (by kernel_rfl) ?_
  have T1 : ({ X with drawn := X.drawn + 1 } : World).heap[g13]? = some (.cells #[.string net, .string name] 70 (0, 0)) := B13
  have hbY : Below _ _ { X with drawn := X.drawn + 1 } := ext_drew hbX
  generalize ({ X with drawn := X.drawn + 1 } : World) = Y at T1 hbY ⊢
  clear B13 hbX
  refine wpAnyP_take (i := 0) rfl (by kernel_rfl) (by kernel_rfl) (by kernel_rfl) (by kernel_rfl) (fun _ _ _ h => h) (yieldsIf_run (.slice A l.length c) rfl (fun w' => by go_simp)) T1 ?_
  refine wpAnyP_take (i := 2) rfl (by kernel_rfl) (by kernel_rfl) (by kernel_rfl) (by kernel_rfl) (fun _ _ _ h => h) (yieldsIf_loadS rfl (.tmp 13) rfl strcI ⟨g13, 0, none⟩ rfl [.string net, .string name] rfl (fun w' hT => box_all hT)) T1 ?_
  go_simp
  refine wpAnyP_oneQ (i := 1) (by kernel_rfl) rfl ?_
  go_wp2_with fail
  refine (br_users A c l _ (hr.ext hbY) hl hs).mono ?_
  rintro e Z ⟨b, rfl, hm, hbz0⟩
  have T2 := box_below T1 hbz0
  have hbz := ext_trans hbY hbz0
  have hlk := hm.look net name (by unfold maxLen; omega) (by unfold maxLen; omega)
  clear T1 hbY hbz0
  have HM := hide hm
  clear hm
  go_wp2_with fail
  refine nextQ T2 ?_
  go_simp
  cases hf : findG (idOf net name) l with
  | some g =>
    rw [hf] at hlk
    simp only [lookV, keyV] at hlk
    refine wpAnyP_oneQ (i := 3) (by kernel_rfl) rfl ?_
    go_wp2_with fail
    refine nextQ T2 ?_
    go_simp
    refine wpAnyP_oneQ (i := 4) (by kernel_rfl) rfl ?_
    go_wp2_with fail
    refine nextQ T2 ?_
    go_simp
    refine wpAnyP_take (i := 5) rfl (by kernel_rfl) (by kernel_rfl) (by kernel_rfl) (by kernel_rfl) (fun _ _ _ h => h) (yieldsIf_run (.string g.user) rfl (fun w' => by go_simp)) T2 ?_
    refine wpAnyP_take (i := 6) rfl (by kernel_rfl) (by kernel_rfl) (by kernel_rfl) (by kernel_rfl) (fun _ _ _ h => h) (yieldsIf_run (.bool true) rfl (fun w' => by go_simp)) T2 ?_
    go_simp
    refine wpAnyP_oneQ (i := 7) (by kernel_rfl) rfl ?_
    go_wp2_with fail
    refine nextQ T2 ?_
    go_simp
    refine wpAnyP_oneQ (i := 8) (by kernel_rfl) rfl ?_
    go_wp2_with fail
    refine nextQ T2 ?_
    go_simp
    refine wpAnyP_done (by kernel_rfl) ?_
    clear hlk
    go_simp
    have rz := hr.ext hbz
    go_wp2_with (at_builtin; go_must (refine wpList_append_row rfl _ (.tmp 39) rfl elemG w.heap.size (.slice none 0 0) 0 [] rfl (World.ownsRow_nil _ _ _ _) Z.heap.size l.length c A (ghs l) (ghs_length l) rfl rz (ghs_none rz) (ghs_one l) (by unfold maxLen; omega) (by omega) hbz.size ?_))
    intro v9 w9 hown9 hg9
    have hb9 := hbz.grown hg9 hbz.size (fun q hq => by cases hq)
    go_wp2
    go_ret3
    obtain ⟨A9, c9, rfl, q1, q2⟩ := own_form hown9
    have hrow := Row.own hown9
    try simp only [List.nil_append, Nat.zero_add] at hrow q1 ⊢
    exact bindR_has (v := .slice A9 l.length c9) HE.out hf ⟨A9, c9, rfl, hrow, q1, q2⟩ hb9
  | none =>
    rw [hf] at hlk
    simp only [lookV, keyV] at hlk
    refine wpAnyP_oneQ (i := 3) (by kernel_rfl) rfl ?_
    go_wp2_with fail
    refine nextQ T2 ?_
    go_simp
    refine wpAnyP_oneQ (i := 4) (by kernel_rfl) rfl ?_
    go_wp2_with fail
    refine nextQ T2 ?_
    go_simp
    refine wpAnyP_take (i := 5) rfl (by kernel_rfl) (by kernel_rfl) (by kernel_rfl) (by kernel_rfl) (fun _ _ _ h => h) (yieldsIf_run (.string ⟨#[]⟩) rfl (fun w' => by go_simp)) T2 ?_
    refine wpAnyP_take (i := 6) rfl (by kernel_rfl) (by kernel_rfl) (by kernel_rfl) (by kernel_rfl) (fun _ _ _ h => h) (yieldsIf_run (.bool false) rfl (fun w' => by go_simp)) T2 ?_
    go_simp
    refine wpAnyP_oneQ (i := 7) (by kernel_rfl) rfl ?_
    go_wp2_with fail
    refine nextQ T2 ?_
    go_simp
    refine wpAnyP_oneQ (i := 8) (by kernel_rfl) rfl ?_
    go_wp2_with fail
    refine nextQ T2 ?_
    go_simp
    refine wpAnyP_done (by kernel_rfl) ?_
    clear hlk
    go_simp
    by_cases h200 : 200 ≤ l.length
    · have HB := hide (show bindE l (newG net name srv) srv.data.toList = 29 from by rw [bindE_ok HE.out, hf]; exact if_pos h200)
      go_wp2_with fail
      go_ret3
      exact bindR_bad HB.out (by decide) hbz
    go_wp2_with fail
    clear HM
    go_loopw [16] (fun i wr => ∃ k : Nat, k ≤ l.length ∧ i = .int .i64 (k : Int) ∧ Hid (∀ g ∈ l.take k, idLt (idOf net name) g.id = false) ∧ wr.heap[g13]? = some (.cells #[.string net, .string name] 70 (0, 0)) ∧ Below w.heap.size w wr) (fun i _ => l.length - (intOf i).toNat)
    case atStart => exact ⟨0, Nat.zero_le _, rfl, by simp [Hid], T2, hbz⟩
    case round =>
    clear T2 hbz
    obtain ⟨k, hk, rfl, HT, B13, hbel⟩ := hrel
    by_cases hlt : k < l.length
    · obtain ⟨b', o, rfl, hb', hc⟩ := gh_cells hr hlt
      obtain ⟨ok, hok⟩ : ∃ ok, idLt (idOf net name) l[k].id = ok := ⟨_, rfl⟩
      have CA := fun W => br_ahead net name l[k].net l[k].name W
      simp only [idOf_id, hok] at CA
      have HOK := hide hok
      clear hok
      go_wp2_with fail
      refine wp_region_phase (fun w' => CellsAt w' ⟨b', o + k * 3, none⟩ (gc l[k]) ∧ w'.heap[g13]? = some (.cells #[.string net, .string name] 70 (0, 0))) [] (by kernel_rfl) ?_
      have hb5 : Below _ _ { wr with drawn := wr.drawn + 1 } := ext_drew hbel
      have T1 : CellsAt { wr with drawn := wr.drawn + 1 } ⟨b', o + k * 3, none⟩ (gc l[k]) := hc.ext hb5 hb'
      have B5 : ({ wr with drawn := wr.drawn + 1 } : World).heap[g13]? = some (.cells #[.string net, .string name] 70 (0, 0)) := B13
      generalize ({ wr with drawn := wr.drawn + 1 } : World) = Y at hb5 T1 B5 ⊢
      clear hbel B13 hc
      refine wpAnyP_take (i := 0) rfl (by kernel_rfl) (by kernel_rfl) (by kernel_rfl) (by kernel_rfl) (fun _ _ _ h => h) (yieldsIf_run (.int .i64 (k : Int)) rfl (fun w' => by go_simp)) ⟨T1, B5⟩ ?_
      refine wpAnyP_take (i := 1) rfl (by kernel_rfl) (by kernel_rfl) (by kernel_rfl) (by kernel_rfl) (fun _ _ _ h => h) (yieldsIf_run (.slice (some ⟨b', o, none⟩) l.length c) rfl (fun w' => by go_simp)) ⟨T1, B5⟩ ?_
      go_simp
      refine wpAnyP_take (i := 2) rfl (by kernel_rfl) (by kernel_rfl) (by kernel_rfl) (by kernel_rfl) (fun _ _ _ h => h) (yieldsIf_run (.int .i64 (l.length : Int)) rfl (fun w' => by go_simp)) ⟨T1, B5⟩ ?_
      go_simp
      refine wpAnyP_take (i := 3) rfl (by kernel_rfl) (by kernel_rfl) (by kernel_rfl) (by kernel_rfl) (fun _ _ _ h => h) (yieldsIf_run (.bool true) rfl (fun w' => by go_simp)) ⟨T1, B5⟩ ?_
      go_simp
      refine wpAnyP_take (i := 4) rfl (by kernel_rfl) (by kernel_rfl) (by kernel_rfl) (by kernel_rfl) (fun _ _ _ h => h) (yieldsIf_run (.bool true) rfl (fun w' => by go_simp)) ⟨T1, B5⟩ ?_
      go_simp
      refine wpAnyP_take (i := 5) rfl (by kernel_rfl) (by kernel_rfl) (by kernel_rfl) (by kernel_rfl) (fun _ _ _ h => h) (yieldsIf_loadS rfl (.tmp 13) rfl strcI ⟨g13, 0, none⟩ rfl [.string net, .string name] rfl (fun w' hT => box_all hT.2)) ⟨T1, B5⟩ ?_
      refine wpAnyP_take (i := 6) rfl (by kernel_rfl) (by kernel_rfl) (by kernel_rfl) (by kernel_rfl) (fun _ _ _ h => h) (yieldsIf_run (.slice (some ⟨b', o, none⟩) l.length c) rfl (fun w' => by go_simp)) ⟨T1, B5⟩ ?_
      refine wpAnyP_take (i := 7) rfl (by kernel_rfl) (by kernel_rfl) (by kernel_rfl) (by kernel_rfl) (fun _ _ _ h => h) (yieldsIf_run (.int .i64 (k : Int)) rfl (fun w' => by go_simp)) ⟨T1, B5⟩ ?_
      go_simp
      refine wpAnyP_take (i := 8) rfl (by kernel_rfl) (by kernel_rfl) (by kernel_rfl) (by kernel_rfl) (fun _ _ _ h => h) (yieldsIf_run (.pointer (some ⟨b', o + k * 3, none⟩)) rfl (fun w' => by go_simp)) ⟨T1, B5⟩ ?_
      go_simp
      refine wpAnyP_take (i := 9) rfl (by kernel_rfl) (by kernel_rfl) (by kernel_rfl) (by kernel_rfl) (fun _ _ _ h => h) (yieldsIf_loadS rfl (.tmp 53) rfl strcG ⟨b', o + k * 3, none⟩ rfl (gc l[k]) rfl (fun w' hT => hT.1)) ⟨T1, B5⟩ ?_
      go_simp
      refine wpAnyP_oneQ (i := 10) (by kernel_rfl) rfl ?_
      go_wp2_with fail
      refine (br_of l[k].net l[k].name l[k].user _).mono ?_
      rintro e w5 ⟨rfl, hb6⟩
      have T2 := T1.ext hb6 (Nat.lt_of_lt_of_le hb' hb5.size)
      have B6 := box_below B5 hb6
      have hb7 := ext_trans hb5 hb6
      clear T1 B5 hb5 hb6
      go_wp2_with fail
      refine nextQ ⟨T2, B6⟩ ?_
      go_simp
      refine wpAnyP_oneQ (i := 11) (by kernel_rfl) rfl ?_
      go_wp2_with fail
      refine (CA _).mono ?_
      rintro e w7 ⟨rfl, hb10⟩
      have T4 := T2.ext hb10 (Nat.lt_of_lt_of_le hb' hb7.size)
      have B8 := box_below B6 hb10
      have hb11 := ext_trans hb7 hb10
      clear T2 B6 hb7 hb10
      go_wp2_with fail
      refine nextQ ⟨T4, B8⟩ ?_
      go_simp
      refine wpAnyP_take (i := 12) rfl (by kernel_rfl) (by kernel_rfl) (by kernel_rfl) (by kernel_rfl) (fun _ _ _ h => h) (yieldsIf_run (.bool (!ok)) rfl (fun w' => by go_simp)) ⟨T4, B8⟩ ?_
      go_simp
      refine wpAnyP_take (i := 13) rfl (by kernel_rfl) (by kernel_rfl) (by kernel_rfl) (by kernel_rfl) (fun _ _ _ h => h) (yieldsIf_run (.bool (!ok)) rfl (fun w' => by go_simp)) ⟨T4, B8⟩ ?_
      refine wpAnyP_done (by kernel_rfl) ?_
      cases ok
      · have HN := hide (take_next (p := fun g => idLt (idOf net name) g.id = false) HT.out hlt HOK.out)
        go_simp
        go_wp2_with fail
        go_roundw
        case rel => exact ⟨k + 1, by omega, by go_num, HN.out, B8, hb11⟩
        case measure => (simp [intOf]; try omega)
      · have HAT := hide (show atR (newG net name srv).id l = k from by rw [newG_id, ← at_same hf]; exact atC_at hk HT.out (fun _ => HOK.out))
        have hbz := hb11
        clear T4 B8 hb11
        go_simp
        have hrun1 := fun w => run_head elemG (some (⟨b', o, none⟩ : Addr)) l.length c k (by omega) w
        have hrun2 := fun w => run_cut elemG (some (⟨b', o, none⟩ : Addr)) l.length c k (by omega) w
        have CUT := fun W (hb : Below w.heap.size w W) => (hr.below hb).cutA (size := 3) (k := k) (c := c) (ghs_length l) hcap
        have rz1 := (hr.below hbz).take (k * 3)
        rw [ghs_take] at rz1
        simp only [ghs_drop] at CUT
        have hn1 : (some (⟨b', o, none⟩ : Addr)) = none → k = 0 := fun h => by have := ghs_none hr h; omega
        have hn2 : cutA (some (⟨b', o, none⟩ : Addr)) c k 3 = none → l.length - k = 0 := fun h => by have := ghs_none (CUT _ hbz) h; rw [List.length_drop] at this; exact this
        have hlen1 : (ghs (l.take k)).length = k * 3 := by rw [ghs_length, List.length_take, Nat.min_eq_left (by omega)]
        have hlen2 : (ghs (l.drop k)).length = (l.length - k) * 3 := by rw [ghs_length, List.length_drop]
        obtain ⟨xs1, hxs1⟩ : ∃ xs, ghs (l.take k) = xs := ⟨_, rfl⟩
        obtain ⟨xs2, hxs2⟩ : ∃ xs, ghs (l.drop k) = xs := ⟨_, rfl⟩
        have o1 := ghs_one (l.take k)
        have o2 := ghs_one (l.drop k)
        have hput := put_at HAT.out
        rw [hxs1] at rz1 hlen1 o1 hput
        rw [hxs2] at hlen2 o2 hput
        simp only [hxs2] at CUT
        obtain ⟨A2, hA2⟩ : ∃ A2, cutA (some (⟨b', o, none⟩ : Addr)) c k 3 = A2 := ⟨_, rfl⟩
        rw [hA2] at hn2
        simp only [hA2] at CUT hrun2
        have hgc : gc (newG net name srv) = [.string net, .string name, .string gu] := by rw [← HGU.out]; rfl
        rw [hgc] at hput
        have HPUT := hide hput
        have hlen3 : k + (1 + (l.length - k)) = (putG l (newG net name srv)).length := by rw [putG_length]; omega
        have HLEN := hide hlen3
        clear hxs1 hxs2 hA2 hput hgc hlen3
        go_wp2_with (at_builtin; go_must (refine wpList_append_row rfl _ (.tmp 63) rfl elemG w.heap.size (.slice none 0 0) 0 [] rfl (World.ownsRow_nil _ _ _ _) w.heap.size k c (some (⟨b', o, none⟩ : Addr)) xs1 hlen1 rfl rz1 hn1 o1 (by unfold maxLen; omega) (by omega) hbz.size ?_))
        intro v1 w8 hown8 hg8
        have hb8 := hbz.grown hg8 hbz.size (fun q hq => by cases hq)
        go_wp2_with (first | (refine wpList_buildS (te := 0) rfl (.tmp 69) rfl Try.underlying32 strcG (by decide) (by decide) #[.string net, .string name, .string gu] rfl rfl ?_) | (at_builtin; go_must (refine wpList_append_new rfl (.tmp 65) (.tmp 70) rfl elemG w.heap.size _ _ _ rfl hown8 1 _ rfl rfl (by simp [Value.oneCell']) (by decide) (by unfold maxLen; omega) (by omega) hb8.size ?_)))
        intro v2 w9 hown9 hg9
        have hb9 := hb8.grown hg9 hb8.size (fun q hq => (hown8.lt q hq).1)
        go_wp2_with (at_builtin; go_must (refine wpList_append_row rfl (.tmp 72) (.tmp 75) rfl elemG w.heap.size _ _ _ rfl hown9 w.heap.size (l.length - k) (c - k) A2 xs2 hlen2 rfl (CUT _ hb9) hn2 o2 (by unfold maxLen; omega) (by omega) hb9.size ?_))
        intro v3 w10 hown10 hg10
        have hb10 := hb9.grown hg10 hb9.size (fun q hq => (hown9.lt q hq).1)
        go_wp2
        go_ret3
        obtain ⟨A9, c9, rfl, q1, q2⟩ := own_form hown10
        have hq : k + 1 + (l.length - k) = (putG l (newG net name srv)).length := by have := HLEN.out; omega
        rw [hq] at hown10 q1
        have hrow := Row.own hown10
        have hx : xs1 ++ Value.string net :: .string name :: .string gu :: xs2 = ghs (putG l (newG net name srv)) := by have := HPUT.out; simpa using this
        rw [hx] at hrow
        have hfin := bindR_new (v := .slice A9 (putG l (newG net name srv)).length c9) (srv := srv) HE.out hf h200 ⟨A9, c9, rfl, hrow, q1, q2⟩ hb10
        rw [HGU.out] at hfin
        show BindR w l net name srv (.returned (.tuple #[.slice A9 (k + 1 + (l.length - k)) c9, .string gu, .int .i64 0])) _
        rw [hq]
        exact hfin
    · obtain rfl : k = l.length := by omega
      have HAT := hide (show atR (newG net name srv).id l = l.length from by rw [newG_id, ← at_same hf]; exact atC_at hk HT.out (fun h => absurd h hlt))
      go_wp2_with fail
      refine wp_region_phase (fun w' => True) [] (by kernel_rfl) ?_
      have hbz : Below _ _ { wr with drawn := wr.drawn + 1 } := ext_drew hbel
      generalize ({ wr with drawn := wr.drawn + 1 } : World) = Y at hbz ⊢
      clear hbel B13
      refine wpAnyP_take (i := 0) rfl (by kernel_rfl) (by kernel_rfl) (by kernel_rfl) (by kernel_rfl) (fun _ _ _ h => h) (yieldsIf_run (.int .i64 (l.length : Int)) rfl (fun w' => by go_simp)) trivial ?_
      refine wpAnyP_take (i := 1) rfl (by kernel_rfl) (by kernel_rfl) (by kernel_rfl) (by kernel_rfl) (fun _ _ _ h => h) (yieldsIf_run (.slice A l.length c) rfl (fun w' => by go_simp)) trivial ?_
      go_simp
      refine wpAnyP_take (i := 2) rfl (by kernel_rfl) (by kernel_rfl) (by kernel_rfl) (by kernel_rfl) (fun _ _ _ h => h) (yieldsIf_run (.int .i64 (l.length : Int)) rfl (fun w' => by go_simp)) trivial ?_
      go_simp
      refine wpAnyP_take (i := 3) rfl (by kernel_rfl) (by kernel_rfl) (by kernel_rfl) (by kernel_rfl) (fun _ _ _ h => h) (yieldsIf_run (.bool false) rfl (fun w' => by go_simp)) trivial ?_
      go_simp
      refine wpAnyP_take (i := 4) rfl (by kernel_rfl) (by kernel_rfl) (by kernel_rfl) (by kernel_rfl) (fun _ _ _ h => h) (yieldsIf_run (.bool false) rfl (fun w' => by go_simp)) trivial ?_
      go_simp
      refine wpAnyP_take (i := 5) (v := undef) rfl (by kernel_rfl) (by kernel_rfl) (by kernel_rfl) (by kernel_rfl) (fun _ _ _ h => h) (.inr ⟨rfl, rfl⟩) trivial ?_
      refine wpAnyP_take (i := 6) (v := undef) rfl (by kernel_rfl) (by kernel_rfl) (by kernel_rfl) (by kernel_rfl) (fun _ _ _ h => h) (.inr ⟨rfl, rfl⟩) trivial ?_
      refine wpAnyP_take (i := 7) (v := undef) rfl (by kernel_rfl) (by kernel_rfl) (by kernel_rfl) (by kernel_rfl) (fun _ _ _ h => h) (.inr ⟨rfl, rfl⟩) trivial ?_
      go_simp
      refine wpAnyP_take (i := 8) (v := undef) rfl (by kernel_rfl) (by kernel_rfl) (by kernel_rfl) (by kernel_rfl) (fun _ _ _ h => h) (.inr ⟨rfl, rfl⟩) trivial ?_
      refine wpAnyP_take (i := 9) (v := undef) rfl (by kernel_rfl) (by kernel_rfl) (by kernel_rfl) (by kernel_rfl) (fun _ _ _ h => h) (.inr ⟨rfl, rfl⟩) trivial ?_
      refine wpAnyP_take (i := 10) (v := undef) rfl (by kernel_rfl) (by kernel_rfl) (by kernel_rfl) (by kernel_rfl) (fun _ _ _ h => h) (.inr ⟨rfl, rfl⟩) trivial ?_
      go_simp
      refine wpAnyP_take (i := 11) (v := undef) rfl (by kernel_rfl) (by kernel_rfl) (by kernel_rfl) (by kernel_rfl) (fun _ _ _ h => h) (.inr ⟨rfl, rfl⟩) trivial ?_
      refine wpAnyP_take (i := 12) (v := undef) rfl (by kernel_rfl) (by kernel_rfl) (by kernel_rfl) (by kernel_rfl) (fun _ _ _ h => h) (.inr ⟨rfl, rfl⟩) trivial ?_
      go_simp
      refine wpAnyP_take (i := 13) rfl (by kernel_rfl) (by kernel_rfl) (by kernel_rfl) (by kernel_rfl) (fun _ _ _ h => h) (yieldsIf_run (.bool false) rfl (fun w' => by go_simp)) trivial ?_
      refine wpAnyP_done (by kernel_rfl) ?_
      go_simp
      have hrun1 := fun w => run_head elemG A l.length c l.length (by omega) w
      have hrun2 := fun w => run_cut elemG A l.length c l.length (by omega) w
      have CUT := fun W (hb : Below w.heap.size w W) => (hr.below hb).cutA (size := 3) (k := l.length) (c := c) (ghs_length l) hcap
      have rz1 := (hr.below hbz).take (l.length * 3)
      rw [ghs_take] at rz1
      simp only [ghs_drop] at CUT
      have hn1 : A = none → l.length = 0 := fun h => by have := ghs_none hr h; omega
      have hn2 : cutA A c l.length 3 = none → l.length - l.length = 0 := fun h => by have := ghs_none (CUT _ hbz) h; rw [List.length_drop] at this; exact this
      have hlen1 : (ghs (l.take l.length)).length = l.length * 3 := by rw [ghs_length, List.length_take, Nat.min_eq_left (by omega)]
      have hlen2 : (ghs (l.drop l.length)).length = (l.length - l.length) * 3 := by rw [ghs_length, List.length_drop]
      obtain ⟨xs1, hxs1⟩ : ∃ xs, ghs (l.take l.length) = xs := ⟨_, rfl⟩
      obtain ⟨xs2, hxs2⟩ : ∃ xs, ghs (l.drop l.length) = xs := ⟨_, rfl⟩
      have o1 := ghs_one (l.take l.length)
      have o2 := ghs_one (l.drop l.length)
      have hput := put_at HAT.out
      rw [hxs1] at rz1 hlen1 o1 hput
      rw [hxs2] at hlen2 o2 hput
      simp only [hxs2] at CUT
      obtain ⟨A2, hA2⟩ : ∃ A2, cutA A c l.length 3 = A2 := ⟨_, rfl⟩
      rw [hA2] at hn2
      simp only [hA2] at CUT hrun2
      have hgc : gc (newG net name srv) = [.string net, .string name, .string gu] := by rw [← HGU.out]; rfl
      rw [hgc] at hput
      have HPUT := hide hput
      have hlen3 : l.length + (1 + (l.length - l.length)) = (putG l (newG net name srv)).length := by rw [putG_length]; omega
      have HLEN := hide hlen3
      clear hxs1 hxs2 hA2 hput hgc hlen3
      simp only [Nat.sub_self] at hrun2 hlen2
      replace hn2 : A2 = none → 0 = 0 := fun _ => rfl
      go_wp2_with (at_builtin; go_must (refine wpList_append_row rfl _ (.tmp 63) rfl elemG w.heap.size (.slice none 0 0) 0 [] rfl (World.ownsRow_nil _ _ _ _) w.heap.size l.length c A xs1 hlen1 rfl rz1 hn1 o1 (by unfold maxLen; omega) (by omega) hbz.size ?_))
      intro v1 w8 hown8 hg8
      have hb8 := hbz.grown hg8 hbz.size (fun q hq => by cases hq)
      go_wp2_with (first | (refine wpList_buildS (te := 0) rfl (.tmp 69) rfl Try.underlying32 strcG (by decide) (by decide) #[.string net, .string name, .string gu] rfl rfl ?_) | (at_builtin; go_must (refine wpList_append_new rfl (.tmp 65) (.tmp 70) rfl elemG w.heap.size _ _ _ rfl hown8 1 _ rfl rfl (by simp [Value.oneCell']) (by decide) (by unfold maxLen; omega) (by omega) hb8.size ?_)))
      intro v2 w9 hown9 hg9
      have hb9 := hb8.grown hg9 hb8.size (fun q hq => (hown8.lt q hq).1)
      go_wp2_with (at_builtin; go_must (refine wpList_append_row rfl (.tmp 72) (.tmp 75) rfl elemG w.heap.size _ _ _ rfl hown9 w.heap.size 0 (c - l.length) A2 xs2 hlen2 rfl (CUT _ hb9) (fun _ => rfl) o2 (by unfold maxLen; omega) (by omega) hb9.size ?_))
      intro v3 w10 hown10 hg10
      have hb10 := hb9.grown hg10 hb9.size (fun q hq => (hown9.lt q hq).1)
      go_wp2
      go_ret3
      obtain ⟨A9, c9, rfl, q1, q2⟩ := own_form hown10
      have hq : l.length + 1 = (putG l (newG net name srv)).length := by have := HLEN.out; omega
      rw [hq] at hown10 q1
      have hrow := Row.own hown10
      have hx : xs1 ++ Value.string net :: .string name :: .string gu :: xs2 = ghs (putG l (newG net name srv)) := by have := HPUT.out; simpa using this
      rw [hx] at hrow
      have hfin := bindR_new (v := .slice A9 (putG l (newG net name srv)).length c9) (srv := srv) HE.out hf h200 ⟨A9, c9, rfl, hrow, q1, q2⟩ hb10
      rw [HGU.out] at hfin
      show BindR w l net name srv (.returned (.tuple #[.slice A9 (l.length + 1) c9, .string gu, .int .i64 0])) _
      rw [hq]
      exact hfin
end
end Go.Proofs.Ytimdcnickfaddaa
