/-
  BridgeApart: the walk.
-/
import Derived.Test.YtimdcnickfaddaaLCom
import Derived.Laws.StructEq
set_option linter.unusedVariables false
set_option linter.unusedSimpArgs false
namespace Go.Proofs.Ytimdcnickfaddaa
open Go.RowKit Go.Maps
open Classical
section
attribute [local go_sem] Addr.add_mid
theorem apart_pair {x y z p q r : ByteArray} (h1 : userE x.data.toList y.data.toList z.data.toList = 0) (h2 : userE p.data.toList q.data.toList r.data.toList = 0) :
    ((newG x y z).user.toList == (newG p q r).user.toList) = ((x.toList == p.toList) && ((y.toList == q.toList) && (z.toList == r.toList))) := by
  rw [Bool.eq_iff_iff, beq_iff_eq, Bool.and_eq_true, Bool.and_eq_true, beq_iff_eq, beq_iff_eq, beq_iff_eq]
  simp only [bt, new_list]
  constructor
  · exact ghost_inj (new_has h1) (new_has h2)
  · rintro ⟨a, b, c⟩; rw [a, b, c]
set_option maxRecDepth 100000 in
set_option maxHeartbeats 3000000 in
theorem apart_any (x y z p q r : ByteArray) (w : World) : Calls Try.prog 7 #[.agg #[.string x, .string y, .string z], .agg #[.string p, .string q, .string r]] w (Says true w) := by
  have BA := heap_alloc2_old w (.cells #[.string x, .string y, .string z] 23) (.cells #[.string p, .string q, .string r] 23)
  have BB := heap_alloc2_new w (.cells #[.string x, .string y, .string z] 23) (.cells #[.string p, .string q, .string r] 23)
  have hb0 := below_two w (.cells #[.string x, .string y, .string z] 23) (.cells #[.string p, .string q, .string r] 23)
  go_enter Try.func7, Try.ntmps7
  go_wp2_with fail
  refine (law_great x y z _).mono ?_
  rintro e w1 ⟨b, rfl, hsm, hb⟩
  have BA1 := box_below BA hb
  have BB1 := box_below BB hb
  have hb1 := ext_trans hb0 hb
  cases b
  case true =>
    go_wp2_with fail
    go_ret
    exact ⟨rfl, hb1⟩
  obtain ⟨s1, s2, s3⟩ := hsm rfl
  clear hsm hb hb0 BA BB
  go_wp2_with (refine wpList_loadS rfl (.tmp 3) rfl strcId ⟨w.heap.size + 1, 0, none⟩ rfl [.string p, .string q, .string r] rfl (box_all BB1) ?_)
  refine (law_great p q r _).mono ?_
  rintro e w2 ⟨b, rfl, hsm, hb⟩
  have BA2 := box_below BA1 hb
  have BB2 := box_below BB1 hb
  have hb2 := ext_trans hb1 hb
  cases b
  case true =>
    go_wp2_with fail
    go_ret
    exact ⟨rfl, hb2⟩
  obtain ⟨s4, s5, s6⟩ := hsm rfl
  clear hsm hb hb1 BA1 BB1
  have r0 : w2.cell? ⟨w.heap.size, 0, none⟩ = some (.string x) := box_at BA2 rfl
  have r1 : w2.cell? ⟨w.heap.size, 1, none⟩ = some (.string y) := box_at BA2 rfl
  have r2 : w2.cell? ⟨w.heap.size, 2, none⟩ = some (.string z) := box_at BA2 rfl
  have CU1 := fun W (_ : True) => br_User x y z W (by omega) (by omega) (by omega)
  have CU2 := fun W => br_User p q r W (by omega) (by omega) (by omega)
  have tok1 : True := trivial
  by_cases he : userE x.data.toList y.data.toList z.data.toList = 0
  · simp only [userV_new he] at CU1
    by_cases hf : userE p.data.toList q.data.toList r.data.toList = 0
    · simp only [userV_new hf] at CU2
      have hp := apart_pair he hf
      obtain ⟨gu, hgu⟩ : ∃ gu, (newG x y z).user = gu := ⟨_, rfl⟩
      obtain ⟨gv, hgv⟩ : ∃ gv, (newG p q r).user = gv := ⟨_, rfl⟩
      rw [hgu, hgv] at hp
      simp only [hgu] at CU1
      simp only [hgv] at CU2
      obtain ⟨p1, h1⟩ : ∃ b, (x.toList == p.toList) = b := ⟨_, rfl⟩
      obtain ⟨p2, h2⟩ : ∃ b, (y.toList == q.toList) = b := ⟨_, rfl⟩
      obtain ⟨p3, h3⟩ : ∃ b, (z.toList == r.toList) = b := ⟨_, rfl⟩
      rw [h1, h2, h3] at hp
      clear hgu hgv he hf
      cases p1
      · replace hp : (gu.toList == gv.toList) = false := hp
        go_wp2_with (first | (go_at_call 11; first | (refine (CU1 _ tok1).mono ?_; rintro e w3 ⟨rfl, hb3⟩; have BA3 := box_below BA2 hb3; have BB3 := box_below BB2 hb3; have q0 : w3.cell? ⟨w.heap.size + 1, 0, none⟩ = some (.string p) := box_at BB3 rfl; have q1 : w3.cell? ⟨w.heap.size + 1, 1, none⟩ = some (.string q) := box_at BB3 rfl; have q2 : w3.cell? ⟨w.heap.size + 1, 2, none⟩ = some (.string r) := box_at BB3 rfl; clear tok1) | (refine (CU2 _).mono ?_; rintro e w4 ⟨rfl, hb4⟩; have BA4 := box_below BA3 hb4; have BB4 := box_below BB3 hb4; clear CU2)) | (refine wpList_loadS rfl (.tmp 2) rfl strcId ⟨w.heap.size, 0, none⟩ rfl [.string x, .string y, .string z] rfl (box_all BA4) ?_) | (refine wpList_loadS rfl (.tmp 3) rfl strcId ⟨w.heap.size + 1, 0, none⟩ rfl [.string p, .string q, .string r] rfl (box_all BB4) ?_) | (go_at_call 13; refine (live_any _).mono ?_; rintro e wl ⟨rfl, hbl⟩))
        go_ret
        exact ⟨rfl, ext_trans (ext_trans (ext_trans hb2 hb3) hb4) hbl⟩
      · cases p2
        · replace hp : (gu.toList == gv.toList) = false := hp
          go_wp2_with (first | (go_at_call 11; first | (refine (CU1 _ tok1).mono ?_; rintro e w3 ⟨rfl, hb3⟩; have BA3 := box_below BA2 hb3; have BB3 := box_below BB2 hb3; have q0 : w3.cell? ⟨w.heap.size + 1, 0, none⟩ = some (.string p) := box_at BB3 rfl; have q1 : w3.cell? ⟨w.heap.size + 1, 1, none⟩ = some (.string q) := box_at BB3 rfl; have q2 : w3.cell? ⟨w.heap.size + 1, 2, none⟩ = some (.string r) := box_at BB3 rfl; clear tok1) | (refine (CU2 _).mono ?_; rintro e w4 ⟨rfl, hb4⟩; have BA4 := box_below BA3 hb4; have BB4 := box_below BB3 hb4; clear CU2)) | (refine wpList_loadS rfl (.tmp 2) rfl strcId ⟨w.heap.size, 0, none⟩ rfl [.string x, .string y, .string z] rfl (box_all BA4) ?_) | (refine wpList_loadS rfl (.tmp 3) rfl strcId ⟨w.heap.size + 1, 0, none⟩ rfl [.string p, .string q, .string r] rfl (box_all BB4) ?_) | (go_at_call 13; refine (live_any _).mono ?_; rintro e wl ⟨rfl, hbl⟩))
          go_ret
          exact ⟨rfl, ext_trans (ext_trans (ext_trans hb2 hb3) hb4) hbl⟩
        · cases p3
          · replace hp : (gu.toList == gv.toList) = false := hp
            go_wp2_with (first | (go_at_call 11; first | (refine (CU1 _ tok1).mono ?_; rintro e w3 ⟨rfl, hb3⟩; have BA3 := box_below BA2 hb3; have BB3 := box_below BB2 hb3; have q0 : w3.cell? ⟨w.heap.size + 1, 0, none⟩ = some (.string p) := box_at BB3 rfl; have q1 : w3.cell? ⟨w.heap.size + 1, 1, none⟩ = some (.string q) := box_at BB3 rfl; have q2 : w3.cell? ⟨w.heap.size + 1, 2, none⟩ = some (.string r) := box_at BB3 rfl; clear tok1) | (refine (CU2 _).mono ?_; rintro e w4 ⟨rfl, hb4⟩; have BA4 := box_below BA3 hb4; have BB4 := box_below BB3 hb4; clear CU2)) | (refine wpList_loadS rfl (.tmp 2) rfl strcId ⟨w.heap.size, 0, none⟩ rfl [.string x, .string y, .string z] rfl (box_all BA4) ?_) | (refine wpList_loadS rfl (.tmp 3) rfl strcId ⟨w.heap.size + 1, 0, none⟩ rfl [.string p, .string q, .string r] rfl (box_all BB4) ?_) | (go_at_call 13; refine (live_any _).mono ?_; rintro e wl ⟨rfl, hbl⟩))
            go_ret
            exact ⟨rfl, ext_trans (ext_trans (ext_trans hb2 hb3) hb4) hbl⟩
          · replace hp : (gu.toList == gv.toList) = true := hp
            go_wp2_with (first | (go_at_call 11; first | (refine (CU1 _ tok1).mono ?_; rintro e w3 ⟨rfl, hb3⟩; have BA3 := box_below BA2 hb3; have BB3 := box_below BB2 hb3; have q0 : w3.cell? ⟨w.heap.size + 1, 0, none⟩ = some (.string p) := box_at BB3 rfl; have q1 : w3.cell? ⟨w.heap.size + 1, 1, none⟩ = some (.string q) := box_at BB3 rfl; have q2 : w3.cell? ⟨w.heap.size + 1, 2, none⟩ = some (.string r) := box_at BB3 rfl; clear tok1) | (refine (CU2 _).mono ?_; rintro e w4 ⟨rfl, hb4⟩; have BA4 := box_below BA3 hb4; have BB4 := box_below BB3 hb4; clear CU2)) | (refine wpList_loadS rfl (.tmp 2) rfl strcId ⟨w.heap.size, 0, none⟩ rfl [.string x, .string y, .string z] rfl (box_all BA4) ?_) | (refine wpList_loadS rfl (.tmp 3) rfl strcId ⟨w.heap.size + 1, 0, none⟩ rfl [.string p, .string q, .string r] rfl (box_all BB4) ?_) | (go_at_call 13; refine (live_any _).mono ?_; rintro e wl ⟨rfl, hbl⟩))
            go_ret
            exact ⟨rfl, ext_trans (ext_trans (ext_trans hb2 hb3) hb4) hbl⟩
    · obtain ⟨er, her⟩ : ∃ er, userE p.data.toList q.data.toList r.data.toList = er := ⟨_, rfl⟩
      rw [her] at hf
      simp only [userV_bad her hf] at CU2
      have he' : (er != 0) = true := by simpa using hf
      clear her hf he
      go_wp2_with (first | (go_at_call 11; first | (refine (CU1 _ tok1).mono ?_; rintro e w3 ⟨rfl, hb3⟩; have BA3 := box_below BA2 hb3; have BB3 := box_below BB2 hb3; have q0 : w3.cell? ⟨w.heap.size + 1, 0, none⟩ = some (.string p) := box_at BB3 rfl; have q1 : w3.cell? ⟨w.heap.size + 1, 1, none⟩ = some (.string q) := box_at BB3 rfl; have q2 : w3.cell? ⟨w.heap.size + 1, 2, none⟩ = some (.string r) := box_at BB3 rfl; clear tok1) | (refine (CU2 _).mono ?_; rintro e w4 ⟨rfl, hb4⟩; have BA4 := box_below BA3 hb4; have BB4 := box_below BB3 hb4; clear CU2)) | (refine wpList_loadS rfl (.tmp 2) rfl strcId ⟨w.heap.size, 0, none⟩ rfl [.string x, .string y, .string z] rfl (box_all BA4) ?_) | (refine wpList_loadS rfl (.tmp 3) rfl strcId ⟨w.heap.size + 1, 0, none⟩ rfl [.string p, .string q, .string r] rfl (box_all BB4) ?_) | (go_at_call 13; refine (live_any _).mono ?_; rintro e wl ⟨rfl, hbl⟩))
      go_ret
      exact ⟨rfl, ext_trans (ext_trans (ext_trans hb2 hb3) hb4) hbl⟩
  · obtain ⟨er, her⟩ : ∃ er, userE x.data.toList y.data.toList z.data.toList = er := ⟨_, rfl⟩
    rw [her] at he
    simp only [userV_bad her he] at CU1
    have he' : (er != 0) = true := by simpa using he
    obtain ⟨g, e0, hV, _, _⟩ := userV_form p q r
    simp only [hV] at CU2
    clear her he hV
    go_wp2_with (first | (go_at_call 11; first | (refine (CU1 _ tok1).mono ?_; rintro e w3 ⟨rfl, hb3⟩; have BA3 := box_below BA2 hb3; have BB3 := box_below BB2 hb3; have q0 : w3.cell? ⟨w.heap.size + 1, 0, none⟩ = some (.string p) := box_at BB3 rfl; have q1 : w3.cell? ⟨w.heap.size + 1, 1, none⟩ = some (.string q) := box_at BB3 rfl; have q2 : w3.cell? ⟨w.heap.size + 1, 2, none⟩ = some (.string r) := box_at BB3 rfl; clear tok1) | (refine (CU2 _).mono ?_; rintro e w4 ⟨rfl, hb4⟩; have BA4 := box_below BA3 hb4; have BB4 := box_below BB3 hb4; clear CU2)) | (refine wpList_loadS rfl (.tmp 2) rfl strcId ⟨w.heap.size, 0, none⟩ rfl [.string x, .string y, .string z] rfl (box_all BA4) ?_) | (refine wpList_loadS rfl (.tmp 3) rfl strcId ⟨w.heap.size + 1, 0, none⟩ rfl [.string p, .string q, .string r] rfl (box_all BB4) ?_) | (go_at_call 13; refine (live_any _).mono ?_; rintro e wl ⟨rfl, hbl⟩))
    go_ret
    exact ⟨rfl, ext_trans (ext_trans (ext_trans hb2 hb3) hb4) hbl⟩
end
end Go.Proofs.Ytimdcnickfaddaa
