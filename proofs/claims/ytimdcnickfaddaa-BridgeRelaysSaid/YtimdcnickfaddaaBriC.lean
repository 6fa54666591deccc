/-
  The ghost of an identity: bridge.User and the reference's.
-/
import Derived.Test.YtimdcnickfaddaaBriB
set_option linter.unusedVariables false
set_option linter.unusedSimpArgs false
namespace Go.Proofs.Ytimdcnickfaddaa
open Go.RowKit
open Classical

noncomputable def userS (net name srv : ByteArray) : ByteArray := if userE net.data.toList name.data.toList srv.data.toList = 0 then str (ghostL net.data.toList name.data.toList srv.data.toList) else ⟨#[]⟩
noncomputable def userV (net name srv : ByteArray) : Value := .tuple #[.string (userS net name srv), .int .i64 (userE net.data.toList name.data.toList srv.data.toList)]
theorem userV_bad {net name srv : ByteArray} {e : Int} (he : userE net.data.toList name.data.toList srv.data.toList = e) (h0 : e ≠ 0) : userV net name srv = .tuple #[.string ⟨#[]⟩, .int .i64 e] := by
  unfold userV userS
  rw [he, if_neg h0]
theorem userV_net {net name srv : ByteArray} (h : netB net.data.toList = false) : userV net name srv = .tuple #[.string ⟨#[]⟩, .int .i64 3] :=
  userV_bad (by unfold userE; rw [if_pos (fun h1 => by rw [(net_iff _).2 h1] at h; cases h)]) (by decide)
theorem userV_short {net name srv : ByteArray} (h : netB net.data.toList = true) (h0 : name.size = 0) : userV net name srv = .tuple #[.string ⟨#[]⟩, .int .i64 9] :=
  userV_bad (by unfold userE; rw [if_neg (fun h1 => h1 ((net_iff _).1 h)), if_pos (List.eq_nil_of_length_eq_zero (by rw [Enc.size_toList]; exact h0))]) (by decide)
theorem name_ne {name : ByteArray} (h0 : ¬ name.size = 0) : ¬ name.data.toList = [] := fun e => h0 (by rw [← Enc.size_toList, e]; rfl)
theorem userV_srv {net name srv : ByteArray} (h : netB net.data.toList = true) (h0 : ¬ name.size = 0) (h1 : serverB srv.data.toList = false) : userV net name srv = .tuple #[.string ⟨#[]⟩, .int .i64 3] :=
  userV_bad (by unfold userE; rw [if_neg (fun h1 => h1 ((net_iff _).1 h)), if_neg (name_ne h0), if_pos (fun h2 => by rw [(server_iff _).2 h2] at h1; cases h1)]) (by decide)
theorem userV_long {net name srv : ByteArray} (h : netB net.data.toList = true) (h0 : ¬ name.size = 0) (h1 : serverB srv.data.toList = true) (h2 : 32 < (localOf net.data.toList name.data.toList).length) : userV net name srv = .tuple #[.string ⟨#[]⟩, .int .i64 7] :=
  userV_bad (by unfold userE; rw [if_neg (fun h1 => h1 ((net_iff _).1 h)), if_neg (name_ne h0), if_neg (fun h2 => h2 ((server_iff _).1 h1)), if_pos h2]) (by decide)
theorem app_list (a b : ByteArray) : (a ++ b).data.toList = a.data.toList ++ b.data.toList := by
  rw [ByteArray.data_append, Array.toList_append]
theorem str_ext {a : ByteArray} {l : List UInt8} (h : a.data.toList = l) : a = str l := by rw [← h]; rfl
theorem ghost_str (net name srv : ByteArray) : (((⟨#[64]⟩ : ByteArray) ++ (((⟨#[95]⟩ : ByteArray) ++ net ++ ⟨#[95]⟩) ++ str (escL name.data.toList))) ++ ⟨#[58]⟩) ++ srv = str (ghostL net.data.toList name.data.toList srv.data.toList) := by
  refine str_ext ?_
  simp only [app_list, str_data]
  simp [ghostL, localOf]
theorem local_len (net name : List UInt8) : (localOf net name).length = net.length + 2 + (escL name).length := by simp [localOf]; omega
theorem userV_ok {net name srv : ByteArray} (h : netB net.data.toList = true) (h0 : ¬ name.size = 0) (h1 : serverB srv.data.toList = true) (h2 : ¬ 32 < (localOf net.data.toList name.data.toList).length) : userV net name srv = .tuple #[.string ((((⟨#[64]⟩ : ByteArray) ++ (((⟨#[95]⟩ : ByteArray) ++ net ++ ⟨#[95]⟩) ++ str (escL name.data.toList))) ++ ⟨#[58]⟩) ++ srv), .int .i64 0] := by
  have he : userE net.data.toList name.data.toList srv.data.toList = 0 := by
    unfold userE
    rw [if_neg (fun h1 => h1 ((net_iff _).1 h)), if_neg (name_ne h0), if_neg (fun h2 => h2 ((server_iff _).1 h1)), if_neg h2]
  unfold userV userS
  rw [he, if_pos rfl, ghost_str]
theorem empty_yes {s : ByteArray} (h : s.size = 0) : s.toList.isEmpty = true := by
  rw [bt, size_zero_nil h]; rfl
theorem empty_no {s : ByteArray} (h : ¬ s.size = 0) : s.toList.isEmpty = false := by
  rw [bt, hlc_of s (by omega)]; rfl
set_option maxRecDepth 100000 in
set_option maxHeartbeats 1600000 in
theorem br_User (net name srv : ByteArray) (w : World) (hs : net.size ≤ 1000) (hn : name.size ≤ 1000) (hv : srv.size ≤ 1000) : Calls Try.prog 11 #[.string net, .string name, .string srv] w (fun e w' => e = .returned (userV net name srv) ∧ Below w.heap.size w w') := by
  have CR := fun w => br_right net w
  have CS := fun w => ids_Server srv w
  have CE := fun w => br_escaped name w hn
  have hz1 := Enc.size_toList net
  have hz2 := Enc.size_toList name
  have hz3 := Enc.size_toList srv
  obtain ⟨b1, h1⟩ : ∃ b, netB net.data.toList = b := ⟨_, rfl⟩
  obtain ⟨b2, h2⟩ : ∃ b, serverB srv.data.toList = b := ⟨_, rfl⟩
  simp only [h1] at CR
  simp only [h2, errN] at CS
  cases b1
  · have HV := hide (userV_net (name := name) (srv := srv) h1)
    clear h1 h2 hz1 hz2 hz3
    go_enter Try.func11, Try.ntmps11
    go_wp2_with (first | (go_at_call 30; refine (CR _).mono ?_; rintro e w1 ⟨rfl, rfl⟩) | (go_at_call 31; refine (CS _).mono ?_; rintro e w1 ⟨rfl, rfl⟩) | (go_at_call 32; refine (CE _).mono ?_; rintro e w2 ⟨rfl, hb2⟩))
    all_goals (try go_wp2)
    all_goals (go_ret2; exact ⟨by rw [HV.out]; rfl, ext_refl _⟩)
  · by_cases h0 : name.size = 0
    · have HV := hide (userV_short (srv := srv) h1 h0)
      have hem := empty_yes h0
      clear h1 h2 h0 hz1 hz2 hz3
      go_enter Try.func11, Try.ntmps11
      go_wp2_with (first | (go_at_call 30; refine (CR _).mono ?_; rintro e w1 ⟨rfl, rfl⟩) | (go_at_call 31; refine (CS _).mono ?_; rintro e w1 ⟨rfl, rfl⟩) | (go_at_call 32; refine (CE _).mono ?_; rintro e w2 ⟨rfl, hb2⟩))
      all_goals (try go_wp2)
      all_goals (go_ret2; exact ⟨by rw [HV.out]; rfl, ext_refl _⟩)
    · have hem := empty_no h0
      cases b2
      · have HV := hide (userV_srv h1 h0 h2)
        simp only [Bool.false_eq_true, if_false] at CS
        clear h1 h2 h0 hz1 hz2 hz3
        go_enter Try.func11, Try.ntmps11
        go_wp2_with (first | (go_at_call 30; refine (CR _).mono ?_; rintro e w1 ⟨rfl, rfl⟩) | (go_at_call 31; refine (CS _).mono ?_; rintro e w1 ⟨rfl, rfl⟩) | (go_at_call 32; refine (CE _).mono ?_; rintro e w2 ⟨rfl, hb2⟩))
        all_goals (try go_wp2)
        all_goals (go_ret2; exact ⟨by rw [HV.out]; rfl, ext_refl _⟩)
      · simp only [if_true] at CS
        have hll := local_len net.data.toList name.data.toList
        have hel := escL_length name.data.toList
        by_cases h3 : 32 < (localOf net.data.toList name.data.toList).length
        · have HV := hide (userV_long h1 h0 h2 h3)
          obtain ⟨es, hes⟩ : ∃ es, str (escL name.data.toList) = es := ⟨_, rfl⟩
          have hesz : es.size = (escL name.data.toList).length := by rw [← hes, str_size]
          simp only [hes] at CE
          have hgt : 32 < 1 + net.size + 1 + es.size := by omega
          have hle : es.size ≤ 3000 := by omega
          by_cases h4 : 32 < name.size
          · clear h1 h2 h0 hz1 hz2 hz3 hll hel h3 hes hesz
            go_enter Try.func11, Try.ntmps11
            go_wp2_with (first | (go_at_call 30; refine (CR _).mono ?_; rintro e w1 ⟨rfl, rfl⟩) | (go_at_call 31; refine (CS _).mono ?_; rintro e w1 ⟨rfl, rfl⟩) | (go_at_call 32; refine (CE _).mono ?_; rintro e w2 ⟨rfl, hb2⟩))
            all_goals (try go_wp2)
            all_goals (go_ret2; exact ⟨by rw [HV.out]; rfl, ext_refl _⟩)
          · have h5 : name.size ≤ 32 := by omega
            clear h1 h2 h0 hz1 hz2 hz3 hll hel h3 hes hesz h4
            go_enter Try.func11, Try.ntmps11
            go_wp2_with (first | (go_at_call 30; refine (CR _).mono ?_; rintro e w1 ⟨rfl, rfl⟩) | (go_at_call 31; refine (CS _).mono ?_; rintro e w1 ⟨rfl, rfl⟩) | (go_at_call 32; refine (CE _).mono ?_; rintro e w2 ⟨rfl, hb2⟩))
            all_goals (try go_wp2)
            all_goals (go_ret2; exact ⟨by rw [HV.out]; rfl, hb2⟩)
        · have HV := hide (userV_ok h1 h0 h2 h3)
          have h5 : name.size ≤ 32 := by omega
          have HES := hide (str_size (escL name.data.toList))
          have hesz : (str (escL name.data.toList)).size = (escL name.data.toList).length := str_size _
          obtain ⟨es, hes⟩ : ∃ es, str (escL name.data.toList) = es := ⟨_, rfl⟩
          rw [hes] at HV hesz
          simp only [hes] at CE
          have hgt : 1 + net.size + 1 + es.size ≤ 32 := by omega
          clear h1 h2 h0 hz1 hz2 hz3 hll hel h3 hes hesz HES
          go_enter Try.func11, Try.ntmps11
          go_wp2_with (first | (go_at_call 30; refine (CR _).mono ?_; rintro e w1 ⟨rfl, rfl⟩) | (go_at_call 31; refine (CS _).mono ?_; rintro e w1 ⟨rfl, rfl⟩) | (go_at_call 32; refine (CE _).mono ?_; rintro e w2 ⟨rfl, hb2⟩))
          all_goals (try go_wp2)
          all_goals (go_ret2; exact ⟨by rw [HV.out]; rfl, hb2⟩)
set_option maxRecDepth 100000 in
set_option maxHeartbeats 1600000 in
theorem r51_User (net name srv : ByteArray) (w : World) (hs : net.size ≤ 1000) (hn : name.size ≤ 1000) (hv : srv.size ≤ 1000) : Calls Try.prog 12 #[.string net, .string name, .string srv] w (fun e w' => e = .returned (userV net name srv) ∧ Below w.heap.size w w') := by
  have CR := fun w => r51_Network net w (by omega)
  have CS := fun w => r2_Server srv w (by omega)
  have CE := fun w => r51_Escape name w hn
  have hz1 := Enc.size_toList net
  have hz2 := Enc.size_toList name
  have hz3 := Enc.size_toList srv
  obtain ⟨b1, h1⟩ : ∃ b, netB net.data.toList = b := ⟨_, rfl⟩
  obtain ⟨b2, h2⟩ : ∃ b, serverB srv.data.toList = b := ⟨_, rfl⟩
  simp only [h1] at CR
  simp only [h2, errN] at CS
  cases b1
  · have HV := hide (userV_net (name := name) (srv := srv) h1)
    clear h1 h2 hz1 hz2 hz3
    go_enter Try.func12, Try.ntmps12
    go_wp2_with (first | (go_at_call 33; refine (CR _).mono ?_; rintro e w1 ⟨rfl, rfl⟩) | (go_at_call 24; refine (CS _).mono ?_; rintro e w1 ⟨rfl, rfl⟩) | (go_at_call 34; refine (CE _).mono ?_; rintro e w2 ⟨rfl, hb2⟩))
    all_goals (try go_wp2)
    all_goals (go_ret2; exact ⟨by rw [HV.out]; rfl, ext_refl _⟩)
  · by_cases h0 : name.size = 0
    · have HV := hide (userV_short (srv := srv) h1 h0)
      have hem := empty_yes h0
      clear h1 h2 h0 hz1 hz2 hz3
      go_enter Try.func12, Try.ntmps12
      go_wp2_with (first | (go_at_call 33; refine (CR _).mono ?_; rintro e w1 ⟨rfl, rfl⟩) | (go_at_call 24; refine (CS _).mono ?_; rintro e w1 ⟨rfl, rfl⟩) | (go_at_call 34; refine (CE _).mono ?_; rintro e w2 ⟨rfl, hb2⟩))
      all_goals (try go_wp2)
      all_goals (go_ret2; exact ⟨by rw [HV.out]; rfl, ext_refl _⟩)
    · have hem := empty_no h0
      cases b2
      · have HV := hide (userV_srv h1 h0 h2)
        simp only [Bool.false_eq_true, if_false] at CS
        clear h1 h2 h0 hz1 hz2 hz3
        go_enter Try.func12, Try.ntmps12
        go_wp2_with (first | (go_at_call 33; refine (CR _).mono ?_; rintro e w1 ⟨rfl, rfl⟩) | (go_at_call 24; refine (CS _).mono ?_; rintro e w1 ⟨rfl, rfl⟩) | (go_at_call 34; refine (CE _).mono ?_; rintro e w2 ⟨rfl, hb2⟩))
        all_goals (try go_wp2)
        all_goals (go_ret2; exact ⟨by rw [HV.out]; rfl, ext_refl _⟩)
      · simp only [if_true] at CS
        have hll := local_len net.data.toList name.data.toList
        have hel := escL_length name.data.toList
        by_cases h3 : 32 < (localOf net.data.toList name.data.toList).length
        · have HV := hide (userV_long h1 h0 h2 h3)
          obtain ⟨es, hes⟩ : ∃ es, str (escL name.data.toList) = es := ⟨_, rfl⟩
          have hesz : es.size = (escL name.data.toList).length := by rw [← hes, str_size]
          simp only [hes] at CE
          have hgt : 32 < 1 + net.size + 1 + es.size := by omega
          have hle : es.size ≤ 3000 := by omega
          clear h1 h2 h0 hz1 hz2 hz3 hll hel h3 hes hesz
          go_enter Try.func12, Try.ntmps12
          go_wp2_with (first | (go_at_call 33; refine (CR _).mono ?_; rintro e w1 ⟨rfl, rfl⟩) | (go_at_call 24; refine (CS _).mono ?_; rintro e w1 ⟨rfl, rfl⟩) | (go_at_call 34; refine (CE _).mono ?_; rintro e w2 ⟨rfl, hb2⟩))
          all_goals (try go_wp2)
          all_goals (go_ret2; exact ⟨by rw [HV.out]; rfl, hb2⟩)
        · have HV := hide (userV_ok h1 h0 h2 h3)
          have h5 : name.size ≤ 32 := by omega
          have HES := hide (str_size (escL name.data.toList))
          have hesz : (str (escL name.data.toList)).size = (escL name.data.toList).length := str_size _
          obtain ⟨es, hes⟩ : ∃ es, str (escL name.data.toList) = es := ⟨_, rfl⟩
          rw [hes] at HV hesz
          simp only [hes] at CE
          have hgt : 1 + net.size + 1 + es.size ≤ 32 := by omega
          clear h1 h2 h0 hz1 hz2 hz3 hll hel h3 hes hesz HES
          go_enter Try.func12, Try.ntmps12
          go_wp2_with (first | (go_at_call 33; refine (CR _).mono ?_; rintro e w1 ⟨rfl, rfl⟩) | (go_at_call 24; refine (CS _).mono ?_; rintro e w1 ⟨rfl, rfl⟩) | (go_at_call 34; refine (CE _).mono ?_; rintro e w2 ⟨rfl, hb2⟩))
          all_goals (try go_wp2)
          all_goals (go_ret2; exact ⟨by rw [HV.out]; rfl, hb2⟩)
end Go.Proofs.Ytimdcnickfaddaa
