/-
  What the laws of the bridge share.
-/
import Derived.Test.YtimdcnickfaddaaReadG
set_option linter.unusedVariables false
set_option linter.unusedSimpArgs false
namespace Go.Proofs.Ytimdcnickfaddaa
open Go.RowKit Go.Maps
open Classical
section
attribute [local go_sem] Addr.add_mid
theorem strcId : Strc Try.prog 23 #[.string ⟨#[]⟩, .string ⟨#[]⟩, .string ⟨#[]⟩] 3 := ⟨⟨_, Try.underlying23, rfl⟩, by kernel_rfl, rfl⟩
theorem userV_new {x y z : ByteArray} (he : userE x.data.toList y.data.toList z.data.toList = 0) : userV x y z = .tuple #[.string (newG x y z).user, .int .i64 0] := by
  unfold userV userS
  rw [he, if_pos rfl]; rfl
theorem new_has {x y z : ByteArray} (he : userE x.data.toList y.data.toList z.data.toList = 0) : Has x.data.toList y.data.toList z.data.toList := userE_zero.1 he
theorem new_list (x y z : ByteArray) : (newG x y z).user.data.toList = ghostL x.data.toList y.data.toList z.data.toList := by unfold newG; exact str_data _
theorem new_back {x y z : ByteArray} (he : userE x.data.toList y.data.toList z.data.toList = 0) : Back (newG x y z).user.data.toList x.data.toList y.data.toList := ⟨_, new_has he, new_list x y z⟩
theorem new_true {x y z : ByteArray} (he : userE x.data.toList y.data.toList z.data.toList = 0) : (newG x y z).true := by
  unfold Gh.true
  rw [bt, bt, bt]
  exact new_back he
theorem new_parts {x y z : ByteArray} (he : userE x.data.toList y.data.toList z.data.toList = 0) : Parts 64 (newG x y z).user.data.toList (localOf x.data.toList y.data.toList) z.data.toList := by
  rw [new_list]; exact ghost_parts (new_has he)
theorem new_size {x y z : ByteArray} (he : userE x.data.toList y.data.toList z.data.toList = 0) : (newG x y z).user.size ≤ 100 := by
  obtain ⟨h1, h2, h3⟩ := new_parts he
  have hz := Enc.size_toList (newG x y z).user
  rw [h1] at hz
  have := h2.2.1
  have := h3.2.1
  simp only [List.length_cons, List.length_append] at hz; omega
theorem small_bind {l : List Gh} {x y z : ByteArray} (hs : SmallG 100 l) (he : userE x.data.toList y.data.toList z.data.toList = 0) (h1 : x.size ≤ 100) (h2 : y.size ≤ 100) : SmallG 1000 (bindG l (newG x y z)) := by
  have hm : SmallG 1000 l := fun g hg => by have := hs g hg; omega
  unfold bindG
  split
  · exact hm
  · intro g hg
    rcases putG_mem.1 hg with rfl | hg
    · exact ⟨by show x.size ≤ 1000; omega, by show y.size ≤ 1000; omega, by have := new_size he; omega⟩
    · exact hm g hg
theorem bind_zero {l : List Gh} {x y z : ByteArray} (h : bindE l (newG x y z) z.data.toList = 0) : userE x.data.toList y.data.toList z.data.toList = 0 ∧ (findG (newG x y z).id l = none → l.length < 200) := by
  by_cases he : userE x.data.toList y.data.toList z.data.toList = 0
  · refine ⟨he, fun hf => ?_⟩
    rw [bindE_ok he] at h
    rw [newG_id] at hf
    rw [hf] at h
    by_cases h2 : 200 ≤ l.length
    · have h' : (if 200 ≤ l.length then (29 : Int) else 0) = 0 := h
      rw [if_pos h2] at h'; cases h'
    · omega
  · rw [bindE_err rfl he] at h; exact absurd h he
theorem right_iff {l : List Gh} : gCheck l = 0 ↔ Right l := by
  unfold gCheck Right
  by_cases h : 200 < l.length
  · rw [if_pos h]
    constructor
    · intro h1; cases h1
    · rintro ⟨h1, _⟩; omega
  · rw [if_neg h, checkE_zero]
    constructor
    · rintro ⟨h1, h2, _⟩; exact ⟨by omega, h1, h2⟩
    · rintro ⟨_, h1, h2⟩; exact ⟨h1, h2, fun p g hp => by cases hp⟩
theorem small_more {l : List Gh} (h : SmallG 100 l) : SmallG 1000 l := fun g hg => by
  have := h g hg; omega
theorem putG_len2 (l : List Gh) (x : Gh) : (bindG l x).length ≤ l.length + 1 := by
  unfold bindG
  split
  · omega
  · rw [putG_length]; exact Nat.le_refl _
end
end Go.Proofs.Ytimdcnickfaddaa
