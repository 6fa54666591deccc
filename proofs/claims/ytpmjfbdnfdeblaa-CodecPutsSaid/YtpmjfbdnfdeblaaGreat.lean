/-
  fedchatlaw05: great.
-/
import Derived.Test.YtpmjfbdnfdeblaaSame
set_option linter.unusedVariables false
set_option linter.unusedSimpArgs false
namespace Go.Proofs.Ytpmjfbdnfdeblaa
open Go.RowKit

def sizes : List ByteArray → Nat
  | [] => 0
  | s :: r => s.size + sizes r
theorem sizes_append (a b : List ByteArray) : sizes (a ++ b) = sizes a + sizes b := by
  induction a with
  | nil => simp [sizes]
  | cons s r ih => simp only [List.cons_append, sizes, ih]; omega
theorem sizes_snoc (l : List ByteArray) (k : Nat) (h : k < l.length) : sizes (l.take (k + 1)) = sizes (l.take k) + l[k].size := by
  rw [List.take_succ_eq_append_getElem h, sizes_append]; simp [sizes]
theorem sizes_take (l : List ByteArray) (k : Nat) : sizes (l.take k) ≤ sizes l := by
  conv => rhs; rw [← List.take_append_drop k l, sizes_append]
  omega
theorem sizes_get (l : List ByteArray) (k : Nat) (h : k < l.length) : sizes (l.take k) + l[k].size ≤ sizes l := by
  rw [← sizes_snoc l k h]; exact sizes_take l _

def greatB (b s l t n : Nat) : Bool := decide (2000 < b ∨ 2000 < s ∨ 2000 < l ∨ 2000 < t ∨ 2000 < n)

set_option maxRecDepth 100000 in
set_option maxHeartbeats 1600000 in
theorem great_any (A0 A3 A4 : Option Addr) (n0 c0 n3 c3 c4 : Nat) (N : Int) (s : ByteArray) (T : List ByteArray) (is : Bool) (w : World) (hr : Row w w.heap.size A4 (svs T)) (hc4 : T.length ≤ 9223372036854775807) (hs : ∀ s ∈ T, s.size ≤ 9223372036854775807) :
    Calls Try.prog 13 #[.agg #[.slice A0 n0 c0, .int .i64 N, .string s, .slice A3 n3 c3, .slice A4 T.length c4, .bool is]] w (fun e w' => e = .returned (.bool (greatB n0 s.size n3 T.length (sizes T))) ∧ Below w.heap.size w w') := by
  by_cases h0 : 2000 < n0
  · have HF := hide (show greatB n0 s.size n3 T.length (sizes T) = true from by simp only [greatB, decide_eq_true_eq]; omega)
    go_enter Try.func13, Try.ntmps13
    go_wp2_with fail
    go_ret
    exact ⟨by rw [HF.out]; rfl, ext_alloc (ext_refl _) _⟩
  · by_cases h1 : 2000 < s.size
    · have HF := hide (show greatB n0 s.size n3 T.length (sizes T) = true from by simp only [greatB, decide_eq_true_eq]; omega)
      go_enter Try.func13, Try.ntmps13
      go_wp2_with fail
      go_ret
      exact ⟨by rw [HF.out]; rfl, ext_alloc (ext_refl _) _⟩
    · by_cases h2 : 2000 < n3
      · have HF := hide (show greatB n0 s.size n3 T.length (sizes T) = true from by simp only [greatB, decide_eq_true_eq]; omega)
        go_enter Try.func13, Try.ntmps13
        go_wp2_with fail
        go_ret
        exact ⟨by rw [HF.out]; rfl, ext_alloc (ext_refl _) _⟩
      · by_cases h3 : 2000 < T.length
        · have HF := hide (show greatB n0 s.size n3 T.length (sizes T) = true from by simp only [greatB, decide_eq_true_eq]; omega)
          go_enter Try.func13, Try.ntmps13
          go_wp2_with fail
          go_ret
          exact ⟨by rw [HF.out]; rfl, ext_alloc (ext_refl _) _⟩
        · have HR := hide (row_alloc hr (.cells #[.slice A0 n0 c0, .int .i64 N, .string s, .slice A3 n3 c3, .slice A4 T.length c4, .bool is] 32))
          clear hr
          go_enter Try.func13, Try.ntmps13
          go_wp2_with fail
          go_loop [3, 4] (fun n i => ∃ k : Nat, k ≤ T.length ∧ i = .int .i64 (k : Int) ∧ n = .int .i64 ((sizes (T.take k) : Nat) : Int) ∧ sizes (T.take k) ≤ 2000 * k) (fun _ i => T.length - (intOf i).toNat)
          case atStart => exact ⟨0, Nat.zero_le _, rfl, rfl, by simp [sizes]⟩
          case round =>
            obtain ⟨k, hk, rfl, rfl, hsz⟩ := hrel
            by_cases hlt : k < T.length
            · obtain ⟨ad, rfl, _, hcell⟩ := HR.out.at (svs_get T k hlt)
              have hsn := sizes_snoc T k hlt
              have hget := sizes_get T k hlt
              have hTk := hs _ (List.getElem_mem hlt)
              by_cases hbig : 2000 < T[k].size
              · have hfin : greatB n0 s.size n3 T.length (sizes T) = true := by simp only [greatB, decide_eq_true_eq]; omega
                have HF := hide hfin
                clear hsn hget hfin
                go_wp2_with fail
                go_ret
                exact ⟨by rw [HF.out]; rfl, ext_alloc (ext_refl _) _⟩
              · have HSN := hide hsn
                clear hsn hget
                go_wp2_with fail
                go_round
                case rel => exact ⟨k + 1, by omega, by go_num, by rw [HSN.out]; go_num, by rw [HSN.out]; omega⟩
                case measure => simp [intOf]; omega
            · obtain rfl : k = T.length := by omega
              have e : T.take T.length = T := List.take_length
              rw [e] at hsz ⊢
              have hfin : greatB n0 s.size n3 T.length (sizes T) = decide ((2000 : Int) < (sizes T : Int)) := by
                simp only [greatB]; congr 1; simp; omega
              have HF := hide hfin
              clear hfin e
              go_wp2_with fail
              go_ret
              exact ⟨by rw [HF.out]; rfl, ext_alloc (ext_refl _) _⟩
end Go.Proofs.Ytpmjfbdnfdeblaa
