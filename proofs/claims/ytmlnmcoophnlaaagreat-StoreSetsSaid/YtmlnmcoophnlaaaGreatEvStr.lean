/-
  event: the writer's methods, and all.
  event.Encode: the canonical bytes of an event.
  The sum of bytes: the program's and the reference's.
  event: Strip, Hash, Whole, IdOf, Sign.
-/
import Derived.Test.YtmlnmcoophnlaaaGreatRdr
import Derived.Deep.DeepCutAuto
import Derived.Laws.EntriesVeiled
import Derived.Test.YtmlnmcoophnlaaaGreatEncC
import Derived.Test.YtmlnmcoophnlaaaGreatPhases
import Derived.Test.YtmlnmcoophnlaaaGreatRows
import Derived.Test.YtmlnmcoophnlaaaGreatMem
import Derived.Test.YtmlnmcoophnlaaaGreatAggs
import Derived.Laws.Bits64
import Derived.Laws.Bits64b
import Derived.Test.YtmlnmcoophnlaaaGreatStc6
import Derived.BigQuiet
set_option linter.unusedVariables false
set_option linter.unusedSimpArgs false
namespace Go.Proofs.YtmlnmcoophnlaaaGreat
section
open Go.RowKit
attribute [local go_sem] Addr.add_mid
/-- the writer at g holds the bytes l -/
def Wr (w : World) (g : Nat) (l : List UInt8) : Prop := ∃ A c, w.heap[g]? = some (.cells [.slice A l.length c].toArray 115 (0, 0)) ∧ l.length ≤ c ∧ Row w w.heap.size A (bvs l) ∧ (l ≠ [] → ∀ ad, A = some ad → ad.block ≠ g)
theorem Wr.lt {w : World} {g : Nat} {l : List UInt8} (h : Wr w g l) : g < w.heap.size := by
  obtain ⟨A, c, hB, _⟩ := h
  exact (Array.getElem?_eq_some_iff.1 hB).1
theorem Wr.ext {w w' : World} {g : Nat} {l : List UInt8} (h : Wr w g l) (k : Below w.heap.size w w') : Wr w' g l := by
  obtain ⟨A, c, hB, hc, hr, hs⟩ := h
  exact ⟨A, c, box_below hB k, hc, hr.ext k, hs⟩
theorem own_one6 {w : World} {base : Nat} {e : TypeId} {size n : Nat} {v : Value} {xs : List Value} (h : w.ownsRow base e size v n xs) : v.oneCell' = true := by obtain ⟨A, c, rfl, _⟩ := own_form h; rfl
def WroteV (g : Nat) (L : List UInt8) (w : World) (e : Ending) (w' : World) : Prop := e = .returned (.tuple #[]) ∧ Wr w' g L ∧ w.grownBy w' (some g)
theorem wr_own {w w' w2 : World} {g : Nat} {v : Value} {L : List UInt8} (hg : g < w.heap.size) (hown : w'.ownsRow w.heap.size 5 1 v L.length (bvs L)) (B2 : w2.heap[g]? = some (.cells [v].toArray 115 (0, 0))) (g2 : w'.grownBy w2 (some g)) : Wr w2 g L := by
  have HS := (Slc.own hown (by decide)).grown g2 (fun b hb e => by injection e with e; omega)
  obtain ⟨A, c, rfl, _, hc, _, _, hr, hs⟩ := HS
  exact ⟨A, c, B2, hc, hr, fun hl ad ha e => by
    have := hs (by simpa [bvs] using hl) ad ha
    omega⟩
set_option maxRecDepth 100000 in
set_option maxHeartbeats 1600000 in
theorem w_number {g : Nat} {l : List UInt8} {w : World} (n : Int) (h : Wr w g l) (hn : I64 n) (hl : l.length ≤ 1073741824) :
    Calls Tryz.prog 115 #[.pointer (some ⟨g, 0, none⟩), .int .i64 n] w (WroteV g (l ++ encI n) w) := by
  have hgl := h.lt
  obtain ⟨A, c, hB, hc, hr, _⟩ := h
  have r0 := box_at hB (j := 0) rfl
  have CP : Calls Tryz.prog 96 #[.slice A l.length c, .int .i64 n] w (OwnB w.heap.size (l ++ encI n) w) := PutInt_any A c l n w hr hn.1 hn.2 hl
  obtain ⟨L, hL⟩ : ∃ L, l ++ encI n = L := ⟨_, rfl⟩
  rw [hL] at CP ⊢
  have HB := hide hB
  clear hB hL hr
  go_enter Tryz.func115, Tryz.ntmps115
  go_wp2_with (first
    | (go_at_call 96; refine CP.mono ?_; rintro e w1 ⟨v, rfl, hown, hb⟩)
    | refine wpList_store1 rfl (.tmp 12) (.tmp 10) rfl rfl sizeB g 0 rfl v rfl (own_one6 hown) [.slice A l.length c] 115 (box_below HB.out hb) (by simp) ?_)
  intro w2 B2 g2 z2
  have HW := hide (wr_own hgl hown B2 g2)
  have G2 := below_grown hb g2
  clear B2 g2 z2 hown
  go_wp2_with fail
  go_end0
  exact ⟨rfl, HW.out, G2⟩
set_option maxRecDepth 100000 in
set_option maxHeartbeats 1600000 in
theorem w_text {g : Nat} {l : List UInt8} {w : World} (s : ByteArray) (h : Wr w g l) (hn : s.size ≤ 1073741824) (hl : l.length ≤ 1073741824) :
    Calls Tryz.prog 117 #[.pointer (some ⟨g, 0, none⟩), .string s] w (WroteV g (l ++ encS s) w) := by
  have hgl := h.lt
  obtain ⟨A, c, hB, hc, hr, _⟩ := h
  have r0 := box_at hB (j := 0) rfl
  have CP : Calls Tryz.prog 95 #[.slice A l.length c, .string s] w (OwnB w.heap.size (l ++ encS s) w) := PutText_any A c l s w hr hl hn
  obtain ⟨L, hL⟩ : ∃ L, l ++ encS s = L := ⟨_, rfl⟩
  rw [hL] at CP ⊢
  have HB := hide hB
  clear hB hL hr
  go_enter Tryz.func117, Tryz.ntmps117
  go_wp2_with (first
    | (go_at_call 95; refine CP.mono ?_; rintro e w1 ⟨v, rfl, hown, hb⟩)
    | refine wpList_store1 rfl (.tmp 12) (.tmp 10) rfl rfl sizeB g 0 rfl v rfl (own_one6 hown) [.slice A l.length c] 115 (box_below HB.out hb) (by simp) ?_)
  intro w2 B2 g2 z2
  have HW := hide (wr_own hgl hown B2 g2)
  have G2 := below_grown hb g2
  clear B2 g2 z2 hown
  go_wp2_with fail
  go_end0
  exact ⟨rfl, HW.out, G2⟩
set_option maxRecDepth 100000 in
set_option maxHeartbeats 1600000 in
theorem w_flag {g : Nat} {l : List UInt8} {w : World} (b : Bool) (h : Wr w g l)  (hl : l.length ≤ 1073741824) :
    Calls Tryz.prog 119 #[.pointer (some ⟨g, 0, none⟩), .bool b] w (WroteV g (l ++ [if b then 1 else 0]) w) := by
  have hgl := h.lt
  obtain ⟨A, c, hB, hc, hr, _⟩ := h
  have r0 := box_at hB (j := 0) rfl
  have CP : Calls Tryz.prog 97 #[.slice A l.length c, .bool b] w (OwnB w.heap.size (l ++ [if b then 1 else 0]) w) := PutBool_any A c l b w hr hl
  obtain ⟨L, hL⟩ : ∃ L, l ++ [if b then 1 else 0] = L := ⟨_, rfl⟩
  rw [hL] at CP ⊢
  have HB := hide hB
  clear hB hL hr
  go_enter Tryz.func119, Tryz.ntmps119
  go_wp2_with (first
    | (go_at_call 97; refine CP.mono ?_; rintro e w1 ⟨v, rfl, hown, hb⟩)
    | refine wpList_store1 rfl (.tmp 12) (.tmp 10) rfl rfl sizeB g 0 rfl v rfl (own_one6 hown) [.slice A l.length c] 115 (box_below HB.out hb) (by simp) ?_)
  intro w2 B2 g2 z2
  have HW := hide (wr_own hgl hown B2 g2)
  have G2 := below_grown hb g2
  clear B2 g2 z2 hown
  go_wp2_with fail
  go_end0
  exact ⟨rfl, HW.out, G2⟩
set_option maxRecDepth 100000 in
set_option maxHeartbeats 1600000 in
theorem w_numbers {g : Nat} {l : List UInt8} {w : World} {S : Nat → Prop} {v2 : Value} {ns : List Int} (h : Wr w g l) (h2 : Slc w S v2 1 ns.length (ivs ns)) (hi : ∀ n ∈ ns, I64 n) (hn : ns.length ≤ 16777216) (hl : l.length + (encL encI ns).length ≤ 1073741824) :
    Calls Tryz.prog 121 #[.pointer (some ⟨g, 0, none⟩), v2] w (WroteV g (l ++ encL encI ns) w) := by
  have hgl := h.lt
  obtain ⟨A, c, hB, hc, hr, _⟩ := h
  obtain ⟨A2, c2, rfl, _, _, _, hr2, _⟩ := h2.form
  have r0 := box_at hB (j := 0) rfl
  have CP : Calls Tryz.prog 172 #[.slice A l.length c, .slice A2 ns.length c2] w (OwnB w.heap.size (l ++ encL encI ns) w) := PutInts_any A c l A2 c2 ns w hr hr2 hi hl hn
  obtain ⟨L, hL⟩ : ∃ L, l ++ encL encI ns = L := ⟨_, rfl⟩
  rw [hL] at CP ⊢
  have HB := hide hB
  clear hB hL hr hr2 h2
  go_enter Tryz.func121, Tryz.ntmps121
  go_wp2_with (first
    | (go_at_call 172; refine CP.mono ?_; rintro e w1 ⟨v, rfl, hown, hb⟩)
    | refine wpList_store1 rfl (.tmp 12) (.tmp 10) rfl rfl sizeB g 0 rfl v rfl (own_one6 hown) [.slice A l.length c] 115 (box_below HB.out hb) (by simp) ?_)
  intro w2 B2 g2 z2
  have HW := hide (wr_own hgl hown B2 g2)
  have G2 := below_grown hb g2
  clear B2 g2 z2 hown
  go_wp2_with fail
  go_end0
  exact ⟨rfl, HW.out, G2⟩
/-- a cell where another block grew -/
theorem cell_apart {w w' : World} {g b o : Nat} {u : Value} (hg : w.grownBy w' (some g)) (hb : b < w.heap.size) (hne : b ≠ g) (hc : w.cell? ⟨b, o, none⟩ = some u) : w'.cell? ⟨b, o, none⟩ = some u := by
  rw [← hc]
  exact World.cell?_of_block (hg.block b hb (fun e => by injection e with e; exact hne e))
theorem flatE_take {α : Type} (f : α → List UInt8) {l : List α} {k : Nat} (hk : k < l.length) (p : List UInt8) : p ++ (l.take (k + 1)).flatMap f = (p ++ (l.take k).flatMap f) ++ f l[k] := by
  rw [List.take_succ_eq_append_getElem hk, List.flatMap_append]; simp
theorem flat_take_le {α : Type} (f : α → List UInt8) (l : List α) (k : Nat) (p : List UInt8) : (p ++ (l.take k).flatMap f).length ≤ (p ++ l.flatMap f).length := by
  have h : l.flatMap f = (l.take k).flatMap f ++ (l.drop k).flatMap f := by rw [← List.flatMap_append, List.take_append_drop]
  rw [h]; simp only [List.length_append]; omega
def tvs (l : List Bool) : List Value := l.map .bool
theorem tvs_get (l : List Bool) (k : Nat) (h : k < l.length) : (tvs l)[k]? = some (.bool l[k]) := by simp [tvs, h]
set_option maxRecDepth 100000 in
set_option maxHeartbeats 1600000 in
theorem all_number {g : Nat} {l : List UInt8} {w : World} {A : Option Addr} {c : Nat} {ns : List Int} (h : Wr w g l) (hr : Row w w.heap.size A (ivs ns)) (hA : ns ≠ [] → ∀ ad, A = some ad → ad.block ≠ g) (hi : ∀ n ∈ ns, I64 n) (hn : ns.length ≤ 1000) (hl : (l ++ ns.flatMap encI).length ≤ 1073741824) :
    Calls Tryz.prog 114 #[.func (Fn.func 115) #[.pointer (some ⟨g, 0, none⟩)] #[], .slice A ns.length c] w (WroteV g (l ++ ns.flatMap encI) w) := by
  go_enter Tryz.func114, Tryz.ntmps114
  go_wp2_with fail
  go_loopw [8] (fun i wr => ∃ k : Nat, k ≤ ns.length ∧ i = .int .i64 (k : Int) ∧ Wr wr g (l ++ (ns.take k).flatMap encI) ∧ w.grownBy wr (some g)) (fun i _ => ns.length - (intOf i).toNat)
  case atStart => exact ⟨0, Nat.zero_le _, rfl, by simpa using h, World.grownBy.refl _ _⟩
  case round =>
  obtain ⟨k, hk, rfl, HW, hg⟩ := hrel
  by_cases hlt : k < ns.length
  · obtain ⟨b, o, rfl, hb, hc⟩ := hr.fix (ivs_get ns k hlt)
    have r0 := cell_apart hg hb (hA (by intro e; rw [e] at hlt; simp at hlt) _ rfl) (hc _ _ (ivs_get ns k hlt))
    have hle := Nat.le_trans (flat_take_le encI ns k l) hl
    have CW := w_number ns[k] HW (hi _ (List.getElem_mem hlt)) hle
    have HF := hide (flatE_take encI hlt l)
    clear hc HW hle
    go_wp2_with (go_at_call 115; refine CW.mono ?_; rintro e w1 ⟨rfl, HW1, g1⟩)
    go_roundw
    case rel => exact ⟨k + 1, by omega, by go_num, by rw [HF.out]; exact HW1, hg.trans g1⟩
    case measure => (simp [intOf]; try omega)
  · obtain rfl : k = ns.length := by omega
    rw [List.take_length] at HW
    go_wp2_with fail
    go_end0
    exact ⟨rfl, HW, hg⟩
set_option maxRecDepth 100000 in
set_option maxHeartbeats 1600000 in
theorem all_text {g : Nat} {l : List UInt8} {w : World} {A : Option Addr} {c : Nat} {ns : List ByteArray} (h : Wr w g l) (hr : Row w w.heap.size A (svs ns)) (hA : ns ≠ [] → ∀ ad, A = some ad → ad.block ≠ g) (hi : ∀ s ∈ ns, s.size ≤ 1073741824) (hn : ns.length ≤ 1000) (hl : (l ++ ns.flatMap encS).length ≤ 1073741824) :
    Calls Tryz.prog 116 #[.func (Fn.func 117) #[.pointer (some ⟨g, 0, none⟩)] #[], .slice A ns.length c] w (WroteV g (l ++ ns.flatMap encS) w) := by
  go_enter Tryz.func116, Tryz.ntmps116
  go_wp2_with fail
  go_loopw [8] (fun i wr => ∃ k : Nat, k ≤ ns.length ∧ i = .int .i64 (k : Int) ∧ Wr wr g (l ++ (ns.take k).flatMap encS) ∧ w.grownBy wr (some g)) (fun i _ => ns.length - (intOf i).toNat)
  case atStart => exact ⟨0, Nat.zero_le _, rfl, by simpa using h, World.grownBy.refl _ _⟩
  case round =>
  obtain ⟨k, hk, rfl, HW, hg⟩ := hrel
  by_cases hlt : k < ns.length
  · obtain ⟨b, o, rfl, hb, hc⟩ := hr.fix (svs_get ns k hlt)
    have r0 := cell_apart hg hb (hA (by intro e; rw [e] at hlt; simp at hlt) _ rfl) (hc _ _ (svs_get ns k hlt))
    have hle := Nat.le_trans (flat_take_le encS ns k l) hl
    have CW := w_text ns[k] HW (hi _ (List.getElem_mem hlt)) hle
    have HF := hide (flatE_take encS hlt l)
    clear hc HW hle
    go_wp2_with (go_at_call 117; refine CW.mono ?_; rintro e w1 ⟨rfl, HW1, g1⟩)
    go_roundw
    case rel => exact ⟨k + 1, by omega, by go_num, by rw [HF.out]; exact HW1, hg.trans g1⟩
    case measure => (simp [intOf]; try omega)
  · obtain rfl : k = ns.length := by omega
    rw [List.take_length] at HW
    go_wp2_with fail
    go_end0
    exact ⟨rfl, HW, hg⟩
set_option maxRecDepth 100000 in
set_option maxHeartbeats 1600000 in
theorem all_flag {g : Nat} {l : List UInt8} {w : World} {A : Option Addr} {c : Nat} {ns : List Bool} (h : Wr w g l) (hr : Row w w.heap.size A (tvs ns)) (hA : ns ≠ [] → ∀ ad, A = some ad → ad.block ≠ g)  (hn : ns.length ≤ 1000) (hl : (l ++ ns.flatMap (fun b : Bool => [if b then 1 else 0])).length ≤ 1073741824) :
    Calls Tryz.prog 118 #[.func (Fn.func 119) #[.pointer (some ⟨g, 0, none⟩)] #[], .slice A ns.length c] w (WroteV g (l ++ ns.flatMap (fun b : Bool => [if b then 1 else 0])) w) := by
  go_enter Tryz.func118, Tryz.ntmps118
  go_wp2_with fail
  go_loopw [8] (fun i wr => ∃ k : Nat, k ≤ ns.length ∧ i = .int .i64 (k : Int) ∧ Wr wr g (l ++ (ns.take k).flatMap (fun b : Bool => [if b then 1 else 0])) ∧ w.grownBy wr (some g)) (fun i _ => ns.length - (intOf i).toNat)
  case atStart => exact ⟨0, Nat.zero_le _, rfl, by simpa using h, World.grownBy.refl _ _⟩
  case round =>
  obtain ⟨k, hk, rfl, HW, hg⟩ := hrel
  by_cases hlt : k < ns.length
  · obtain ⟨b, o, rfl, hb, hc⟩ := hr.fix (tvs_get ns k hlt)
    have r0 := cell_apart hg hb (hA (by intro e; rw [e] at hlt; simp at hlt) _ rfl) (hc _ _ (tvs_get ns k hlt))
    have hle := Nat.le_trans (flat_take_le (fun b : Bool => [if b then 1 else 0]) ns k l) hl
    have CW := w_flag ns[k] HW hle
    have HF := hide (flatE_take (fun b : Bool => [if b then 1 else 0]) hlt l)
    clear hc HW hle
    go_wp2_with (go_at_call 119; refine CW.mono ?_; rintro e w1 ⟨rfl, HW1, g1⟩)
    go_roundw
    case rel => exact ⟨k + 1, by omega, by go_num, by rw [HF.out]; exact HW1, hg.trans g1⟩
    case measure => (simp [intOf]; try omega)
  · obtain rfl : k = ns.length := by omega
    rw [List.take_length] at HW
    go_wp2_with fail
    go_end0
    exact ⟨rfl, HW, hg⟩
set_option maxRecDepth 100000 in
set_option maxHeartbeats 1600000 in
theorem all_numbers {g : Nat} {l : List UInt8} {w : World} {A : Option Addr} {c : Nat} {ps : List (Value × List Int)} (h : Wr w g l) (hr : Row w w.heap.size A (ps.map (·.1))) (hA : ps ≠ [] → ∀ ad, A = some ad → ad.block ≠ g) (hp : ∀ p ∈ ps, Slc w (fun b => b ≠ g ∧ b < w.heap.size) p.1 1 p.2.length (ivs p.2) ∧ (∀ n ∈ p.2, I64 n) ∧ p.2.length ≤ 16777216) (hn : ps.length ≤ 1000) (hl : (l ++ ps.flatMap fun p => encL encI p.2).length ≤ 1073741824) :
    Calls Tryz.prog 120 #[.func (Fn.func 121) #[.pointer (some ⟨g, 0, none⟩)] #[], .slice A ps.length c] w (WroteV g (l ++ ps.flatMap fun p => encL encI p.2) w) := by
  go_enter Tryz.func120, Tryz.ntmps120
  go_wp2_with fail
  go_loopw [8] (fun i wr => ∃ k : Nat, k ≤ ps.length ∧ i = .int .i64 (k : Int) ∧ Wr wr g (l ++ (ps.take k).flatMap fun p => encL encI p.2) ∧ w.grownBy wr (some g)) (fun i _ => ps.length - (intOf i).toNat)
  case atStart => exact ⟨0, Nat.zero_le _, rfl, by simpa using h, World.grownBy.refl _ _⟩
  case round =>
  obtain ⟨k, hk, rfl, HW, hg⟩ := hrel
  by_cases hlt : k < ps.length
  · have hget : (ps.map (·.1))[k]? = some ps[k].1 := by simp [hlt]
    obtain ⟨b, o, rfl, hb, hc⟩ := hr.fix hget
    have r0 := cell_apart hg hb (hA (by intro e; rw [e] at hlt; simp at hlt) _ rfl) (hc _ _ hget)
    have hle := Nat.le_trans (flat_take_le (fun p : Value × List Int => encL encI p.2) ps (k + 1) l) hl
    have HF := hide (flatE_take (fun p : Value × List Int => encL encI p.2) hlt l)
    rw [HF.out, List.length_append] at hle
    obtain ⟨h1, h2, h3⟩ := hp _ (List.getElem_mem hlt)
    have CW := w_numbers HW (h1.grown hg (fun q hq e => by injection e with e; exact hq.1 e.symm)) h2 h3 hle
    have hone := h1.one
    clear hc HW hle h1 h2 h3
    go_wp2_with (go_at_call 121; refine CW.mono ?_; rintro e w1 ⟨rfl, HW1, g1⟩)
    go_roundw
    case rel => exact ⟨k + 1, by omega, by go_num, by rw [HF.out]; exact HW1, hg.trans g1⟩
    case measure => (simp [intOf]; try omega)
  · obtain rfl : k = ps.length := by omega
    rw [List.take_length] at HW
    go_wp2_with fail
    go_end0
    exact ⟨rfl, HW, hg⟩
end

section
open Go.RowKit
attribute [local go_sem] Addr.add_mid
/-- the bytes of an event -/
def encEv (e : Ev) : List UInt8 := encI e.id ++ (encS e.room ++ (encS e.sender ++ (encI e.kind ++ ((if e.state then 1 else 0) :: (encS e.key ++ (encI e.time ++ (encI e.depth ++ (encL encI e.prev ++ (encL encI e.auth ++ (encS (str (encCon e.con)) ++ (encI e.hash ++ (encS e.server ++ encI e.sum))))))))))))
structure Ev.puts (e : Ev) : Prop where
  all : (encEv e).length ≤ 1073741824
  id : I64 e.id
  room : e.room.size ≤ 1073741824
  sender : e.sender.size ≤ 1073741824
  kind : I64 e.kind
  key : e.key.size ≤ 1073741824
  time : I64 e.time
  depth : I64 e.depth
  prev : ∀ n ∈ e.prev, I64 n
  auth : ∀ n ∈ e.auth, I64 n
  prevL : e.prev.length ≤ 16777216
  authL : e.auth.length ≤ 16777216
  con : e.con.puts
  hash : I64 e.hash
  server : e.server.size ≤ 1073741824
  sum : I64 e.sum
theorem EvR.gets {w : World} {S : Nat → Prop} {cs : List Value} {e : Ev} (h : EvR w S cs e) : cs[0]? = some (.int .i64 e.id) ∧ cs[1]? = some (.string e.room) ∧ cs[2]? = some (.string e.sender) ∧ cs[3]? = some (.int .i64 e.kind) ∧ cs[4]? = some (.bool e.state) ∧ cs[5]? = some (.string e.key) ∧ cs[6]? = some (.int .i64 e.time) ∧ cs[7]? = some (.int .i64 e.depth) ∧ cs[26]? = some (.int .i64 e.hash) ∧ cs[27]? = some (.string e.server) ∧ cs[28]? = some (.int .i64 e.sum) := by
  obtain ⟨_, _, _, _, _, _, rfl, _⟩ := h; exact ⟨rfl, rfl, rfl, rfl, rfl, rfl, rfl, rfl, rfl, rfl, rfl⟩
theorem EvR.lists {w : World} {S : Nat → Prop} {cs : List Value} {e : Ev} (h : EvR w S cs e) : ∃ vp vq, cs[8]? = some vp ∧ cs[9]? = some vq ∧ Slc w S vp 1 e.prev.length (ivs e.prev) ∧ Slc w S vq 1 e.auth.length (ivs e.auth) := by
  obtain ⟨vp, vq, _, _, _, _, rfl, h1, h2, _⟩ := h; exact ⟨vp, vq, rfl, rfl, h1, h2⟩
theorem EvR.lists_at {w : World} {S : Nat → Prop} {cs : List Value} {e : Ev} {vp vq : Value} (h : EvR w S cs e) (s8 : cs[8]? = some vp) (s9 : cs[9]? = some vq) : Slc w S vp 1 e.prev.length (ivs e.prev) ∧ Slc w S vq 1 e.auth.length (ivs e.auth) := by
  obtain ⟨vp', vq', a1, a2, h1, h2⟩ := h.lists
  rw [s8] at a1; rw [s9] at a2
  injection a1 with a1; injection a2 with a2
  subst a1 a2
  exact ⟨h1, h2⟩
theorem wr_lit {u : World} {g : Nat} {l : List UInt8} (h : Wr u g l) (C : Array Value) (t : TypeId) : Wr (u.alloc (.cells C t)) g l ∧ u.grownBy (u.alloc (.cells C t)) (some g) := ⟨h.ext (ext_alloc (ext_refl u) _), grown_below (World.grownBy.refl _ _) (ext_alloc (ext_refl u) _)⟩
theorem lit_number {u : World} {g : Nat} {l L : List UInt8} (h : Wr u g l) (xs : List Int) (C : Array Value) (hC : C.toList = ivs xs) {n : Nat} (hn : xs.length = n) (hi : ∀ n ∈ xs, I64 n) (hL : l ++ xs.flatMap encI = L) (hl : L.length ≤ 1073741824) (hn2 : n ≤ 1000) :
    Calls Tryz.prog 114 #[.func (Fn.func 115) #[.pointer (some ⟨g, 0, none⟩)] #[], .slice (some ⟨u.heap.size, 0, none⟩) n n] (u.alloc (.cells C 3)) (fun e w' => e = .returned (.tuple #[]) ∧ Wr w' g L ∧ u.grownBy w' (some g)) := by
  subst hn hL
  have h1 := wr_lit h C 3
  refine (all_number (c := xs.length) h1.1 (row_lit u (ivs xs) C 3 rfl hC) (fun _ ad ha => by injection ha with ha; subst ha; have := h.lt; exact (by omega : u.heap.size ≠ g)) hi hn2 hl).mono ?_
  rintro e w' ⟨h2, h3, h4⟩
  exact ⟨h2, h3, h1.2.trans h4⟩
theorem lit_text {u : World} {g : Nat} {l L : List UInt8} (h : Wr u g l) (xs : List ByteArray) (C : Array Value) (hC : C.toList = svs xs) {n : Nat} (hn : xs.length = n) (hi : ∀ s ∈ xs, s.size ≤ 1073741824) (hL : l ++ xs.flatMap encS = L) (hl : L.length ≤ 1073741824) (hn2 : n ≤ 1000) :
    Calls Tryz.prog 116 #[.func (Fn.func 117) #[.pointer (some ⟨g, 0, none⟩)] #[], .slice (some ⟨u.heap.size, 0, none⟩) n n] (u.alloc (.cells C 9)) (fun e w' => e = .returned (.tuple #[]) ∧ Wr w' g L ∧ u.grownBy w' (some g)) := by
  subst hn hL
  have h1 := wr_lit h C 9
  refine (all_text (c := xs.length) h1.1 (row_lit u (svs xs) C 9 rfl hC) (fun _ ad ha => by injection ha with ha; subst ha; have := h.lt; exact (by omega : u.heap.size ≠ g)) hi hn2 hl).mono ?_
  rintro e w' ⟨h2, h3, h4⟩
  exact ⟨h2, h3, h1.2.trans h4⟩
theorem lit_flag {u : World} {g : Nat} {l L : List UInt8} (h : Wr u g l) (xs : List Bool) (C : Array Value) (hC : C.toList = tvs xs) {n : Nat} (hn : xs.length = n)  (hL : l ++ xs.flatMap (fun b : Bool => [if b then 1 else 0]) = L) (hl : L.length ≤ 1073741824) (hn2 : n ≤ 1000) :
    Calls Tryz.prog 118 #[.func (Fn.func 119) #[.pointer (some ⟨g, 0, none⟩)] #[], .slice (some ⟨u.heap.size, 0, none⟩) n n] (u.alloc (.cells C 4)) (fun e w' => e = .returned (.tuple #[]) ∧ Wr w' g L ∧ u.grownBy w' (some g)) := by
  subst hn hL
  have h1 := wr_lit h C 4
  refine (all_flag (c := xs.length) h1.1 (row_lit u (tvs xs) C 4 rfl hC) (fun _ ad ha => by injection ha with ha; subst ha; have := h.lt; exact (by omega : u.heap.size ≠ g))  hn2 hl).mono ?_
  rintro e w' ⟨h2, h3, h4⟩
  exact ⟨h2, h3, h1.2.trans h4⟩
theorem lit_numbers {u : World} {g : Nat} {l L : List UInt8} (h : Wr u g l) (ps : List (Value × List Int)) (C : Array Value) (hC : C.toList = ps.map (·.1)) {n : Nat} (hn : ps.length = n) (hp : ∀ p ∈ ps, Slc u (fun b => b ≠ g) p.1 1 p.2.length (ivs p.2) ∧ (∀ n ∈ p.2, I64 n) ∧ p.2.length ≤ 16777216) (hL : (l ++ ps.flatMap fun p => encL encI p.2) = L) (hl : L.length ≤ 1073741824) (hn2 : n ≤ 1000) :
    Calls Tryz.prog 120 #[.func (Fn.func 121) #[.pointer (some ⟨g, 0, none⟩)] #[], .slice (some ⟨u.heap.size, 0, none⟩) n n] (u.alloc (.cells C 24)) (fun e w' => e = .returned (.tuple #[]) ∧ Wr w' g L ∧ u.grownBy w' (some g)) := by
  subst hn hL
  have h1 := wr_lit h C 24
  refine (all_numbers (c := ps.length) h1.1 (row_lit u (ps.map (·.1)) C 24 rfl hC) (fun _ ad ha => by injection ha with ha; subst ha; have := h.lt; exact (by omega : u.heap.size ≠ g)) (fun p hp' => ⟨((hp p hp').1.ext (ext_alloc (ext_refl u) _)).weak (fun b hb hlt => ⟨hb, hlt⟩), (hp p hp').2⟩) hn2 hl).mono ?_
  rintro e w' ⟨h2, h3, h4⟩
  exact ⟨h2, h3, h1.2.trans h4⟩
def partE (e : Ev) : Nat → List UInt8
  | 0 => encI e.id
  | 1 => encS e.room ++ encS e.sender
  | 2 => encI e.kind
  | 3 => [if e.state then 1 else 0]
  | 4 => encS e.key
  | 5 => encI e.time ++ encI e.depth
  | 6 => encL encI e.prev ++ encL encI e.auth
  | 7 => encS (str (encCon e.con))
  | 8 => encI e.hash
  | 9 => encS e.server
  | _ => encI e.sum
def prefE (e : Ev) : Nat → List UInt8
  | 0 => []
  | k + 1 => prefE e k ++ partE e k
theorem prefE_all (e : Ev) : prefE e 11 = encEv e := by simp [prefE, partE, encEv]
theorem prefE_le (e : Ev) : ∀ j k : Nat, (prefE e k).length ≤ (prefE e (k + j)).length
  | 0, k => Nat.le_refl _
  | j + 1, k => by
    have h1 := prefE_le e j k
    have h2 : (prefE e (k + (j + 1))).length = (prefE e (k + j)).length + (partE e (k + j)).length := by
      rw [← Nat.add_assoc]; show (prefE e (k + j) ++ partE e (k + j)).length = _; rw [List.length_append]
    omega
theorem prefE_ok {e : Ev} (h : (encEv e).length ≤ 1073741824) (k : Nat) (hk : k ≤ 11) : (prefE e k).length ≤ 1073741824 := by
  have h1 := prefE_le e (11 - k) k
  rw [show k + (11 - k) = 11 by omega, prefE_all] at h1
  omega
set_option maxRecDepth 100000 in
set_option maxHeartbeats 16000000 in
theorem EvEncode_any {S : Nat → Prop} {cs : List Value} {e : Ev} {w : World} (hr : EvR w S cs e) (hp : e.puts) :
    Calls Tryz.prog 81 #[.agg cs.toArray] w (GivesB (encEv e) w) := by
  obtain ⟨s0, s1, s2, s3, s4, s5, s6, s7, s26, s27, s28⟩ := hr.gets
  obtain ⟨vp, vq, s8, s9, hvp, hvq⟩ := hr.lists
  obtain ⟨A8, k8, rfl, _⟩ := hvp.form
  obtain ⟨A9, k9, rfl, _⟩ := hvq.form
  have HR := hide hr
  have HP := hide hp
  have HL := hide hr.length
  have HO := hide (prefE_ok hp.all)
  have HF := hide (prefE_all e)
  have BE := heap_alloc2_old w (.cells cs.toArray 35) (.cells #[.slice none 0 0] 115)
  have BW := heap_alloc2_new w (.cells cs.toArray 35) (.cells #[.slice none 0 0] 115)
  have KE := below_two w (.cells cs.toArray 35) (.cells #[.slice none 0 0] 115)
  clear hr hp hvp hvq
  go_enter Tryz.func81, Tryz.ntmps81
  go_upto_region 2 with fail
  generalize (w.alloc (.cells cs.toArray 35)).alloc (.cells #[.slice none 0 0] 115) = u0 at BE BW KE ⊢
  obtain ⟨g, hg⟩ : ∃ g, w.heap.size + 1 = g := ⟨_, rfl⟩
  rw [hg] at BW
  try rw [hg]
  have HG := hide hg
  have HW : Wr u0 g (prefE e 0) := ⟨none, 0, BW, Nat.le_refl _, Row.nil, fun h => absurd rfl h⟩
  clear BW hg
  have q0 := box_at BE s0
  have CW := lit_number (L := prefE e 1) HW [e.id] #[.int .i64 e.id] rfl rfl (fun n hn => by simp only [List.mem_cons, List.not_mem_nil, or_false] at hn; subst hn; exact HP.out.id) (by simp [prefE, partE]) (HO.out 1 (by decide)) (by simp)
  have HHW := hide HW
  clear HW
  go_upto_region 3 with (first | (go_at_call 114; refine CW.mono ?_; rintro e1 u1 ⟨rfl, HW, g1⟩))
  have BE := box_grown BE g1 (by have := HG.out; omega)
  have KE := KE.grown g1 KE.size (fun q hq => by injection hq with hq; have := HG.out; omega)
  clear g1 CW HHW q0
  have q1 := box_at BE s1
  have q2 := box_at BE s2
  have CW := lit_text (L := prefE e 2) HW [e.room, e.sender] #[.string e.room, .string e.sender] rfl rfl (fun n hn => by simp only [List.mem_cons, List.not_mem_nil, or_false] at hn; rcases hn with rfl | rfl; exact HP.out.room; exact HP.out.sender) (by simp [prefE, partE]) (HO.out 2 (by decide)) (by simp)
  have HHW := hide HW
  clear HW
  go_upto_region 4 with (first | (go_at_call 116; refine CW.mono ?_; rintro e2 u2 ⟨rfl, HW, g2⟩))
  have BE := box_grown BE g2 (by have := HG.out; omega)
  have KE := KE.grown g2 KE.size (fun q hq => by injection hq with hq; have := HG.out; omega)
  clear g2 CW HHW q1 q2
  have q3 := box_at BE s3
  have CW := lit_number (L := prefE e 3) HW [e.kind] #[.int .i64 e.kind] rfl rfl (fun n hn => by simp only [List.mem_cons, List.not_mem_nil, or_false] at hn; subst hn; exact HP.out.kind) (by simp [prefE, partE]) (HO.out 3 (by decide)) (by simp)
  have HHW := hide HW
  clear HW
  go_upto_region 5 with (first | (go_at_call 114; refine CW.mono ?_; rintro e3 u3 ⟨rfl, HW, g3⟩))
  have BE := box_grown BE g3 (by have := HG.out; omega)
  have KE := KE.grown g3 KE.size (fun q hq => by injection hq with hq; have := HG.out; omega)
  clear g3 CW HHW q3
  have q4 := box_at BE s4
  have CW := lit_flag (L := prefE e 4) HW [e.state] #[.bool e.state] rfl rfl (by simp [prefE, partE]) (HO.out 4 (by decide)) (by simp)
  have HHW := hide HW
  clear HW
  go_upto_region 6 with (first | (go_at_call 118; refine CW.mono ?_; rintro e4 u4 ⟨rfl, HW, g4⟩))
  have BE := box_grown BE g4 (by have := HG.out; omega)
  have KE := KE.grown g4 KE.size (fun q hq => by injection hq with hq; have := HG.out; omega)
  clear g4 CW HHW q4
  have q5 := box_at BE s5
  have CW := lit_text (L := prefE e 5) HW [e.key] #[.string e.key] rfl rfl (fun n hn => by simp only [List.mem_cons, List.not_mem_nil, or_false] at hn; subst hn; exact HP.out.key) (by simp [prefE, partE]) (HO.out 5 (by decide)) (by simp)
  have HHW := hide HW
  clear HW
  go_upto_region 7 with (first | (go_at_call 116; refine CW.mono ?_; rintro e5 u5 ⟨rfl, HW, g5⟩))
  have BE := box_grown BE g5 (by have := HG.out; omega)
  have KE := KE.grown g5 KE.size (fun q hq => by injection hq with hq; have := HG.out; omega)
  clear g5 CW HHW q5
  have q6 := box_at BE s6
  have q7 := box_at BE s7
  have CW := lit_number (L := prefE e 6) HW [e.time, e.depth] #[.int .i64 e.time, .int .i64 e.depth] rfl rfl (fun n hn => by simp only [List.mem_cons, List.not_mem_nil, or_false] at hn; rcases hn with rfl | rfl; exact HP.out.time; exact HP.out.depth) (by simp [prefE, partE]) (HO.out 6 (by decide)) (by simp)
  have HHW := hide HW
  clear HW
  go_upto_region 8 with (first | (go_at_call 114; refine CW.mono ?_; rintro e6 u6 ⟨rfl, HW, g6⟩))
  have BE := box_grown BE g6 (by have := HG.out; omega)
  have KE := KE.grown g6 KE.size (fun q hq => by injection hq with hq; have := HG.out; omega)
  clear g6 CW HHW q6 q7
  have q8 := box_at BE s8
  have q9 := box_at BE s9
  have CW := lit_numbers (L := prefE e 7) HW [(.slice A8 e.prev.length k8, e.prev), (.slice A9 e.auth.length k9, e.auth)] #[.slice A8 e.prev.length k8, .slice A9 e.auth.length k9] rfl rfl (by
    intro p hp
    simp only [List.mem_cons, List.not_mem_nil, or_false] at hp
    rcases hp with rfl | rfl
    · exact ⟨(((HR.out.lists_at s8 s9).1.weak (S' := fun b => b < w.heap.size) (fun b _ h => h)).ext KE).weak (fun b hb _ => by have := HG.out; omega), HP.out.prev, HP.out.prevL⟩
    · exact ⟨(((HR.out.lists_at s8 s9).2.weak (S' := fun b => b < w.heap.size) (fun b _ h => h)).ext KE).weak (fun b hb _ => by have := HG.out; omega), HP.out.auth, HP.out.authL⟩) (by simp [prefE, partE]) (HO.out 7 (by decide)) (by simp)
  have HHW := hide HW
  clear HW
  go_upto_region 9 with (first | (go_at_call 120; refine CW.mono ?_; rintro e7 u7 ⟨rfl, HW, g7⟩))
  have BE := box_grown BE g7 (by have := HG.out; omega)
  have KE := KE.grown g7 KE.size (fun q hq => by injection hq with hq; have := HG.out; omega)
  clear g7 CW HHW q8 q9
  have CE := Encode_any (HR.out.con.ext KE) HP.out.con
  have HLC := hide (show ((cs.drop 10).take 16).length = 16 by rw [List.length_take, List.length_drop, HL.out]; rfl)
  have HBE := hide BE
  have HHW0 := hide HW
  clear HW
  have CW := fun (U : World) (hb : Below u7.heap.size u7 U) => lit_text (L := prefE e 8) (HHW0.out.ext hb) [str (encCon e.con)] #[.string (str (encCon e.con))] rfl rfl (fun n hn => by simp only [List.mem_cons, List.not_mem_nil, or_false] at hn; subst hn; rw [str_size]; exact HP.out.con.all) (by simp [prefE, partE]) (HO.out 8 (by decide)) (by simp)
  obtain ⟨ec, hec⟩ : ∃ ec, encCon e.con = ec := ⟨_, rfl⟩
  rw [hec] at CE
  simp only [hec] at CW
  clear hec
  go_upto_region 10 with (first
    | refine wpList_loadS rfl (.tmp 56) rfl strcC ⟨w.heap.size, 10, none⟩ rfl ((cs.drop 10).take 16) HLC.out (box_cells HBE.out 10 16) ?_
    | (go_at_call 68; refine CE.mono ?_; rintro e8 u8a ⟨v8, rfl, ⟨A8, c8, rfl, hc8, Q8⟩, hb8⟩; have hcv := run_string (P := Tryz.prog) u8a 77 9 5 Tryz.underlying77 Tryz.underlying5 Tryz.underlying9 (c := c8) Q8 rfl (fun h => row_none Q8 h))
    | (go_at_call 116; refine (CW _ hb8).mono ?_; rintro e8 u8 ⟨rfl, HW, g8⟩))
  have BE := box_grown (box_below HBE.out hb8) g8 (by have := HG.out; omega)
  have KE := (ext_trans KE hb8).grown g8 (Nat.le_trans KE.size hb8.size) (fun q hq => by injection hq with hq; have := HG.out; omega)
  clear g8 CW HHW0 hb8 hcv Q8 hc8 CE HBE
  have q26 := box_at BE s26
  have CW := lit_number (L := prefE e 9) HW [e.hash] #[.int .i64 e.hash] rfl rfl (fun n hn => by simp only [List.mem_cons, List.not_mem_nil, or_false] at hn; subst hn; exact HP.out.hash) (by simp [prefE, partE]) (HO.out 9 (by decide)) (by simp)
  have HHW := hide HW
  clear HW
  go_upto_region 11 with (first | (go_at_call 114; refine CW.mono ?_; rintro e9 u9 ⟨rfl, HW, g9⟩))
  have BE := box_grown BE g9 (by have := HG.out; omega)
  have KE := KE.grown g9 KE.size (fun q hq => by injection hq with hq; have := HG.out; omega)
  clear g9 CW HHW q26
  have q27 := box_at BE s27
  have CW := lit_text (L := prefE e 10) HW [e.server] #[.string e.server] rfl rfl (fun n hn => by simp only [List.mem_cons, List.not_mem_nil, or_false] at hn; subst hn; exact HP.out.server) (by simp [prefE, partE]) (HO.out 10 (by decide)) (by simp)
  have HHW := hide HW
  clear HW
  go_upto_region 12 with (first | (go_at_call 116; refine CW.mono ?_; rintro e10 u10 ⟨rfl, HW, g10⟩))
  have BE := box_grown BE g10 (by have := HG.out; omega)
  have KE := KE.grown g10 KE.size (fun q hq => by injection hq with hq; have := HG.out; omega)
  clear g10 CW HHW q27
  have q28 := box_at BE s28
  have CW := lit_number (L := prefE e 11) HW [e.sum] #[.int .i64 e.sum] rfl rfl (fun n hn => by simp only [List.mem_cons, List.not_mem_nil, or_false] at hn; subst hn; exact HP.out.sum) (by simp [prefE, partE]) (HO.out 11 (by decide)) (by simp)
  have HHW := hide HW
  clear HW
  go_upto_region 13 with (first | (go_at_call 114; refine CW.mono ?_; rintro e11 u11 ⟨rfl, HW, g11⟩))
  have BE := box_grown BE g11 (by have := HG.out; omega)
  have KE := KE.grown g11 KE.size (fun q hq => by injection hq with hq; have := HG.out; omega)
  clear g11 CW HHW q28
  rw [HF.out] at HW
  obtain ⟨A, c, hB, hc, hrow, _⟩ := HW
  have q0 := box_at hB (j := 0) rfl
  go_wp2_with fail
  go_ret
  exact ⟨_, rfl, ⟨A, c, rfl, hc, hrow⟩, KE⟩
end

section
open Go.RowKit
attribute [local go_sem] Addr.add_mid
def stepN (u : Nat) (c : UInt8) : Nat := ((u ^^^ c.toNat) * 1099511628211) % 4611686018427387904
def sumN (l : List UInt8) : Nat := l.foldl stepN 860922984064492325
theorem stepN_lt (u : Nat) (c : UInt8) : stepN u c < 4611686018427387904 := Nat.mod_lt _ (by decide)
theorem foldN_lt : ∀ (l : List UInt8) (u : Nat), u < 4611686018427387904 → l.foldl stepN u < 4611686018427387904
  | [], _, h => h
  | c :: l, u, _ => foldN_lt l _ (stepN_lt u c)
theorem sumN_lt (l : List UInt8) : sumN l < 4611686018427387904 := foldN_lt l 860922984064492325 (by decide)
theorem fold_step {l : List UInt8} {k : Nat} (hk : k < l.length) : (l.take (k + 1)).foldl stepN 860922984064492325 = stepN ((l.take k).foldl stepN 860922984064492325) l[k] := by
  rw [List.take_succ_eq_append_getElem hk, List.foldl_append, List.foldl_cons, List.foldl_nil]
theorem and_mask (n : Nat) (h : n < 18446744073709551616) : bits .and .u64 (n : Int) 4611686018427387903 = ((n % 4611686018427387904 : Nat) : Int) := by
  rw [show (4611686018427387903 : Int) = ((4611686018427387903 : Nat) : Int) from rfl, bits_and_u64_nat _ _ h (by decide)]
  congr 1
  exact Nat.and_two_pow_sub_one_eq_mod n 62
theorem mul_wrap (x : Nat) : IntKind.u64.wrap ((x : Int) * 1099511628211) = ((x * 1099511628211 % 18446744073709551616 : Nat) : Int) := by
  rw [IntKind.wrap_u64]; omega
theorem mod_mod62 (x : Nat) : x % 18446744073709551616 % 4611686018427387904 = x % 4611686018427387904 := Nat.mod_mod_of_dvd x ⟨4, by decide⟩
theorem xor_lt64 {u : Nat} (c : UInt8) (h : u < 4611686018427387904) : u ^^^ c.toNat < 18446744073709551616 := Nat.xor_lt_two_pow (n := 64) (by omega) (by have := c.toNat_lt; omega)
set_option maxRecDepth 100000 in
set_option maxHeartbeats 1600000 in
theorem Fold_start {A : Option Addr} {c B : Nat} {l : List UInt8} {w : World} (hr : Row w B A (bvs l)) (hl : l.length ≤ 1073741824) :
    Calls Tryz.prog 93 #[.int .i64 860922984064492325, .slice A l.length c] w (fun e w' => e = .returned (.int .i64 (sumN l : Nat)) ∧ w' = w) := by
  have h0 := and_mask 860922984064492325 (by decide)
  have h0' : bits .and .u64 860922984064492325 4611686018427387903 = 860922984064492325 := h0
  clear h0
  go_enter Tryz.func93, Tryz.ntmps93
  go_wp2_with fail
  go_loop [5, 13] (fun u i => ∃ k : Nat, k ≤ l.length ∧ i = .int .i64 (k : Int) ∧ u = .int .u64 ((l.take k).foldl stepN 860922984064492325 : Nat)) (fun _ i => l.length - (intOf i).toNat)
  case atStart => exact ⟨0, Nat.zero_le _, rfl, rfl⟩
  case round =>
  obtain ⟨k, hk, rfl, rfl⟩ := hrel
  by_cases hlt : k < l.length
  · obtain ⟨b, o, rfl, hb, hc⟩ := hr.fix (bvs_get l k hlt)
    have r0 := hc _ _ (bvs_get l k hlt)
    have HS := hide (fold_step hlt)
    have hu := foldN_lt (l.take k) 860922984064492325 (by decide)
    obtain ⟨u, hU⟩ : ∃ u, (l.take k).foldl stepN 860922984064492325 = u := ⟨_, rfl⟩
    rw [hU] at hu ⊢
    have HU := hide hU
    obtain ⟨x, hx⟩ : ∃ x, l[k] = x := ⟨_, rfl⟩
    simp only [bv] at r0
    rw [hx] at r0
    have HX := hide hx
    have e1 : bits .xor .u64 (u : Int) (x.toNat : Int) = ((u ^^^ x.toNat : Nat) : Int) := bits_xor_u64_nat _ _ (by omega) (by have := x.toNat_lt; omega)
    have e2 := mul_wrap (u ^^^ x.toNat)
    have e3 := and_mask ((u ^^^ x.toNat) * 1099511628211 % 18446744073709551616) (Nat.mod_lt _ (by decide))
    rw [mod_mod62] at e3
    clear hU hx hc
    go_wp2_with fail
    go_round
    case rel => exact ⟨k + 1, by omega, by go_num, by
      rw [HS.out, HU.out, HX.out, stepN, show IntKind.u64.wrap (x.toNat : Int) = (x.toNat : Int) by rw [IntKind.wrap_u64]; have := x.toNat_lt; omega, e1, e2, e3]⟩
    case measure => (simp [intOf]; try omega)
  · obtain rfl : k = l.length := by omega
    have HS := hide (show (l.take l.length).foldl stepN 860922984064492325 = sumN l by rw [List.take_length, sumN])
    rw [HS.out]
    have hu := sumN_lt l
    clear HS
    go_wp2_with fail
    go_ret
    exact ⟨by go_num, rfl⟩
set_option maxRecDepth 100000 in
set_option maxHeartbeats 1600000 in
theorem Sum_any {A : Option Addr} {c B : Nat} {l : List UInt8} {w : World} (hr : Row w B A (bvs l)) (hl : l.length ≤ 1073741824) :
    Calls Tryz.prog 67 #[.slice A l.length c] w (fun e w' => e = .returned (.int .i64 (sumN l : Nat)) ∧ w' = w) := by
  have CF := Fold_start (c := c) hr hl
  clear hr
  have CS : ∀ W, Calls Tryz.prog 94 #[] W (fun e w' => e = .returned (.int .i64 860922984064492325) ∧ w' = W) := fun W => by
    go_enter Tryz.func94, Tryz.ntmps94
    go_wp2_with fail
    go_ret
    exact ⟨rfl, rfl⟩
  go_enter Tryz.func67, Tryz.ntmps67
  go_wp2_with (first | (go_at_call 94; refine (CS _).mono ?_; rintro e w1 ⟨rfl, hw1⟩; rw [hw1]; clear hw1 w1) | (go_at_call 93; refine CF.mono ?_; rintro e w2 ⟨rfl, hw2⟩; rw [hw2]; clear hw2 w2))
  go_ret
  exact ⟨rfl, rfl⟩
end

section
open Go.RowKit
attribute [local go_sem] Addr.add_mid
def evZero : Array Value := #[.int .i64 0, .string ⟨#[]⟩, .string ⟨#[]⟩, .int .i64 0, .bool false, .string ⟨#[]⟩, .int .i64 0, .int .i64 0, .slice none 0 0, .slice none 0 0, .string ⟨#[]⟩, .int .i64 0, .int .i64 0, .bool false, .string ⟨#[]⟩, .slice none 0 0, .slice none 0 0, .slice none 0 0, .slice none 0 0,
  .int .i64 0, .int .i64 0, .int .i64 0, .int .i64 0, .int .i64 0, .int .i64 0, .int .i64 0, .int .i64 0, .string ⟨#[]⟩, .int .i64 0]
theorem strcE : Strc Tryz.prog 35 evZero 29 := ⟨⟨_, Tryz.underlying35, rfl⟩, by kernel_rfl, rfl⟩
theorem sizeE : (Tryz.prog.info? 35).map (·.size) = some 29 := strcE.size
theorem strip_end {w w1 w2 w3 : World} {S : Nat → Prop} {cs cs' : List Value} {e : Ev} {c : Con} {o1 o2 : Obj} (he : EvR w S cs e) (hc : ConR w1 (fun b => (S b ∧ b < w.heap.size) ∨ ((w.alloc o1).alloc o2).heap.size ≤ b) cs' c) (hb : Below ((w.alloc o1).alloc o2).heap.size ((w.alloc o1).alloc o2) w1)
    (g1 : w1.grownBy w2 (some w.heap.size)) (g2 : w2.grownBy w3 (some (w.heap.size + 1))) : EvR w3 (fun b => S b ∨ w.heap.size ≤ b) (cs.take 10 ++ (cs' ++ cs.drop 26)) { e with con := c } ∧ Below w.heap.size w w3 := by
  have hz : ((w.alloc o1).alloc o2).heap.size = w.heap.size + 2 := by simp
  have hB1 : Below w.heap.size w w1 := (below_two w o1 o2).trans (hb.mono (by omega))
  have hB2 := hB1.grown g1 hB1.size (fun k hk => by injection hk with hk; omega)
  have hB3 := hB2.grown g2 hB2.size (fun k hk => by injection hk with hk; omega)
  refine ⟨?_, hB3⟩
  have hc2 := hc.weak (S' := fun b => (S b ∧ b ≠ w.heap.size ∧ b ≠ w.heap.size + 1) ∨ w.heap.size + 2 ≤ b) (fun b h _ => by
    rcases h with h | h
    · exact .inl ⟨h.1, by omega, by omega⟩
    · exact .inr (by omega))
  have hc3 : ConR w3 (fun b => S b ∨ w.heap.size ≤ b) cs' c := by
    obtain ⟨va, vd, vu, vk, rfl, k1, k2, k3, k4⟩ := hc2
    have hq : ∀ {v : Value} {size n : Nat} {xs : List Value}, Slc w1 (fun b => (S b ∧ b ≠ w.heap.size ∧ b ≠ w.heap.size + 1) ∨ w.heap.size + 2 ≤ b) v size n xs → Slc w3 (fun b => S b ∨ w.heap.size ≤ b) v size n xs := fun h =>
      ((h.grown g1 (fun b hb e => by injection e with e; rcases hb with hb | hb <;> omega)).grown g2 (fun b hb e => by injection e with e; rcases hb with hb | hb <;> omega)).weak (fun b hb _ => by
        rcases hb with hb | hb
        · exact .inl hb.1
        · exact .inr (by omega))
    exact ⟨va, vd, vu, vk, rfl, hq k1, hq k2, hq k3, hq k4⟩
  have he3 := (he.weak (S' := fun b => S b ∨ w.heap.size ≤ b) fun _ hb _ => .inl hb).ext hB3
  exact he3.withCon hc3
set_option maxRecDepth 100000 in
set_option maxHeartbeats 4000000 in
theorem EStrip_any {S : Nat → Prop} {cs : List Value} {e : Ev} {w : World} (he : EvR w S cs e) (hf : e.con.fit) :
    Calls Tryz.prog 80 #[.agg cs.toArray] w (GivesE S (stripE e) w) := by
  have hn := he.length
  have h3 := he.some3
  have hone := he.one
  have HE := hide he
  have HN := hide hn
  clear hn
  have hc0 := (he.con.weak (S' := fun b => S b ∧ b < w.heap.size) fun _ hb hlt => ⟨hb, hlt⟩)
  have HC := hide (fun o1 o2 => hc0.ext (below_two w o1 o2))
  clear he hc0
  go_enter Tryz.func80, Tryz.ntmps80
  go_wp2_with (first
    | refine wpList_zeroS rfl rfl strcE ?_
    | refine wpList_loadS rfl (.tmp 5) rfl strcC ⟨w.heap.size, 10, none⟩ rfl ((cs.drop 10).take 16) (by have := HN.out; simp; omega) (box_cells (C := cs) (tb := 35) (heap_alloc2_old w _ _) 10 16) ?_)
  refine (CStrip_any (k := e.kind) (HC.out _ _) hf).mono ?_
  rintro x w1 ⟨cs', rfl, hc', hb1⟩
  have hn' := hc'.length
  have HN' := hide hn'
  have hone' := hc'.one
  have hB1 := box_below (heap_alloc2_old w (.cells cs.toArray 35) (.cells evZero 35)) hb1
  have hB2 := box_below (heap_alloc2_new w (.cells cs.toArray 35) (.cells evZero 35)) hb1
  have HC' := hide hc'; have HB1 := hide hb1
  clear hc' hb1 HC
  go_wp2_with (refine wpList_storeB rfl (.tmp 8) (.tmp 7) rfl rfl strcC w.heap.size 10 rfl cs' rfl hn' hone' cs 35 hB1 (by have := HN.out; omega) ?_)
  intro w2 hB1' g1 hz2
  have hB2' := box_grown hB2 g1 (by omega)
  have hp : (patch cs 10 cs').length = 29 := by have := HN.out; rw [patch_length _ _ _ (by omega)]; exact this
  have hpo : ∀ u ∈ patch cs 10 cs', u.oneCell' = true := by
    intro u hu
    rcases List.mem_append.1 hu with hu | hu
    · exact hone u (List.mem_of_mem_take hu)
    · rcases List.mem_append.1 hu with hu | hu
      · exact hone' u hu
      · exact hone u (List.mem_of_mem_drop hu)
  clear hB1 hB2
  go_wp2_with (first
    | refine wpList_loadS rfl (.tmp 1) rfl strcE ⟨w.heap.size, 0, none⟩ rfl (patch cs 10 cs') hp (box_all hB1') ?_
    | refine wpList_storeB rfl (.tmp 2) (.tmp 9) rfl rfl strcE (w.heap.size + 1) 0 rfl (patch cs 10 cs') rfl hp hpo evZero.toList 35 hB2' (by decide) ?_)
  intro w3 hB3 g2 hz3
  rw [patch_all _ _ (by rw [hp]; rfl)] at hB3
  have hend := strip_end HE.out HC'.out HB1.out g1 g2
  rw [show cs.take 10 ++ (cs' ++ cs.drop 26) = patch cs 10 cs' by simp [patch, hn']] at hend
  have HEND := hide hend
  clear hend
  go_wp2_with fail
  exact bodyPost_cell strcE rfl (w.heap.size + 1) rfl rfl hB3 (by simpa using hp) ⟨_, rfl, HEND.out.1, HEND.out.2⟩
theorem strcSig : Strc Tryz.prog 33 #[.string ⟨#[]⟩, .int .i64 0] 2 := ⟨⟨_, Tryz.underlying33, rfl⟩, by kernel_rfl, rfl⟩
/-- the sum of the content's bytes -/
def hashV (e : Ev) : Int := (sumN (encCon e.con) : Nat)
def wholeB (e : Ev) : Bool := hashV e == e.hash
/-- what the identifier is made of -/
def plainE (e : Ev) : Ev := { stripE e with id := 0, server := ⟨#[]⟩, sum := 0 }
def idV (e : Ev) : Int := (sumN (encEv (plainE e)) : Nat)
def signE (e : Ev) (server : ByteArray) : Ev :=
  { e with hash := hashV e, id := idV { e with hash := hashV e }, server := server, sum := idV { e with hash := hashV e } }
set_option maxRecDepth 100000 in
set_option maxHeartbeats 4000000 in
theorem Hash_any {S : Nat → Prop} {cs : List Value} {e : Ev} {w : World} (hr : EvR w S cs e) (hp : e.con.puts) :
    Calls Tryz.prog 50 #[.agg cs.toArray] w (fun x w' => x = .returned (.int .i64 (hashV e)) ∧ Below w.heap.size w w') := by
  have BE := heap_alloc_new w (.cells cs.toArray 35)
  have hb := ext_alloc (ext_refl w) (.cells cs.toArray 35)
  have CE := Encode_any (hr.con.ext hb) hp
  have HLC := hide (show ((cs.drop 10).take 16).length = 16 by rw [List.length_take, List.length_drop, hr.length]; rfl)
  have HV := hide (show hashV e = ((sumN (encCon e.con) : Nat) : Int) from rfl)
  have HLe := hide hp.all
  obtain ⟨l, hl⟩ : ∃ l, encCon e.con = l := ⟨_, rfl⟩
  rw [hl] at CE HV HLe
  have HBE := hide BE
  clear hr hl BE hp
  go_enter Tryz.func50, Tryz.ntmps50
  go_wp2_with (first
    | refine wpList_loadS rfl (.tmp 3) rfl strcC ⟨w.heap.size, 10, none⟩ rfl ((cs.drop 10).take 16) HLC.out (box_cells HBE.out 10 16) ?_
    | (go_at_call 68; refine CE.mono ?_; rintro x w2 ⟨v2, rfl, ⟨A2, c2, rfl, hc2, Q2⟩, hb2⟩; have CS := Sum_any (c := c2) Q2 HLe.out)
    | (go_at_call 67; refine CS.mono ?_; rintro x w3 ⟨rfl, hw3⟩; rw [hw3]; clear hw3 w3))
  go_ret
  exact ⟨by rw [HV.out]; rfl, ext_trans hb hb2⟩
set_option maxRecDepth 100000 in
set_option maxHeartbeats 4000000 in
theorem Whole_any {S : Nat → Prop} {cs : List Value} {e : Ev} {w : World} (hr : EvR w S cs e) (hp : e.con.puts) :
    Calls Tryz.prog 36 #[.agg cs.toArray] w (Says (wholeB e) w) := by
  have s26 := hr.gets.2.2.2.2.2.2.2.2.1
  have HL := hide hr.length
  have BE := heap_alloc_new w (.cells cs.toArray 35)
  have hb := ext_alloc (ext_refl w) (.cells cs.toArray 35)
  have CH := fun W (h : Below w.heap.size w W) => Hash_any (hr.ext h) hp
  obtain ⟨hv, hhv⟩ : ∃ v, hashV e = v := ⟨_, rfl⟩
  simp only [hhv] at CH
  have HV := hide (show wholeB e = (hv == e.hash) by unfold wholeB; rw [hhv])
  have HBE := hide BE
  clear hr hp BE hhv
  go_enter Tryz.func36, Tryz.ntmps36
  go_wp2_with fail
  refine wp_region_now (by kernel_rfl) ?_
  intro Y hY
  have T0 : Below Y.heap.size Y Y := ext_refl Y
  have HBY := hide (box_below HBE.out hY)
  refine wpAnyP_take (i := 0) rfl (by kernel_rfl) (by kernel_rfl) (by kernel_rfl) (by kernel_rfl) (fun _ _ _ h => h) (yieldsIf_loadS rfl (.tmp 1) rfl strcE ⟨w.heap.size, 0, none⟩ rfl cs HL.out (fun w2 hT => box_all (box_below HBY.out hT))) T0 ?_
  refine wpAnyP_take (i := 2) rfl (by kernel_rfl) (by kernel_rfl) (by kernel_rfl) (by kernel_rfl) (fun _ _ _ h => h) (yieldsIf_run (.pointer (some ⟨w.heap.size, 26, none⟩)) rfl (fun w' => by go_simp)) T0 ?_
  refine wpAnyP_take (i := 3) rfl (by kernel_rfl) (by kernel_rfl) (by kernel_rfl) (by kernel_rfl) (fun _ _ _ h => h) (yieldsIf_load rfl rfl Tryz.underlying3 rfl rfl (fun w2 hT => box_at (box_below HBY.out hT) (j := 26) (u := .int .i64 e.hash) s26)) T0 ?_
  go_simp
  go_simp
  refine wpAnyP_oneQ (i := 1) (by kernel_rfl) rfl ?_
  go_wp2_with fail
  refine (CH _ (ext_trans hb (ext_trans hY T0))).mono ?_
  rintro x c1 ⟨rfl, hc1⟩
  have T1 := ext_trans T0 hc1
  go_wp2_with fail
  refine nextQ T1 ?_
  go_simp
  refine wpAnyP_take (i := 4) rfl (by kernel_rfl) (by kernel_rfl) (by kernel_rfl) (by kernel_rfl) (fun _ _ _ h => h) (yieldsIf_run (.bool (hv == e.hash)) rfl (fun w' => by go_simp)) T1 ?_
  refine wpAnyP_take (i := 5) rfl (by kernel_rfl) (by kernel_rfl) (by kernel_rfl) (by kernel_rfl) (fun _ _ _ h => h) (yieldsIf_run (.bool (hv == e.hash)) rfl (fun w' => by go_simp)) T1 ?_
  go_simp
  refine wpAnyP_done (by kernel_rfl) ?_
  go_wp2_with fail
  go_ret
  exact ⟨by rw [HV.out]; rfl, ext_trans hb (ext_trans hY T1)⟩
set_option maxRecDepth 100000 in
set_option maxHeartbeats 4000000 in
theorem IdOf_any {S : Nat → Prop} {cs : List Value} {e : Ev} {w : World} (hr : EvR w S cs e) (hf : e.con.fit) (hp : (plainE e).puts) :
    Calls Tryz.prog 59 #[.agg cs.toArray] w (fun x w' => x = .returned (.int .i64 (idV e)) ∧ Below w.heap.size w w') := by
  have HL := hide hr.length
  have BE := heap_alloc_new w (.cells cs.toArray 35)
  have hb := ext_alloc (ext_refl w) (.cells cs.toArray 35)
  have CS := EStrip_any (hr.ext hb) hf
  have HP := hide hp
  have HV := hide (show idV e = ((sumN (encEv (plainE e)) : Nat) : Int) from rfl)
  have HBE := hide BE
  clear hr hf hp BE
  go_enter Tryz.func59, Tryz.ntmps59
  go_upto_region 2 with (first
    | refine wpList_loadS rfl (.tmp 1) rfl strcE ⟨w.heap.size, 0, none⟩ rfl cs HL.out (box_all HBE.out) ?_
    | (go_at_call 80; refine CS.mono ?_; rintro x w2 ⟨cs2, rfl, R2, hb2⟩; have HL2 := hide R2.length; have HO2 := hide R2.one)
    | refine wpList_newS rfl rfl strcE rfl (.tmp 3) (.tmp 5) rfl rfl rfl cs2.toArray rfl (by simpa using HL2.out) (by simpa using HO2.out) ?_)
  have B2 := heap_alloc_new w2 (.cells cs2.toArray 35)
  have hb3 := ext_alloc (ext_refl w2) (.cells cs2.toArray 35)
  have R3 := (R2.any.weak (S' := fun b => b < w2.heap.size) (fun b _ h => h)).ext hb3
  have hle := hb2.size
  have KB := ext_trans hb (ext_trans hb2 hb3)
  generalize w2.alloc (.cells cs2.toArray 35) = w3 at B2 hb3 R3 KB ⊢
  obtain ⟨g, hg⟩ : ∃ g, w2.heap.size = g := ⟨_, rfl⟩
  rw [hg] at B2 R3 hle
  try rw [hg]
  have hge : w.heap.size ≤ g := by have := hb.size; omega
  clear hb hb2 hb3 R2 CS HBE
  go_wp2_with (refine wpList_store1 rfl (.tmp 7) (.const (.int .i64 0)) rfl rfl sizeI g 0 rfl (.int .i64 0) rfl rfl cs2 35 B2 (by rw [HL2.out]; decide) ?_)
  intro w4 B4 g4 z4
  have R4 := R3.grown g4 (fun q hq e => by injection e with e; omega)
  have KB4 := KB.grown g4 KB.size (fun q hq => by injection hq with hq; omega)
  clear R3 KB B2 g4 z4
  have HLp := hide (show (patch cs2 0 [.int .i64 0]).length = 29 by rw [patch_length _ _ _ (by rw [HL2.out]; decide)]; exact HL2.out)
  go_wp2_with (refine wpList_storeB rfl (.tmp 8) (.tmp 6) rfl rfl strcSig g 27 rfl [.string ⟨#[]⟩, .int .i64 0] rfl rfl (by decide) (patch cs2 0 [.int .i64 0]) 35 B4 (by rw [HLp.out]; decide) ?_)
  intro w5 B5 g5 z5
  have R5 := R4.grown g5 (fun q hq e => by injection e with e; omega)
  have KB5 := KB4.grown g5 KB4.size (fun q hq => by injection hq with hq; omega)
  have R6 : EvR w5 (fun b => b < g) (patch (patch cs2 0 [.int .i64 0]) 27 [.string ⟨#[]⟩, .int .i64 0]) (plainE e) := by
    obtain ⟨vp, vq, va, vd, vu, vk, rfl, h1, h2, h3, h4, h5, h6⟩ := R5
    exact ⟨vp, vq, va, vd, vu, vk, rfl, h1, h2, h3, h4, h5, h6⟩
  have HL6 := hide R6.length
  have CE := EvEncode_any R6 HP.out
  have HLe := hide HP.out.all
  obtain ⟨l, hl⟩ : ∃ l, encEv (plainE e) = l := ⟨_, rfl⟩
  rw [hl] at CE HLe
  have HV' := HV.out
  rw [hl] at HV'
  have HVV := hide HV'
  have HB5 := hide B5
  clear R4 R5 R6 KB4 B4 g5 z5 hl HV HV' B5
  go_wp2_with (first
    | refine wpList_loadS rfl (.tmp 3) rfl strcE ⟨g, 0, none⟩ rfl (patch (patch cs2 0 [.int .i64 0]) 27 [.string ⟨#[]⟩, .int .i64 0]) HL6.out (box_all HB5.out) ?_
    | (go_at_call 81; refine CE.mono ?_; rintro x w6 ⟨v6, rfl, ⟨A6, c6, rfl, hc6, Q6⟩, hb6⟩; have CSu := Sum_any (c := c6) Q6 HLe.out)
    | (go_at_call 67; refine CSu.mono ?_; rintro x w7 ⟨rfl, hw7⟩; rw [hw7]; clear hw7 w7))
  go_ret
  exact ⟨by rw [HVV.out]; rfl, ext_trans KB5 hb6⟩
end
end Go.Proofs.YtmlnmcoophnlaaaGreat
