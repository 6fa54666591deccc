/-
  Plain: what is read of the bytes of an event, one part after the other.
  event's reader: number, text, numbers, flag.
  event.Decode.
-/
import Derived.Test.YtnfbmhkjmkdmjaaGreatDecC
import Derived.Test.YtnfbmhkjmkdmjaaGreatEvP
import Derived.Test.YtnfbmhkjmkdmjaaGreatEvVer
import Derived.Test.YtnfbmhkjmkdmjaaGreatElemT
set_option linter.unusedVariables false
set_option linter.unusedSimpArgs false
namespace Go.Proofs.YtnfbmhkjmkdmjaaGreat
section
section
open Go.RowKit
structure Ev.told (e : Ev) : Prop where
  id : I64 e.id
  room : e.room.size < 9223372036854775808
  sender : e.sender.size < 9223372036854775808
  kind : I64 e.kind
  key : e.key.size < 9223372036854775808
  time : I64 e.time
  depth : I64 e.depth
  prev : ∀ n ∈ e.prev, I64 n
  auth : ∀ n ∈ e.auth, I64 n
  prevL : e.prev.length < 1000000000
  authL : e.auth.length < 1000000000
  con : e.con.told
  conL : (encCon e.con).length < 9223372036854775808
  hash : I64 e.hash
  server : e.server.size < 9223372036854775808
  sum : I64 e.sum
/-- 'pre' was read of l and r is left, unless bad; of a content whose bytes l are Q is known, and that t is what is left -/
def InvE (l pre : List UInt8) (ok : Prop) (Q : Ev → Prop) (t : Ev → List UInt8) (r : List UInt8) (bad : Bool) : Prop :=
  (bad = false → l = pre ++ r ∧ ok) ∧ (∀ C : Ev, C.told → l = encEv C → bad = false ∧ Q C ∧ r = t C)
section
variable {l pre pre' : List UInt8} {ok ok' : Prop} {Q Q' : Ev → Prop} {t t' : Ev → List UInt8} {r r' : List UInt8} {bad okb : Bool}
theorem InvE.start (l : List UInt8) : InvE l [] True (fun _ => True) encEv l false := ⟨fun _ => ⟨rfl, trivial⟩, fun C _ h => ⟨rfl, trivial, h⟩⟩
theorem InvE.imp (h : InvE l pre ok Q t r bad) (hp : bad = false → pre = pre') (ho : bad = false → ok → ok') (hq : ∀ C, C.told → bad = false → Q C → Q' C ∧ t C = t' C) : InvE l pre' ok' Q' t' r bad := by
  refine ⟨fun hb => ?_, fun C hC hl => ?_⟩
  · obtain ⟨h1, h2⟩ := h.1 hb
    exact ⟨by rw [← hp hb]; exact h1, ho hb h2⟩
  · obtain ⟨hb, h1, h2⟩ := h.2 C hC hl
    obtain ⟨h3, h4⟩ := hq C hC hb h1
    exact ⟨hb, h3, by rw [h2, h4]⟩
theorem InvE.guard (h : InvE l pre ok Q t r bad) (g : Bool) (hg : ∀ C, C.told → Q C → r = t C → g = false) : InvE l pre ok Q t r (bad || g) := by
  refine ⟨fun hb => h.1 (by revert hb; cases bad <;> simp), fun C hC hl => ?_⟩
  obtain ⟨hb, h1, h2⟩ := h.2 C hC hl
  exact ⟨by rw [hb, hg C hC h1 h2]; rfl, h1, h2⟩
theorem InvE.spoilt (h : InvE l pre ok Q t r true) (pre' : List UInt8) (ok' : Prop) (Q' : Ev → Prop) (t' : Ev → List UInt8) (r' : List UInt8) : InvE l pre' ok' Q' t' r' true :=
  ⟨fun hb => by simp at hb, fun C hC hl => by have := (h.2 C hC hl).1; simp at this⟩
theorem InvE.step {α : Type} {g : List UInt8 → Option (α × List UInt8)} {zero x : α} {p : α → Prop} {enc : α → List UInt8} (h : InvE l pre ok Q t r bad) (hcan : ∀ r x r', g r = some (x, r') → r = enc x ++ r' ∧ p x)
    {f : Ev → α} (hback : ∀ C, C.told → Q C → g (t C) = some (f C, t' C)) (hres : Res (g r) zero x r' okb) :
    InvE l (pre ++ enc x) (ok ∧ p x) (fun C => Q C ∧ f C = x) t' r' (bad || !okb) := by
  refine ⟨fun hb => ?_, fun C hC hl => ?_⟩
  · have hb1 : bad = false := by revert hb; cases bad <;> simp
    have hb2 : okb = true := by revert hb; cases okb <;> simp
    obtain ⟨h1, h2⟩ := h.1 hb1
    rcases hres with ⟨_, hg⟩ | ⟨ho, _⟩
    · obtain ⟨h3, h4⟩ := hcan _ _ _ hg
      exact ⟨by rw [h1, h3, List.append_assoc], h2, h4⟩
    · rw [ho] at hb2; cases hb2
  · obtain ⟨hb, h1, h2⟩ := h.2 C hC hl
    have h3 := hback C hC h1
    rw [← h2] at h3
    rcases hres with ⟨ho, hg⟩ | ⟨_, _, _, hg⟩
    · rw [hg] at h3
      injection h3 with h3
      injection h3 with h3 h4
      exact ⟨by rw [hb, ho]; rfl, ⟨h1, h3.symm⟩, h4⟩
    · rw [hg] at h3; cases h3
end
section
variable {l pre : List UInt8} {ok : Prop} {Q : Ev → Prop} {t t' : Ev → List UInt8} {r r' : List UInt8} {bad okb : Bool}
theorem InvE.int {x : Int} (h : InvE l pre ok Q t r bad) (f : Ev → Int) (t' : Ev → List UInt8) (ht : ∀ C, C.told → Q C → t C = encI (f C) ++ t' C) (hf : ∀ C, C.told → Q C → I64 (f C)) (hres : Res (getI r) 0 x r' okb) :
    InvE l (pre ++ encI x) (ok ∧ I64 x) (fun C => Q C ∧ f C = x) t' r' (bad || !okb) :=
  h.step (enc := encI) (p := I64) getI_can (fun C hC hq => by rw [ht C hC hq]; exact getI_enc _ (hf C hC hq) _) hres
theorem InvE.text {x : List UInt8} (h : InvE l pre ok Q t r bad) (f : Ev → ByteArray) (t' : Ev → List UInt8) (ht : ∀ C, C.told → Q C → t C = encS (f C) ++ t' C) (hf : ∀ C, C.told → Q C → (f C).size < 9223372036854775808) (hres : Res (getS r) [] x r' okb) :
    InvE l (pre ++ encS (str x)) (ok ∧ True) (fun C => Q C ∧ (f C).data.toList = x) t' r' (bad || !okb) :=
  h.step (g := getS) (zero := []) (enc := fun x => encS (str x)) (p := fun _ => True) (f := fun C => (f C).data.toList) getS_can (fun C hC hq => by rw [ht C hC hq]; exact getS_enc _ (hf C hC hq) _) hres
theorem InvE.truth {x : Bool} (h : InvE l pre ok Q t r bad) (f : Ev → Bool) (t' : Ev → List UInt8) (ht : ∀ C, C.told → Q C → t C = (if f C then 1 else 0) :: t' C) (hres : Res (getB r) false x r' okb) :
    InvE l (pre ++ [if x then 1 else 0]) (ok ∧ True) (fun C => Q C ∧ f C = x) t' r' (bad || !okb) :=
  h.step (g := getB) (zero := false) (enc := fun x => [if x then 1 else 0]) (p := fun _ => True) getB_can (fun C hC hq => by rw [ht C hC hq]; exact getB_enc _ _) hres
theorem getIs_can (r : List UInt8) (x : List Int) (r' : List UInt8) (h : getL geti r = some (x, r')) : r = encL encI x ++ r' ∧ ∀ n ∈ x, I64 n := getInts_canon h
theorem InvE.ints {x : List Int} (h : InvE l pre ok Q t r bad) (f : Ev → List Int) (t' : Ev → List UInt8) (ht : ∀ C, C.told → Q C → t C = encL encI (f C) ++ t' C) (hf : ∀ C, C.told → Q C → (f C).length < 9223372036854775808 ∧ ∀ n ∈ f C, I64 n) (hres : Res (getL geti r) [] x r' okb) :
    InvE l (pre ++ encL encI x) (ok ∧ ∀ n ∈ x, I64 n) (fun C => Q C ∧ f C = x) t' r' (bad || !okb) :=
  h.step (g := getL geti) (zero := []) (enc := encL encI) (p := fun x => ∀ n ∈ x, I64 n) getIs_can (fun C hC hq => by rw [ht C hC hq]; exact getInts_enc _ _ (hf C hC hq).1 (hf C hC hq).2) hres
/-- a reader that reads no more once it is spoilt -/
theorem InvE.orS {α : Type} {enc : α → List UInt8} {x : α} {p : Prop} {f : Ev → Prop} (h : InvE l pre ok Q t r bad) (k : bad = false → InvE l (pre ++ enc x) (ok ∧ p) (fun C => Q C ∧ f C) t' r' (bad || !okb)) :
    InvE l (pre ++ enc x) (ok ∧ p) (fun C => Q C ∧ f C) t' r' (bad || !okb) := by
  cases bad with
  | false => exact k rfl
  | true => exact h.spoilt _ _ _ _ _
end
theorem encL_len {α : Type} (f : α → List UInt8) (hf : ∀ x, 0 < (f x).length) (l : List α) : l.length ≤ (encL f l).length := by
  unfold encL; rw [List.length_append]; have := flatMap_ge f hf l; omega
/-- no part is longer than the whole -/
theorem encEv_ge (e : Ev) : e.room.size ≤ (encEv e).length ∧ e.sender.size ≤ (encEv e).length ∧ e.key.size ≤ (encEv e).length ∧ e.prev.length ≤ (encEv e).length ∧ e.auth.length ≤ (encEv e).length ∧ (encCon e.con).length ≤ (encEv e).length ∧ e.server.size ≤ (encEv e).length := by
  have h1 := encS_ge e.room
  have h2 := encS_ge e.sender
  have h3 := encS_ge e.key
  have h4 := encL_len encI encI_pos e.prev
  have h5 := encL_len encI encI_pos e.auth
  have h6 := encS_ge (str (encCon e.con))
  rw [str_size] at h6
  have h7 := encS_ge e.server
  unfold encEv
  simp only [List.length_append, List.length_cons]
  omega
/-- what is left of an event's bytes after its first parts -/
def tl (e : Ev) : Nat → List UInt8
  | 0 => encEv e
  | 1 => encS e.room ++ (encS e.sender ++ (encI e.kind ++ ((if e.state then 1 else 0) :: (encS e.key ++ (encI e.time ++ (encI e.depth ++ (encL encI e.prev ++ (encL encI e.auth ++ (encS (str (encCon e.con)) ++ (encI e.hash ++ (encS e.server ++ (encI e.sum))))))))))))
  | 2 => encS e.sender ++ (encI e.kind ++ ((if e.state then 1 else 0) :: (encS e.key ++ (encI e.time ++ (encI e.depth ++ (encL encI e.prev ++ (encL encI e.auth ++ (encS (str (encCon e.con)) ++ (encI e.hash ++ (encS e.server ++ (encI e.sum)))))))))))
  | 3 => encI e.kind ++ ((if e.state then 1 else 0) :: (encS e.key ++ (encI e.time ++ (encI e.depth ++ (encL encI e.prev ++ (encL encI e.auth ++ (encS (str (encCon e.con)) ++ (encI e.hash ++ (encS e.server ++ (encI e.sum))))))))))
  | 4 => (if e.state then 1 else 0) :: (encS e.key ++ (encI e.time ++ (encI e.depth ++ (encL encI e.prev ++ (encL encI e.auth ++ (encS (str (encCon e.con)) ++ (encI e.hash ++ (encS e.server ++ (encI e.sum)))))))))
  | 5 => encS e.key ++ (encI e.time ++ (encI e.depth ++ (encL encI e.prev ++ (encL encI e.auth ++ (encS (str (encCon e.con)) ++ (encI e.hash ++ (encS e.server ++ (encI e.sum))))))))
  | 6 => encI e.time ++ (encI e.depth ++ (encL encI e.prev ++ (encL encI e.auth ++ (encS (str (encCon e.con)) ++ (encI e.hash ++ (encS e.server ++ (encI e.sum)))))))
  | 7 => encI e.depth ++ (encL encI e.prev ++ (encL encI e.auth ++ (encS (str (encCon e.con)) ++ (encI e.hash ++ (encS e.server ++ (encI e.sum))))))
  | 8 => encL encI e.prev ++ (encL encI e.auth ++ (encS (str (encCon e.con)) ++ (encI e.hash ++ (encS e.server ++ (encI e.sum)))))
  | 9 => encL encI e.auth ++ (encS (str (encCon e.con)) ++ (encI e.hash ++ (encS e.server ++ (encI e.sum))))
  | 10 => encS (str (encCon e.con)) ++ (encI e.hash ++ (encS e.server ++ (encI e.sum)))
  | 11 => encI e.hash ++ (encS e.server ++ (encI e.sum))
  | 12 => encS e.server ++ (encI e.sum)
  | 13 => encI e.sum
  | _ => []
theorem tl_zero (e : Ev) : tl e 0 = encI e.id ++ tl e 1 := rfl
/-- what was read, in the order of the bytes -/
structure Rd where
  id : Int
  room : List UInt8
  sender : List UInt8
  kind : Int
  state : Bool
  key : List UInt8
  time : Int
  depth : Int
  prev : List Int
  auth : List Int
  text : List UInt8
  hash : Int
  server : List UInt8
  sum : Int
def Rd.part (d : Rd) : Nat → List UInt8
  | 0 => encI d.id
  | 1 => encS (str d.room)
  | 2 => encS (str d.sender)
  | 3 => encI d.kind
  | 4 => [if d.state then 1 else 0]
  | 5 => encS (str d.key)
  | 6 => encI d.time
  | 7 => encI d.depth
  | 8 => encL encI d.prev
  | 9 => encL encI d.auth
  | 10 => encS (str d.text)
  | 11 => encI d.hash
  | 12 => encS (str d.server)
  | _ => encI d.sum
def Rd.okp (d : Rd) : Nat → Prop
  | 0 => I64 d.id
  | 1 => True
  | 2 => True
  | 3 => I64 d.kind
  | 4 => True
  | 5 => True
  | 6 => I64 d.time
  | 7 => I64 d.depth
  | 8 => ∀ n ∈ d.prev, I64 n
  | 9 => ∀ n ∈ d.auth, I64 n
  | 10 => True
  | 11 => I64 d.hash
  | 12 => True
  | _ => I64 d.sum
def Rd.qp (d : Rd) (e : Ev) : Nat → Prop
  | 0 => e.id = d.id
  | 1 => e.room.data.toList = d.room
  | 2 => e.sender.data.toList = d.sender
  | 3 => e.kind = d.kind
  | 4 => e.state = d.state
  | 5 => e.key.data.toList = d.key
  | 6 => e.time = d.time
  | 7 => e.depth = d.depth
  | 8 => e.prev = d.prev
  | 9 => e.auth = d.auth
  | 10 => (str (encCon e.con)).data.toList = d.text
  | 11 => e.hash = d.hash
  | 12 => e.server.data.toList = d.server
  | _ => e.sum = d.sum
def Rd.pre (d : Rd) : Nat → List UInt8
  | 0 => []
  | n + 1 => Rd.pre d n ++ d.part n
def Rd.ok (d : Rd) : Nat → Prop
  | 0 => True
  | n + 1 => Rd.ok d n ∧ d.okp n
def Rd.q (d : Rd) (e : Ev) : Nat → Prop
  | 0 => True
  | n + 1 => Rd.q d e n ∧ d.qp e n
/-- the event that was read, its content as it was decoded -/
def Rd.ev (d : Rd) (C : Con) : Ev := ⟨d.id, str d.room, str d.sender, d.kind, d.state, str d.key, d.time, d.depth, d.prev, d.auth, C, d.hash, str d.server, d.sum⟩
/-- after n parts -/
def Rds (l : List UInt8) (d : Rd) (n : Nat) (r : List UInt8) (bad : Bool) : Prop := InvE l (d.pre n) (d.ok n) (fun e => d.q e n) (fun e => tl e n) r bad
theorem Rds.zero (l : List UInt8) (d : Rd) : Rds l d 0 l false := InvE.start l
section
variable {l r r' : List UInt8} {bad okb : Bool} {d : Rd}
theorem Rds.s0 (h : Rds l d 0 r bad) (hres : bad = false → Res (getI r) 0 d.id r' okb) : Rds l d 1 r' (bad || !okb) :=
  h.orS (enc := encI) (x := d.id) (f := fun e => e.id = d.id) (t' := (fun e => tl e 1)) fun hb => h.int (fun e => e.id) (fun e => tl e 1) (fun C hC hq => tl_zero C) (fun C hC hq => hC.id) (hres hb)
theorem Rds.s1 (h : Rds l d 1 r bad) (hres : bad = false → Res (getS r) [] d.room r' okb) : Rds l d 2 r' (bad || !okb) :=
  h.orS (enc := fun x => encS (str x)) (x := d.room) (f := fun e => e.room.data.toList = d.room) (t' := (fun e => tl e 2)) fun hb => h.text (fun e => e.room) (fun e => tl e 2) (fun C hC hq => rfl) (fun C hC hq => hC.room) (hres hb)
theorem Rds.s2 (h : Rds l d 2 r bad) (hres : bad = false → Res (getS r) [] d.sender r' okb) : Rds l d 3 r' (bad || !okb) :=
  h.orS (enc := fun x => encS (str x)) (x := d.sender) (f := fun e => e.sender.data.toList = d.sender) (t' := (fun e => tl e 3)) fun hb => h.text (fun e => e.sender) (fun e => tl e 3) (fun C hC hq => rfl) (fun C hC hq => hC.sender) (hres hb)
theorem Rds.s3 (h : Rds l d 3 r bad) (hres : bad = false → Res (getI r) 0 d.kind r' okb) : Rds l d 4 r' (bad || !okb) :=
  h.orS (enc := encI) (x := d.kind) (f := fun e => e.kind = d.kind) (t' := (fun e => tl e 4)) fun hb => h.int (fun e => e.kind) (fun e => tl e 4) (fun C hC hq => rfl) (fun C hC hq => hC.kind) (hres hb)
theorem Rds.s4 (h : Rds l d 4 r bad) (hres : bad = false → Res (getB r) false d.state r' okb) : Rds l d 5 r' (bad || !okb) :=
  h.orS (enc := fun x : Bool => [if x then 1 else 0]) (x := d.state) (f := fun e => e.state = d.state) (t' := (fun e => tl e 5)) fun hb => h.truth (fun e => e.state) (fun e => tl e 5) (fun C hC hq => rfl) (hres hb)
theorem Rds.s5 (h : Rds l d 5 r bad) (hres : bad = false → Res (getS r) [] d.key r' okb) : Rds l d 6 r' (bad || !okb) :=
  h.orS (enc := fun x => encS (str x)) (x := d.key) (f := fun e => e.key.data.toList = d.key) (t' := (fun e => tl e 6)) fun hb => h.text (fun e => e.key) (fun e => tl e 6) (fun C hC hq => rfl) (fun C hC hq => hC.key) (hres hb)
theorem Rds.s6 (h : Rds l d 6 r bad) (hres : bad = false → Res (getI r) 0 d.time r' okb) : Rds l d 7 r' (bad || !okb) :=
  h.orS (enc := encI) (x := d.time) (f := fun e => e.time = d.time) (t' := (fun e => tl e 7)) fun hb => h.int (fun e => e.time) (fun e => tl e 7) (fun C hC hq => rfl) (fun C hC hq => hC.time) (hres hb)
theorem Rds.s7 (h : Rds l d 7 r bad) (hres : bad = false → Res (getI r) 0 d.depth r' okb) : Rds l d 8 r' (bad || !okb) :=
  h.orS (enc := encI) (x := d.depth) (f := fun e => e.depth = d.depth) (t' := (fun e => tl e 8)) fun hb => h.int (fun e => e.depth) (fun e => tl e 8) (fun C hC hq => rfl) (fun C hC hq => hC.depth) (hres hb)
theorem Rds.s8 (h : Rds l d 8 r bad) (hres : bad = false → Res (getL geti r) [] d.prev r' okb) : Rds l d 9 r' (bad || !okb) :=
  h.orS (enc := encL encI) (x := d.prev) (f := fun e => e.prev = d.prev) (t' := (fun e => tl e 9)) fun hb => h.ints (fun e => e.prev) (fun e => tl e 9) (fun C hC hq => rfl) (fun C hC hq => ⟨(by have := hC.prevL; omega), hC.prev⟩) (hres hb)
theorem Rds.s9 (h : Rds l d 9 r bad) (hres : bad = false → Res (getL geti r) [] d.auth r' okb) : Rds l d 10 r' (bad || !okb) :=
  h.orS (enc := encL encI) (x := d.auth) (f := fun e => e.auth = d.auth) (t' := (fun e => tl e 10)) fun hb => h.ints (fun e => e.auth) (fun e => tl e 10) (fun C hC hq => rfl) (fun C hC hq => ⟨(by have := hC.authL; omega), hC.auth⟩) (hres hb)
theorem Rds.s10 (h : Rds l d 10 r bad) (hres : bad = false → Res (getS r) [] d.text r' okb) : Rds l d 11 r' (bad || !okb) :=
  h.orS (enc := fun x => encS (str x)) (x := d.text) (f := fun e => (str (encCon e.con)).data.toList = d.text) (t' := (fun e => tl e 11)) fun hb => h.text (fun e => str (encCon e.con)) (fun e => tl e 11) (fun C hC hq => rfl) (fun C hC hq => by rw [str_size]; exact hC.conL) (hres hb)
theorem Rds.s11 (h : Rds l d 11 r bad) (hres : bad = false → Res (getI r) 0 d.hash r' okb) : Rds l d 12 r' (bad || !okb) :=
  h.orS (enc := encI) (x := d.hash) (f := fun e => e.hash = d.hash) (t' := (fun e => tl e 12)) fun hb => h.int (fun e => e.hash) (fun e => tl e 12) (fun C hC hq => rfl) (fun C hC hq => hC.hash) (hres hb)
theorem Rds.s12 (h : Rds l d 12 r bad) (hres : bad = false → Res (getS r) [] d.server r' okb) : Rds l d 13 r' (bad || !okb) :=
  h.orS (enc := fun x => encS (str x)) (x := d.server) (f := fun e => e.server.data.toList = d.server) (t' := (fun e => tl e 13)) fun hb => h.text (fun e => e.server) (fun e => tl e 13) (fun C hC hq => rfl) (fun C hC hq => hC.server) (hres hb)
theorem Rds.s13 (h : Rds l d 13 r bad) (hres : bad = false → Res (getI r) 0 d.sum r' okb) : Rds l d 14 r' (bad || !okb) :=
  h.orS (enc := encI) (x := d.sum) (f := fun e => e.sum = d.sum) (t' := (fun e => tl e 14)) fun hb => h.int (fun e => e.sum) (fun e => tl e 14) (fun C hC hq => (List.append_nil _).symm) (fun C hC hq => hC.sum) (hres hb)
/-- whether nothing is left at the end -/
theorem Rds.done {C : Con} {okc : Bool} (h : Rds l d 14 r bad) (hl : l.length ≤ 16777216) (hf : C.fine) (h1 : okc = true → d.text = encCon C) (h2 : okc = false → ∀ C' : Con, C'.told → d.text ≠ encCon C') :
    (okc = true → bad = false → r = [] → l = encEv (d.ev C) ∧ (d.ev C).told) ∧ (∀ e : Ev, e.told → l = encEv e → (okc = true ∧ bad = false ∧ r = []) ∧ d.ev C = e) := by
  constructor
  · rintro hc rfl rfl
    obtain ⟨k1, k2⟩ := h.1 rfl
    have k3 : l = encEv (d.ev C) := by
      rw [k1]; simp [Rd.pre, Rd.part, encEv, Rd.ev, h1 hc]
      try rfl
      try (cases d.state <;> rfl)
    refine ⟨k3, ?_⟩
    have hg := encEv_ge (d.ev C)
    rw [← k3] at hg
    obtain ⟨g1, g2, g3, g4, g5, g6, g7⟩ := hg
    obtain ⟨⟨⟨⟨⟨⟨⟨⟨⟨⟨⟨⟨⟨⟨_, i1⟩, _⟩, _⟩, i4⟩, _⟩, _⟩, i7⟩, i8⟩, i9⟩, i10⟩, _⟩, i12⟩, _⟩, i14⟩ := k2
    exact ⟨i1, by omega, by omega, i4, by omega, i7, i8, i9, i10, by omega, by omega, hf.told, by omega, i12, by omega, i14⟩
  · intro e he hle
    obtain ⟨k1, ⟨⟨⟨⟨⟨⟨⟨⟨⟨⟨⟨⟨⟨⟨_, q1⟩, q2⟩, q3⟩, q4⟩, q5⟩, q6⟩, q7⟩, q8⟩, q9⟩, q10⟩, q11⟩, q12⟩, q13⟩, q14⟩, k3⟩ := h.2 e he hle
    replace q1 : e.id = d.id := q1
    replace q2 : e.room.data.toList = d.room := q2
    replace q3 : e.sender.data.toList = d.sender := q3
    replace q4 : e.kind = d.kind := q4
    replace q5 : e.state = d.state := q5
    replace q6 : e.key.data.toList = d.key := q6
    replace q7 : e.time = d.time := q7
    replace q8 : e.depth = d.depth := q8
    replace q9 : e.prev = d.prev := q9
    replace q10 : e.auth = d.auth := q10
    replace q11 : (str (encCon e.con)).data.toList = d.text := q11
    replace q12 : e.hash = d.hash := q12
    replace q13 : e.server.data.toList = d.server := q13
    replace q14 : e.sum = d.sum := q14
    rw [str_data] at q11
    have hc : okc = true := by
      cases okc with
      | true => rfl
      | false => exact absurd q11.symm (h2 rfl e.con he.con)
    have hC : C = e.con := encCon_inj hf.told he.con (by rw [← h1 hc, q11])
    refine ⟨⟨hc, k1, k3⟩, ?_⟩
    unfold Rd.ev
    rw [hC, ← q1, ← q2, ← q3, ← q4, ← q5, ← q6, ← q7, ← q8, ← q9, ← q10, ← q12, ← q13, ← q14]
    rfl
theorem encN_cut {l l' : List Int} {r r' : List UInt8} (h : ∀ x ∈ l, I64 x) (h' : ∀ x ∈ l', I64 x) (hl : l.length < 1000000000) (hl' : l'.length < 1000000000) (e : encL encI l ++ r = encL encI l' ++ r') : l = l' ∧ r = r' :=
  encL_cut (p := I64) (fun _ _ _ _ hx hy e => encI_cut hx hy e) h h' hl hl' e
theorem encEv_cut {a b : Ev} {r r' : List UInt8} (ha : a.told) (hb : b.told) (e : encEv a ++ r = encEv b ++ r') : a = b ∧ r = r' := by
  unfold encEv at e
  simp only [List.append_assoc, List.cons_append] at e
  obtain ⟨e1, e⟩ := encI_cut ha.id hb.id e
  obtain ⟨e2, e⟩ := encS_cut ha.room hb.room e
  obtain ⟨e3, e⟩ := encS_cut ha.sender hb.sender e
  obtain ⟨e4, e⟩ := encI_cut ha.kind hb.kind e
  injection e with e5 e
  obtain ⟨e6, e⟩ := encS_cut ha.key hb.key e
  obtain ⟨e7, e⟩ := encI_cut ha.time hb.time e
  obtain ⟨e8, e⟩ := encI_cut ha.depth hb.depth e
  obtain ⟨e9, e⟩ := encN_cut ha.prev hb.prev ha.prevL hb.prevL e
  obtain ⟨e10, e⟩ := encN_cut ha.auth hb.auth ha.authL hb.authL e
  obtain ⟨e11, e⟩ := encS_cut (by rw [str_size]; exact ha.conL) (by rw [str_size]; exact hb.conL) e
  obtain ⟨e12, e⟩ := encI_cut ha.hash hb.hash e
  obtain ⟨e13, e⟩ := encS_cut ha.server hb.server e
  obtain ⟨e14, er⟩ := encI_cut ha.sum hb.sum e
  have h5 : a.state = b.state := by revert e5; cases a.state <;> cases b.state <;> simp
  have h11 : a.con = b.con := encCon_inj ha.con hb.con (by have h := congrArg (fun s : ByteArray => s.data.toList) e11; simpa only [str_data] using h)
  obtain ⟨a1, a2, a3, a4, a5, a6, a7, a8, a9, a10, a11, a12, a13, a14⟩ := a
  obtain ⟨b1, b2, b3, b4, b5, b6, b7, b8, b9, b10, b11, b12, b13, b14⟩ := b
  simp only at e1 e2 e3 e4 h5 e6 e7 e8 e9 e10 h11 e12 e13 e14
  subst e1 e2 e3 e4 h5 e6 e7 e8 e9 e10 h11 e12 e13 e14
  exact ⟨rfl, er⟩
end
end
end

section
open Go.RowKit
attribute [local go_sem] Addr.add_mid
/-- a reader in block g: what it has before it, and whether it is spoilt -/
def RdE (w : World) (g : Nat) (S : Nat → Prop) (l : List UInt8) (bad : Bool) : Prop :=
  ∃ A c, w.heap[g]? = some (.cells [.slice A l.length c, .bool (!bad)].toArray 79 (0, 0)) ∧ l.length ≤ c ∧ Row w w.heap.size A (bvs l) ∧ (l ≠ [] → ∀ ad, A = some ad → S ad.block)
section
variable {w w' : World} {g : Nat} {S S' : Nat → Prop} {l : List UInt8} {bad : Bool}
theorem RdE.weak (h : RdE w g S l bad) (hS : ∀ b, S b → b < w.heap.size → S' b) : RdE w g S' l bad := by
  obtain ⟨A, c, h1, h2, h3, h4⟩ := h
  refine ⟨A, c, h1, h2, h3, fun hl ad ha => hS _ (h4 hl ad ha) ?_⟩
  obtain ⟨ad', e, hb, _⟩ := h3 (by intro h; exact hl (by simpa [bvs] using h))
  rw [ha] at e; injection e with e; subst e; exact hb
theorem RdE.lt (h : RdE w g S l bad) : g < w.heap.size := by
  obtain ⟨A, c, h1, _⟩ := h
  exact (Array.getElem?_eq_some_iff.1 h1).1
theorem RdE.ext (h : RdE w g S l bad) (k : Below w.heap.size w w') : RdE w' g S l bad := by
  obtain ⟨A, c, h1, h2, h3, h4⟩ := h
  exact ⟨A, c, box_below h1 k, h2, h3.ext k, h4⟩
theorem RdE.grown {row : Option Nat} (h : RdE w g S l bad) (hg : w.grownBy w' row) (hne : row ≠ some g) (hS : ∀ b, S b → row ≠ some b) : RdE w' g S l bad := by
  obtain ⟨A, c, h1, h2, h3, h4⟩ := h
  refine ⟨A, c, (hg.block g (Array.getElem?_eq_some_iff.1 h1).1 (fun e => hne e.symm)).trans h1, h2, fun hn => ?_, h4⟩
  obtain ⟨ad, ha, hb, hc⟩ := h3 hn
  refine ⟨ad, ha, Nat.lt_of_lt_of_le hb hg.size, fun j u hu => ?_⟩
  rw [← hc j u hu]
  exact World.cell?_of_block (by rw [block_of_add]; exact hg.block _ hb (Ne.symm (hS _ (h4 (by intro e; rw [e] at hn; exact hn rfl) ad ha))))
end
theorem resIs_len {r r' : List UInt8} {x : List Int} {ok : Bool} (h : Res (getL geti r) [] x r' ok) : r'.length ≤ r.length := h.len fun x r' hg => by rw [(getIs_can _ _ _ hg).1, List.length_append]; omega
def NumE (S : Nat → Prop) (g : Nat) (l : List UInt8) (bad : Bool) (w : World) (e : Ending) (w' : World) : Prop :=
  ∃ x r ok, e = .returned (.int .i64 x) ∧ (bad = false → Res (getI l) 0 x r ok) ∧ RdE w' g (fun b => S b ∨ w.heap.size ≤ b) r (bad || !ok) ∧ r.length ≤ l.length ∧ w.grownBy w' (some g)
def TextE (S : Nat → Prop) (g : Nat) (l : List UInt8) (bad : Bool) (w : World) (e : Ending) (w' : World) : Prop :=
  ∃ x r ok, e = .returned (.string (str x)) ∧ (bad = false → Res (getS l) [] x r ok) ∧ RdE w' g (fun b => S b ∨ w.heap.size ≤ b) r (bad || !ok) ∧ (r.length ≤ l.length ∧ x.length ≤ l.length) ∧ w.grownBy w' (some g)
def FlagE (S : Nat → Prop) (g : Nat) (l : List UInt8) (bad : Bool) (w : World) (e : Ending) (w' : World) : Prop :=
  ∃ x r ok, e = .returned (.bool x) ∧ (bad = false → Res (getB l) false x r ok) ∧ RdE w' g (fun b => S b ∨ w.heap.size ≤ b) r (bad || !ok) ∧ r.length ≤ l.length ∧ w.grownBy w' (some g)
def NumsE (S : Nat → Prop) (g : Nat) (l : List UInt8) (bad : Bool) (w : World) (e : Ending) (w' : World) : Prop :=
  ∃ v x r ok, e = .returned v ∧ Slc w' (w.heap.size ≤ ·) v 1 x.length (ivs x) ∧ (bad = false → Res (getL geti l) [] x r ok) ∧ RdE w' g (fun b => S b ∨ w.heap.size ≤ b) r (bad || !ok) ∧ r.length ≤ l.length ∧ w.grownBy w' (some g)
set_option maxRecDepth 100000 in
set_option maxHeartbeats 4000000 in
theorem enumber {S : Nat → Prop} {g : Nat} {l : List UInt8} {bad : Bool} {w : World} (h : RdE w g S l bad) (hl : l.length ≤ 16777216) :
    Calls Tryz.prog 62 #[.pointer (some ⟨g, 0, none⟩)] w (NumE S g l bad w) := by
  cases bad
  case true =>
    obtain ⟨A, c, hB, hc, hr, hs⟩ := h
    have r1 := box_at (C := [.slice A l.length c, .bool false]) hB (j := 1) (u := .bool false) rfl
    have HB := hide hB
    clear hB
    go_enter Tryz.func62, Tryz.ntmps62
    go_wp2_with fail
    go_ret
    exact ⟨0, l, true, rfl, (fun h => nomatch h), ⟨A, c, HB.out, hc, hr, fun h1 h2 h3 => .inl (hs h1 h2 h3)⟩, Nat.le_refl _, World.grownBy.refl _ _⟩
  obtain ⟨A, c, hB, hc, hr, _⟩ := h
  have r0 := box_at (C := [.slice A l.length c, .bool true]) hB (j := 0) (u := .slice A l.length c) rfl
  have r1 := box_at (C := [.slice A l.length c, .bool true]) hB (j := 1) (u := .bool true) rfl
  have hgl : g < w.heap.size := (Array.getElem?_eq_some_iff.1 hB).1
  have CG := GetInt_any hr hc hl
  have HB := hide hB
  clear hB hr
  go_enter Tryz.func62, Tryz.ntmps62
  go_wp2_with (go_at_call 128; refine CG.mono ?_)
  rintro e w1 ⟨x, r, ok, ⟨v', rfl, hown, hb⟩, hres⟩
  obtain ⟨A', c', rfl, hc', _⟩ := own_form hown
  have HR := hide (Slc.own hown (by decide))
  have HB1 := hide (box_below HB.out hb)
  clear CG r0 r1 hown
  go_wp2_with (refine wpList_store1 rfl (.tmp 19) (.tmp 16) rfl rfl sizeB g 0 rfl (.slice A' r.length c') rfl rfl _ _ HB1.out (by simp) ?_)
  intro w2 B2 g2 hz2
  replace B2 : w2.heap[g]? = some (.cells [.slice A' r.length c', .bool true].toArray 79 (0, 0)) := B2
  have HB2 := hide B2
  have G2 := below_grown hb g2
  have HR2 := hide (HR.out.grown g2 (fun b hb1 e => by injection e with e; omega))
  clear B2 g2 HR hz2
  go_wp2_with (refine wpList_store1 rfl (.tmp 21) (.tmp 17) rfl rfl sizeT1 g 1 rfl (.bool ok) rfl rfl _ _ HB2.out (by simp) ?_)
  intro w3 B3 g3 hz3
  replace B3 : w3.heap[g]? = some (.cells [.slice A' r.length c', .bool ok].toArray 79 (0, 0)) := B3
  have HR3 := hide (HR2.out.grown g3 (fun b hb1 e => by injection e with e; omega))
  have G3 := G2.trans g3
  have HB3 := hide B3
  clear B3 hz3 g3
  go_wp2_with fail
  go_ret
  obtain ⟨A2, c2, hA, _, hc2, _, _, hr2, hs2⟩ := HR3.out
  injection hA with e1 e2 e3
  subst e1 e3
  exact ⟨x, r, ok, rfl, fun _ => hres, ⟨A', c', by rw [Bool.false_or, Bool.not_not]; exact HB3.out, hc', hr2, fun hl ad ha => .inr (hs2 (by simpa [bvs] using hl) ad ha)⟩, resI_len hres, G3⟩
set_option maxRecDepth 100000 in
set_option maxHeartbeats 4000000 in
theorem etext {S : Nat → Prop} {g : Nat} {l : List UInt8} {bad : Bool} {w : World} (h : RdE w g S l bad) (hl : l.length ≤ 16777216) :
    Calls Tryz.prog 63 #[.pointer (some ⟨g, 0, none⟩)] w (TextE S g l bad w) := by
  cases bad
  case true =>
    obtain ⟨A, c, hB, hc, hr, hs⟩ := h
    have r1 := box_at (C := [.slice A l.length c, .bool false]) hB (j := 1) (u := .bool false) rfl
    have HB := hide hB
    clear hB
    go_enter Tryz.func63, Tryz.ntmps63
    go_wp2_with fail
    go_ret
    exact ⟨[], l, true, rfl, (fun h => nomatch h), ⟨A, c, HB.out, hc, hr, fun h1 h2 h3 => .inl (hs h1 h2 h3)⟩, ⟨Nat.le_refl _, Nat.zero_le _⟩, World.grownBy.refl _ _⟩
  obtain ⟨A, c, hB, hc, hr, _⟩ := h
  have r0 := box_at (C := [.slice A l.length c, .bool true]) hB (j := 0) (u := .slice A l.length c) rfl
  have r1 := box_at (C := [.slice A l.length c, .bool true]) hB (j := 1) (u := .bool true) rfl
  have hgl : g < w.heap.size := (Array.getElem?_eq_some_iff.1 hB).1
  have CG := GetText_any hr hc hl
  have HB := hide hB
  clear hB hr
  go_enter Tryz.func63, Tryz.ntmps63
  go_wp2_with (go_at_call 129; refine CG.mono ?_)
  rintro e w1 ⟨x, r, ok, ⟨v', rfl, hown, hb⟩, hres⟩
  obtain ⟨A', c', rfl, hc', _⟩ := own_form hown
  have HR := hide (Slc.own hown (by decide))
  have HB1 := hide (box_below HB.out hb)
  clear CG r0 r1 hown
  go_wp2_with (refine wpList_store1 rfl (.tmp 19) (.tmp 16) rfl rfl sizeB g 0 rfl (.slice A' r.length c') rfl rfl _ _ HB1.out (by simp) ?_)
  intro w2 B2 g2 hz2
  replace B2 : w2.heap[g]? = some (.cells [.slice A' r.length c', .bool true].toArray 79 (0, 0)) := B2
  have HB2 := hide B2
  have G2 := below_grown hb g2
  have HR2 := hide (HR.out.grown g2 (fun b hb1 e => by injection e with e; omega))
  clear B2 g2 HR hz2
  go_wp2_with (refine wpList_store1 rfl (.tmp 21) (.tmp 17) rfl rfl sizeT1 g 1 rfl (.bool ok) rfl rfl _ _ HB2.out (by simp) ?_)
  intro w3 B3 g3 hz3
  replace B3 : w3.heap[g]? = some (.cells [.slice A' r.length c', .bool ok].toArray 79 (0, 0)) := B3
  have HR3 := hide (HR2.out.grown g3 (fun b hb1 e => by injection e with e; omega))
  have G3 := G2.trans g3
  have HB3 := hide B3
  clear B3 hz3 g3
  go_wp2_with fail
  go_ret
  obtain ⟨A2, c2, hA, _, hc2, _, _, hr2, hs2⟩ := HR3.out
  injection hA with e1 e2 e3
  subst e1 e3
  exact ⟨x, r, ok, rfl, fun _ => hres, ⟨A', c', by rw [Bool.false_or, Bool.not_not]; exact HB3.out, hc', hr2, fun hl ad ha => .inr (hs2 (by simpa [bvs] using hl) ad ha)⟩, resS_len hres, G3⟩
set_option maxRecDepth 100000 in
set_option maxHeartbeats 4000000 in
theorem eflag {S : Nat → Prop} {g : Nat} {l : List UInt8} {bad : Bool} {w : World} (h : RdE w g S l bad) (hl : l.length ≤ 16777216) :
    Calls Tryz.prog 64 #[.pointer (some ⟨g, 0, none⟩)] w (FlagE S g l bad w) := by
  cases bad
  case true =>
    obtain ⟨A, c, hB, hc, hr, hs⟩ := h
    have r1 := box_at (C := [.slice A l.length c, .bool false]) hB (j := 1) (u := .bool false) rfl
    have HB := hide hB
    clear hB
    go_enter Tryz.func64, Tryz.ntmps64
    go_wp2_with fail
    go_ret
    exact ⟨false, l, true, rfl, (fun h => nomatch h), ⟨A, c, HB.out, hc, hr, fun h1 h2 h3 => .inl (hs h1 h2 h3)⟩, Nat.le_refl _, World.grownBy.refl _ _⟩
  obtain ⟨A, c, hB, hc, hr, _⟩ := h
  have r0 := box_at (C := [.slice A l.length c, .bool true]) hB (j := 0) (u := .slice A l.length c) rfl
  have r1 := box_at (C := [.slice A l.length c, .bool true]) hB (j := 1) (u := .bool true) rfl
  have hgl : g < w.heap.size := (Array.getElem?_eq_some_iff.1 hB).1
  have CG := GetBool_any hr hc hl
  have HB := hide hB
  clear hB hr
  go_enter Tryz.func64, Tryz.ntmps64
  go_wp2_with (go_at_call 130; refine CG.mono ?_)
  rintro e w1 ⟨x, r, ok, ⟨v', rfl, hown, hb⟩, hres⟩
  obtain ⟨A', c', rfl, hc', _⟩ := own_form hown
  have HR := hide (Slc.own hown (by decide))
  have HB1 := hide (box_below HB.out hb)
  clear CG r0 r1 hown
  go_wp2_with (refine wpList_store1 rfl (.tmp 19) (.tmp 16) rfl rfl sizeB g 0 rfl (.slice A' r.length c') rfl rfl _ _ HB1.out (by simp) ?_)
  intro w2 B2 g2 hz2
  replace B2 : w2.heap[g]? = some (.cells [.slice A' r.length c', .bool true].toArray 79 (0, 0)) := B2
  have HB2 := hide B2
  have G2 := below_grown hb g2
  have HR2 := hide (HR.out.grown g2 (fun b hb1 e => by injection e with e; omega))
  clear B2 g2 HR hz2
  go_wp2_with (refine wpList_store1 rfl (.tmp 21) (.tmp 17) rfl rfl sizeT1 g 1 rfl (.bool ok) rfl rfl _ _ HB2.out (by simp) ?_)
  intro w3 B3 g3 hz3
  replace B3 : w3.heap[g]? = some (.cells [.slice A' r.length c', .bool ok].toArray 79 (0, 0)) := B3
  have HR3 := hide (HR2.out.grown g3 (fun b hb1 e => by injection e with e; omega))
  have G3 := G2.trans g3
  have HB3 := hide B3
  clear B3 hz3 g3
  go_wp2_with fail
  go_ret
  obtain ⟨A2, c2, hA, _, hc2, _, _, hr2, hs2⟩ := HR3.out
  injection hA with e1 e2 e3
  subst e1 e3
  exact ⟨x, r, ok, rfl, fun _ => hres, ⟨A', c', by rw [Bool.false_or, Bool.not_not]; exact HB3.out, hc', hr2, fun hl ad ha => .inr (hs2 (by simpa [bvs] using hl) ad ha)⟩, resB_len hres, G3⟩
set_option maxRecDepth 100000 in
set_option maxHeartbeats 4000000 in
theorem enumbers {S : Nat → Prop} {g : Nat} {l : List UInt8} {bad : Bool} {w : World} (h : RdE w g S l bad) (hl : l.length ≤ 16777216) :
    Calls Tryz.prog 65 #[.pointer (some ⟨g, 0, none⟩)] w (NumsE S g l bad w) := by
  cases bad
  case true =>
    obtain ⟨A, c, hB, hc, hr, hs⟩ := h
    have r1 := box_at (C := [.slice A l.length c, .bool false]) hB (j := 1) (u := .bool false) rfl
    have HB := hide hB
    clear hB
    go_enter Tryz.func65, Tryz.ntmps65
    go_wp2_with fail
    go_ret
    exact ⟨.slice none 0 0, [], l, true, rfl, Slc.nil _ _ _, (fun h => nomatch h), ⟨A, c, HB.out, hc, hr, fun h1 h2 h3 => .inl (hs h1 h2 h3)⟩, Nat.le_refl _, World.grownBy.refl _ _⟩
  obtain ⟨A, c, hB, hc, hr, _⟩ := h
  have r0 := box_at (C := [.slice A l.length c, .bool true]) hB (j := 0) (u := .slice A l.length c) rfl
  have r1 := box_at (C := [.slice A l.length c, .bool true]) hB (j := 1) (u := .bool true) rfl
  have hgl : g < w.heap.size := (Array.getElem?_eq_some_iff.1 hB).1
  have CG := GetInts_any hr hc hl
  have HB := hide hB
  clear hB hr
  go_enter Tryz.func65, Tryz.ntmps65
  go_wp2_with (go_at_call 131; refine CG.mono ?_)
  rintro e w1 ⟨x, r, ok, ⟨vt, v', rfl, hownt, hown, hb⟩, hres⟩
  obtain ⟨A', c', rfl, hc', _⟩ := own_form hown
  have HR := hide (Slc.own hown (by decide))
  have HT := hide (Slc.own hownt (by decide))
  clear hownt
  have HB1 := hide (box_below HB.out hb)
  clear CG r0 r1 hown
  go_wp2_with (refine wpList_store1 rfl (.tmp 19) (.tmp 16) rfl rfl sizeB g 0 rfl (.slice A' r.length c') rfl rfl _ _ HB1.out (by simp) ?_)
  intro w2 B2 g2 hz2
  replace B2 : w2.heap[g]? = some (.cells [.slice A' r.length c', .bool true].toArray 79 (0, 0)) := B2
  have HB2 := hide B2
  have G2 := below_grown hb g2
  have HR2 := hide (HR.out.grown g2 (fun b hb1 e => by injection e with e; omega))
  have HT2 := hide (HT.out.grown g2 (fun b hb1 e => by injection e with e; omega))
  clear B2 g2 HR HT hz2
  go_wp2_with (refine wpList_store1 rfl (.tmp 21) (.tmp 17) rfl rfl sizeT1 g 1 rfl (.bool ok) rfl rfl _ _ HB2.out (by simp) ?_)
  intro w3 B3 g3 hz3
  replace B3 : w3.heap[g]? = some (.cells [.slice A' r.length c', .bool ok].toArray 79 (0, 0)) := B3
  have HR3 := hide (HR2.out.grown g3 (fun b hb1 e => by injection e with e; omega))
  have HT3 := hide (HT2.out.grown g3 (fun b hb1 e => by injection e with e; omega))
  have slt : Slc w3 (w.heap.size ≤ ·) vt 1 x.length (ivs x) := by have := HT3.out; rwa [show (ivs x).length = x.length by simp [ivs]] at this
  have SLT := hide slt
  clear slt
  have G3 := G2.trans g3
  have HB3 := hide B3
  clear B3 hz3 g3
  go_wp2_with fail
  go_ret
  obtain ⟨A2, c2, hA, _, hc2, _, _, hr2, hs2⟩ := HR3.out
  injection hA with e1 e2 e3
  subst e1 e3
  exact ⟨vt, x, r, ok, rfl, SLT.out, fun _ => hres, ⟨A', c', by rw [Bool.false_or, Bool.not_not]; exact HB3.out, hc', hr2, fun hl ad ha => .inr (hs2 (by simpa [bvs] using hl) ad ha)⟩, resIs_len hres, G3⟩
end

section
open Go.RowKit
attribute [local go_sem] Addr.add_mid
theorem sizeIs7 : (Tryz.prog.info? 23).map (·.size) = some 1 := by kernel_rfl
theorem sizeK7 : (Tryz.prog.info? 22).map (·.size) = some 1 := by kernel_rfl
section
variable {w : World} {S : Nat → Prop} {cs : List Value} {e : Ev}
theorem EvR.q0 (h : EvR w S cs e) (x : Int) : EvR w S (patch cs 0 [.int .i64 x]) { e with id := x } := by obtain ⟨vp, vq, va, vd, vu, vk, rfl, h1, h2, h3, h4, h5, h6⟩ := h; exact ⟨vp, vq, va, vd, vu, vk, rfl, h1, h2, h3, h4, h5, h6⟩
theorem EvR.q1 (h : EvR w S cs e) (x : ByteArray) : EvR w S (patch cs 1 [.string x]) { e with room := x } := by obtain ⟨vp, vq, va, vd, vu, vk, rfl, h1, h2, h3, h4, h5, h6⟩ := h; exact ⟨vp, vq, va, vd, vu, vk, rfl, h1, h2, h3, h4, h5, h6⟩
theorem EvR.q2 (h : EvR w S cs e) (x : ByteArray) : EvR w S (patch cs 2 [.string x]) { e with sender := x } := by obtain ⟨vp, vq, va, vd, vu, vk, rfl, h1, h2, h3, h4, h5, h6⟩ := h; exact ⟨vp, vq, va, vd, vu, vk, rfl, h1, h2, h3, h4, h5, h6⟩
theorem EvR.q3 (h : EvR w S cs e) (x : Int) : EvR w S (patch cs 3 [.int .i64 x]) { e with kind := x } := by obtain ⟨vp, vq, va, vd, vu, vk, rfl, h1, h2, h3, h4, h5, h6⟩ := h; exact ⟨vp, vq, va, vd, vu, vk, rfl, h1, h2, h3, h4, h5, h6⟩
theorem EvR.q4 (h : EvR w S cs e) (x : Bool) : EvR w S (patch cs 4 [.bool x]) { e with state := x } := by obtain ⟨vp, vq, va, vd, vu, vk, rfl, h1, h2, h3, h4, h5, h6⟩ := h; exact ⟨vp, vq, va, vd, vu, vk, rfl, h1, h2, h3, h4, h5, h6⟩
theorem EvR.q5 (h : EvR w S cs e) (x : ByteArray) : EvR w S (patch cs 5 [.string x]) { e with key := x } := by obtain ⟨vp, vq, va, vd, vu, vk, rfl, h1, h2, h3, h4, h5, h6⟩ := h; exact ⟨vp, vq, va, vd, vu, vk, rfl, h1, h2, h3, h4, h5, h6⟩
theorem EvR.q6 (h : EvR w S cs e) (x : Int) : EvR w S (patch cs 6 [.int .i64 x]) { e with time := x } := by obtain ⟨vp, vq, va, vd, vu, vk, rfl, h1, h2, h3, h4, h5, h6⟩ := h; exact ⟨vp, vq, va, vd, vu, vk, rfl, h1, h2, h3, h4, h5, h6⟩
theorem EvR.q7 (h : EvR w S cs e) (x : Int) : EvR w S (patch cs 7 [.int .i64 x]) { e with depth := x } := by obtain ⟨vp, vq, va, vd, vu, vk, rfl, h1, h2, h3, h4, h5, h6⟩ := h; exact ⟨vp, vq, va, vd, vu, vk, rfl, h1, h2, h3, h4, h5, h6⟩
theorem EvR.q26 (h : EvR w S cs e) (x : Int) : EvR w S (patch cs 26 [.int .i64 x]) { e with hash := x } := by obtain ⟨vp, vq, va, vd, vu, vk, rfl, h1, h2, h3, h4, h5, h6⟩ := h; exact ⟨vp, vq, va, vd, vu, vk, rfl, h1, h2, h3, h4, h5, h6⟩
theorem EvR.q27 (h : EvR w S cs e) (x : ByteArray) : EvR w S (patch cs 27 [.string x]) { e with server := x } := by obtain ⟨vp, vq, va, vd, vu, vk, rfl, h1, h2, h3, h4, h5, h6⟩ := h; exact ⟨vp, vq, va, vd, vu, vk, rfl, h1, h2, h3, h4, h5, h6⟩
theorem EvR.q28 (h : EvR w S cs e) (x : Int) : EvR w S (patch cs 28 [.int .i64 x]) { e with sum := x } := by obtain ⟨vp, vq, va, vd, vu, vk, rfl, h1, h2, h3, h4, h5, h6⟩ := h; exact ⟨vp, vq, va, vd, vu, vk, rfl, h1, h2, h3, h4, h5, h6⟩
theorem EvR.q8 (h : EvR w S cs e) {v : Value} {l : List Int} (hv : Slc w S v 1 l.length (ivs l)) : EvR w S (patch cs 8 [v]) { e with prev := l } := by obtain ⟨vp, vq, va, vd, vu, vk, rfl, h1, h2, h3, h4, h5, h6⟩ := h; exact ⟨v, vq, va, vd, vu, vk, rfl, hv, h2, h3, h4, h5, h6⟩
theorem EvR.q9 (h : EvR w S cs e) {v : Value} {l : List Int} (hv : Slc w S v 1 l.length (ivs l)) : EvR w S (patch cs 9 [v]) { e with auth := l } := by obtain ⟨vp, vq, va, vd, vu, vk, rfl, h1, h2, h3, h4, h5, h6⟩ := h; exact ⟨vp, v, va, vd, vu, vk, rfl, h1, hv, h3, h4, h5, h6⟩
theorem EvR.q10 (h : EvR w S cs e) {ds : List Value} {c : Con} (hc : ConR w S ds c) : EvR w S (patch cs 10 ds) { e with con := c } := by
  have h2 := h.withCon hc
  rwa [show cs.take 10 ++ (ds ++ cs.drop 26) = patch cs 10 ds by simp [patch, hc.length]] at h2
end
/-- what Decode hands back of the bytes l -/
def DecEV (l : List UInt8) (w : World) (e : Ending) (w' : World) : Prop :=
  ∃ cs E ok, e = .returned (.tuple #[.agg cs.toArray, .bool ok]) ∧ EvR w' (w.heap.size ≤ ·) cs E ∧ (ok = true → l = encEv E ∧ E.told ∧ E.con.fine) ∧ (ok = false → E = Ev.zero) ∧ (∀ e' : Ev, e'.told → l = encEv e' → ok = true ∧ E = e') ∧ Below w.heap.size w w'
set_option maxRecDepth 100000 in
set_option maxHeartbeats 20000000 in
theorem EvDecode_any {A : Option Addr} {c : Nat} {l : List UInt8} {w : World} (hr : Row w w.heap.size A (bvs l)) (hc : l.length ≤ c) (hl : l.length ≤ 16777216) :
    Calls Tryz.prog 29 #[.slice A l.length c] w (DecEV l w) := by
  obtain ⟨W1, hW1⟩ : ∃ W, W = w.alloc (.cells evZero 34) := ⟨_, rfl⟩
  obtain ⟨W2, hW2⟩ : ∃ W, W = W1.alloc (.cells #[.slice A l.length c, .bool true] 79) := ⟨_, rfl⟩
  obtain ⟨W3, hW3⟩ : ∃ W, W = W2.alloc (.cells evZero 34) := ⟨_, rfl⟩
  have z1 : W1.heap.size = w.heap.size + 1 := by rw [hW1]; simp
  have z2 : W2.heap.size = w.heap.size + 1 + 1 := by rw [hW2]; simp [z1]
  have z3 : W3.heap.size = w.heap.size + 1 + 1 + 1 := by rw [hW3]; simp [z2]
  have k1 : Below w.heap.size w W1 := by rw [hW1]; exact ext_alloc (ext_refl w) _
  have k2 : Below W1.heap.size W1 W2 := by rw [hW2]; exact ext_alloc (ext_refl W1) _
  have k3 : Below W2.heap.size W2 W3 := by rw [hW3]; exact ext_alloc (ext_refl W2) _
  have a1 : W1.heap[w.heap.size]? = some (.cells evZero 34 (0, 0)) := by rw [hW1]; exact heap_alloc_new w _
  have a2 : W2.heap[w.heap.size + 1]? = some (.cells [.slice A l.length c, .bool (!false)].toArray 79 (0, 0)) := by rw [hW2, ← z1]; exact heap_alloc_new W1 _
  have a3 : W3.heap[w.heap.size + 1 + 1]? = some (.cells evZero.toList.toArray 34 (0, 0)) := by rw [hW3, ← z2]; exact heap_alloc_new W2 _
  have BR := box_below (box_below a1 k2) k3
  have BD := box_below a2 k3
  have KB := ext_trans (ext_trans k1 k2) k3
  have hr3 := hr.ext KB
  have RD : RdE W3 (w.heap.size + 1) (fun b => b < w.heap.size ∨ w.heap.size + 3 ≤ b) l false := ⟨A, c, BD, hc, hr3, fun hn ad ha => by
    obtain ⟨ad', e, hb, _⟩ := hr (by intro h; exact hn (by simpa [bvs] using h))
    rw [ha] at e; injection e with e; subst e; exact .inl hb⟩
  have R : EvR W3 (fun b => w.heap.size + 3 ≤ b) evZero.toList Ev.zero := evZero_R _ _
  clear a1 a2 k1 k2 k3 hr hr3 z1 BD
  go_enter Tryz.func29, Tryz.ntmps29
  go_upto_region 3 with (refine wpList_zeroS rfl rfl strcE ?_)
  try rw [← hW1]
  try rw [← hW2]
  try rw [← hW3]
  try simp only [z2]
  clear z2 hW1 hW2 hW3 W1 W2
  obtain ⟨g, hg⟩ : ∃ g, w.heap.size = g := ⟨_, rfl⟩
  rw [hg] at BR a3 KB RD R z3
  try simp only [hg]
  have HGG := hide hg
  clear hg
  have hs : g + 3 ≤ W3.heap.size := by omega
  have HH0 := hide (fun d : Rd => Rds.zero l d)
  obtain ⟨ca0, hcsx⟩ : ∃ x, evZero.toList = x := ⟨_, rfl⟩
  rw [hcsx] at R a3
  have BE := a3
  have hrl : l.length ≤ 16777216 := hl
  have hrx : l.length ≤ l.length := Nat.le_refl _
  clear a3 z3 hcsx hc
  have HRD := hide RD; clear RD
  have HR := hide R; clear R
  have HBR := hide BR; clear BR
  -- id
  have CN := enumber HRD.out hrl
  have hHL := hide HR.out.length
  go_wp2_with (first
    | (go_at_call 62; refine CN.mono ?_; rintro y u0 ⟨x0, r0, ok0, rfl, hres, hrd, hlen, hgr⟩; have BE1 := box_grown BE hgr (by omega))
    | refine wpList_store1 rfl (.tmp 13) (.tmp 12) rfl rfl sizeI (g + 1 + 1) 0 rfl (.int .i64 x0) rfl rfl ca0 34 BE1 (by rw [hHL.out]; simp) ?_)
  intro y0 B2 g2 zz
  have hRES0 := hide hres
  obtain ⟨bad1, hbad⟩ : ∃ b, (false || !ok0) = b := ⟨_, rfl⟩
  rw [hbad] at hrd
  have HBD0 := hide hbad
  have hrl : r0.length ≤ 16777216 := by omega
  have hrx : r0.length ≤ l.length := by omega
  have hs1 : g + 3 ≤ u0.heap.size := Nat.le_trans hs hgr.size
  have R := ((HR.out.grown hgr (fun b hb e => by injection e with e; omega)).grown g2 (fun b hb e => by injection e with e; omega)).q0 x0
  have RD := (hrd.weak (S' := fun b => b < g ∨ g + 3 ≤ b) (fun b h _ => by rcases h with h | h; exact h; exact .inr (Nat.le_trans hs h))).grown g2 (fun e => by injection e with e; omega) (fun b hb e => by injection e with e; omega)
  have KB := (KB.grown hgr (by omega) (fun q hq => by injection hq with hq; omega)).grown g2 (by omega) (fun q hq => by injection hq with hq; omega)
  have BR := box_grown (box_grown HBR.out hgr (by omega)) g2 (by omega)
  have hs : g + 3 ≤ y0.heap.size := by have := g2.size; omega
  clear hres hrd hlen hgr BE1 BE HRD HR HBR g2 zz hbad CN hHL
  obtain ⟨ca1, hcsy⟩ : ∃ x, patch ca0 0 [.int .i64 x0] = x := ⟨_, rfl⟩
  rw [hcsy] at R B2
  clear hcsy
  have BE := B2
  clear B2
  have HRD := hide RD; clear RD
  have HR := hide R; clear R
  have HBR := hide BR; clear BR
  -- room
  have CN := etext HRD.out hrl
  have hHL := hide HR.out.length
  go_wp2_with (first
    | (go_at_call 63; refine CN.mono ?_; rintro y u1 ⟨x1, r1, ok1, rfl, hres, hrd, ⟨hlen, hxl⟩, hgr⟩; have BE1 := box_grown BE hgr (by omega))
    | refine wpList_store1 rfl (.tmp 16) (.tmp 15) rfl rfl sizeS (g + 1 + 1) 1 rfl (.string (str x1)) rfl rfl ca1 34 BE1 (by rw [hHL.out]; simp) ?_)
  intro y1 B2 g2 zz
  have hRES1 := hide hres
  obtain ⟨bad2, hbad⟩ : ∃ b, (bad1 || !ok1) = b := ⟨_, rfl⟩
  rw [hbad] at hrd
  have HBD1 := hide hbad
  have hrl : r1.length ≤ 16777216 := by omega
  have hrx : r1.length ≤ l.length := by omega
  have hs1 : g + 3 ≤ u1.heap.size := Nat.le_trans hs hgr.size
  have R := ((HR.out.grown hgr (fun b hb e => by injection e with e; omega)).grown g2 (fun b hb e => by injection e with e; omega)).q1 (str x1)
  have RD := (hrd.weak (S' := fun b => b < g ∨ g + 3 ≤ b) (fun b h _ => by rcases h with h | h; exact h; exact .inr (Nat.le_trans hs h))).grown g2 (fun e => by injection e with e; omega) (fun b hb e => by injection e with e; omega)
  have KB := (KB.grown hgr (by omega) (fun q hq => by injection hq with hq; omega)).grown g2 (by omega) (fun q hq => by injection hq with hq; omega)
  have BR := box_grown (box_grown HBR.out hgr (by omega)) g2 (by omega)
  have hs : g + 3 ≤ y1.heap.size := by have := g2.size; omega
  clear hres hrd hlen hgr BE1 BE HRD HR HBR g2 zz hbad CN hHL hxl
  obtain ⟨ca2, hcsy⟩ : ∃ x, patch ca1 1 [.string (str x1)] = x := ⟨_, rfl⟩
  rw [hcsy] at R B2
  clear hcsy
  have BE := B2
  clear B2
  have HRD := hide RD; clear RD
  have HR := hide R; clear R
  have HBR := hide BR; clear BR
  -- sender
  have CN := etext HRD.out hrl
  have hHL := hide HR.out.length
  go_wp2_with (first
    | (go_at_call 63; refine CN.mono ?_; rintro y u2 ⟨x2, r2, ok2, rfl, hres, hrd, ⟨hlen, hxl⟩, hgr⟩; have BE1 := box_grown BE hgr (by omega))
    | refine wpList_store1 rfl (.tmp 19) (.tmp 18) rfl rfl sizeS (g + 1 + 1) 2 rfl (.string (str x2)) rfl rfl ca2 34 BE1 (by rw [hHL.out]; simp) ?_)
  intro y2 B2 g2 zz
  have hRES2 := hide hres
  obtain ⟨bad3, hbad⟩ : ∃ b, (bad2 || !ok2) = b := ⟨_, rfl⟩
  rw [hbad] at hrd
  have HBD2 := hide hbad
  have hrl : r2.length ≤ 16777216 := by omega
  have hrx : r2.length ≤ l.length := by omega
  have hs1 : g + 3 ≤ u2.heap.size := Nat.le_trans hs hgr.size
  have R := ((HR.out.grown hgr (fun b hb e => by injection e with e; omega)).grown g2 (fun b hb e => by injection e with e; omega)).q2 (str x2)
  have RD := (hrd.weak (S' := fun b => b < g ∨ g + 3 ≤ b) (fun b h _ => by rcases h with h | h; exact h; exact .inr (Nat.le_trans hs h))).grown g2 (fun e => by injection e with e; omega) (fun b hb e => by injection e with e; omega)
  have KB := (KB.grown hgr (by omega) (fun q hq => by injection hq with hq; omega)).grown g2 (by omega) (fun q hq => by injection hq with hq; omega)
  have BR := box_grown (box_grown HBR.out hgr (by omega)) g2 (by omega)
  have hs : g + 3 ≤ y2.heap.size := by have := g2.size; omega
  clear hres hrd hlen hgr BE1 BE HRD HR HBR g2 zz hbad CN hHL hxl
  obtain ⟨ca3, hcsy⟩ : ∃ x, patch ca2 2 [.string (str x2)] = x := ⟨_, rfl⟩
  rw [hcsy] at R B2
  clear hcsy
  have BE := B2
  clear B2
  have HRD := hide RD; clear RD
  have HR := hide R; clear R
  have HBR := hide BR; clear BR
  -- kind
  have CN := enumber HRD.out hrl
  have hHL := hide HR.out.length
  go_wp2_with (first
    | (go_at_call 62; refine CN.mono ?_; rintro y u3 ⟨x3, r3, ok3, rfl, hres, hrd, hlen, hgr⟩; have BE1 := box_grown BE hgr (by omega))
    | refine wpList_store1 rfl (.tmp 22) (.tmp 21) rfl rfl sizeK7 (g + 1 + 1) 3 rfl (.int .i64 x3) rfl rfl ca3 34 BE1 (by rw [hHL.out]; simp) ?_)
  intro y3 B2 g2 zz
  have hRES3 := hide hres
  obtain ⟨bad4, hbad⟩ : ∃ b, (bad3 || !ok3) = b := ⟨_, rfl⟩
  rw [hbad] at hrd
  have HBD3 := hide hbad
  have hrl : r3.length ≤ 16777216 := by omega
  have hrx : r3.length ≤ l.length := by omega
  have hs1 : g + 3 ≤ u3.heap.size := Nat.le_trans hs hgr.size
  have R := ((HR.out.grown hgr (fun b hb e => by injection e with e; omega)).grown g2 (fun b hb e => by injection e with e; omega)).q3 x3
  have RD := (hrd.weak (S' := fun b => b < g ∨ g + 3 ≤ b) (fun b h _ => by rcases h with h | h; exact h; exact .inr (Nat.le_trans hs h))).grown g2 (fun e => by injection e with e; omega) (fun b hb e => by injection e with e; omega)
  have KB := (KB.grown hgr (by omega) (fun q hq => by injection hq with hq; omega)).grown g2 (by omega) (fun q hq => by injection hq with hq; omega)
  have BR := box_grown (box_grown HBR.out hgr (by omega)) g2 (by omega)
  have hs : g + 3 ≤ y3.heap.size := by have := g2.size; omega
  clear hres hrd hlen hgr BE1 BE HRD HR HBR g2 zz hbad CN hHL
  obtain ⟨ca4, hcsy⟩ : ∃ x, patch ca3 3 [.int .i64 x3] = x := ⟨_, rfl⟩
  rw [hcsy] at R B2
  clear hcsy
  have BE := B2
  clear B2
  have HRD := hide RD; clear RD
  have HR := hide R; clear R
  have HBR := hide BR; clear BR
  -- state
  have CN := eflag HRD.out hrl
  have hHL := hide HR.out.length
  go_wp2_with (first
    | (go_at_call 64; refine CN.mono ?_; rintro y u4 ⟨x4, r4, ok4, rfl, hres, hrd, hlen, hgr⟩; have BE1 := box_grown BE hgr (by omega))
    | refine wpList_store1 rfl (.tmp 25) (.tmp 24) rfl rfl sizeT1 (g + 1 + 1) 4 rfl (.bool x4) rfl rfl ca4 34 BE1 (by rw [hHL.out]; simp) ?_)
  intro y4 B2 g2 zz
  have hRES4 := hide hres
  obtain ⟨bad5, hbad⟩ : ∃ b, (bad4 || !ok4) = b := ⟨_, rfl⟩
  rw [hbad] at hrd
  have HBD4 := hide hbad
  have hrl : r4.length ≤ 16777216 := by omega
  have hrx : r4.length ≤ l.length := by omega
  have hs1 : g + 3 ≤ u4.heap.size := Nat.le_trans hs hgr.size
  have R := ((HR.out.grown hgr (fun b hb e => by injection e with e; omega)).grown g2 (fun b hb e => by injection e with e; omega)).q4 x4
  have RD := (hrd.weak (S' := fun b => b < g ∨ g + 3 ≤ b) (fun b h _ => by rcases h with h | h; exact h; exact .inr (Nat.le_trans hs h))).grown g2 (fun e => by injection e with e; omega) (fun b hb e => by injection e with e; omega)
  have KB := (KB.grown hgr (by omega) (fun q hq => by injection hq with hq; omega)).grown g2 (by omega) (fun q hq => by injection hq with hq; omega)
  have BR := box_grown (box_grown HBR.out hgr (by omega)) g2 (by omega)
  have hs : g + 3 ≤ y4.heap.size := by have := g2.size; omega
  clear hres hrd hlen hgr BE1 BE HRD HR HBR g2 zz hbad CN hHL
  obtain ⟨ca5, hcsy⟩ : ∃ x, patch ca4 4 [.bool x4] = x := ⟨_, rfl⟩
  rw [hcsy] at R B2
  clear hcsy
  have BE := B2
  clear B2
  have HRD := hide RD; clear RD
  have HR := hide R; clear R
  have HBR := hide BR; clear BR
  -- key
  have CN := etext HRD.out hrl
  have hHL := hide HR.out.length
  go_wp2_with (first
    | (go_at_call 63; refine CN.mono ?_; rintro y u5 ⟨x5, r5, ok5, rfl, hres, hrd, ⟨hlen, hxl⟩, hgr⟩; have BE1 := box_grown BE hgr (by omega))
    | refine wpList_store1 rfl (.tmp 28) (.tmp 27) rfl rfl sizeS (g + 1 + 1) 5 rfl (.string (str x5)) rfl rfl ca5 34 BE1 (by rw [hHL.out]; simp) ?_)
  intro y5 B2 g2 zz
  have hRES5 := hide hres
  obtain ⟨bad6, hbad⟩ : ∃ b, (bad5 || !ok5) = b := ⟨_, rfl⟩
  rw [hbad] at hrd
  have HBD5 := hide hbad
  have hrl : r5.length ≤ 16777216 := by omega
  have hrx : r5.length ≤ l.length := by omega
  have hs1 : g + 3 ≤ u5.heap.size := Nat.le_trans hs hgr.size
  have R := ((HR.out.grown hgr (fun b hb e => by injection e with e; omega)).grown g2 (fun b hb e => by injection e with e; omega)).q5 (str x5)
  have RD := (hrd.weak (S' := fun b => b < g ∨ g + 3 ≤ b) (fun b h _ => by rcases h with h | h; exact h; exact .inr (Nat.le_trans hs h))).grown g2 (fun e => by injection e with e; omega) (fun b hb e => by injection e with e; omega)
  have KB := (KB.grown hgr (by omega) (fun q hq => by injection hq with hq; omega)).grown g2 (by omega) (fun q hq => by injection hq with hq; omega)
  have BR := box_grown (box_grown HBR.out hgr (by omega)) g2 (by omega)
  have hs : g + 3 ≤ y5.heap.size := by have := g2.size; omega
  clear hres hrd hlen hgr BE1 BE HRD HR HBR g2 zz hbad CN hHL hxl
  obtain ⟨ca6, hcsy⟩ : ∃ x, patch ca5 5 [.string (str x5)] = x := ⟨_, rfl⟩
  rw [hcsy] at R B2
  clear hcsy
  have BE := B2
  clear B2
  have HRD := hide RD; clear RD
  have HR := hide R; clear R
  have HBR := hide BR; clear BR
  -- time
  have CN := enumber HRD.out hrl
  have hHL := hide HR.out.length
  go_wp2_with (first
    | (go_at_call 62; refine CN.mono ?_; rintro y u6 ⟨x6, r6, ok6, rfl, hres, hrd, hlen, hgr⟩; have BE1 := box_grown BE hgr (by omega))
    | refine wpList_store1 rfl (.tmp 31) (.tmp 30) rfl rfl sizeI (g + 1 + 1) 6 rfl (.int .i64 x6) rfl rfl ca6 34 BE1 (by rw [hHL.out]; simp) ?_)
  intro y6 B2 g2 zz
  have hRES6 := hide hres
  obtain ⟨bad7, hbad⟩ : ∃ b, (bad6 || !ok6) = b := ⟨_, rfl⟩
  rw [hbad] at hrd
  have HBD6 := hide hbad
  have hrl : r6.length ≤ 16777216 := by omega
  have hrx : r6.length ≤ l.length := by omega
  have hs1 : g + 3 ≤ u6.heap.size := Nat.le_trans hs hgr.size
  have R := ((HR.out.grown hgr (fun b hb e => by injection e with e; omega)).grown g2 (fun b hb e => by injection e with e; omega)).q6 x6
  have RD := (hrd.weak (S' := fun b => b < g ∨ g + 3 ≤ b) (fun b h _ => by rcases h with h | h; exact h; exact .inr (Nat.le_trans hs h))).grown g2 (fun e => by injection e with e; omega) (fun b hb e => by injection e with e; omega)
  have KB := (KB.grown hgr (by omega) (fun q hq => by injection hq with hq; omega)).grown g2 (by omega) (fun q hq => by injection hq with hq; omega)
  have BR := box_grown (box_grown HBR.out hgr (by omega)) g2 (by omega)
  have hs : g + 3 ≤ y6.heap.size := by have := g2.size; omega
  clear hres hrd hlen hgr BE1 BE HRD HR HBR g2 zz hbad CN hHL
  obtain ⟨ca7, hcsy⟩ : ∃ x, patch ca6 6 [.int .i64 x6] = x := ⟨_, rfl⟩
  rw [hcsy] at R B2
  clear hcsy
  have BE := B2
  clear B2
  have HRD := hide RD; clear RD
  have HR := hide R; clear R
  have HBR := hide BR; clear BR
  -- depth
  have CN := enumber HRD.out hrl
  have hHL := hide HR.out.length
  go_wp2_with (first
    | (go_at_call 62; refine CN.mono ?_; rintro y u7 ⟨x7, r7, ok7, rfl, hres, hrd, hlen, hgr⟩; have BE1 := box_grown BE hgr (by omega))
    | refine wpList_store1 rfl (.tmp 34) (.tmp 33) rfl rfl sizeI (g + 1 + 1) 7 rfl (.int .i64 x7) rfl rfl ca7 34 BE1 (by rw [hHL.out]; simp) ?_)
  intro y7 B2 g2 zz
  have hRES7 := hide hres
  obtain ⟨bad8, hbad⟩ : ∃ b, (bad7 || !ok7) = b := ⟨_, rfl⟩
  rw [hbad] at hrd
  have HBD7 := hide hbad
  have hrl : r7.length ≤ 16777216 := by omega
  have hrx : r7.length ≤ l.length := by omega
  have hs1 : g + 3 ≤ u7.heap.size := Nat.le_trans hs hgr.size
  have R := ((HR.out.grown hgr (fun b hb e => by injection e with e; omega)).grown g2 (fun b hb e => by injection e with e; omega)).q7 x7
  have RD := (hrd.weak (S' := fun b => b < g ∨ g + 3 ≤ b) (fun b h _ => by rcases h with h | h; exact h; exact .inr (Nat.le_trans hs h))).grown g2 (fun e => by injection e with e; omega) (fun b hb e => by injection e with e; omega)
  have KB := (KB.grown hgr (by omega) (fun q hq => by injection hq with hq; omega)).grown g2 (by omega) (fun q hq => by injection hq with hq; omega)
  have BR := box_grown (box_grown HBR.out hgr (by omega)) g2 (by omega)
  have hs : g + 3 ≤ y7.heap.size := by have := g2.size; omega
  clear hres hrd hlen hgr BE1 BE HRD HR HBR g2 zz hbad CN hHL
  obtain ⟨ca8, hcsy⟩ : ∃ x, patch ca7 7 [.int .i64 x7] = x := ⟨_, rfl⟩
  rw [hcsy] at R B2
  clear hcsy
  have BE := B2
  clear B2
  have HRD := hide RD; clear RD
  have HR := hide R; clear R
  have HBR := hide BR; clear BR
  -- prev
  have CN := enumbers HRD.out hrl
  have hHL := hide HR.out.length
  go_wp2_with (first
    | (go_at_call 65; refine CN.mono ?_; rintro y u8 ⟨v8, x8, r8, ok8, rfl, hsl, hres, hrd, hlen, hgr⟩; have BE1 := box_grown BE hgr (by omega))
    | refine wpList_store1 rfl (.tmp 37) (.tmp 36) rfl rfl sizeIs7 (g + 1 + 1) 8 rfl (v8) rfl hsl.one ca8 34 BE1 (by rw [hHL.out]; simp) ?_)
  intro y8 B2 g2 zz
  have hRES8 := hide hres
  obtain ⟨bad9, hbad⟩ : ∃ b, (bad8 || !ok8) = b := ⟨_, rfl⟩
  rw [hbad] at hrd
  have HBD8 := hide hbad
  have hrl : r8.length ≤ 16777216 := by omega
  have hrx : r8.length ≤ l.length := by omega
  have hs1 : g + 3 ≤ u8.heap.size := Nat.le_trans hs hgr.size
  have SL := (hsl.weak (S' := fun b => g + 3 ≤ b) (fun b h _ => Nat.le_trans hs h)).grown g2 (fun b hb e => by injection e with e; omega)
  have R := ((HR.out.grown hgr (fun b hb e => by injection e with e; omega)).grown g2 (fun b hb e => by injection e with e; omega)).q8 SL
  have RD := (hrd.weak (S' := fun b => b < g ∨ g + 3 ≤ b) (fun b h _ => by rcases h with h | h; exact h; exact .inr (Nat.le_trans hs h))).grown g2 (fun e => by injection e with e; omega) (fun b hb e => by injection e with e; omega)
  have KB := (KB.grown hgr (by omega) (fun q hq => by injection hq with hq; omega)).grown g2 (by omega) (fun q hq => by injection hq with hq; omega)
  have BR := box_grown (box_grown HBR.out hgr (by omega)) g2 (by omega)
  have hs : g + 3 ≤ y8.heap.size := by have := g2.size; omega
  clear hres hrd hlen hgr BE1 BE HRD HR HBR g2 zz hbad CN hHL hsl SL
  obtain ⟨ca9, hcsy⟩ : ∃ x, patch ca8 8 [v8] = x := ⟨_, rfl⟩
  rw [hcsy] at R B2
  clear hcsy
  have BE := B2
  clear B2
  have HRD := hide RD; clear RD
  have HR := hide R; clear R
  have HBR := hide BR; clear BR
  -- auth
  have CN := enumbers HRD.out hrl
  have hHL := hide HR.out.length
  go_wp2_with (first
    | (go_at_call 65; refine CN.mono ?_; rintro y u9 ⟨v9, x9, r9, ok9, rfl, hsl, hres, hrd, hlen, hgr⟩; have BE1 := box_grown BE hgr (by omega))
    | refine wpList_store1 rfl (.tmp 40) (.tmp 39) rfl rfl sizeIs7 (g + 1 + 1) 9 rfl (v9) rfl hsl.one ca9 34 BE1 (by rw [hHL.out]; simp) ?_)
  intro y9 B2 g2 zz
  have hRES9 := hide hres
  obtain ⟨bad10, hbad⟩ : ∃ b, (bad9 || !ok9) = b := ⟨_, rfl⟩
  rw [hbad] at hrd
  have HBD9 := hide hbad
  have hrl : r9.length ≤ 16777216 := by omega
  have hrx : r9.length ≤ l.length := by omega
  have hs1 : g + 3 ≤ u9.heap.size := Nat.le_trans hs hgr.size
  have SL := (hsl.weak (S' := fun b => g + 3 ≤ b) (fun b h _ => Nat.le_trans hs h)).grown g2 (fun b hb e => by injection e with e; omega)
  have R := ((HR.out.grown hgr (fun b hb e => by injection e with e; omega)).grown g2 (fun b hb e => by injection e with e; omega)).q9 SL
  have RD := (hrd.weak (S' := fun b => b < g ∨ g + 3 ≤ b) (fun b h _ => by rcases h with h | h; exact h; exact .inr (Nat.le_trans hs h))).grown g2 (fun e => by injection e with e; omega) (fun b hb e => by injection e with e; omega)
  have KB := (KB.grown hgr (by omega) (fun q hq => by injection hq with hq; omega)).grown g2 (by omega) (fun q hq => by injection hq with hq; omega)
  have BR := box_grown (box_grown HBR.out hgr (by omega)) g2 (by omega)
  have hs : g + 3 ≤ y9.heap.size := by have := g2.size; omega
  clear hres hrd hlen hgr BE1 BE HRD HR HBR g2 zz hbad CN hHL hsl SL
  obtain ⟨ca10, hcsy⟩ : ∃ x, patch ca9 9 [v9] = x := ⟨_, rfl⟩
  rw [hcsy] at R B2
  clear hcsy
  have BE := B2
  clear B2
  have HRD := hide RD; clear RD
  have HR := hide R; clear R
  have HBR := hide BR; clear BR
  -- text
  have CN := etext HRD.out hrl
  have hHL := hide HR.out.length
  go_wp2_with (go_at_call 63; refine CN.mono ?_)
  rintro y u10 ⟨x10, r10, ok10, rfl, hres, hrd, ⟨hlen, hxl⟩, hgr⟩
  have BE := box_grown BE hgr (by omega)
  have hRES10 := hide hres
  obtain ⟨bad11, hbad⟩ : ∃ b, (bad10 || !ok10) = b := ⟨_, rfl⟩
  rw [hbad] at hrd
  have HBD10 := hide hbad
  have hrl : r10.length ≤ 16777216 := by omega
  have hrx : r10.length ≤ l.length := by omega
  have hs1 : g + 3 ≤ u10.heap.size := Nat.le_trans hs hgr.size
  have R := HR.out.grown hgr (fun b hb e => by injection e with e; omega)
  have RD := hrd.weak (S' := fun b => b < g ∨ g + 3 ≤ b) (fun b h _ => by rcases h with h | h; exact h; exact .inr (Nat.le_trans hs h))
  have KB := KB.grown hgr (by omega) (fun q hq => by injection hq with hq; omega)
  have BR := box_grown HBR.out hgr (by omega)
  have hxl : x10.length ≤ 16777216 := by omega
  clear hres hrd hlen hgr HRD HR HBR hbad CN hHL
  go_wp2_with (with_reducible refine wpList_to_bytes rfl (.tmp 43) 9 48 5 rfl Tryz.underlying9 Tryz.underlying48 Tryz.underlying5 (str x10) rfl ?_)
  intro At ct ut hrt hct hbt
  rw [str_data] at hrt
  have CD := Decode_any (c := ct) hrt (by rw [← str_size]; exact hct) hxl
  rw [← str_size] at CD
  have R := R.ext hbt
  have RD := RD.ext hbt
  have KB := KB.trans (hbt.mono (by omega))
  have BR := box_below BR hbt
  have BE := box_below BE hbt
  have hs2 : g + 3 ≤ ut.heap.size := Nat.le_trans hs1 hbt.size
  clear hrt hct hbt
  have HRD := hide RD; clear RD
  have HR := hide R; clear R
  have HBR := hide BR; clear BR
  have HBE := hide BE; clear BE
  go_wp2_with (go_at_call 66; refine CD.mono ?_)
  rintro y ud ⟨csC, C, okc, rfl, RC, hfine, hc1, hc2, hbd⟩
  have HLC := hide RC.length; have HOC := hide RC.one
  have HF := hide hfine; have HC1 := hide hc1; have HC2 := hide hc2
  clear hfine hc1 hc2 CD
  go_upto_region 14 with (refine wpList_newS rfl rfl strcC rfl (.tmp 6) (.tmp 46) rfl rfl rfl csC.toArray rfl (by simpa using HLC.out) (by simpa using HOC.out) ?_)
  have BC := heap_alloc_new ud (.cells csC.toArray 30)
  have kx := ext_alloc (ext_refl ud) (.cells csC.toArray 30)
  have kd := ext_trans hbd kx
  have RC := (RC.weak (S' := fun b => g + 3 ≤ b) (fun b h _ => Nat.le_trans hs2 h)).ext kx
  have R := HR.out.ext kd
  have RD := HRD.out.ext kd
  have KB := KB.trans (kd.mono (by omega))
  have BR := box_below HBR.out kd
  have BE := box_below HBE.out kd
  have hs3 : g + 3 ≤ (ud.alloc (.cells csC.toArray 30)).heap.size := Nat.le_trans hs2 kd.size
  have hgc : g + 3 ≤ ud.heap.size := Nat.le_trans hs2 hbd.size
  generalize ud.alloc (.cells csC.toArray 30) = uc at BC RC R RD KB BR BE hs3 kx kd ⊢
  generalize ud.heap.size = gC at BC hgc kx ⊢
  have HBC := hide BC
  have hHL := hide R.length
  clear HRD HR HBR HBE kx kd hbd BC
  go_wp2_with (first
    | refine wpList_loadS rfl (.tmp 6) rfl strcC ⟨gC, 0, none⟩ rfl csC HLC.out (box_all HBC.out) ?_
    | refine wpList_storeB rfl (.tmp 49) (.tmp 48) rfl rfl strcC (g + 1 + 1) 10 rfl csC rfl HLC.out HOC.out ca10 34 BE (by rw [hHL.out]; simp) ?_)
  intro y10 B2 g2 zz
  have RC := RC.grown6 g2 (fun b hb e => by injection e with e; omega)
  have R := (R.grown g2 (fun b hb e => by injection e with e; omega)).q10 RC
  have RD := RD.grown g2 (fun e => by injection e with e; omega) (fun b hb e => by injection e with e; omega)
  have KB := KB.grown g2 (by omega) (fun q hq => by injection hq with hq; omega)
  have BR := box_grown BR g2 (by omega)
  have hs : g + 3 ≤ y10.heap.size := by have := g2.size; omega
  clear BE g2 zz RC HBC hHL
  obtain ⟨ca11, hcsy⟩ : ∃ x, patch ca10 10 csC = x := ⟨_, rfl⟩
  rw [hcsy] at R B2
  clear hcsy
  have BE := B2
  clear B2
  have HRD := hide RD; clear RD
  have HR := hide R; clear R
  have HBR := hide BR; clear BR
  -- hash
  have CN := enumber HRD.out hrl
  have hHL := hide HR.out.length
  go_wp2_with (first
    | (go_at_call 62; refine CN.mono ?_; rintro y u11 ⟨x11, r11, ok11, rfl, hres, hrd, hlen, hgr⟩; have BE1 := box_grown BE hgr (by omega))
    | refine wpList_store1 rfl (.tmp 52) (.tmp 51) rfl rfl sizeI (g + 1 + 1) 26 rfl (.int .i64 x11) rfl rfl ca11 34 BE1 (by rw [hHL.out]; simp) ?_)
  intro y11 B2 g2 zz
  have hRES11 := hide hres
  obtain ⟨bad12, hbad⟩ : ∃ b, (bad11 || !ok11) = b := ⟨_, rfl⟩
  rw [hbad] at hrd
  have HBD11 := hide hbad
  have hrl : r11.length ≤ 16777216 := by omega
  have hrx : r11.length ≤ l.length := by omega
  have hs1 : g + 3 ≤ u11.heap.size := Nat.le_trans hs hgr.size
  have R := ((HR.out.grown hgr (fun b hb e => by injection e with e; omega)).grown g2 (fun b hb e => by injection e with e; omega)).q26 x11
  have RD := (hrd.weak (S' := fun b => b < g ∨ g + 3 ≤ b) (fun b h _ => by rcases h with h | h; exact h; exact .inr (Nat.le_trans hs h))).grown g2 (fun e => by injection e with e; omega) (fun b hb e => by injection e with e; omega)
  have KB := (KB.grown hgr (by omega) (fun q hq => by injection hq with hq; omega)).grown g2 (by omega) (fun q hq => by injection hq with hq; omega)
  have BR := box_grown (box_grown HBR.out hgr (by omega)) g2 (by omega)
  have hs : g + 3 ≤ y11.heap.size := by have := g2.size; omega
  clear hres hrd hlen hgr BE1 BE HRD HR HBR g2 zz hbad CN hHL
  obtain ⟨ca12, hcsy⟩ : ∃ x, patch ca11 26 [.int .i64 x11] = x := ⟨_, rfl⟩
  rw [hcsy] at R B2
  clear hcsy
  have BE := B2
  clear B2
  have HRD := hide RD; clear RD
  have HR := hide R; clear R
  have HBR := hide BR; clear BR
  -- server
  have CN := etext HRD.out hrl
  have hHL := hide HR.out.length
  go_wp2_with (first
    | (go_at_call 63; refine CN.mono ?_; rintro y u12 ⟨x12, r12, ok12, rfl, hres, hrd, ⟨hlen, hxl⟩, hgr⟩; have BE1 := box_grown BE hgr (by omega))
    | refine wpList_store1 rfl (.tmp 56) (.tmp 54) rfl rfl sizeS (g + 1 + 1) 27 rfl (.string (str x12)) rfl rfl ca12 34 BE1 (by rw [hHL.out]; simp) ?_)
  intro y12 B2 g2 zz
  have hRES12 := hide hres
  obtain ⟨bad13, hbad⟩ : ∃ b, (bad12 || !ok12) = b := ⟨_, rfl⟩
  rw [hbad] at hrd
  have HBD12 := hide hbad
  have hrl : r12.length ≤ 16777216 := by omega
  have hrx : r12.length ≤ l.length := by omega
  have hs1 : g + 3 ≤ u12.heap.size := Nat.le_trans hs hgr.size
  have R := ((HR.out.grown hgr (fun b hb e => by injection e with e; omega)).grown g2 (fun b hb e => by injection e with e; omega)).q27 (str x12)
  have RD := (hrd.weak (S' := fun b => b < g ∨ g + 3 ≤ b) (fun b h _ => by rcases h with h | h; exact h; exact .inr (Nat.le_trans hs h))).grown g2 (fun e => by injection e with e; omega) (fun b hb e => by injection e with e; omega)
  have KB := (KB.grown hgr (by omega) (fun q hq => by injection hq with hq; omega)).grown g2 (by omega) (fun q hq => by injection hq with hq; omega)
  have BR := box_grown (box_grown HBR.out hgr (by omega)) g2 (by omega)
  have hs : g + 3 ≤ y12.heap.size := by have := g2.size; omega
  clear hres hrd hlen hgr BE1 BE HRD HR HBR g2 zz hbad CN hHL hxl
  obtain ⟨ca13, hcsy⟩ : ∃ x, patch ca12 27 [.string (str x12)] = x := ⟨_, rfl⟩
  rw [hcsy] at R B2
  clear hcsy
  have BE := B2
  clear B2
  have HRD := hide RD; clear RD
  have HR := hide R; clear R
  have HBR := hide BR; clear BR
  -- sum
  have CN := enumber HRD.out hrl
  have hHL := hide HR.out.length
  go_wp2_with (first
    | (go_at_call 62; refine CN.mono ?_; rintro y u13 ⟨x13, r13, ok13, rfl, hres, hrd, hlen, hgr⟩; have BE1 := box_grown BE hgr (by omega))
    | refine wpList_store1 rfl (.tmp 60) (.tmp 58) rfl rfl sizeI (g + 1 + 1) 28 rfl (.int .i64 x13) rfl rfl ca13 34 BE1 (by rw [hHL.out]; simp) ?_)
  intro y13 B2 g2 zz
  have hRES13 := hide hres
  obtain ⟨bad14, hbad⟩ : ∃ b, (bad13 || !ok13) = b := ⟨_, rfl⟩
  rw [hbad] at hrd
  have HBD13 := hide hbad
  have hrl : r13.length ≤ 16777216 := by omega
  have hrx : r13.length ≤ l.length := by omega
  have hs1 : g + 3 ≤ u13.heap.size := Nat.le_trans hs hgr.size
  have R := ((HR.out.grown hgr (fun b hb e => by injection e with e; omega)).grown g2 (fun b hb e => by injection e with e; omega)).q28 x13
  have RD := (hrd.weak (S' := fun b => b < g ∨ g + 3 ≤ b) (fun b h _ => by rcases h with h | h; exact h; exact .inr (Nat.le_trans hs h))).grown g2 (fun e => by injection e with e; omega) (fun b hb e => by injection e with e; omega)
  have KB := (KB.grown hgr (by omega) (fun q hq => by injection hq with hq; omega)).grown g2 (by omega) (fun q hq => by injection hq with hq; omega)
  have BR := box_grown (box_grown HBR.out hgr (by omega)) g2 (by omega)
  have hs : g + 3 ≤ y13.heap.size := by have := g2.size; omega
  clear hres hrd hlen hgr BE1 BE HRD HR HBR g2 zz hbad CN hHL
  obtain ⟨ca14, hcsy⟩ : ∃ x, patch ca13 28 [.int .i64 x13] = x := ⟨_, rfl⟩
  rw [hcsy] at R B2
  clear hcsy
  have BE := B2
  clear B2
  have HRD := hide RD; clear RD
  have HR := hide R; clear R
  have HBR := hide BR; clear BR
  -- the end
  have HEND := hide (show (okc = true → bad14 = false → r13 = [] → l = encEv (Rd.ev ⟨x0, x1, x2, x3, x4, x5, x6, x7, x8, x9, x10, x11, x12, x13⟩ C) ∧ (Rd.ev ⟨x0, x1, x2, x3, x4, x5, x6, x7, x8, x9, x10, x11, x12, x13⟩ C).told) ∧ (∀ e : Ev, e.told → l = encEv e → (okc = true ∧ bad14 = false ∧ r13 = []) ∧ Rd.ev ⟨x0, x1, x2, x3, x4, x5, x6, x7, x8, x9, x10, x11, x12, x13⟩ C = e) by
    obtain ⟨d, hd⟩ : ∃ d : Rd, d = ⟨x0, x1, x2, x3, x4, x5, x6, x7, x8, x9, x10, x11, x12, x13⟩ := ⟨_, rfl⟩
    rw [← hd]
    have e0 : d.id = x0 := by rw [hd]
    have e1 : d.room = x1 := by rw [hd]
    have e2 : d.sender = x2 := by rw [hd]
    have e3 : d.kind = x3 := by rw [hd]
    have e4 : d.state = x4 := by rw [hd]
    have e5 : d.key = x5 := by rw [hd]
    have e6 : d.time = x6 := by rw [hd]
    have e7 : d.depth = x7 := by rw [hd]
    have e8 : d.prev = x8 := by rw [hd]
    have e9 : d.auth = x9 := by rw [hd]
    have e10 : d.text = x10 := by rw [hd]
    have e11 : d.hash = x11 := by rw [hd]
    have e12 : d.server = x12 := by rw [hd]
    have e13 : d.sum = x13 := by rw [hd]
    have H0 := HH0.out d
    have H1 : Rds l d 1 r0 bad1 := by rw [← HBD0.out]; exact H0.s0 (by rw [e0]; exact fun h => hRES0.out (by first | exact h | trivial))
    have H2 : Rds l d 2 r1 bad2 := by rw [← HBD1.out]; exact H1.s1 (by rw [e1]; exact fun h => hRES1.out (by first | exact h | trivial))
    have H3 : Rds l d 3 r2 bad3 := by rw [← HBD2.out]; exact H2.s2 (by rw [e2]; exact fun h => hRES2.out (by first | exact h | trivial))
    have H4 : Rds l d 4 r3 bad4 := by rw [← HBD3.out]; exact H3.s3 (by rw [e3]; exact fun h => hRES3.out (by first | exact h | trivial))
    have H5 : Rds l d 5 r4 bad5 := by rw [← HBD4.out]; exact H4.s4 (by rw [e4]; exact fun h => hRES4.out (by first | exact h | trivial))
    have H6 : Rds l d 6 r5 bad6 := by rw [← HBD5.out]; exact H5.s5 (by rw [e5]; exact fun h => hRES5.out (by first | exact h | trivial))
    have H7 : Rds l d 7 r6 bad7 := by rw [← HBD6.out]; exact H6.s6 (by rw [e6]; exact fun h => hRES6.out (by first | exact h | trivial))
    have H8 : Rds l d 8 r7 bad8 := by rw [← HBD7.out]; exact H7.s7 (by rw [e7]; exact fun h => hRES7.out (by first | exact h | trivial))
    have H9 : Rds l d 9 r8 bad9 := by rw [← HBD8.out]; exact H8.s8 (by rw [e8]; exact fun h => hRES8.out (by first | exact h | trivial))
    have H10 : Rds l d 10 r9 bad10 := by rw [← HBD9.out]; exact H9.s9 (by rw [e9]; exact fun h => hRES9.out (by first | exact h | trivial))
    have H11 : Rds l d 11 r10 bad11 := by rw [← HBD10.out]; exact H10.s10 (by rw [e10]; exact fun h => hRES10.out (by first | exact h | trivial))
    have H12 : Rds l d 12 r11 bad12 := by rw [← HBD11.out]; exact H11.s11 (by rw [e11]; exact fun h => hRES11.out (by first | exact h | trivial))
    have H13 : Rds l d 13 r12 bad13 := by rw [← HBD12.out]; exact H12.s12 (by rw [e12]; exact fun h => hRES12.out (by first | exact h | trivial))
    have H14 : Rds l d 14 r13 bad14 := by rw [← HBD13.out]; exact H13.s13 (by rw [e13]; exact fun h => hRES13.out (by first | exact h | trivial))
    exact H14.done hl HF.out (fun h => by rw [e10]; exact HC1.out h) (fun h => by rw [e10]; exact (HC2.out h).2))
  obtain ⟨Ar, cr, hB, hcr, _, _⟩ := HRD.out
  have t0 := box_at (C := [.slice Ar r13.length cr, .bool (!bad14)]) hB (j := 0) (u := .slice Ar r13.length cr) rfl
  have t1 := box_at (C := [.slice Ar r13.length cr, .bool (!bad14)]) hB (j := 1) (u := .bool (!bad14)) rfl
  have hHL := hide HR.out.length; have hHO := hide HR.out.one
  have HBE := hide BE
  have HBR2 := HBR.out
  clear hB HRD BE HBR hrl hrx hcr HH0 hRES0 HBD0 hRES1 HBD1 hRES2 HBD2 hRES3 HBD3 hRES4 HBD4 hRES5 HBD5 hRES6 HBD6 hRES7 HBD7 hRES8 HBD8 hRES9 HBD9 hRES10 HBD10 hRES11 HBD11 hRES12 HBD12 hRES13 HBD13
  by_cases hfin : okc = true ∧ bad14 = false ∧ r13 = []
  rotate_left
  · have HNO := hide (fun (e : Ev) (h1 : e.told) (h2 : l = encEv e) => hfin (HEND.out.2 e h1 h2).1)
    have hq : okc = false ∨ (okc = true ∧ bad14 = true) ∨ (okc = true ∧ bad14 = false ∧ 0 < r13.length) := by
      have hx : r13 = [] ∨ 0 < r13.length := by cases r13 <;> simp
      cases okc <;> cases bad14 <;> simp_all
    clear hfin HEND
    rcases hq with rfl | ⟨rfl, rfl⟩ | ⟨rfl, rfl, hne⟩
    all_goals
      go_wp2_with (refine wpList_storeB rfl (.tmp 2) (.tmp 78) rfl rfl strcE g 0 rfl evZero.toList rfl rfl (by decide) evZero.toList 34 HBR2 (by decide) ?_)
      intro wa Ba ga za
      rw [patch_all _ _ rfl] at Ba
      have Ka := KB.grown ga (by have := KB.size; omega) (fun q hq => by injection hq with hq; omega)
      clear HR KB HBR2 HBE
      go_wp2_with fail
      refine bodyPost_cellQ strcE rfl g rfl (.bool false) rfl rfl Ba (by decide) ⟨evZero.toList, Ev.zero, false, rfl, evZero_R _ _, (fun h => by cases h), fun _ => rfl, fun e h1 h2 => (HNO.out e h1 h2).elim, ?_⟩
      rw [HGG.out]; exact Ka
  obtain ⟨rfl, rfl, rfl⟩ := hfin
  have HOK := hide (HEND.out.1 rfl rfl rfl)
  have HUN := hide (fun e h1 h2 => (HEND.out.2 e h1 h2).2)
  clear HEND
  go_wp2_with (first
    | refine wpList_loadS rfl (.tmp 5) rfl strcE ⟨g + 1 + 1, 0, none⟩ rfl ca14 hHL.out (box_all HBE.out) ?_
    | refine wpList_storeB rfl (.tmp 2) (.tmp 79) rfl rfl strcE g 0 rfl ca14 rfl hHL.out hHO.out evZero.toList 34 HBR2 (by decide) ?_)
  intro wa Ba ga za
  rw [patch_all _ _ (by rw [hHL.out]; rfl)] at Ba
  have Ra := (HR.out.grown ga (fun b hb e => by injection e with e; omega)).weak (S' := fun b => g ≤ b) (fun b hb _ => by omega)
  have Ka := KB.grown ga (by have := KB.size; omega) (fun q hq => by injection hq with hq; omega)
  clear HR KB HBR2 HBE
  go_wp2_with fail
  refine bodyPost_cellQ strcE rfl g rfl (.bool true) rfl rfl Ba (by rw [List.size_toArray]; exact hHL.out) ⟨ca14, Rd.ev ⟨x0, x1, x2, x3, x4, x5, x6, x7, x8, x9, x10, x11, x12, x13⟩ C, true, rfl, ?_, fun _ => ⟨HOK.out.1, HOK.out.2, HF.out⟩, (fun h => by cases h), fun e h1 h2 => ⟨rfl, HUN.out e h1 h2⟩, ?_⟩
  · rw [HGG.out]; exact Ra
  · rw [HGG.out]; exact Ka
end
end Go.Proofs.YtnfbmhkjmkdmjaaGreat
