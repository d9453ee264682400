/- The bytes of a record: a buffer that grows (Buf), and the walks of data, Size, and of the document's number and all. Conditions: sizes. -/
import Derived.Test.YtkpopjpmjcgbfaaEnc
namespace Go.Proofs.Ytkpopjpmjcgbfaa
open Go.RowKit
set_option maxRecDepth 100000
set_option linter.unusedVariables false

/-- a buffer of bytes of a call's own, in world wr; w: where the call began -/
structure Buf (w wr : World) (A : Option Addr) (N c : Nat) (bs : List UInt8) : Prop where
  be : Below w.heap.size w wr
  own : wr.ownsRow w.heap.size 5 1 (.slice A N c) N (u8s bs)
  len : N = bs.length
/-- blocks of other types than bytes stay -/
def Keeps (w w' : World) : Prop := ∀ g t cs, t ≠ 5 → Blk w g t cs → Blk w' g t cs

section
variable {w wr w' w'' : World} {A : Option Addr} {N c : Nat} {bs ns : List UInt8}
theorem Keeps.refl (w : World) : Keeps w w := fun _ _ _ _ h => h
theorem Keeps.trans (h : Keeps w w') (k : Keeps w' w'') : Keeps w w'' := fun g t cs ht hb => k g t cs ht (h g t cs ht hb)
theorem Keeps.below (h : Below w.heap.size w w') : Keeps w w' := fun g t cs _ hb => hb.below h hb.lt
theorem Buf.drew (h : Buf w wr A N c bs) : Buf w wr.drew A N c bs := ⟨h.be.drew, h.own, h.len⟩
theorem Buf.fresh (h : Buf w wr A N c bs) (hb : Below wr.heap.size wr w') : Buf w w' A N c bs :=
  ⟨h.be.trans (hb.mono h.be.size), own_chg (S := fun _ => False) h.own (Chg.of_below hb) (fun _ _ h => h), h.len⟩
theorem Buf.alloc (h : Buf w wr A N c bs) (o : Obj) : Buf w (wr.alloc o) A N c bs := h.fresh ((Below.refl _ _).alloc (Nat.le_refl _) _)
theorem Buf.rd (h : Buf w wr A N c bs) : Rd wr 1 A N (u8s bs) := Rd.of_own h.own
theorem Buf.grew {v : Value} (h : Buf w wr A N c bs) (g : Grew wr w' w.heap.size (.slice A N c) v bs ns) : ∃ A' N' c', v = .slice A' N' c' ∧ Buf w w' A' N' c' (bs ++ ns) ∧ Keeps wr w' := by
  obtain ⟨A', c', rfl, _⟩ := own_form g.own
  refine ⟨A', _, c', rfl, ⟨h.be.trans (g.below h.be.size fun i hi => (h.own.lt i hi).1), g.own, rfl⟩, fun i t cs ht hb => hb.chg g.chg fun hi => ?_⟩
  obtain ⟨cs', hb'⟩ := own_ty h.own hi
  exact hb.ne_ hb' ht rfl
/-- an append of bytes to a buffer -/
theorem Buf.append {v : Value} {m : Nat} (h : Buf w wr A N c bs) (hm : ns.length = m) (hown : w'.ownsRow w.heap.size 5 1 v (N + m) (u8s bs ++ u8s ns)) (hg : wr.grownBy w' (Value.slice A N c).ownBlock) (hat : v.ownBlock = (Value.slice A N c).ownBlock ∨ v.ownBlock = some wr.heap.size) :
    ∃ A' N' c', v = .slice A' N' c' ∧ Buf w w' A' N' c' (bs ++ ns) ∧ Keeps wr w' :=
  h.grew (Grew.of_append (by rw [← h.len, hm]; exact hown) hg hat)
theorem Buf.nil (hb : Below w.heap.size w wr) : Buf w wr none 0 0 [] := ⟨hb, World.ownsRow_nil _ _ _ _, rfl⟩

theorem b_num (h : Buf w wr A N c bs) (n : Int) (hs : bs.length ≤ 1000000000) :
    Calls Try.prog 18 #[.slice A N c, .int .i64 n] wr fun e w' => ∃ A' N' c', e = .returned (.slice A' N' c') ∧ Buf w w' A' N' c' (bs ++ num8 n) ∧ Keeps wr w' := by
  refine (num_ok n _ bs w.heap.size wr (by rw [← h.len]; exact h.own) h.be.size hs).mono ?_
  rintro e w' ⟨v, rfl, hg⟩
  obtain ⟨A', N', c', rfl, hb, hk⟩ := h.grew hg
  exact ⟨A', N', c', rfl, hb, hk⟩
end

set_option maxHeartbeats 800000 in
theorem b_data {w wr : World} {A : Option Addr} {N c : Nat} {bs : List UInt8} (h : Buf w wr A N c bs) (XA : Option Addr) (n xc : Nat) (x : List UInt8) (hx : Rd w 1 XA n (u8s x)) (hn : n = x.length) (hs : bs.length + x.length ≤ 100000000) :
    Calls Try.prog 19 #[.slice A N c, .slice XA n xc] wr fun e w' => ∃ A' N' c', e = .returned (.slice A' N' c') ∧ Buf w w' A' N' c' (bs ++ dat x) ∧ Keeps wr w' := by
  obtain ⟨i0, hi, hz0, hz1, hz2⟩ := info_parts info5
  have H := hid h
  have Hx := hid hx
  have Hn := hid hn
  clear h hx hn
  go_enter Try.func19, Try.ntmps19
  go_wp2_with fail
  refine (b_num H.out n (by omega)).mono ?_
  rintro e w1 ⟨A1, N1, c1, rfl, hb1, hk1⟩
  have H1 := hid hb1
  have K1 := hid hk1
  have Hl1 := hid hb1.len
  have Hx1 := hid (Hx.out.below hb1.be)
  have l1 : N1 ≤ 100000000 + 8 := by rw [Hl1.out]; simp [length_num8]; omega
  have ln : n ≤ 100000000 := by have := Hn.out; omega
  clear hb1 hk1
  go_wp2_with (at_builtin; refine wpList_append_any _ rfl (.tmp 8) (.tmp 9) 23 rfl w.heap.size 5 i0 _ 1 1 Try.underlying23 hi hz0 hz1 hz2 rfl (by omega) _ N1 _ rfl H1.out.own _ n xc _ rfl Hx1.out (u8s_one _) (by unfold maxLen; omega) (by omega) H1.out.be.size ?_)
  intro v' w' hown hgr hat
  obtain ⟨A2, N2, c2, rfl, hb2, hk2⟩ := H1.out.append Hn.out.symm hown hgr hat
  have H2 := hid hb2
  have K2 := hid hk2
  clear hown hgr hat hb2 hk2
  go_wp2
  go_ret
  refine ⟨A2, N2, c2, rfl, ?_, K1.out.trans K2.out⟩
  have := H2.out
  rw [Hn.out] at this
  simpa [dat, List.append_assoc] using this

def recVal (r : MRec) (BA : Option Addr) (bc : Nat) (AA : Option Addr) (ac : Nat) (TA : Option Addr) (tc : Nat) (DA : Option Addr) (dc : Nat) : Value :=
  .agg #[.int .i64 r.kind, .int .i64 r.txn, .int .i64 r.prev, .int .i64 r.next, .int .i64 r.page, .int .i64 r.off, .slice BA r.before.length bc, .slice AA r.after.length ac, .slice TA r.txns.length tc, .slice DA r.dirty.length dc, .int .i64 r.count]
def recCells (r : MRec) (BA : Option Addr) (bc : Nat) (AA : Option Addr) (ac : Nat) (TA : Option Addr) (tc : Nat) (DA : Option Addr) (dc : Nat) : Array Value :=
  #[.int .i64 r.kind, .int .i64 r.txn, .int .i64 r.prev, .int .i64 r.next, .int .i64 r.page, .int .i64 r.off, .slice BA r.before.length bc, .slice AA r.after.length ac, .slice TA r.txns.length tc, .slice DA r.dirty.length dc, .int .i64 r.count]

set_option maxHeartbeats 800000 in
theorem size_any (r : MRec) (BA : Option Addr) (bc : Nat) (AA : Option Addr) (ac : Nat) (TA : Option Addr) (tc : Nat) (DA : Option Addr) (dc : Nat) (w : World) (hs : r.size ≤ 1000000000) :
    Calls Try.prog 15 #[recVal r BA bc AA ac TA tc DA dc] w fun e w' => e = .returned (.int .i64 r.size) ∧ Below w.heap.size w w' := by
  unfold recVal
  unfold MRec.size at *
  go_enter Try.func15, Try.ntmps15
  go_wp2
  go_ret
  refine ⟨?_, ?_⟩
  · simp
  · exact (Below.refl _ _).alloc (Nat.le_refl _) _
end Go.Proofs.Ytkpopjpmjcgbfaa
