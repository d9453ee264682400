/- The walk of Encode of package rec. Conditions: sizes. -/
import Derived.Test.YtkpopjpmjcgbfaaEncB
namespace Go.Proofs.Ytkpopjpmjcgbfaa
open Go.RowKit
set_option maxRecDepth 100000
set_option linter.unusedVariables false
set_option linter.unusedSimpArgs false

def txV (l : List (Int × Int × Int)) : List Value := l.flatMap fun t => [.int .i64 t.1, .int .i64 t.2.1, .int .i64 t.2.2]
def diV (l : List (Int × Int)) : List Value := l.flatMap fun t => [.int .i64 t.1, .int .i64 t.2]

/-- a record's memory, as it reads in a world -/
structure RecMem (w : World) (r : MRec) (BA AA TA DA : Option Addr) : Prop where
  b : Rd w 1 BA r.before.length (u8s r.before)
  a : Rd w 1 AA r.after.length (u8s r.after)
  t : Rd w 3 TA r.txns.length (txV r.txns)
  d : Rd w 2 DA r.dirty.length (diV r.dirty)

section
variable {w w' : World} {r : MRec} {BA AA TA DA : Option Addr}
theorem RecMem.below (h : RecMem w r BA AA TA DA) (hb : Below w.heap.size w w') : RecMem w' r BA AA TA DA := ⟨h.b.below hb, h.a.below hb, h.t.below hb, h.d.below hb⟩
theorem RecMem.drew (h : RecMem w r BA AA TA DA) : RecMem w.drew r BA AA TA DA := ⟨h.b, h.a, h.t, h.d⟩
theorem addr_lit {ad : Addr} {v : Value} (hc : w.cell? (ad.add 0) = some v) : ∃ b o, ad = ⟨b, o, none⟩ := by
  obtain ⟨b, o, s⟩ := ad
  cases s with
  | none => exact ⟨b, o, rfl⟩
  | some s =>
    simp only [Addr.add, if_pos] at hc
    unfold World.cell? at hc
    split at hc
    · simp at hc
    · cases hc
theorem flat_at {α : Type} (f : α → List Value) (c : Nat) (h : ∀ a, (f a).length = c) (l : List α) (k j : Nat) (hk : k < l.length) (hj : j < c) : (l.flatMap f)[k * c + j]? = (f l[k])[j]? := by
  induction l generalizing k with
  | nil => simp at hk
  | cons a l ih =>
    rw [List.flatMap_cons]
    cases k with
    | zero => rw [List.getElem?_append_left (by rw [h]; omega)]; simp
    | succ k =>
      have e : (k + 1) * c + j = c + (k * c + j) := by rw [Nat.succ_mul]; omega
      rw [List.getElem?_append_right (by rw [h]; omega), h, e, Nat.add_sub_cancel_left]
      exact ih k (by simpa using hk)
theorem RecMem.txn (h : RecMem w r BA AA TA DA) (k : Nat) (hk : k < r.txns.length) :
    ∃ b o, TA = some ⟨b, o, none⟩ ∧ b < w.heap.size ∧ w.cell? ⟨b, o + k * 3, none⟩ = some (.int .i64 r.txns[k].1) ∧ w.cell? ⟨b, o + k * 3 + 1, none⟩ = some (.int .i64 r.txns[k].2.1) ∧ w.cell? ⟨b, o + k * 3 + 2, none⟩ = some (.int .i64 r.txns[k].2.2) := by
  obtain ⟨ad, rfl, hlt, hc⟩ := h.t.2 (by omega)
  have hat := fun (k j : Nat) (hk : k < r.txns.length) (hj : j < 3) => flat_at (fun t : Int × Int × Int => [Value.int .i64 t.1, .int .i64 t.2.1, .int .i64 t.2.2]) 3 (fun _ => rfl) r.txns k j hk hj
  obtain ⟨b, o, rfl⟩ := addr_lit (hc 0 _ (by have := hat 0 0 (by omega) (by omega); simpa [txV] using this))
  refine ⟨b, o, rfl, hlt, ?_, ?_, ?_⟩
  · have := hc (k * 3) _ (by have := hat k 0 hk (by omega); simpa [txV] using this)
    rwa [Addr.add_lit] at this
  · have := hc (k * 3 + 1) _ (by have := hat k 1 hk (by omega); simpa [txV] using this)
    rwa [Addr.add_lit] at this
  · have := hc (k * 3 + 2) _ (by have := hat k 2 hk (by omega); simpa [txV] using this)
    rwa [Addr.add_lit] at this
theorem RecMem.dir (h : RecMem w r BA AA TA DA) (k : Nat) (hk : k < r.dirty.length) :
    ∃ b o, DA = some ⟨b, o, none⟩ ∧ b < w.heap.size ∧ w.cell? ⟨b, o + k * 2, none⟩ = some (.int .i64 r.dirty[k].1) ∧ w.cell? ⟨b, o + k * 2 + 1, none⟩ = some (.int .i64 r.dirty[k].2) := by
  obtain ⟨ad, rfl, hlt, hc⟩ := h.d.2 (by omega)
  have hat := fun (k j : Nat) (hk : k < r.dirty.length) (hj : j < 2) => flat_at (fun t : Int × Int => [Value.int .i64 t.1, .int .i64 t.2]) 2 (fun _ => rfl) r.dirty k j hk hj
  obtain ⟨b, o, rfl⟩ := addr_lit (hc 0 _ (by have := hat 0 0 (by omega) (by omega); simpa [diV] using this))
  refine ⟨b, o, rfl, hlt, ?_, ?_⟩
  · have := hc (k * 2) _ (by have := hat k 0 hk (by omega); simpa [diV] using this)
    rwa [Addr.add_lit] at this
  · have := hc (k * 2 + 1) _ (by have := hat k 1 hk (by omega); simpa [diV] using this)
    rwa [Addr.add_lit] at this
end

/-- Encode's state: the buffer, and the record's own box -/
structure EncS (w wr : World) (r : MRec) (cs : Array Value) (A : Option Addr) (N c : Nat) (bs : List UInt8) : Prop where
  buf : Buf w wr A N c bs
  box : Blk wr w.heap.size 28 cs

section
variable {w wr w' : World} {r : MRec} {A BA AA TA DA : Option Addr} {N c bc ac tc dc : Nat} {bs ns : List UInt8} {cs : Array Value}
theorem box11 (h : Blk wr w.heap.size 28 #[.int .i64 r.kind, .int .i64 r.txn, .int .i64 r.prev, .int .i64 r.next, .int .i64 r.page, .int .i64 r.off, .slice BA r.before.length bc, .slice AA r.after.length ac, .slice TA r.txns.length tc, .slice DA r.dirty.length dc, .int .i64 r.count]) : wr.cell? ⟨w.heap.size, 0, none⟩ = some (.int .i64 r.kind) ∧ wr.cell? ⟨w.heap.size, 1, none⟩ = some (.int .i64 r.txn) ∧ wr.cell? ⟨w.heap.size, 2, none⟩ = some (.int .i64 r.prev) ∧ wr.cell? ⟨w.heap.size, 3, none⟩ = some (.int .i64 r.next) ∧ wr.cell? ⟨w.heap.size, 4, none⟩ = some (.int .i64 r.page) ∧ wr.cell? ⟨w.heap.size, 5, none⟩ = some (.int .i64 r.off) ∧ wr.cell? ⟨w.heap.size, 6, none⟩ = some (.slice BA r.before.length bc) ∧ wr.cell? ⟨w.heap.size, 7, none⟩ = some (.slice AA r.after.length ac) ∧ wr.cell? ⟨w.heap.size, 8, none⟩ = some (.slice TA r.txns.length tc) ∧ wr.cell? ⟨w.heap.size, 9, none⟩ = some (.slice DA r.dirty.length dc) ∧ wr.cell? ⟨w.heap.size, 10, none⟩ = some (.int .i64 r.count) :=
  ⟨h.cell_ 0 rfl, h.cell_ 1 rfl, h.cell_ 2 rfl, h.cell_ 3 rfl, h.cell_ 4 rfl, h.cell_ 5 rfl, h.cell_ 6 rfl, h.cell_ 7 rfl, h.cell_ 8 rfl, h.cell_ 9 rfl, h.cell_ 10 rfl⟩
theorem EncS.alloc (h : EncS w wr r cs A N c bs) (o : Obj) : EncS w (wr.alloc o) r cs A N c bs := ⟨h.buf.alloc o, h.box.alloc o⟩
theorem EncS.drew (h : EncS w wr r cs A N c bs) : EncS w wr.drew r cs A N c bs := ⟨h.buf.drew, h.box⟩
theorem e_num (h : EncS w wr r cs A N c bs) (n : Int) (hs : bs.length ≤ 1000000000) :
    Calls Try.prog 18 #[.slice A N c, .int .i64 n] wr fun e w' => ∃ A' N' c', e = .returned (.slice A' N' c') ∧ EncS w w' r cs A' N' c' (bs ++ num8 n) ∧ Keeps wr w' :=
  (b_num h.buf n hs).mono fun e w' ⟨A', N', c', he, hb, hk⟩ => ⟨A', N', c', he, ⟨hb, hk _ _ _ (by decide) h.box⟩, hk⟩
theorem e_data (h : EncS w wr r cs A N c bs) (XA : Option Addr) (n xc : Nat) (x : List UInt8) (hx : Rd w 1 XA n (u8s x)) (hn : n = x.length) (hs : bs.length + x.length ≤ 100000000) :
    Calls Try.prog 19 #[.slice A N c, .slice XA n xc] wr fun e w' => ∃ A' N' c', e = .returned (.slice A' N' c') ∧ EncS w w' r cs A' N' c' (bs ++ dat x) ∧ Keeps wr w' :=
  (b_data h.buf XA n xc x hx hn hs).mono fun e w' ⟨A', N', c', he, hb, hk⟩ => ⟨A', N', c', he, ⟨hb, hk _ _ _ (by decide) h.box⟩, hk⟩
theorem Buf.made (hb : Below w.heap.size w wr) (cap : Nat) (hc : cap ≤ 1000000000) : Buf w (wr.alloc (.cells (madeCells #[.int .u8 0] cap) 5)) (some ⟨wr.heap.size, 0, none⟩) 0 cap [] :=
  ⟨hb.alloc hb.size _, World.ownsRow_made wr _ cap hb.size (by unfold maxLen; omega) (by simp [size_madeCells]), rfl⟩
end
theorem Blk.call {w wd w' : World} {g : Nat} {t : TypeId} {cs : Array Value} (h : Blk w g t cs) (hq : Below wd.heap.size wd w') (he : wd.heap = w.heap) : Blk w' g t cs :=
  (hq.block g (by rw [he]; exact h.lt)).trans (by rw [he]; exact h)
theorem make_bytes (n : Nat) (hn : n ≤ 1000000000) (W : World) : (Instr.makeSlice 23 (.int .i64 0) (.int .i64 (n : Int))).run Try.prog W = .ok (.slice (some ⟨W.heap.size, 0, none⟩) 0 n) (W.alloc (.cells (madeCells #[.int .u8 0] n) 5)) := by
  obtain ⟨i0, hi, hz0, hz1, hz2⟩ := info_parts info5
  have h := run_make (P := Try.prog) W 23 5 i0 _ Try.underlying23 hi hz0 .i64 .i64 0 n (by omega) (by omega) (by rw [hz2]; omega) (by omega)
  rw [hz1] at h
  simpa [Value.cells] using h

/-! ### how far the bytes have come -/
def P1 (r : MRec) (k : Nat) : List UInt8 := num8 ((r.size : Int) - 8) ++ ((six r).take k).flatMap num8
def P2 (r : MRec) : List UInt8 := (P1 r 6 ++ dat r.before) ++ dat r.after
def P3 (r : MRec) (k : Nat) : List UInt8 := (P2 r ++ num8 r.txns.length) ++ (r.txns.take k).flatMap txnB
def P4 (r : MRec) (k : Nat) : List UInt8 := (P3 r r.txns.length ++ num8 r.dirty.length) ++ (r.dirty.take k).flatMap dirtyB
theorem P1_zero (r : MRec) : P1 r 0 = num8 ((r.size : Int) - 8) := by simp [P1]
theorem P1_succ (r : MRec) (k : Nat) (hk : k < 6) : P1 r (k + 1) = P1 r k ++ num8 ((six r)[k]'hk) := by
  rw [P1, P1, List.take_succ_eq_append_getElem (by exact hk), List.flatMap_append]
  simp
theorem P3_zero (r : MRec) : P3 r 0 = P2 r ++ num8 r.txns.length := by simp [P3]
theorem P3_succ (r : MRec) (k : Nat) (hk : k < r.txns.length) : P3 r (k + 1) = ((P3 r k ++ num8 (r.txns[k]).1) ++ num8 (r.txns[k]).2.1) ++ num8 (r.txns[k]).2.2 := by
  rw [P3, P3, List.take_succ_eq_append_getElem hk, List.flatMap_append]
  simp [txnB]
theorem P4_zero (r : MRec) : P4 r 0 = P3 r r.txns.length ++ num8 r.dirty.length := by simp [P4]
theorem P4_succ (r : MRec) (k : Nat) (hk : k < r.dirty.length) : P4 r (k + 1) = (P4 r k ++ num8 (r.dirty[k]).1) ++ num8 (r.dirty[k]).2 := by
  rw [P4, P4, List.take_succ_eq_append_getElem hk, List.flatMap_append]
  simp [dirtyB]
theorem P5 (r : MRec) : P4 r r.dirty.length ++ num8 r.count = r.enc := by
  simp [P4, P3, P2, P1, MRec.enc, MRec.body, six, List.append_assoc]
theorem length_P1 (r : MRec) (k : Nat) : (P1 r k).length ≤ 56 := by
  simp only [P1, List.length_append, length_num8, length_flat _ 8 length_num8, List.length_take]
  have : (six r).length = 6 := rfl
  omega
theorem length_P2 (r : MRec) : (P2 r).length ≤ r.size := by
  have := length_P1 r 6
  simp only [P2, List.length_append, length_dat, MRec.size]
  omega
theorem length_P3 (r : MRec) (k : Nat) : (P3 r k).length ≤ r.size := by
  have := length_P1 r 6
  simp only [P3, P2, List.length_append, length_dat, length_num8, length_flat _ 24 length_txnB, List.length_take, MRec.size]
  omega
theorem length_P4 (r : MRec) (k : Nat) : (P4 r k).length ≤ r.size := by
  have := length_P1 r 6
  simp only [P4, P3, P2, List.length_append, length_dat, length_num8, length_flat _ 24 length_txnB, length_flat _ 16 length_dirtyB, List.length_take, MRec.size]
  omega
theorem index6 (r : MRec) (k : Nat) (hk : k < 6) (W : World) : (Instr.index 48 (.agg #[.int .i64 r.kind, .int .i64 r.txn, .int .i64 r.prev, .int .i64 r.next, .int .i64 r.page, .int .i64 r.off]) (.int .i64 (k : Int))).run Try.prog W = .ok (.int .i64 ((six r)[k]'hk)) W := by
  obtain rfl | rfl | rfl | rfl | rfl | rfl : k = 0 ∨ k = 1 ∨ k = 2 ∨ k = 3 ∨ k = 4 ∨ k = 5 := by omega
  all_goals kernel_rfl
theorem box3 {w : World} {g : Nat} {t : TypeId} {a b c : Value} (h : Blk w g t #[a, b, c]) : w.cell? ⟨g, 0, none⟩ = some a ∧ w.cell? ⟨g, 1, none⟩ = some b ∧ w.cell? ⟨g, 2, none⟩ = some c := ⟨h.cell_ 0 rfl, h.cell_ 1 rfl, h.cell_ 2 rfl⟩
theorem box2 {w : World} {g : Nat} {t : TypeId} {a b : Value} (h : Blk w g t #[a, b]) : w.cell? ⟨g, 0, none⟩ = some a ∧ w.cell? ⟨g, 1, none⟩ = some b := ⟨h.cell_ 0 rfl, h.cell_ 1 rfl⟩

set_option maxHeartbeats 3200000 in
theorem encode_any (r : MRec) (BA : Option Addr) (bc : Nat) (AA : Option Addr) (ac : Nat) (TA : Option Addr) (tc : Nat) (DA : Option Addr) (dc : Nat) (w : World) (h : RecMem w r BA AA TA DA) (hs : r.size ≤ 50000000) :
    Calls Try.prog 10 #[recVal r BA bc AA ac TA tc DA dc] w fun e w' => ∃ A N c, e = .returned (.slice A N c) ∧ Buf w w' A N c r.enc := by
  have H := hid h
  clear h
  have hsz := hid (size_any r BA bc AA ac TA tc DA dc)
  have hmk := make_bytes r.size (by omega)
  have hwr : IntKind.i64.wrap ((r.size : Int) - 8) = (r.size : Int) - 8 := by rw [IntKind.wrap_i64]; omega
  have hbox := Blk.new w 28 #[.int .i64 r.kind, .int .i64 r.txn, .int .i64 r.prev, .int .i64 r.next, .int .i64 r.page, .int .i64 r.off, .slice BA r.before.length bc, .slice AA r.after.length ac, .slice TA r.txns.length tc, .slice DA r.dirty.length dc, .int .i64 r.count]
  have HB := hid hbox
  clear hbox
  unfold recVal at *
  go_enter Try.func10, Try.ntmps10
  go_wp2_with fail
  go_cut [3] (fun v wx => ∃ A N c, v = .slice A N c ∧ EncS w wx r #[.int .i64 r.kind, .int .i64 r.txn, .int .i64 r.prev, .int .i64 r.next, .int .i64 r.page, .int .i64 r.off, .slice BA r.before.length bc, .slice AA r.after.length ac, .slice TA r.txns.length tc, .slice DA r.dirty.length dc, .int .i64 r.count] A N c (num8 ((r.size : Int) - 8)))
  case first =>
    go_region_held3 (fun w' => w'.cell? ⟨w.heap.size, 0, none⟩ = some (.int .i64 r.kind) ∧ w'.cell? ⟨w.heap.size, 1, none⟩ = some (.int .i64 r.txn) ∧ w'.cell? ⟨w.heap.size, 2, none⟩ = some (.int .i64 r.prev) ∧ w'.cell? ⟨w.heap.size, 3, none⟩ = some (.int .i64 r.next) ∧ w'.cell? ⟨w.heap.size, 4, none⟩ = some (.int .i64 r.page) ∧ w'.cell? ⟨w.heap.size, 5, none⟩ = some (.int .i64 r.off) ∧ w'.cell? ⟨w.heap.size, 6, none⟩ = some (.slice BA r.before.length bc) ∧ w'.cell? ⟨w.heap.size, 7, none⟩ = some (.slice AA r.after.length ac) ∧ w'.cell? ⟨w.heap.size, 8, none⟩ = some (.slice TA r.txns.length tc) ∧ w'.cell? ⟨w.heap.size, 9, none⟩ = some (.slice DA r.dirty.length dc) ∧ w'.cell? ⟨w.heap.size, 10, none⟩ = some (.int .i64 r.count))
      (first
        | (exact box11 hS3.box)
        | (exact box11 hbx2)
        | (exact box11 hbx1)
        | (exact box11 HB.out)
        | go_keep)
      (first
        | (go_at_call 15
           have hx := hbx1
           refine (hsz.out _ (by omega)).mono ?_
           rintro e w2 ⟨rfl, hq2⟩
           have hbx2 : Blk w2 w.heap.size 28 #[.int .i64 r.kind, .int .i64 r.txn, .int .i64 r.prev, .int .i64 r.next, .int .i64 r.page, .int .i64 r.off, .slice BA r.before.length bc, .slice AA r.after.length ac, .slice TA r.txns.length tc, .slice DA r.dirty.length dc, .int .i64 r.count] := (by first | exact Blk.call hbx1 hq2 rfl | exact Blk.call (hbx1.alloc (.cells (madeCells #[.int .u8 0] r.size) 5)) hq2 rfl))
        | (go_at_call 15
           refine (hsz.out _ (by omega)).mono ?_
           rintro e w1 ⟨rfl, hq1⟩
           have hbx1 := Blk.call HB.out hq1 rfl
           have hB1 : Below w.heap.size w w1 := ((Below.refl _ w).alloc (Nat.le_refl _) (.cells #[.int .i64 r.kind, .int .i64 r.txn, .int .i64 r.prev, .int .i64 r.next, .int .i64 r.page, .int .i64 r.off, .slice BA r.before.length bc, .slice AA r.after.length ac, .slice TA r.txns.length tc, .slice DA r.dirty.length dc, .int .i64 r.count] 28)).trans (Below.mono (⟨hq1.os, hq1.tape, hq1.output, hq1.size, hq1.block⟩ : Below (w.alloc (.cells #[.int .i64 r.kind, .int .i64 r.txn, .int .i64 r.prev, .int .i64 r.next, .int .i64 r.page, .int .i64 r.off, .slice BA r.before.length bc, .slice AA r.after.length ac, .slice TA r.txns.length tc, .slice DA r.dirty.length dc, .int .i64 r.count] 28)).heap.size (w.alloc (.cells #[.int .i64 r.kind, .int .i64 r.txn, .int .i64 r.prev, .int .i64 r.next, .int .i64 r.page, .int .i64 r.off, .slice BA r.before.length bc, .slice AA r.after.length ac, .slice TA r.txns.length tc, .slice DA r.dirty.length dc, .int .i64 r.count] 28)) w1) (by simp)))
        | (go_at_call 18
           first
             | refine (e_num (w := w) (r := r) (cs := #[.int .i64 r.kind, .int .i64 r.txn, .int .i64 r.prev, .int .i64 r.next, .int .i64 r.page, .int .i64 r.off, .slice BA r.before.length bc, .slice AA r.after.length ac, .slice TA r.txns.length tc, .slice DA r.dirty.length dc, .int .i64 r.count]) (bs := []) ⟨(Buf.made hB1 r.size (by omega)).fresh ⟨hq2.os, hq2.tape, hq2.output, hq2.size, hq2.block⟩, hbx2⟩ _ (by simp)).mono ?_
             | refine (e_num (w := w) (r := r) (cs := #[.int .i64 r.kind, .int .i64 r.txn, .int .i64 r.prev, .int .i64 r.next, .int .i64 r.page, .int .i64 r.off, .slice BA r.before.length bc, .slice AA r.after.length ac, .slice TA r.txns.length tc, .slice DA r.dirty.length dc, .int .i64 r.count]) (bs := []) ⟨Buf.made (hB1.trans (Below.mono ⟨hq2.os, hq2.tape, hq2.output, hq2.size, hq2.block⟩ hB1.size)) r.size (by omega), hbx2.alloc _⟩ _ (by simp)).mono ?_
             | refine (e_num (w := w) (r := r) (cs := #[.int .i64 r.kind, .int .i64 r.txn, .int .i64 r.prev, .int .i64 r.next, .int .i64 r.page, .int .i64 r.off, .slice BA r.before.length bc, .slice AA r.after.length ac, .slice TA r.txns.length tc, .slice DA r.dirty.length dc, .int .i64 r.count]) (bs := []) ⟨Buf.made (hB1.trans (Below.mono ⟨hq2.os, hq2.tape, hq2.output, hq2.size, hq2.block⟩ hB1.size)).drew r.size (by omega), hbx2.drew.alloc _⟩ _ (by simp)).mono ?_
           rintro e w3 ⟨A3, N3, c3, rfl, hS3, _⟩
           have HS3 := hid hS3))
    all_goals
      go_wp2
      go_meet
      exact ⟨A3, N3, c3, rfl, by simpa using HS3.out⟩
  case rest =>
    obtain ⟨A, N, c, rfl, hS⟩ := hcut
    rw [← P1_zero r] at hS
    have HS := hid hS
    clear hS hsz hmk hwr HB
    obtain ⟨c0, c1, c2, c3, c4, c5, c6, c7, c8, c9, c10⟩ := box11 HS.out.box
    go_wp2_with fail
    go_loopw [3, 30] (fun v i wr => ∃ k : Nat, k ≤ 6 ∧ i = .int .i64 k ∧ ∃ A N c, v = .slice A N c ∧ EncS w wr r #[.int .i64 r.kind, .int .i64 r.txn, .int .i64 r.prev, .int .i64 r.next, .int .i64 r.page, .int .i64 r.off, .slice BA r.before.length bc, .slice AA r.after.length ac, .slice TA r.txns.length tc, .slice DA r.dirty.length dc, .int .i64 r.count] A N c (P1 r k)) (fun _ i _ => 6 - (intOf i).toNat)
    case atStart => exact ⟨0, by omega, rfl, A, N, c, rfl, HS.out⟩
    case round =>
      obtain ⟨k, hk, rfl, A1, N1, q1, rfl, hS1⟩ := hrel
      have HS1 := hid hS1
      clear hS1 HS c0 c1 c2 c3 c4 c5 c6 c7 c8 c9 c10
      have hl1 := hid (length_P1 r k)
      by_cases hk6 : k < 6
      · have hix := index6 r k hk6
        go_wp2_with fail
        refine (e_num HS1.out _ (by have := hl1.out; omega)).mono ?_
        rintro e w2 ⟨A2, N2, q2, rfl, hS2, _⟩
        have HS2 := hid hS2
        clear hS2
        go_wp2
        go_roundw
        case rel => exact ⟨k + 1, by omega, by go_num, A2, N2, q2, rfl, by rw [P1_succ r _ (by omega)]; exact HS2.out⟩
        case measure => simp [intOf]; omega
      · have hk' : Hid (k = 6) := hid (by omega)
        obtain ⟨_, _, _, _, _, _, c6, c7, _, _, _⟩ := box11 HS1.out.box
        go_wp2_with fail
        go_region_held3 (fun w' => w'.cell? ⟨w.heap.size, 6, none⟩ = some (.slice BA r.before.length bc) ∧ w'.cell? ⟨w.heap.size, 7, none⟩ = some (.slice AA r.after.length ac))
          (first
            | (exact ⟨(box11 hS3.box).2.2.2.2.2.2.1, (box11 hS3.box).2.2.2.2.2.2.2.1⟩)
            | (exact ⟨(box11 hS2.box).2.2.2.2.2.2.1, (box11 hS2.box).2.2.2.2.2.2.2.1⟩)
            | (exact ⟨c6, c7⟩)
            | go_keep)
          (first
            | (go_at_call 19
               refine (e_data hS2 AA _ _ r.after H.out.a rfl (by have := hl1.out; rw [List.length_append, length_dat]; unfold MRec.size at hs; omega)).mono ?_
               rintro e w3 ⟨A3, N3, q3, rfl, hS3, _⟩)
            | (go_at_call 19
               refine (e_data HS1.out.drew BA _ _ r.before H.out.b rfl (by have := hl1.out; unfold MRec.size at hs; omega)).mono ?_
               rintro e w2 ⟨A2, N2, q2, rfl, hS2, _⟩))
        have HS3 : Hid (EncS w w3 r #[.int .i64 r.kind, .int .i64 r.txn, .int .i64 r.prev, .int .i64 r.next, .int .i64 r.page, .int .i64 r.off, .slice BA r.before.length bc, .slice AA r.after.length ac, .slice TA r.txns.length tc, .slice DA r.dirty.length dc, .int .i64 r.count] A3 N3 q3 (P2 r)) := hid (by
          have h := hS3
          rw [hk'.out] at h
          exact h)
        have hl3 := hid (length_P2 r)
        clear hS2 hS3 HS1 hl1 c6 c7
        obtain ⟨_, _, _, _, _, _, _, _, c8, c9, c10⟩ := box11 HS3.out.box
        go_wp2_with fail
        refine (e_num HS3.out _ (by have := hl3.out; omega)).mono ?_
        rintro e w4 ⟨A4, N4, q4, rfl, hS4, _⟩
        rw [← P3_zero r] at hS4
        have HS4 := hid hS4
        clear hS4 HS3 hl3 c8 c9 c10
        obtain ⟨_, _, _, _, _, _, _, _, c8, c9, c10⟩ := box11 HS4.out.box
        go_wp2_with fail
        go_loopw [3, 52] (fun v i wr => ∃ k : Nat, k ≤ r.txns.length ∧ i = .int .i64 k ∧ ∃ A N c, v = .slice A N c ∧ EncS w wr r #[.int .i64 r.kind, .int .i64 r.txn, .int .i64 r.prev, .int .i64 r.next, .int .i64 r.page, .int .i64 r.off, .slice BA r.before.length bc, .slice AA r.after.length ac, .slice TA r.txns.length tc, .slice DA r.dirty.length dc, .int .i64 r.count] A N c (P3 r k)) (fun _ i _ => r.txns.length - (intOf i).toNat)
        case atStart => exact ⟨0, by omega, rfl, A4, N4, q4, rfl, HS4.out⟩
        case round =>
          obtain ⟨k3, hk3, rfl, A5, N5, q5, rfl, hS5⟩ := hrel
          have HS5 := hid hS5
          clear hS5 HS4 c8 c9 c10
          have hl5 := hid (length_P3 r k3)
          have hnt : r.txns.length ≤ 50000000 := by unfold MRec.size at hs; omega
          have hnd : r.dirty.length ≤ 50000000 := by unfold MRec.size at hs; omega
          by_cases hlt : k3 < r.txns.length
          · obtain ⟨tb, tf, rfl, htb, t0, t1, t2⟩ := H.out.txn k3 hlt
            have d0 := (HS5.out.buf.be.cell (p := ⟨tb, tf + k3 * 3, none⟩) htb).trans t0
            have d1 := (HS5.out.buf.be.cell (p := ⟨tb, tf + k3 * 3 + 1, none⟩) htb).trans t1
            have d2 := (HS5.out.buf.be.cell (p := ⟨tb, tf + k3 * 3 + 2, none⟩) htb).trans t2
            have hlt' : (k3 : Int) < (r.txns.length : Int) := by omega
            clear t0 t1 t2
            generalize e1 : r.txns[k3].1 = x1 at *
            generalize e2 : r.txns[k3].2.1 = x2 at *
            generalize e3 : r.txns[k3].2.2 = x3 at *
            have E1 := hid e1
            have E2 := hid e2
            have E3 := hid e3
            clear e1 e2 e3
            go_wp2_with fail
            have HT0 := hid (HS5.out.alloc (.cells #[.int .i64 x1, .int .i64 x2, .int .i64 x3] 43))
            have hX0 := Blk.new wr 43 #[.int .i64 x1, .int .i64 x2, .int .i64 x3]
            have HX0 := hid hX0
            clear hX0
            go_region_held3 (fun w' => w'.cell? ⟨wr.heap.size, 0, none⟩ = some (.int .i64 x1) ∧ w'.cell? ⟨wr.heap.size, 1, none⟩ = some (.int .i64 x2) ∧ w'.cell? ⟨wr.heap.size, 2, none⟩ = some (.int .i64 x3))
              (first
                | (exact box3 hX3)
                | (exact box3 hX2)
                | (exact box3 hX1)
                | (exact box3 HX0.out)
                | go_keep)
              (first
                | (go_at_call 18
                   first
                     | refine (e_num hT2 _ (by have := hl5.out; simp only [List.length_append, length_num8]; omega)).mono ?_
                     | refine (e_num hT2.drew _ (by have := hl5.out; simp only [List.length_append, length_num8]; omega)).mono ?_
                   rintro e w8 ⟨A8, N8, q8, rfl, hT3, hK3⟩
                   have hX3 := hK3 _ _ _ (by decide) hX2)
                | (go_at_call 18
                   first
                     | refine (e_num hT1 _ (by have := hl5.out; simp only [List.length_append, length_num8]; omega)).mono ?_
                     | refine (e_num hT1.drew _ (by have := hl5.out; simp only [List.length_append, length_num8]; omega)).mono ?_
                   rintro e w7 ⟨A7, N7, q7, rfl, hT2, hK2⟩
                   have hX2 := hK2 _ _ _ (by decide) hX1)
                | (go_at_call 18
                   first
                     | refine (e_num HT0.out _ (by have := hl5.out; omega)).mono ?_
                     | refine (e_num HT0.out.drew _ (by have := hl5.out; omega)).mono ?_
                   rintro e w6 ⟨A6, N6, q6, rfl, hT1, hK1⟩
                   have hX1 := hK1 _ _ _ (by decide) HX0.out))
            have HT3 : Hid (EncS w w8 r _ A8 N8 q8 (P3 r (k3 + 1))) := hid (by
              rw [P3_succ r k3 hlt, E1.out, E2.out, E3.out]
              exact hT3)
            clear hT1 hT2 hT3 hX1 hX2 hX3 hK1 hK2 hK3 HT0 HX0 d0 d1 d2
            go_wp2
            go_roundw
            case rel => exact ⟨k3 + 1, by omega, by go_num, A8, N8, q8, rfl, HT3.out⟩
            case measure => simp [intOf]; omega
          · have hk3' : Hid (k3 = r.txns.length) := hid (by omega)
            have hlt' : decide ((k3 : Int) < (r.txns.length : Int)) = false := by simp; omega
            obtain ⟨_, _, _, _, _, _, _, _, c8, c9, c10⟩ := box11 HS5.out.box
            go_wp2_with fail
            refine (e_num HS5.out _ (by have := hl5.out; omega)).mono ?_
            rintro e w6 ⟨A6, N6, q6, rfl, hS6, _⟩
            rw [hk3'.out, ← P4_zero r] at hS6
            have HS6 := hid hS6
            clear hS6 HS5 hl5 c8 c9 c10
            obtain ⟨_, _, _, _, _, _, _, _, c8, c9, c10⟩ := box11 HS6.out.box
            go_wp2_with fail
            go_loopw [3, 75] (fun v i wr => ∃ k : Nat, k ≤ r.dirty.length ∧ i = .int .i64 k ∧ ∃ A N c, v = .slice A N c ∧ EncS w wr r #[.int .i64 r.kind, .int .i64 r.txn, .int .i64 r.prev, .int .i64 r.next, .int .i64 r.page, .int .i64 r.off, .slice BA r.before.length bc, .slice AA r.after.length ac, .slice TA r.txns.length tc, .slice DA r.dirty.length dc, .int .i64 r.count] A N c (P4 r k)) (fun _ i _ => r.dirty.length - (intOf i).toNat)
            case atStart => exact ⟨0, by omega, rfl, A6, N6, q6, rfl, HS6.out⟩
            case round =>
              obtain ⟨k4, hk4, rfl, A7, N7, q7, rfl, hS7⟩ := hrel
              have HS7 := hid hS7
              clear hS7 HS6 c8 c9 c10
              have hl7 := hid (length_P4 r k4)
              by_cases hlt4 : k4 < r.dirty.length
              · obtain ⟨tb, tf, rfl, htb, t0, t1⟩ := H.out.dir k4 hlt4
                have d0 := (HS7.out.buf.be.cell (p := ⟨tb, tf + k4 * 2, none⟩) htb).trans t0
                have d1 := (HS7.out.buf.be.cell (p := ⟨tb, tf + k4 * 2 + 1, none⟩) htb).trans t1
                have hlt4' : (k4 : Int) < (r.dirty.length : Int) := by omega
                clear t0 t1
                generalize e1 : r.dirty[k4].1 = x1 at *
                generalize e2 : r.dirty[k4].2 = x2 at *
                have E1 := hid e1
                have E2 := hid e2
                clear e1 e2
                go_wp2_with fail
                have HT0 := hid (HS7.out.alloc (.cells #[.int .i64 x1, .int .i64 x2] 45))
                have hX0 := Blk.new wr 45 #[.int .i64 x1, .int .i64 x2]
                have HX0 := hid hX0
                clear hX0
                go_region_held3 (fun w' => w'.cell? ⟨wr.heap.size, 0, none⟩ = some (.int .i64 x1) ∧ w'.cell? ⟨wr.heap.size, 1, none⟩ = some (.int .i64 x2))
                  (first
                    | (exact box2 hX2)
                    | (exact box2 hX1)
                    | (exact box2 HX0.out)
                    | go_keep)
                  (first
                    | (go_at_call 18
                       first
                         | refine (e_num hT1 _ (by have := hl7.out; simp only [List.length_append, length_num8]; omega)).mono ?_
                         | refine (e_num hT1.drew _ (by have := hl7.out; simp only [List.length_append, length_num8]; omega)).mono ?_
                       rintro e w9 ⟨A9, N9, q9, rfl, hT2, hK2⟩
                       have hX2 := hK2 _ _ _ (by decide) hX1)
                    | (go_at_call 18
                       first
                         | refine (e_num HT0.out _ (by have := hl7.out; omega)).mono ?_
                         | refine (e_num HT0.out.drew _ (by have := hl7.out; omega)).mono ?_
                       rintro e w8 ⟨A8, N8, q8, rfl, hT1, hK1⟩
                       have hX1 := hK1 _ _ _ (by decide) HX0.out))
                have HT3 : Hid (EncS w w9 r _ A9 N9 q9 (P4 r (k4 + 1))) := hid (by
                  rw [P4_succ r k4 hlt4, E1.out, E2.out]
                  exact hT2)
                clear hT1 hT2 hX1 hX2 hK1 hK2 HT0 HX0 d0 d1
                go_wp2
                go_roundw
                case rel => exact ⟨k4 + 1, by omega, by go_num, A9, N9, q9, rfl, HT3.out⟩
                case measure => simp [intOf]; omega
              · have hk4' : Hid (k4 = r.dirty.length) := hid (by omega)
                have hlt4' : decide ((k4 : Int) < (r.dirty.length : Int)) = false := by simp; omega
                obtain ⟨_, _, _, _, _, _, _, _, c8, c9, c10⟩ := box11 HS7.out.box
                go_wp2_with fail
                refine (e_num HS7.out _ (by have := hl7.out; omega)).mono ?_
                rintro e w8 ⟨A8, N8, q8, rfl, hS8, _⟩
                rw [hk4'.out, P5 r] at hS8
                have HS8 := hid hS8
                clear hS8
                go_wp2
                go_ret
                exact ⟨A8, N8, q8, rfl, HS8.out.buf⟩
end Go.Proofs.Ytkpopjpmjcgbfaa
