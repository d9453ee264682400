/- The walk of the document's Encode. Conditions: sizes. -/
import Derived.Test.YtkpopjpmjcgbfaaEncC
namespace Go.Proofs.Ytkpopjpmjcgbfaa
open Go.RowKit
set_option maxRecDepth 100000
set_option linter.unusedVariables false
set_option linter.unusedSimpArgs false

section
variable {w w0 wr w' : World} {r : MRec} {A : Option Addr} {N c : Nat} {bs ns : List UInt8} {cs : Array Value}
theorem Buf.weaken (h : Buf w0 wr A N c bs) (hb : Below w.heap.size w w0) : Buf w wr A N c bs :=
  ⟨hb.trans (h.be.mono hb.size), ⟨h.own.1, h.own.2.imp id fun ⟨g, cap, cur, a, b, x⟩ => ⟨g, cap, cur, a, Nat.le_trans hb.size b, x⟩⟩, h.len⟩
theorem EncS.fresh (h : EncS w wr r cs A N c bs) (hb : Below wr.heap.size wr w') : EncS w w' r cs A N c bs := ⟨h.buf.fresh hb, h.box.below hb h.box.lt⟩
theorem EncS.append {v : Value} {m : Nat} (h : EncS w wr r cs A N c bs) (hm : ns.length = m) (hown : w'.ownsRow w.heap.size 5 1 v (N + m) (u8s bs ++ u8s ns)) (hg : wr.grownBy w' (Value.slice A N c).ownBlock) (hat : v.ownBlock = (Value.slice A N c).ownBlock ∨ v.ownBlock = some wr.heap.size) :
    ∃ A' N' c', v = .slice A' N' c' ∧ EncS w w' r cs A' N' c' (bs ++ ns) ∧ Keeps wr w' := by
  obtain ⟨A', N', c', rfl, hb, hk⟩ := h.buf.append hm hown hg hat
  exact ⟨A', N', c', rfl, ⟨hb, hk _ _ _ (by decide) h.box⟩, hk⟩
end

/-! ### how far the bytes have come -/
def R1 (r : MRec) : List UInt8 := (six r ++ [(r.before.length : Int)]).flatMap num8
def R2 (r : MRec) : List UInt8 := R1 r ++ r.before
def R3 (r : MRec) : List UInt8 := R2 r ++ num8 r.after.length
def R4 (r : MRec) : List UInt8 := R3 r ++ r.after
def R5 (r : MRec) (k : Nat) : List UInt8 := (R4 r ++ num8 r.txns.length) ++ (r.txns.take k).flatMap txnB
def R6 (r : MRec) (k : Nat) : List UInt8 := (R5 r r.txns.length ++ num8 r.dirty.length) ++ (r.dirty.take k).flatMap dirtyB
theorem R5_zero (r : MRec) : R5 r 0 = R4 r ++ num8 r.txns.length := by simp [R5]
theorem R6_zero (r : MRec) : R6 r 0 = R5 r r.txns.length ++ num8 r.dirty.length := by simp [R6]
theorem R5_succ (r : MRec) (k : Nat) (hk : k < r.txns.length) : R5 r (k + 1) = R5 r k ++ [(r.txns[k]).1, (r.txns[k]).2.1, (r.txns[k]).2.2].flatMap num8 := by
  rw [R5, R5, List.take_succ_eq_append_getElem hk, List.flatMap_append]
  simp [txnB]
theorem R6_succ (r : MRec) (k : Nat) (hk : k < r.dirty.length) : R6 r (k + 1) = R6 r k ++ [(r.dirty[k]).1, (r.dirty[k]).2].flatMap num8 := by
  rw [R6, R6, List.take_succ_eq_append_getElem hk, List.flatMap_append]
  simp [dirtyB]
theorem R7 (r : MRec) : R6 r r.dirty.length ++ num8 r.count = r.body := by
  simp [R6, R5, R4, R3, R2, R1, MRec.body, dat, six, List.append_assoc]
theorem length_R (r : MRec) : (R1 r).length = 56 ∧ (R2 r).length ≤ r.size ∧ (R3 r).length ≤ r.size ∧ (R4 r).length ≤ r.size := by
  refine ⟨?_, ?_, ?_, ?_⟩ <;> simp only [R4, R3, R2, R1, List.length_append, length_num8, length_flat _ 8 length_num8, MRec.size, six, List.length_cons, List.length_nil] <;> omega
theorem length_R5 (r : MRec) (k : Nat) : (R5 r k).length ≤ r.size := by
  simp only [R5, R4, R3, R2, R1, List.length_append, length_num8, length_flat _ 8 length_num8, length_flat _ 24 length_txnB, List.length_take, MRec.size, six, List.length_cons, List.length_nil]
  omega
theorem length_R6 (r : MRec) (k : Nat) : (R6 r k).length ≤ r.size := by
  simp only [R6, R5, R4, R3, R2, R1, List.length_append, length_num8, length_flat _ 8 length_num8, length_flat _ 24 length_txnB, length_flat _ 16 length_dirtyB, List.length_take, MRec.size, six, List.length_cons, List.length_nil]
  omega

set_option maxHeartbeats 3200000 in
theorem rencode_any (r : MRec) (BA : Option Addr) (bc : Nat) (AA : Option Addr) (ac : Nat) (TA : Option Addr) (tc : Nat) (DA : Option Addr) (dc : Nat) (w : World) (h : RecMem w r BA AA TA DA) (hs : r.size ≤ 50000000) :
    Calls Try.prog 14 #[recVal r BA bc AA ac TA tc DA dc] w fun e w' => ∃ A N c, e = .returned (.slice A N c) ∧ Buf w w' A N c r.enc := by
  obtain ⟨i0, hi, hz0, hz1, hz2⟩ := info_parts info5
  have H := hid h
  clear h
  have hnb : r.before.length ≤ 50000000 := by unfold MRec.size at hs; omega
  have hna : r.after.length ≤ 50000000 := by unfold MRec.size at hs; omega
  have hnt : r.txns.length ≤ 50000000 := by unfold MRec.size at hs; omega
  have hnd : r.dirty.length ≤ 50000000 := by unfold MRec.size at hs; omega
  have hsz8 : Hid (r.body.length + 8 = r.size) := hid (length_body r)
  obtain ⟨l1, l2, l3, l4⟩ := length_R r
  have L1 := hid l1
  have L2 := hid l2
  have L3 := hid l3
  have L4 := hid l4
  clear l1 l2 l3 l4
  have hbox := Blk.new w 28 #[.int .i64 r.kind, .int .i64 r.txn, .int .i64 r.prev, .int .i64 r.next, .int .i64 r.page, .int .i64 r.off, .slice BA r.before.length bc, .slice AA r.after.length ac, .slice TA r.txns.length tc, .slice DA r.dirty.length dc, .int .i64 r.count]
  have hB0 : Below w.heap.size w ((w.alloc (.cells #[.int .i64 r.kind, .int .i64 r.txn, .int .i64 r.prev, .int .i64 r.next, .int .i64 r.page, .int .i64 r.off, .slice BA r.before.length bc, .slice AA r.after.length ac, .slice TA r.txns.length tc, .slice DA r.dirty.length dc, .int .i64 r.count] 28)).alloc (.cells #[.int .i64 r.kind, .int .i64 r.txn, .int .i64 r.prev, .int .i64 r.next, .int .i64 r.page, .int .i64 r.off, .int .i64 r.before.length] 3)) := ((Below.refl _ w).alloc (Nat.le_refl _) _).alloc (by simp) _
  have hsz1 : (w.alloc (.cells #[.int .i64 r.kind, .int .i64 r.txn, .int .i64 r.prev, .int .i64 r.next, .int .i64 r.page, .int .i64 r.off, .slice BA r.before.length bc, .slice AA r.after.length ac, .slice TA r.txns.length tc, .slice DA r.dirty.length dc, .int .i64 r.count] 28)).heap.size = w.heap.size + 1 := by simp
  have hR0 := Rd.of_blk (Blk.new (w.alloc (.cells #[.int .i64 r.kind, .int .i64 r.txn, .int .i64 r.prev, .int .i64 r.next, .int .i64 r.page, .int .i64 r.off, .slice BA r.before.length bc, .slice AA r.after.length ac, .slice TA r.txns.length tc, .slice DA r.dirty.length dc, .int .i64 r.count] 28)) 3 #[.int .i64 r.kind, .int .i64 r.txn, .int .i64 r.prev, .int .i64 r.next, .int .i64 r.page, .int .i64 r.off, .int .i64 r.before.length]) (n := 7) rfl
  rw [hsz1] at hR0
  clear hsz1
  have HB0 := hid hB0
  have HR0 := hid hR0
  have HB := hid hbox
  clear hbox hB0 hR0
  unfold recVal at *
  go_enter Try.func14, Try.ntmps14
  go_wp2_with fail
  refine (rall_ok (six r ++ [(r.before.length : Int)]) _ 7 7 _ (by exact HR0.out) rfl (by simp [six])).mono ?_
  rintro e w1 ⟨A1, N1, c1, rfl, hb1⟩
  have HS1 : Hid (EncS w w1 r #[.int .i64 r.kind, .int .i64 r.txn, .int .i64 r.prev, .int .i64 r.next, .int .i64 r.page, .int .i64 r.off, .slice BA r.before.length bc, .slice AA r.after.length ac, .slice TA r.txns.length tc, .slice DA r.dirty.length dc, .int .i64 r.count] A1 N1 c1 (R1 r)) := hid ⟨hb1.weaken HB0.out, Blk.below (B := ((w.alloc (.cells #[.int .i64 r.kind, .int .i64 r.txn, .int .i64 r.prev, .int .i64 r.next, .int .i64 r.page, .int .i64 r.off, .slice BA r.before.length bc, .slice AA r.after.length ac, .slice TA r.txns.length tc, .slice DA r.dirty.length dc, .int .i64 r.count] 28)).alloc (.cells #[.int .i64 r.kind, .int .i64 r.txn, .int .i64 r.prev, .int .i64 r.next, .int .i64 r.page, .int .i64 r.off, .int .i64 r.before.length] 3)).heap.size) (HB.out.alloc _) hb1.be (by simp; omega)⟩
  clear hb1 HB HB0 HR0
  obtain ⟨_, _, _, _, _, _, e6, e7, e8, e9, e10⟩ := box11 HS1.out.box
  have lN1 : N1 ≤ 50000000 := by have h1 := HS1.out.buf.len; have h2 := L1.out; omega
  go_wp2_with (at_builtin; refine wpList_append_any _ rfl (.tmp 23) (.tmp 25) 23 rfl w.heap.size 5 i0 _ 1 1 Try.underlying23 hi hz0 hz1 hz2 rfl (by omega) _ N1 _ rfl HS1.out.buf.own _ r.before.length bc _ rfl (H.out.b.below HS1.out.buf.be) (u8s_one _) (by unfold maxLen; omega) (by omega) HS1.out.buf.be.size ?_)
  intro v2 w2 hown hgr hat
  obtain ⟨A2, N2, c2, rfl, hS2, _⟩ := HS1.out.append rfl hown hgr hat
  have HS2 := hid hS2
  clear hS2 hown hgr hat HS1 lN1
  clear e6 e7 e8 e9 e10
  have HS2 : Hid (EncS w w2 r #[.int .i64 r.kind, .int .i64 r.txn, .int .i64 r.prev, .int .i64 r.next, .int .i64 r.page, .int .i64 r.off, .slice BA r.before.length bc, .slice AA r.after.length ac, .slice TA r.txns.length tc, .slice DA r.dirty.length dc, .int .i64 r.count] A2 N2 c2 (R2 r)) := HS2
  obtain ⟨_, _, _, _, _, _, e6, e7, e8, e9, e10⟩ := box11 HS2.out.box
  go_wp2_with fail
  refine (rnum_ok _ _).mono ?_
  rintro e wn2 ⟨An2, Nn2, cn2, rfl, hbn2⟩
  have HFn2 := hid (HS2.out.fresh hbn2.be)
  have HNn2 := hid hbn2
  have ln2 : Nn2 = 8 := by rw [hbn2.len, length_num8]
  subst ln2
  have lN2 : N2 ≤ 50000000 := by have h1 := HS2.out.buf.len; have h2 := L2.out; omega
  clear hbn2 HS2
  go_wp2_with (at_builtin; refine wpList_append_any _ rfl (.tmp 27) (.tmp 31) 23 rfl w.heap.size 5 i0 _ 1 1 Try.underlying23 hi hz0 hz1 hz2 rfl (by omega) _ N2 _ rfl HFn2.out.buf.own _ 8 cn2 _ rfl HNn2.out.rd (u8s_one _) (by unfold maxLen; omega) (by omega) HFn2.out.buf.be.size ?_)
  intro v3 w3 hown hgr hat
  obtain ⟨A3, N3, c3, rfl, hS3, _⟩ := HFn2.out.append (length_num8 _) hown hgr hat
  have HS3 := hid hS3
  clear hS3 hown hgr hat HFn2 HNn2 lN2
  clear e6 e7 e8 e9 e10
  have HS3 : Hid (EncS w w3 r #[.int .i64 r.kind, .int .i64 r.txn, .int .i64 r.prev, .int .i64 r.next, .int .i64 r.page, .int .i64 r.off, .slice BA r.before.length bc, .slice AA r.after.length ac, .slice TA r.txns.length tc, .slice DA r.dirty.length dc, .int .i64 r.count] A3 N3 c3 (R3 r)) := HS3
  obtain ⟨_, _, _, _, _, _, e6, e7, e8, e9, e10⟩ := box11 HS3.out.box
  have lN3 : N3 ≤ 50000000 := by have h1 := HS3.out.buf.len; have h2 := L3.out; omega
  go_wp2_with (at_builtin; refine wpList_append_any _ rfl (.tmp 33) (.tmp 35) 23 rfl w.heap.size 5 i0 _ 1 1 Try.underlying23 hi hz0 hz1 hz2 rfl (by omega) _ N3 _ rfl HS3.out.buf.own _ r.after.length ac _ rfl (H.out.a.below HS3.out.buf.be) (u8s_one _) (by unfold maxLen; omega) (by omega) HS3.out.buf.be.size ?_)
  intro v4 w4 hown hgr hat
  obtain ⟨A4, N4, c4, rfl, hS4, _⟩ := HS3.out.append rfl hown hgr hat
  have HS4 := hid hS4
  clear hS4 hown hgr hat HS3 lN3
  clear e6 e7 e8 e9 e10
  have HS4 : Hid (EncS w w4 r #[.int .i64 r.kind, .int .i64 r.txn, .int .i64 r.prev, .int .i64 r.next, .int .i64 r.page, .int .i64 r.off, .slice BA r.before.length bc, .slice AA r.after.length ac, .slice TA r.txns.length tc, .slice DA r.dirty.length dc, .int .i64 r.count] A4 N4 c4 (R4 r)) := HS4
  obtain ⟨_, _, _, _, _, _, e6, e7, e8, e9, e10⟩ := box11 HS4.out.box
  go_wp2_with fail
  refine (rnum_ok _ _).mono ?_
  rintro e wn4 ⟨An4, Nn4, cn4, rfl, hbn4⟩
  have HFn4 := hid (HS4.out.fresh hbn4.be)
  have HNn4 := hid hbn4
  have ln4 : Nn4 = 8 := by rw [hbn4.len, length_num8]
  subst ln4
  have lN4 : N4 ≤ 50000000 := by have h1 := HS4.out.buf.len; have h2 := L4.out; omega
  clear hbn4 HS4
  go_wp2_with (at_builtin; refine wpList_append_any _ rfl (.tmp 37) (.tmp 41) 23 rfl w.heap.size 5 i0 _ 1 1 Try.underlying23 hi hz0 hz1 hz2 rfl (by omega) _ N4 _ rfl HFn4.out.buf.own _ 8 cn4 _ rfl HNn4.out.rd (u8s_one _) (by unfold maxLen; omega) (by omega) HFn4.out.buf.be.size ?_)
  intro v5 w5 hown hgr hat
  obtain ⟨A5, N5, c5, rfl, hS5, _⟩ := HFn4.out.append (length_num8 _) hown hgr hat
  rw [← R5_zero r] at hS5
  have HS5 := hid hS5
  clear hS5 hown hgr hat HFn4 HNn4 lN4
  clear e6 e7 e8 e9 e10
  obtain ⟨_, _, _, _, _, _, e6, e7, e8, e9, e10⟩ := box11 HS5.out.box
  go_wp2_with fail
  go_loopw [3, 4] (fun v i wr => ∃ k : Nat, k ≤ r.txns.length ∧ i = .int .i64 k ∧ ∃ A N c, v = .slice A N c ∧ EncS w wr r #[.int .i64 r.kind, .int .i64 r.txn, .int .i64 r.prev, .int .i64 r.next, .int .i64 r.page, .int .i64 r.off, .slice BA r.before.length bc, .slice AA r.after.length ac, .slice TA r.txns.length tc, .slice DA r.dirty.length dc, .int .i64 r.count] A N c (R5 r k)) (fun _ i _ => r.txns.length - (intOf i).toNat)
  case atStart => exact ⟨0, by omega, rfl, A5, N5, c5, rfl, HS5.out⟩
  case round =>
    obtain ⟨k, hk, rfl, A6, N6, c6, rfl, hS6⟩ := hrel
    have HS6 := hid hS6
    clear hS6 HS5 e6 e7 e8 e9 e10
    have hl6 := hid (length_R5 r k)
    have lN6 : N6 ≤ 50000000 := by have h1 := HS6.out.buf.len; have h2 := hl6.out; omega
    obtain ⟨_, _, _, _, _, _, e6, e7, e8, e9, e10⟩ := box11 HS6.out.box
    by_cases hlt : k < r.txns.length
    · obtain ⟨tb, tf, rfl, htb, t0, t1, t2⟩ := H.out.txn k hlt
      have d0 := (HS6.out.buf.be.cell (p := ⟨tb, tf + k * 3, none⟩) htb).trans t0
      have d1 := (HS6.out.buf.be.cell (p := ⟨tb, tf + k * 3 + 1, none⟩) htb).trans t1
      have d2 := (HS6.out.buf.be.cell (p := ⟨tb, tf + k * 3 + 2, none⟩) htb).trans t2
      have hlt' : (k : Int) < (r.txns.length : Int) := by omega
      have T0 := hid t0
      have T1 := hid t1
      have T2 := hid t2
      clear t0 t1 t2
      generalize h1 : r.txns[k].1 = x1 at *
      generalize h2 : r.txns[k].2.1 = x2 at *
      generalize h3 : r.txns[k].2.2 = x3 at *
      have E1 := hid h1
      have E2 := hid h2
      have E3 := hid h3
      clear h1 h2 h3
      have HX := hid (HS6.out.alloc (.cells #[.int .i64 x1, .int .i64 x2, .int .i64 x3] 3))
      have hR := Rd.of_blk (Blk.new wr 3 #[.int .i64 x1, .int .i64 x2, .int .i64 x3]) (n := 3) rfl
      have HR := hid hR
      clear hR
      go_wp2_with fail
      go_region_held3 (fun w' => w'.cell? ⟨w.heap.size, 8, none⟩ = some (.slice (some ⟨tb, tf, none⟩) r.txns.length tc) ∧ w'.cell? ⟨tb, tf + k * 3, none⟩ = some (.int .i64 x1) ∧ w'.cell? ⟨tb, tf + k * 3 + 1, none⟩ = some (.int .i64 x2) ∧ w'.cell? ⟨tb, tf + k * 3 + 2, none⟩ = some (.int .i64 x3))
        (first
          | (exact ⟨(box11 hS8.box).2.2.2.2.2.2.2.2.1, (hS8.buf.be.cell (p := ⟨tb, tf + k * 3, none⟩) htb).trans T0.out, (hS8.buf.be.cell (p := ⟨tb, tf + k * 3 + 1, none⟩) htb).trans T1.out, (hS8.buf.be.cell (p := ⟨tb, tf + k * 3 + 2, none⟩) htb).trans T2.out⟩)
          | (exact ⟨(box11 hF7.box).2.2.2.2.2.2.2.2.1, (hF7.buf.be.cell (p := ⟨tb, tf + k * 3, none⟩) htb).trans T0.out, (hF7.buf.be.cell (p := ⟨tb, tf + k * 3 + 1, none⟩) htb).trans T1.out, (hF7.buf.be.cell (p := ⟨tb, tf + k * 3 + 2, none⟩) htb).trans T2.out⟩)
          | (exact ⟨e8, d0, d1, d2⟩)
          | go_keep)
        (first
          | (go_at_call 25
             refine (rall_ok [x1, x2, x3] _ 3 3 _ (by exact HR.out) rfl (by simp)).mono ?_
             rintro e w7 ⟨A7, N7, c7, rfl, hb7⟩
             have hF7 := HX.out.fresh ⟨hb7.be.os, hb7.be.tape, hb7.be.output, hb7.be.size, hb7.be.block⟩
             have l7 : N7 = 24 := by rw [hb7.len]; simp [length_num8]
             subst l7)
          | ((refine step_append_any _ (by rfl) _ _ _ (by rfl) w.heap.size 5 i0 _ 1 1 Try.underlying23 hi hz0 hz1 hz2 rfl (by omega) _ N6 _ (by rfl) hF7.buf.own _ 24 c7 _ (by rfl) hb7.rd (u8s_one _) (by unfold maxLen; omega) (by omega) hF7.buf.be.size ?_); intro v8 w8 hown8 hgr8 hat8; obtain ⟨A8, N8, c8, rfl, hS8, hK8⟩ := hF7.append (by simp [length_num8]) hown8 hgr8 hat8))
      have HS8 : Hid (EncS w w8 r _ A8 N8 c8 (R5 r (k + 1))) := hid (by
        rw [R5_succ r k hlt, E1.out, E2.out, E3.out]
        exact hS8)
      clear hS8 hF7 hb7 hown8 hgr8 hat8 HX HR e6 e7 e8 e9 e10 d0 d1 d2 hK8
      go_wp2
      go_roundw
      case rel => exact ⟨k + 1, by omega, by go_num, A8, N8, c8, rfl, HS8.out⟩
      case measure => simp [intOf]; omega
    · have hk' : Hid (k = r.txns.length) := hid (by omega)
      have hlt' : decide ((k : Int) < (r.txns.length : Int)) = false := by simp; omega
      go_wp2_with fail
      refine (rnum_ok _ _).mono ?_
      rintro e wn6 ⟨An6, Nn6, cn6, rfl, hbn6⟩
      have HFn6 := hid (HS6.out.fresh hbn6.be)
      have HNn6 := hid hbn6
      have ln6 : Nn6 = 8 := by rw [hbn6.len, length_num8]
      subst ln6
      clear hbn6 HS6
      go_wp2_with (at_builtin; refine wpList_append_any _ rfl (.tmp 72) (.tmp 76) 23 rfl w.heap.size 5 i0 _ 1 1 Try.underlying23 hi hz0 hz1 hz2 rfl (by omega) _ N6 _ rfl HFn6.out.buf.own _ 8 cn6 _ rfl HNn6.out.rd (u8s_one _) (by unfold maxLen; omega) (by omega) HFn6.out.buf.be.size ?_)
      intro v7 w7 hown hgr hat
      obtain ⟨A7, N7, c7, rfl, hS7, _⟩ := HFn6.out.append (length_num8 _) hown hgr hat
      rw [hk'.out, ← R6_zero r] at hS7
      have HS7 := hid hS7
      clear hS7 hown hgr hat HFn6 HNn6 lN6
      clear e6 e7 e8 e9 e10 hlt'
      obtain ⟨_, _, _, _, _, _, e6, e7, e8, e9, e10⟩ := box11 HS7.out.box
      go_wp2_with fail
      go_loopw [3, 5] (fun v i wr => ∃ k : Nat, k ≤ r.dirty.length ∧ i = .int .i64 k ∧ ∃ A N c, v = .slice A N c ∧ EncS w wr r #[.int .i64 r.kind, .int .i64 r.txn, .int .i64 r.prev, .int .i64 r.next, .int .i64 r.page, .int .i64 r.off, .slice BA r.before.length bc, .slice AA r.after.length ac, .slice TA r.txns.length tc, .slice DA r.dirty.length dc, .int .i64 r.count] A N c (R6 r k)) (fun _ i _ => r.dirty.length - (intOf i).toNat)
      case atStart => exact ⟨0, by omega, rfl, A7, N7, c7, rfl, HS7.out⟩
      case round =>
        obtain ⟨k2, hk2, rfl, A8, N8, c8, rfl, hS8⟩ := hrel
        have HS8 := hid hS8
        clear hS8 HS7 e6 e7 e8 e9 e10
        have hl8 := hid (length_R6 r k2)
        have lN8 : N8 ≤ 50000000 := by have h1 := HS8.out.buf.len; have h2 := hl8.out; omega
        obtain ⟨_, _, _, _, _, _, e6, e7, e8, e9, e10⟩ := box11 HS8.out.box
        by_cases hlt2 : k2 < r.dirty.length
        · obtain ⟨tb, tf, rfl, htb, t0, t1⟩ := H.out.dir k2 hlt2
          have d0 := (HS8.out.buf.be.cell (p := ⟨tb, tf + k2 * 2, none⟩) htb).trans t0
          have d1 := (HS8.out.buf.be.cell (p := ⟨tb, tf + k2 * 2 + 1, none⟩) htb).trans t1
          have hlt2' : (k2 : Int) < (r.dirty.length : Int) := by omega
          have T0 := hid t0
          have T1 := hid t1
          clear t0 t1
          generalize h1 : r.dirty[k2].1 = x1 at *
          generalize h2 : r.dirty[k2].2 = x2 at *
          have E1 := hid h1
          have E2 := hid h2
          clear h1 h2
          have HX := hid (HS8.out.alloc (.cells #[.int .i64 x1, .int .i64 x2] 3))
          have hR := Rd.of_blk (Blk.new wr 3 #[.int .i64 x1, .int .i64 x2]) (n := 2) rfl
          have HR := hid hR
          clear hR
          go_wp2_with fail
          go_region_held3 (fun w' => w'.cell? ⟨w.heap.size, 9, none⟩ = some (.slice (some ⟨tb, tf, none⟩) r.dirty.length dc) ∧ w'.cell? ⟨tb, tf + k2 * 2, none⟩ = some (.int .i64 x1) ∧ w'.cell? ⟨tb, tf + k2 * 2 + 1, none⟩ = some (.int .i64 x2))
            (first
              | (exact ⟨(box11 hS9.box).2.2.2.2.2.2.2.2.2.1, (hS9.buf.be.cell (p := ⟨tb, tf + k2 * 2, none⟩) htb).trans T0.out, (hS9.buf.be.cell (p := ⟨tb, tf + k2 * 2 + 1, none⟩) htb).trans T1.out⟩)
              | (exact ⟨(box11 hF7.box).2.2.2.2.2.2.2.2.2.1, (hF7.buf.be.cell (p := ⟨tb, tf + k2 * 2, none⟩) htb).trans T0.out, (hF7.buf.be.cell (p := ⟨tb, tf + k2 * 2 + 1, none⟩) htb).trans T1.out⟩)
              | (exact ⟨e9, d0, d1⟩)
              | go_keep)
            (first
              | (go_at_call 25
                 refine (rall_ok [x1, x2] _ 2 2 _ (by exact HR.out) rfl (by simp)).mono ?_
                 rintro e w7 ⟨A7, N7, c7, rfl, hb7⟩
                 have hF7 := HX.out.fresh ⟨hb7.be.os, hb7.be.tape, hb7.be.output, hb7.be.size, hb7.be.block⟩
                 have l7 : N7 = 16 := by rw [hb7.len]; simp [length_num8]
                 subst l7)
              | ((refine step_append_any _ (by rfl) _ _ _ (by rfl) w.heap.size 5 i0 _ 1 1 Try.underlying23 hi hz0 hz1 hz2 rfl (by omega) _ N8 _ (by rfl) hF7.buf.own _ 16 c7 _ (by rfl) hb7.rd (u8s_one _) (by unfold maxLen; omega) (by omega) hF7.buf.be.size ?_); intro v9 w9 hown9 hgr9 hat9; obtain ⟨A9, N9, c9, rfl, hS9, hK9⟩ := hF7.append (by simp [length_num8]) hown9 hgr9 hat9))
          have HS9 : Hid (EncS w w9 r _ A9 N9 c9 (R6 r (k2 + 1))) := hid (by
            rw [R6_succ r k2 hlt2, E1.out, E2.out]
            exact hS9)
          clear hS9 hF7 hb7 hown9 hgr9 hat9 HX HR e6 e7 e8 e9 e10 d0 d1 hK9
          go_wp2
          go_roundw
          case rel => exact ⟨k2 + 1, by omega, by go_num, A9, N9, c9, rfl, HS9.out⟩
          case measure => simp [intOf]; omega
        · have hk2' : Hid (k2 = r.dirty.length) := hid (by omega)
          have hlt2' : decide ((k2 : Int) < (r.dirty.length : Int)) = false := by simp; omega
          go_wp2_with fail
          refine (rnum_ok _ _).mono ?_
          rintro e wn8 ⟨An8, Nn8, cn8, rfl, hbn8⟩
          have HFn8 := hid (HS8.out.fresh hbn8.be)
          have HNn8 := hid hbn8
          have ln8 : Nn8 = 8 := by rw [hbn8.len, length_num8]
          subst ln8
          clear hbn8 HS8
          go_wp2_with (at_builtin; refine wpList_append_any _ rfl (.tmp 101) (.tmp 104) 23 rfl w.heap.size 5 i0 _ 1 1 Try.underlying23 hi hz0 hz1 hz2 rfl (by omega) _ N8 _ rfl HFn8.out.buf.own _ 8 cn8 _ rfl HNn8.out.rd (u8s_one _) (by unfold maxLen; omega) (by omega) HFn8.out.buf.be.size ?_)
          intro v9 w9 hown hgr hat
          obtain ⟨A9, N9, c9, rfl, hS9, _⟩ := HFn8.out.append (length_num8 _) hown hgr hat
          rw [hk2'.out, R7 r] at hS9
          have HS9 := hid hS9
          clear hS9 hown hgr hat HFn8 HNn8 lN8
          have l9 : N9 ≤ 50000000 := by have h1 := HS9.out.buf.len; have h2 := hsz8.out; omega
          go_wp2_with fail
          refine (rnum_ok _ _).mono ?_
          rintro e w10 ⟨A10, N10, c10, rfl, hb10⟩
          have HF10 := hid (HS9.out.fresh hb10.be)
          have HN10 := hid (hb10.weaken HS9.out.buf.be)
          have l10 : N10 = 8 := by rw [hb10.len, length_num8]
          subst l10
          clear hb10
          go_wp2_with (at_builtin; refine wpList_append_any _ rfl (.tmp 108) (.tmp 109) 23 rfl w.heap.size 5 i0 _ 1 1 Try.underlying23 hi hz0 hz1 hz2 rfl (by omega) _ 8 _ rfl HN10.out.own _ N9 c9 _ rfl HF10.out.buf.rd (u8s_one _) (by unfold maxLen; omega) (by omega) HN10.out.be.size ?_)
          intro v11 w11 hown hgr hat
          obtain ⟨A11, N11, c11, rfl, hS11, _⟩ := HN10.out.append HS9.out.buf.len.symm hown hgr hat
          have HS11 := hid hS11
          have HL9 := hid HS9.out.buf.len
          clear hS11 hown hgr hat
          go_wp2
          go_ret
          refine ⟨A11, N11, c11, rfl, ?_⟩
          have h := HS11.out
          have e : ((N9 : Nat) : Int) = (r.size : Int) - 8 := by have h1 := HL9.out; have h2 := hsz8.out; omega
          rw [e] at h
          exact h
end Go.Proofs.Ytkpopjpmjcgbfaa
