/- The walk of Decode of package rec. Conditions: sizes. -/
import Derived.Test.YtkpopjpmjcgbfaaDcs
import Derived.BigRegion
namespace Go.Proofs.Ytkpopjpmjcgbfaa
open Go.RowKit
set_option maxRecDepth 100000
set_option linter.unusedVariables false
set_option linter.unusedSimpArgs false

/-- what Decode hands out is new, and reads as the record -/
structure RecNew (base : Nat) (w : World) (r : MRec) (BA AA TA DA : Option Addr) : Prop where
  nb : NewRow base w 5 1 BA r.before.length (u8s r.before)
  na : NewRow base w 5 1 AA r.after.length (u8s r.after)
  nt : NewRow base w 43 3 TA r.txns.length (txV r.txns)
  nd : NewRow base w 45 2 DA r.dirty.length (diV r.dirty)
theorem RecNew.mem {base : Nat} {w : World} {r : MRec} {BA AA TA DA : Option Addr} (h : RecNew base w r BA AA TA DA) : RecMem w r BA AA TA DA := ⟨h.nb.rd, h.na.rd, h.nt.rd, h.nd.rd⟩

def decR (bs : List UInt8) : MRec := match dec bs with | none => rec0 | some x => x.1
def decK (bs : List UInt8) : Nat := match dec bs with | none => 0 | some x => x.2
def decB (bs : List UInt8) : Bool := (dec bs).isSome

theorem info43 : (Try.prog.info? 43).map (fun i => (i.zero, i.size, i.bytes)) = some (some (.agg #[.int .i64 0, .int .i64 0, .int .i64 0]), 3, 24) := by kernel_rfl
theorem info45 : (Try.prog.info? 45).map (fun i => (i.zero, i.size, i.bytes)) = some (some (.agg #[.int .i64 0, .int .i64 0]), 2, 16) := by kernel_rfl

/-- what Decode does -/
def DecPost (bs : List UInt8) (w : World) (e : Ending) (w' : World) : Prop :=
  ∃ BA bc AA ac TA tc DA dc, e = .returned (.tuple #[recVal (decR bs) BA bc AA ac TA tc DA dc, .int .i64 (decK bs), .bool (decB bs)]) ∧ RecNew w.heap.size w' (decR bs) BA AA TA DA ∧ Below w.heap.size w w'

theorem dec_none1 (bs : List UInt8) (h : (RS.num ⟨bs, false⟩).2.bad = true ∨ (RS.num ⟨bs, false⟩).2.b.length < (RS.num ⟨bs, false⟩).1) : dec bs = none := by
  unfold dec
  simp only []
  rw [if_pos h]
theorem dec_none2 (bs : List UInt8) (h : (RS.full ⟨(RS.num ⟨bs, false⟩).2.b.take (RS.num ⟨bs, false⟩).1, false⟩).2.bad = true ∨ (RS.full ⟨(RS.num ⟨bs, false⟩).2.b.take (RS.num ⟨bs, false⟩).1, false⟩).2.b ≠ []) : dec bs = none := by
  unfold dec
  simp only []
  split
  · rfl
  · first | rfl | rw [if_pos h]
theorem dec_some (bs : List UInt8) (h1 : (RS.num ⟨bs, false⟩).2.bad = false) (h2 : (RS.num ⟨bs, false⟩).1 ≤ (RS.num ⟨bs, false⟩).2.b.length) (h3 : (RS.full ⟨(RS.num ⟨bs, false⟩).2.b.take (RS.num ⟨bs, false⟩).1, false⟩).2.bad = false)
    (h4 : (RS.full ⟨(RS.num ⟨bs, false⟩).2.b.take (RS.num ⟨bs, false⟩).1, false⟩).2.b = []) : dec bs = some ((RS.full ⟨(RS.num ⟨bs, false⟩).2.b.take (RS.num ⟨bs, false⟩).1, false⟩).1, (RS.num ⟨bs, false⟩).1 + 8) := by
  unfold dec
  simp only []
  rw [if_neg (by rw [h1]; simp; omega), if_neg (by rw [h3, h4]; simp)]

theorem own_cap {w : World} {base : Nat} {e : TypeId} {size n c : Nat} {A : Option Addr} {xs : List Value} (h : w.ownsRow base e size (.slice A n c) n xs) : n ≤ c := by
  rcases h.2 with ⟨h', h0⟩ | ⟨g, cap, cur, h', _, _, hle, _⟩
  · omega
  · injection h' with _ _ h'; omega
theorem rd_one3 (w : World) (t : TypeId) (a b c : Value) : Rd (w.alloc (.cells #[a, b, c] t)) 3 (some ⟨w.heap.size, 0, none⟩) 1 [a, b, c] :=
  ⟨rfl, fun _ => ⟨_, rfl, by simp, fun j u hu => by rw [Addr.add_lit, Nat.zero_add, (Blk.new w t #[a, b, c]).cell]; simpa using hu⟩⟩
theorem rd_one2 (w : World) (t : TypeId) (a b : Value) : Rd (w.alloc (.cells #[a, b] t)) 2 (some ⟨w.heap.size, 0, none⟩) 1 [a, b] :=
  ⟨rfl, fun _ => ⟨_, rfl, by simp, fun j u hu => by rw [Addr.add_lit, Nat.zero_add, (Blk.new w t #[a, b]).cell]; simpa using hu⟩⟩

set_option maxHeartbeats 6400000 in
theorem decode_any (A : Option Addr) (n c : Nat) (bs : List UInt8) (w : World) (hr : Rd w 1 A n (u8s bs)) (hn : n = bs.length) (hc : n ≤ c) (hsz : bs.length ≤ 40000000) (hA : ∀ ad, A = some ad → ad.block < w.heap.size) :
    Calls Try.prog 11 #[.slice A n c] w fun e w' => DecPost bs w e w' := by
  obtain ⟨i43, hi43, ha0, ha1, ha2⟩ := info_parts info43
  obtain ⟨i45, hi45, hb0, hb1, hb2⟩ := info_parts info45
  have hD0 : DRec w ((w.alloc (.cells (recCells rec0 none 0 none 0 none 0 none 0) 28)).alloc (.cells #[.slice A n c, .bool false] 52)) 52 w.heap.size (w.heap.size + 1) ⟨bs, false⟩ rec0 none 0 none 0 none 0 none 0 := by
    have hb2 := Blk.new (w.alloc (.cells (recCells rec0 none 0 none 0 none 0 none 0) 28)) 52 #[.slice A n c, .bool false]
    have hsz1 : (w.alloc (.cells (recCells rec0 none 0 none 0 none 0 none 0) 28)).heap.size = w.heap.size + 1 := by simp
    rw [hsz1] at hb2
    have hbe : Below w.heap.size w ((w.alloc (.cells (recCells rec0 none 0 none 0 none 0 none 0) 28)).alloc (.cells #[.slice A n c, .bool false] 52)) := ((Below.refl _ w).alloc (Nat.le_refl _) _).alloc (by simp) _
    have hrd : RdAt w.heap.size ((w.alloc (.cells (recCells rec0 none 0 none 0 none 0 none 0) 28)).alloc (.cells #[.slice A n c, .bool false] 52)) 52 (w.heap.size + 1) ⟨bs, false⟩ := ⟨A, n, c, hb2, by omega, hA, hc, fun _ => hn, fun _ => hr.below hbe⟩
    exact ⟨hbe, hrd, (Blk.new w 28 _).alloc _, NewRow.nil, NewRow.nil, World.ownsRow_nil _ _ _ _, World.ownsRow_nil _ _ _ _, by omega, by omega, ⟨_, hb2⟩, .inl rfl⟩
  have HD0 := hid hD0
  have hnl := hid (num_len ⟨bs, false⟩)
  have hle := hid (num_le ⟨bs, false⟩)
  have hN1 := hid (dec_none1 bs)
  have hN2 := hid (dec_none2 bs)
  have hN3 := hid (dec_some bs)
  have Hn0 := hid hn
  clear hr hA hD0 hn
  go_enter Try.func11, Try.ntmps11
  go_wp2_with fail
  refine (d_num HD0.out).mono ?_
  rintro e w1 ⟨rfl, h1⟩
  generalize hk : RS.num ⟨bs, false⟩ = N at *
  obtain ⟨k, s1⟩ := N
  simp only [] at *
  have H1 := hid h1
  have hkl := hle.out
  obtain ⟨A1, n1, c1, hr1⟩ := h1.rdr
  have R1 := hid hr1
  have d0 : w1.cell? ⟨w.heap.size + 1, 0, none⟩ = some (.slice A1 n1 c1) := hr1.box.cell_ 0 rfl
  have d1 : w1.cell? ⟨w.heap.size + 1, 1, none⟩ = some (.bool s1.bad) := hr1.box.cell_ 1 rfl
  have f0 := hr1.box.frozen 0
  have f1 := hr1.box.frozen 1
  have hcap := hr1.cap
  obtain ⟨⟨x0, x1, x2, x3, x4, x5, x6, x7, x8, x9, x10⟩, hfz⟩ := blk11 h1.box
  clear h1 hr1 HD0 hk
  by_cases hbad : s1.bad = true
  · rw [hbad] at d1
    have hz := hid (hN1.out (.inl hbad))
    clear hbad
    go_wp2_with fail
    refine bodyPost_ret (results_cell3 rfl _ _ w.heap.size 28 _ _ rfl (blk_store11 _ _ _ _ _ _ _ _ _ _ _ H1.out.box) Try.underlying28 rfl (by kernel_rfl)) rfl ?_
    have e1 : decR bs = rec0 := by rw [decR, hz.out]
    have e2 : decK bs = 0 := by rw [decK, hz.out]
    have e3 : decB bs = false := by rw [decB, hz.out]; rfl
    exact ⟨none, 0, none, 0, none, 0, none, 0, by rw [e1, e2, e3]; rfl, by rw [e1]; exact ⟨NewRow.nil, NewRow.nil, NewRow.nil, NewRow.nil⟩, H1.out.be.trans ((chg_store11 w.heap.size _ _ _ _ _ _ _ _ _ _ _).below H1.out.be.size (fun i hi => by omega))⟩
  · have hb : s1.bad = false := by simpa using hbad
    rw [hb] at d1
    have Hb := hid hb
    have Hn1 := hid (R1.out.len hb)
    clear hbad hb
    by_cases hlt : n1 < k
    · have hz := hid (hN1.out (.inr (by have := Hn1.out; omega)))
      go_wp2_with fail
      refine bodyPost_ret (results_cell3 rfl _ _ w.heap.size 28 _ _ rfl (blk_store11 _ _ _ _ _ _ _ _ _ _ _ H1.out.box) Try.underlying28 rfl (by kernel_rfl)) rfl ?_
      have e1 : decR bs = rec0 := by rw [decR, hz.out]
      have e2 : decK bs = 0 := by rw [decK, hz.out]
      have e3 : decB bs = false := by rw [decB, hz.out]; rfl
      exact ⟨none, 0, none, 0, none, 0, none, 0, by rw [e1, e2, e3]; rfl, by rw [e1]; exact ⟨NewRow.nil, NewRow.nil, NewRow.nil, NewRow.nil⟩, H1.out.be.trans ((chg_store11 w.heap.size _ _ _ _ _ _ _ _ _ _ _).below H1.out.be.size (fun i hi => by omega))⟩
    · have hrd := R1.out.rd Hb.out
      obtain ⟨hsl1, hr1⟩ := sl_to hrd k k rfl (by omega) hcap
      have e1 : (u8s s1.b).take k = u8s (s1.b.take k) := by simp [u8s, List.map_take]
      rw [e1] at hr1
      have hkb : k ≤ s1.b.length := by have := Hn1.out; omega
      have hD2 : Hid (DRec w (w1.setCell ⟨w.heap.size + 1, 0, none⟩ (.slice A1 k c1)) 52 w.heap.size (w.heap.size + 1) ⟨s1.b.take k, false⟩ rec0 none 0 none 0 none 0 none 0) := hid (by
        refine H1.out.turn (R1.out.turn Hb.out R1.out.far (by omega) (by simp; omega) hr1) (chg_set _ 0 _))
      have hz1 := hid (fun h => hN2.out h)
      have hz2 := hid (hN3.out Hb.out hkb)
      have hk4 : k ≤ 40000000 := by have h1 := (hnl.out Hb.out).2.1; omega
      have hT := hid (show (s1.b.take k).length ≤ 40000000 by simp; omega)
      have H2 := hD2
      generalize hs : (⟨s1.b.take k, false⟩ : RS) = s at *
      have hsb := hid (show s.b.length ≤ 40000000 by rw [← hs]; exact hT.out)
      clear hrd hr1 e1 hs hcap R1 H1 hN1 hN2 hN3 hnl hle hD2 hT Hn1 Hb x0 x1 x2 x3 x4 x5 x6 x7 x8 x9 x10 hfz
      go_wp2_with fail
      refine (d_num H2.out).mono ?_
      rintro e w3 ⟨rfl, h3⟩
      have hq3 := hid (num_le s)
      have hv3 := hid (num_len s)
      have hw3 := hid (num_sh s)
      generalize e3 : RS.num s = N at *
      obtain ⟨k3, s3⟩ := N
      simp only [] at h3 hq3 hv3 hw3 ⊢
      have E3 := hid e3
      have H3 := hid h3
      clear e3 h3 H2
      go_wp2_with fail
      refine (d_num H3.out).mono ?_
      rintro e w4 ⟨rfl, h4⟩
      have hq4 := hid (num_le s3)
      have hv4 := hid (num_len s3)
      have hw4 := hid (num_sh s3)
      generalize e4 : RS.num s3 = N at *
      obtain ⟨k4, s4⟩ := N
      simp only [] at h4 hq4 hv4 hw4 ⊢
      have E4 := hid e4
      have H4 := hid h4
      clear e4 h4 H3
      go_wp2_with fail
      refine (d_num H4.out).mono ?_
      rintro e w5 ⟨rfl, h5⟩
      have hq5 := hid (num_le s4)
      have hv5 := hid (num_len s4)
      have hw5 := hid (num_sh s4)
      generalize e5 : RS.num s4 = N at *
      obtain ⟨k5, s5⟩ := N
      simp only [] at h5 hq5 hv5 hw5 ⊢
      have E5 := hid e5
      have H5 := hid h5
      clear e5 h5 H4
      go_wp2_with fail
      refine (d_num H5.out).mono ?_
      rintro e w6 ⟨rfl, h6⟩
      have hq6 := hid (num_le s5)
      have hv6 := hid (num_len s5)
      have hw6 := hid (num_sh s5)
      generalize e6 : RS.num s5 = N at *
      obtain ⟨k6, s6⟩ := N
      simp only [] at h6 hq6 hv6 hw6 ⊢
      have E6 := hid e6
      have H6 := hid h6
      clear e6 h6 H5
      go_wp2_with fail
      refine (d_num H6.out).mono ?_
      rintro e w7 ⟨rfl, h7⟩
      have hq7 := hid (num_le s6)
      have hv7 := hid (num_len s6)
      have hw7 := hid (num_sh s6)
      generalize e7 : RS.num s6 = N at *
      obtain ⟨k7, s7⟩ := N
      simp only [] at h7 hq7 hv7 hw7 ⊢
      have E7 := hid e7
      have H7 := hid h7
      clear e7 h7 H6
      go_wp2_with fail
      refine (d_num H7.out).mono ?_
      rintro e w8 ⟨rfl, h8⟩
      have hq8 := hid (num_le s7)
      have hv8 := hid (num_len s7)
      have hw8 := hid (num_sh s7)
      generalize e8 : RS.num s7 = N at *
      obtain ⟨k8, s8⟩ := N
      simp only [] at h8 hq8 hv8 hw8 ⊢
      have E8 := hid e8
      have H8 := hid h8
      clear e8 h8 H7
      obtain ⟨⟨x0, x1, x2, x3, x4, x5, x6, x7, x8, x9, x10⟩, hfz⟩ := blk11 H8.out.box
      have H9 := hid ((((((H8.out.set 0 (.int .i64 k3) { rec0 with kind := k3 } rfl rfl rfl rfl rfl).set 1 (.int .i64 k4) { rec0 with kind := k3, txn := k4 } rfl rfl rfl rfl rfl).set 2 (.int .i64 k5) { rec0 with kind := k3, txn := k4, prev := k5 } rfl rfl rfl rfl rfl).set 3 (.int .i64 k6) { rec0 with kind := k3, txn := k4, prev := k5, next := k6 } rfl rfl rfl rfl rfl).set 4 (.int .i64 k7) { rec0 with kind := k3, txn := k4, prev := k5, next := k6, page := k7 } rfl rfl rfl rfl rfl).set 5 (.int .i64 k8) { rec0 with kind := k3, txn := k4, prev := k5, next := k6, page := k7, off := k8 } rfl rfl rfl rfl rfl)
      clear H8
      have hs8 : s8.b.length ≤ 1000000000 := by have := hsb.out; have := hw3.out; have := hw4.out; have := hw5.out; have := hw6.out; have := hw7.out; have := hw8.out; omega
      have hS8 := hid hs8
      clear hs8
      go_wp2_with fail
      refine (d_data H9.out hS8.out).mono ?_
      rintro e w10 ⟨B1, nB, cB, rfl, hnB, hnewB, h10, _⟩
      have hx10 := hid (data_sh s8)
      have hy10 := hid (data_len s8)
      generalize e10 : RS.data s8 = N at *
      obtain ⟨bB, s10⟩ := N
      simp only [] at h10 hnB hnewB hx10 hy10 ⊢
      have E10 := hid e10
      have H10 := hid h10
      have HnB := hid hnB
      have HnewB := hid hnewB
      clear e10 h10 hnB hnewB H9 x0 x1 x2 x3 x4 x5 x6 x7 x8 x9 x10 hfz
      go_wp2_with fail
      refine (d_data H10.out (by have := hx10.out; have := hS8.out; omega)).mono ?_
      rintro e w11 ⟨B2, nA, cA, rfl, hnA, hnewA, h11, hc11⟩
      have hx11 := hid (data_sh s10)
      have hy11 := hid (data_len s10)
      generalize e11 : RS.data s10 = N at *
      obtain ⟨bA, s11⟩ := N
      simp only [] at h11 hnA hnewA hx11 hy11 ⊢
      have E11 := hid e11
      have H11 := hid h11
      have HnA := hid hnA
      have HnewA := hid hnewA
      have HnewB2 := hid (HnewB.out.chg_ty hc11 (by rintro g rfl cs hk; obtain ⟨csP, hP⟩ := H10.out.tp; exact hk.ne_ hP (by decide) rfl))
      obtain ⟨⟨x0, x1, x2, x3, x4, x5, x6, x7, x8, x9, x10⟩, hfz⟩ := blk11 H11.out.box
      have H12 := hid ((H11.out.setB bB B1 nB cB HnB.out HnewB2.out).setA bA B2 nA cA HnA.out ((H11.out.store 6 (.slice B1 nB cB) _ rfl).2.2.2.1 _ _ _ _ _ (by decide) HnewA.out))
      clear e11 h11 hnA hnewA hc11 H10 H11 HnewB
      have H12' : Hid (DRec w _ 52 w.heap.size (w.heap.size + 1) s11 (MRec.mk k3 k4 k5 k6 k7 k8 bB bA [] [] 0) B1 cB B2 cA none 0 none 0) := H12
      clear H12
      rename Hid (DRec w _ 52 w.heap.size (w.heap.size + 1) s11 (MRec.mk k3 k4 k5 k6 k7 k8 bB bA [] [] 0) B1 cB B2 cA none 0 none 0) => H12
      have hs11 := hid (show s11.b.length ≤ 40000000 by have := hsb.out; have := hw3.out; have := hw4.out; have := hw5.out; have := hw6.out; have := hw7.out; have := hw8.out; have := hx10.out; have := hx11.out; omega)
      go_wp2_with fail
      refine (d_num H12.out).mono ?_
      rintro e w13 ⟨rfl, h13⟩
      have hq13 := hid (num_le s11)
      have hv13 := hid (num_len s11)
      have hw13 := hid (num_sh s11)
      generalize e13 : RS.num s11 = N at *
      obtain ⟨k13, s13⟩ := N
      simp only [] at h13 hq13 hv13 hw13 ⊢
      have E13 := hid e13
      have H13 := hid h13
      clear e13 h13 H12
      have hs13 := hid (show s13.b.length ≤ 40000000 by have := hs11.out; have := hw13.out; omega)
      clear hlt hsl1 d0 d1 f0 f1 x0 x1 x2 x3 x4 x5 x6 x7 x8 x9 x10 hfz HnA HnewA HnB HnewB2
      go_upto_block 0 with fail
      go_cut [7] (fun kk wr => ∃ (t : RS) (l : List (Int × Int × Int)) (TA : Option Addr) (tc : Nat), DRec w wr 52 w.heap.size (w.heap.size + 1) t (MRec.mk k3 k4 k5 k6 k7 k8 bB bA l [] 0) B1 cB B2 cA TA tc none 0 ∧ RS.txns k13 s13 = (l, t) ∧ l.length ≤ 40000001 ∧ t.b.length ≤ 40000000)
      case first =>
        as_aux_lemma =>
          go_wp2_with fail
          go_loopw [7] (fun kk wr => ∃ (j : Nat) (t : RS) (l : List (Int × Int × Int)) (TA : Option Addr) (tc : Nat), kk = .int .i64 j ∧ j ≤ 4611686018427387904 ∧ DRec w wr 52 w.heap.size (w.heap.size + 1) t (MRec.mk k3 k4 k5 k6 k7 k8 bB bA l [] 0) B1 cB B2 cA TA tc none 0 ∧
            RS.txns k13 s13 = (l ++ (RS.txns j t).1, (RS.txns j t).2) ∧ l.length ≤ 40000001 ∧ (t.bad = false → 24 * l.length + t.b.length ≤ 40000000) ∧ t.b.length ≤ 40000000) (fun kk _ => (intOf kk).toNat)
          case atStart => exact ⟨k13, s13, [], none, 0, rfl, hq13.out, H13.out, by simp, by simp, fun _ => by have := hs13.out; simp; omega, hs13.out⟩
          case round =>
            obtain ⟨j, t, l, TA, tc, rfl, hj, hD, hT, hl, hlb, htb⟩ := hrel
            have HD := hid hD
            have HT := hid hT
            have Hlb := hid hlb
            obtain ⟨A', n', c', hr⟩ := hD.rdr
            have d1 : wr.cell? ⟨w.heap.size + 1, 1, none⟩ = some (.bool t.bad) := hr.box.cell_ 1 rfl
            clear hD hT hlb hr H13
            by_cases hst : j = 0 ∨ t.bad = true
            · have hfin := hid (txns_stop j t hst)
              by_cases hj0 : j = 0
              · have hj0' : decide ((0 : Int) < (j : Int)) = false := by simp; omega
                clear hst
                go_wp2
                go_meet
                exact ⟨t, l, TA, tc, HD.out, by rw [HT.out, hfin.out]; simp, hl, htb⟩
              · have hj1' : (0 : Int) < (j : Int) := by omega
                have hb : t.bad = true := by simpa [hj0] using hst
                rw [hb] at d1
                clear hst hb
                go_wp2
                go_meet
                exact ⟨t, l, TA, tc, HD.out, by rw [HT.out, hfin.out]; simp, hl, htb⟩
            · have hj1 : 0 < j := by simp only [not_or] at hst; omega
              have hj1' : (0 : Int) < (j : Int) := by omega
              have hb : t.bad = false := by cases h : t.bad <;> simp_all
              rw [hb] at d1
              have Hb := hid hb
              have hstep : Hid (RS.txns j t = (t.txn.1 :: (RS.txns (j - 1) t.txn.2).1, (RS.txns (j - 1) t.txn.2).2)) := hid (by
                have e : j = (j - 1) + 1 := by omega
                generalize j - 1 = i at e
                subst e
                exact txns_go i t hb)
              have htl := hid (txn_len t)
              have hts := hid (show t.txn.2.b.length ≤ 40000000 from Nat.le_trans (Nat.le_trans (num_sh _) (Nat.le_trans (num_sh _) (num_sh t))) htb)
              clear hst hb
              obtain ⟨⟨_, _, _, _, _, _, _, _, y8, _, _⟩, hfz⟩ := blk11 HD.out.box
              go_wp2_with fail
              go_region_law
                (first
                  | (go_simp; go_at_call 20
                     (first | refine (d_num hT2).mono ?_ | refine (d_num hT2.drew).mono ?_)
                     rintro e u3 ⟨rfl, hT3⟩
                     have z3 : u3.cell? ⟨w.heap.size, 8, none⟩ = some (.slice TA l.length tc) := hT3.box.cell_ 8 rfl
                     have z4 : (u3.alloc (.cells #[.int .i64 t.num.1, .int .i64 t.num.2.num.1, .int .i64 t.num.2.num.2.num.1] 43)).cell? ⟨w.heap.size, 8, none⟩ = some (.slice TA l.length tc) := (hT3.alloc _).box.cell_ 8 rfl)
                  | (go_simp; go_at_call 20
                     (first | refine (d_num hT1).mono ?_ | refine (d_num hT1.drew).mono ?_)
                     rintro e u2 ⟨rfl, hT2⟩
                     have z2 : u2.cell? ⟨w.heap.size, 8, none⟩ = some (.slice TA l.length tc) := hT2.box.cell_ 8 rfl)
                  | (go_simp; go_at_call 20
                     (first | refine (d_num HD.out).mono ?_ | refine (d_num HD.out.drew).mono ?_)
                     rintro e u1 ⟨rfl, hT1⟩
                     have z1 : u1.cell? ⟨w.heap.size, 8, none⟩ = some (.slice TA l.length tc) := hT1.box.cell_ 8 rfl)
                  | ((have hX := hT3.alloc (.cells #[.int .i64 t.num.1, .int .i64 t.num.2.num.1, .int .i64 t.num.2.num.2.num.1] 43)); (refine step_append_any _ (by rfl) _ _ _ (by rfl) w.heap.size 43 i43 _ 3 24 Try.underlying25 hi43 ha0 ha1 ha2 rfl (by omega) _ l.length _ (by rfl) hX.tx _ 1 1 _ (by rfl) (rd_one3 _ _ _ _ _) (by simp [Value.oneCell']) (by unfold maxLen; omega) (by omega) hX.be.size ?_); intro v4 w4' hown4 hgr4 hat4; have hbx := (hX.grew_ hX.tx hgr4 (.inl rfl)).2.2.1; obtain ⟨A4, c4, rfl, hD4⟩ := hX.growT t.txn.1 hown4 hgr4; have hfx := hbx.frozen 8; have hcx : w4'.cell? ⟨w.heap.size, 8, none⟩ = some (.slice TA l.length tc) := hbx.cell_ 8 rfl)
                  | go_simp)
              all_goals
                have HD4 := hid hD4
                clear hT1 hT2 hT3 hX hD4 hbx hown4 hgr4 hat4 hfz
                go_wp2
                go_roundw
                case rel =>
                  refine ⟨j - 1, t.txn.2, l ++ [t.txn.1], A4, c4, by congr 1; omega, by omega, HD4.out, by rw [HT.out, hstep.out]; simp, ?_, ?_, hts.out⟩
                  · have := Hlb.out Hb.out; simp; omega
                  · intro hb'; have h1 := htl.out hb'; have h2 := Hlb.out Hb.out; simp; omega
                case measure => simp [intOf]; omega
      case rest =>
        obtain ⟨s14, l, TA, tc, hD, hT, hl, hl14⟩ := hcut
        have H14 := hid hD
        have HT14 := hid hT
        clear hD hT H13
        go_wp2_with fail
        refine (d_num H14.out).mono ?_
        rintro e w15 ⟨rfl, h15⟩
        have hq15 := hid (num_le s14)
        have hv15 := hid (num_len s14)
        have hw15 := hid (num_sh s14)
        generalize e15 : RS.num s14 = N at *
        obtain ⟨k15, s15⟩ := N
        simp only [] at h15 hq15 hv15 hw15 ⊢
        have E15 := hid e15
        have H15 := hid h15
        clear e15 h15 H14
        have hs15 := hid (show s15.b.length ≤ 40000000 by have := hw15.out; omega)
        go_upto_block 2 with fail
        go_cut [8] (fun kk wr => ∃ (t : RS) (l2 : List (Int × Int)) (DA : Option Addr) (dc : Nat), DRec w wr 52 w.heap.size (w.heap.size + 1) t (MRec.mk k3 k4 k5 k6 k7 k8 bB bA l l2 0) B1 cB B2 cA TA tc DA dc ∧ RS.dirs k15 s15 = (l2, t) ∧ l2.length ≤ 40000001 ∧ t.b.length ≤ 40000000)
        case first =>
          as_aux_lemma =>
            go_wp2_with fail
            go_loopw [8] (fun kk wr => ∃ (j : Nat) (t : RS) (l2 : List (Int × Int)) (DA : Option Addr) (dc : Nat), kk = .int .i64 j ∧ j ≤ 4611686018427387904 ∧ DRec w wr 52 w.heap.size (w.heap.size + 1) t (MRec.mk k3 k4 k5 k6 k7 k8 bB bA l l2 0) B1 cB B2 cA TA tc DA dc ∧
              RS.dirs k15 s15 = (l2 ++ (RS.dirs j t).1, (RS.dirs j t).2) ∧ l2.length ≤ 40000001 ∧ (t.bad = false → 16 * l2.length + t.b.length ≤ 40000000) ∧ t.b.length ≤ 40000000) (fun kk _ => (intOf kk).toNat)
            case atStart => exact ⟨k15, s15, [], none, 0, rfl, hq15.out, H15.out, by simp, by simp, fun _ => by have := hs15.out; simp; omega, hs15.out⟩
            case round =>
              obtain ⟨j, t, l2, DA, dc, rfl, hj, hD, hT, hl2, hlb, htb⟩ := hrel
              have HD := hid hD
              have HT := hid hT
              have Hlb := hid hlb
              obtain ⟨A', n', c', hr⟩ := hD.rdr
              have d1 : wr.cell? ⟨w.heap.size + 1, 1, none⟩ = some (.bool t.bad) := hr.box.cell_ 1 rfl
              clear hD hT hlb hr H15
              by_cases hst : j = 0 ∨ t.bad = true
              · have hfin := hid (dirs_stop j t hst)
                by_cases hj0 : j = 0
                · have hj0' : decide ((0 : Int) < (j : Int)) = false := by simp; omega
                  clear hst
                  go_wp2
                  go_meet
                  exact ⟨t, l2, DA, dc, HD.out, by rw [HT.out, hfin.out]; simp, hl2, htb⟩
                · have hj1' : (0 : Int) < (j : Int) := by omega
                  have hb : t.bad = true := by simpa [hj0] using hst
                  rw [hb] at d1
                  clear hst hb
                  go_wp2
                  go_meet
                  exact ⟨t, l2, DA, dc, HD.out, by rw [HT.out, hfin.out]; simp, hl2, htb⟩
              · have hj1 : 0 < j := by simp only [not_or] at hst; omega
                have hj1' : (0 : Int) < (j : Int) := by omega
                have hb : t.bad = false := by cases h : t.bad <;> simp_all
                rw [hb] at d1
                have Hb := hid hb
                have hstep : Hid (RS.dirs j t = (t.dir.1 :: (RS.dirs (j - 1) t.dir.2).1, (RS.dirs (j - 1) t.dir.2).2)) := hid (by
                  have e : j = (j - 1) + 1 := by omega
                  generalize j - 1 = i at e
                  subst e
                  exact dirs_go i t hb)
                have htl := hid (dir_len t)
                have hts := hid (show t.dir.2.b.length ≤ 40000000 from Nat.le_trans (Nat.le_trans (num_sh _) (num_sh t)) htb)
                clear hst hb
                obtain ⟨⟨_, _, _, _, _, _, _, _, _, y9, _⟩, hfz⟩ := blk11 HD.out.box
                go_wp2_with fail
                go_region_law
                  (first
                    | (go_simp; go_at_call 20
                       (first | refine (d_num hT1).mono ?_ | refine (d_num hT1.drew).mono ?_)
                       rintro e u2 ⟨rfl, hT2⟩
                       have z2 : u2.cell? ⟨w.heap.size, 9, none⟩ = some (.slice DA l2.length dc) := hT2.box.cell_ 9 rfl
                       have z4 : (u2.alloc (.cells #[.int .i64 t.num.1, .int .i64 t.num.2.num.1] 45)).cell? ⟨w.heap.size, 9, none⟩ = some (.slice DA l2.length dc) := (hT2.alloc _).box.cell_ 9 rfl)
                    | (go_simp; go_at_call 20
                       (first | refine (d_num HD.out).mono ?_ | refine (d_num HD.out.drew).mono ?_)
                       rintro e u1 ⟨rfl, hT1⟩
                       have z1 : u1.cell? ⟨w.heap.size, 9, none⟩ = some (.slice DA l2.length dc) := hT1.box.cell_ 9 rfl)
                    | ((have hX := hT2.alloc (.cells #[.int .i64 t.num.1, .int .i64 t.num.2.num.1] 45)); (refine step_append_any _ (by rfl) _ _ _ (by rfl) w.heap.size 45 i45 _ 2 16 Try.underlying26 hi45 hb0 hb1 hb2 rfl (by omega) _ l2.length _ (by rfl) hX.di _ 1 1 _ (by rfl) (rd_one2 _ _ _ _) (by simp [Value.oneCell']) (by unfold maxLen; omega) (by omega) hX.be.size ?_); intro v4 w4' hown4 hgr4 hat4; have hbx := (hX.grew_ hX.di hgr4 (.inr rfl)).2.2.1; obtain ⟨A4, c4, rfl, hD4⟩ := hX.growD t.dir.1 hown4 hgr4; have hfx := hbx.frozen 9; have hcx : w4'.cell? ⟨w.heap.size, 9, none⟩ = some (.slice DA l2.length dc) := hbx.cell_ 9 rfl)
                    | go_simp)
                all_goals
                  have HD4 := hid hD4
                  clear hT1 hT2 hX hD4 hbx hown4 hgr4 hat4 hfz
                  go_wp2
                  go_roundw
                  case rel =>
                    refine ⟨j - 1, t.dir.2, l2 ++ [t.dir.1], A4, c4, by congr 1; omega, by omega, HD4.out, by rw [HT.out, hstep.out]; simp, ?_, ?_, hts.out⟩
                    · have := Hlb.out Hb.out; simp; omega
                    · intro hb'; have h1 := htl.out hb'; have h2 := Hlb.out Hb.out; simp; omega
                  case measure => simp [intOf]; omega
        case rest =>
          obtain ⟨s16, l2, DA, dc, hD, hT, hl2, hl16⟩ := hcut
          have H16 := hid hD
          have HT16 := hid hT
          clear hD hT H15
          go_wp2_with fail
          refine (d_num H16.out).mono ?_
          rintro e w17 ⟨rfl, h17⟩
          have hq17 := hid (num_le s16)
          have hv17 := hid (num_len s16)
          have hw17 := hid (num_sh s16)
          generalize e17 : RS.num s16 = N at *
          obtain ⟨k17, s17⟩ := N
          simp only [] at h17 hq17 hv17 hw17 ⊢
          have E17 := hid e17
          have H17 := hid h17
          clear e17 h17 H16
          have hfull : Hid (RS.full s = (MRec.mk k3 k4 k5 k6 k7 k8 bB bA l l2 k17, s17)) := hid (by
            simp only [RS.full, E3.out, E4.out, E5.out, E6.out, E7.out, E8.out, E10.out, E11.out, E13.out, HT14.out, E15.out, HT16.out, E17.out])
          obtain ⟨⟨x0, x1, x2, x3, x4, x5, x6, x7, x8, x9, x10⟩, hfz⟩ := blk11 H17.out.box
          have H18 := hid (H17.out.set 10 (.int .i64 k17) (MRec.mk k3 k4 k5 k6 k7 k8 bB bA l l2 k17) rfl rfl rfl rfl rfl)
          obtain ⟨A7, n7, c7, hr7⟩ := H17.out.rdr
          have d0 : w17.cell? ⟨w.heap.size + 1, 0, none⟩ = some (.slice A7 n7 c7) := hr7.box.cell_ 0 rfl
          have d1 : w17.cell? ⟨w.heap.size + 1, 1, none⟩ = some (.bool s17.bad) := hr7.box.cell_ 1 rfl
          have hln7 := hid hr7.len
          clear hr7 H17
          by_cases hbad : s17.bad = true
          · rw [hbad] at d1
            have hz := hid (hz1.out (by rw [hfull.out]; exact .inl hbad))
            clear hbad
            go_wp2_with fail
            refine bodyPost_ret (results_cell3 rfl _ _ w.heap.size 28 _ _ rfl (blk_store11 _ _ _ _ _ _ _ _ _ _ _ H18.out.box) Try.underlying28 rfl (by kernel_rfl)) rfl ?_
            have e1 : decR bs = rec0 := by rw [decR, hz.out]
            have e2 : decK bs = 0 := by rw [decK, hz.out]
            have e3 : decB bs = false := by rw [decB, hz.out]; rfl
            exact ⟨none, 0, none, 0, none, 0, none, 0, by rw [e1, e2, e3]; rfl, by rw [e1]; exact ⟨NewRow.nil, NewRow.nil, NewRow.nil, NewRow.nil⟩, H18.out.be.trans ((chg_store11 w.heap.size _ _ _ _ _ _ _ _ _ _ _).below H18.out.be.size (fun i hi => by omega))⟩
          · have hb : s17.bad = false := by simpa using hbad
            rw [hb] at d1
            have Hb := hid hb
            have hn7 := hid (hln7.out hb)
            clear hbad hb
            by_cases hn0 : 0 < n7
            · have hz := hid (hz1.out (by rw [hfull.out]; exact .inr (fun h => by have h1 := hn7.out; rw [h] at h1; simp at h1; omega)))
              have hn0' : (0 : Int) < (n7 : Int) := by omega
              go_wp2_with fail
              refine bodyPost_ret (results_cell3 rfl _ _ w.heap.size 28 _ _ rfl (blk_store11 _ _ _ _ _ _ _ _ _ _ _ H18.out.box) Try.underlying28 rfl (by kernel_rfl)) rfl ?_
              have e1 : decR bs = rec0 := by rw [decR, hz.out]
              have e2 : decK bs = 0 := by rw [decK, hz.out]
              have e3 : decB bs = false := by rw [decB, hz.out]; rfl
              exact ⟨none, 0, none, 0, none, 0, none, 0, by rw [e1, e2, e3]; rfl, by rw [e1]; exact ⟨NewRow.nil, NewRow.nil, NewRow.nil, NewRow.nil⟩, H18.out.be.trans ((chg_store11 w.heap.size _ _ _ _ _ _ _ _ _ _ _).below H18.out.be.size (fun i hi => by omega))⟩
            · have hn0' : decide ((0 : Int) < (n7 : Int)) = false := by simp; omega
              have hz := hid (hz2.out (by rw [hfull.out]; exact Hb.out) (by rw [hfull.out]; exact List.eq_nil_of_length_eq_zero (show s17.b.length = 0 by have h1 := hn7.out; omega)))
              go_wp2_with fail
              generalize hw18 : w17.setCell _ _ = w18 at *
              clear x0 x1 x2 x3 x4 x5 x6 x7 x8 x9 x10 hfz hn0 hn0' d0 d1 hw18
              obtain ⟨⟨x0, x1, x2, x3, x4, x5, x6, x7, x8, x9, x10⟩, hfz⟩ := blk11 H18.out.box
              have g8 := hfz 8
              have g9 := hfz 9
              have hsT := sl_full Try.underlying25 hi43 TA l.length tc (own_cap H18.out.tx)
              have hsD := sl_full Try.underlying26 hi45 DA l2.length dc (own_cap H18.out.di)
              have hX : ∀ w19, ((w18.setCell ⟨w.heap.size, 8, none⟩ (.slice TA l.length l.length)).setCell ⟨w.heap.size, 9, none⟩ (.slice DA l2.length l2.length)).drew = w19 →
                  Hid (Blk w19 w.heap.size 28 (recCells (MRec.mk k3 k4 k5 k6 k7 k8 bB bA l l2 k17) B1 cB B2 cA TA l.length DA l2.length) ∧ Chg (· = w.heap.size) w18 w19) := by
                rintro _ rfl
                refine hid ⟨?_, ⟨rfl, rfl, rfl, (chg_set2 w.heap.size 8 9 _ _).size, (chg_set2 w.heap.size 8 9 _ _).block⟩⟩
                have hb := (H18.out.box.set_ 8 (.slice TA l.length l.length)).set_ 9 (.slice DA l2.length l2.length)
                exact hb
              go_region
              generalize hw19 : World.drew _ = w19
              obtain ⟨hb19, hc19⟩ := (hX _ hw19).out
              clear hw19 hX x0 x1 x2 x3 x4 x5 x6 x7 x8 x9 x10 hfz g8 g9 hsT hsD
              obtain ⟨⟨x0, x1, x2, x3, x4, x5, x6, x7, x8, x9, x10⟩, hfz⟩ := blk11 hb19
              have HB19 := hid hb19
              have HC19 := hid hc19
              clear hb19 hc19
              go_wp2_with fail
              refine bodyPost_ret (results_cell3 rfl _ _ w.heap.size 28 _ _ rfl (blk_store11 _ _ _ _ _ _ _ _ _ _ _ HB19.out) Try.underlying28 rfl (by kernel_rfl)) rfl ?_
              have e1 : decR bs = (MRec.mk k3 k4 k5 k6 k7 k8 bB bA l l2 k17) := by rw [decR, hz.out, hfull.out]
              have e2 : decK bs = k + 8 := by rw [decK, hz.out]
              have e3 : decB bs = true := by rw [decB, hz.out]; rfl
              have hcS := chg_store11 (w := w19) w.heap.size (.int .i64 k3) (.int .i64 k4) (.int .i64 k5) (.int .i64 k6) (.int .i64 k7) (.int .i64 k8) (.slice B1 bB.length cB) (.slice B2 bA.length cA) (.slice TA l.length l.length) (.slice DA l2.length l2.length) (.int .i64 k17)
              have hcA := HC19.out.trans hcS
              have hne : ∀ e : TypeId, e ≠ 28 → ∀ g, g = w.heap.size → ∀ cs, ¬ Blk w18 g e cs := by
                rintro e he g rfl cs hk
                exact hk.ne_ H18.out.box he rfl
              refine ⟨B1, cB, B2, cA, TA, l.length, DA, l2.length, ?_, ?_, ?_⟩
              · rw [e1, e2, e3]; rfl
              · rw [e1]
                exact ⟨H18.out.nb.chg_ty hcA (hne 5 (by decide)), H18.out.na.chg_ty hcA (hne 5 (by decide)), (NewRow.of_own H18.out.tx).chg_ty hcA (hne 43 (by decide)), (NewRow.of_own H18.out.di).chg_ty hcA (hne 45 (by decide))⟩
              · exact H18.out.be.trans (hcA.below H18.out.be.size (fun i hi => by omega))
end Go.Proofs.Ytkpopjpmjcgbfaa
