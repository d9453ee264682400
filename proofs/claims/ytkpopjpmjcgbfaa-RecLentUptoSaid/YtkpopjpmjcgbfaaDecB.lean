/- The walk of the document's Decode. Conditions: sizes. -/
import Derived.Test.YtkpopjpmjcgbfaaDecB0
namespace Go.Proofs.Ytkpopjpmjcgbfaa
open Go.RowKit
set_option maxRecDepth 100000
set_option linter.unusedVariables false
set_option linter.unusedSimpArgs false

theorem results_cell1 {P : Program} {fn : Func} {p : Tmp} {ty : TypeId} (h : fn.results = #[.cell p ty]) (tmps : Array Value) (w : World) (g : Nat) (t : TypeId) (cs : Array Value) (d : TypeDesc)
    (hp : tmps.getD p undef = .pointer (some ⟨g, 0, none⟩)) (hg : Blk w g t cs)
    (hu : P.underlying ty = some d) (hd : (match d with | .struct _ | .array _ _ => true | _ => false) = true) (hi : (P.info? ty).map (·.size) = some cs.size) :
    (results fn tmps).run P w = .ok (.agg cs) w := results_cell_row h tmps w g t cs (0, 0) d hp hg hu hd hi

set_option maxHeartbeats 6400000 in
theorem rdecode_any (A : Option Addr) (n c : Nat) (bs : List UInt8) (w : World) (hr : Rd w 1 A n (u8s bs)) (hn : n = bs.length) (hc : n ≤ c) (hsz : bs.length ≤ 40000000) (hA : ∀ ad, A = some ad → ad.block < w.heap.size) :
    Calls Try.prog 13 #[.slice A n c] w fun e w' => GotPost bs w e w' := by
  obtain ⟨i43, hi43, ha0, ha1, ha2⟩ := info_parts info43
  obtain ⟨i45, hi45, hb0, hb1, hb2⟩ := info_parts info45
  have hbe0 : Below w.heap.size w ((w.alloc (.cells #[.int .i64 0, .int .i64 0, .int .i64 0, .int .i64 0, .int .i64 0, .int .i64 0, .slice none 0 0, .slice none 0 0, .slice none 0 0, .slice none 0 0, .int .i64 0, .int .i64 0, .bool false] 36)).alloc (.cells #[.slice A n c, .bool false] 57)) := ((Below.refl _ w).alloc (Nat.le_refl _) _).alloc (by simp) _
  have hg0 : Blk ((w.alloc (.cells #[.int .i64 0, .int .i64 0, .int .i64 0, .int .i64 0, .int .i64 0, .int .i64 0, .slice none 0 0, .slice none 0 0, .slice none 0 0, .slice none 0 0, .int .i64 0, .int .i64 0, .bool false] 36)).alloc (.cells #[.slice A n c, .bool false] 57)) w.heap.size 36 Z36 := (Blk.new w 36 _).alloc _
  have hrd0 : RdAt w.heap.size ((w.alloc (.cells #[.int .i64 0, .int .i64 0, .int .i64 0, .int .i64 0, .int .i64 0, .int .i64 0, .slice none 0 0, .slice none 0 0, .slice none 0 0, .slice none 0 0, .int .i64 0, .int .i64 0, .bool false] 36)).alloc (.cells #[.slice A n c, .bool false] 57)) 57 (w.heap.size + 1) ⟨bs, false⟩ := by
    have hb2 := Blk.new (w.alloc (.cells #[.int .i64 0, .int .i64 0, .int .i64 0, .int .i64 0, .int .i64 0, .int .i64 0, .slice none 0 0, .slice none 0 0, .slice none 0 0, .slice none 0 0, .int .i64 0, .int .i64 0, .bool false] 36)) 57 #[.slice A n c, .bool false]
    rw [show (w.alloc (.cells #[.int .i64 0, .int .i64 0, .int .i64 0, .int .i64 0, .int .i64 0, .int .i64 0, .slice none 0 0, .slice none 0 0, .slice none 0 0, .slice none 0 0, .int .i64 0, .int .i64 0, .bool false] 36)).heap.size = w.heap.size + 1 by simp] at hb2
    exact ⟨A, n, c, hb2, by omega, hA, hc, fun _ => hn, fun _ => hr.below hbe0⟩
  have HBE0 := hid hbe0
  have HG0 := hid hg0
  have HRD0 := hid hrd0
  have Hn0 := hid hn
  have hnl := hid (num_len ⟨bs, false⟩)
  have hle := hid (num_le ⟨bs, false⟩)
  have hN1 := hid (dec_none1 bs)
  have hN2 := hid (dec_none2 bs)
  have hN3 := hid (dec_some bs)
  clear hr hA hn hbe0 hg0 hrd0
  go_enter Try.func13, Try.ntmps13
  go_wp2_with fail
  refine (rr_num w.heap.size (w.heap.size + 1) ⟨bs, false⟩ _ HRD0.out).mono ?_
  rintro e w1 ⟨rfl, _, h1, hc1⟩
  obtain ⟨csP, hP0⟩ := HRD0.out.blk
  have HG1 := hid (HG0.out.chg hc1 (by omega))
  have HBE1 := hid (HBE0.out.trans (hc1.below HBE0.out.size (fun i hi => by omega)))
  generalize hk : RS.num ⟨bs, false⟩ = N at *
  obtain ⟨k, s1⟩ := N
  simp only [] at *
  have H1 := hid h1
  have hkl := hle.out
  clear h1 hc1 hk HRD0 hP0 csP HG0 HBE0
  by_cases hbad : s1.bad = true ∨ s1.b.length < k
  · have hz := hid (hN1.out hbad)
    have Hbad := hid hbad
    clear hbad
    go_wp2_with fail
    refine (rtake_bad w.heap.size (w.heap.size + 1) s1 _ H1.out k hkl Hbad.out).mono ?_
    rintro e w2 ⟨rfl, h2, hc2⟩
    obtain ⟨A2, n2, c2, hr2⟩ := h2 []
    have d1 : w2.cell? ⟨w.heap.size + 1, 1, none⟩ = some (.bool true) := hr2.box.cell_ 1 rfl
    have HG2 := hid (HG1.out.chg hc2 (by omega))
    have HBE2 := hid (HBE1.out.trans (hc2.below HBE1.out.size (fun i hi => by omega)))
    obtain ⟨⟨x0, x1, x2, x3, x4, x5, x6, x7, x8, x9, x10, x11, x12⟩, hfz⟩ := blk13 HG2.out
    clear h2 hc2 hr2
    go_wp2_with fail
    refine bodyPost_ret (results_cell1 rfl _ _ w.heap.size 36 _ _ rfl (blk_store13 _ _ _ _ _ _ _ _ _ _ _ _ _ HG2.out) Try.underlying36 rfl (by kernel_rfl)) rfl ?_
    have e1 : decR bs = rec0 := by rw [decR, hz.out]
    have e2 : decK bs = 0 := by rw [decK, hz.out]
    have e3 : decB bs = false := by rw [decB, hz.out]; rfl
    exact ⟨none, 0, none, 0, none, 0, none, 0, by rw [e1, e2, e3]; rfl, by rw [e1]; exact ⟨NewRow.nil, NewRow.nil, NewRow.nil, NewRow.nil⟩, HBE2.out.trans ((chg_store13 w.heap.size _ _ _ _ _ _ _ _ _ _ _ _ _).below HBE2.out.size (fun i hi => by omega))⟩
  · have hb : s1.bad = false := by cases h : s1.bad <;> simp_all
    have hkb : k ≤ s1.b.length := by simp only [not_or] at hbad; omega
    have Hb := hid hb
    have hk4 : k ≤ 40000000 := by have h1 := (hnl.out hb).2.1; omega
    clear hb hbad
    go_wp2_with fail
    refine (rtake_ok w.heap.size (w.heap.size + 1) s1 _ H1.out k hkl Hb.out hkb).mono ?_
    rintro e w2 ⟨A2, c2, rfl, hrd2, hf2, hc2', h2, hc2⟩
    obtain ⟨A3, n3, c3, hr3⟩ := h2
    have d1 : w2.cell? ⟨w.heap.size + 1, 1, none⟩ = some (.bool false) := hr3.box.cell_ 1 rfl
    have HG2 := hid (HG1.out.chg hc2 (by omega))
    have HBE2 := hid (HBE1.out.trans (hc2.below HBE1.out.size (fun i hi => by omega)))
    have hrd3 : RdAt w.heap.size (w2.alloc (.cells #[.slice A2 k c2, .bool false] 57)) 57 w2.heap.size ⟨s1.b.take k, false⟩ :=
      ⟨A2, k, c2, Blk.new w2 57 _, HBE2.out.size, hf2, hc2', fun _ => by simp; omega, fun _ => hrd2.keep (by simp) fun _ _ h => Below.heap_alloc _ _ _ h⟩
    have HR3 := hid hrd3
    have HBE3 := hid (HBE2.out.alloc HBE2.out.size (.cells #[.slice A2 k c2, .bool false] 57))
    have HG3 := hid (HG2.out.alloc (.cells #[.slice A2 k c2, .bool false] 57))
    have hP := hid HBE2.out.size
    have hGP := hid HG2.out.lt
    have hz1 := hid (fun h => hN2.out h)
    have hz2 := hid (hN3.out Hb.out hkb)
    have hT := hid (show (s1.b.take k).length ≤ 40000000 by simp; omega)
    clear hc2 hr3 hrd2 hf2 hrd3 HG1 HBE1 H1 hN1 hN2 hN3 hle hnl
    generalize hs : (⟨s1.b.take k, false⟩ : RS) = s at *
    have hsb := hid (show s.b.length ≤ 40000000 by rw [← hs]; exact hT.out)
    clear hs hT
    go_wp2_with fail
    refine (rr_num w.heap.size w2.heap.size s _ HR3.out).mono ?_
    rintro e w3 ⟨rfl, _, h3, hc3⟩
    have hq3 := hid (num_le s)
    have hw3 := hid (num_sh s)
    have HG4 := hid (HG3.out.chg hc3 (by have := hGP.out; omega))
    have HBE4 := hid (HBE3.out.trans (hc3.below HBE3.out.size (fun i hi => by have := hP.out; omega)))
    obtain ⟨csP, hPb⟩ := h3.blk
    have hPlt := hPb.lt
    generalize e3 : RS.num s = N at *
    obtain ⟨k3, s3⟩ := N
    simp only [] at h3 hq3 hw3 ⊢
    have E3 := hid e3
    have hD3 : GRec w (w3.alloc (.cells (recCells { rec0 with kind := k3 } none 0 none 0 none 0 none 0) 28)) w.heap.size w3.heap.size w2.heap.size s3 { rec0 with kind := k3 } none 0 none 0 none 0 none 0 :=
      ⟨⟨HBE4.out.alloc HBE4.out.size _, h3.chg (((Chg.refl (fun _ => False) w3)).alloc _) (fun _ h => h.elim), Blk.new w3 28 _, NewRow.nil, NewRow.nil, World.ownsRow_nil _ _ _ _, World.ownsRow_nil _ _ _ _, HBE4.out.size, hP.out, ⟨_, hPb.alloc _⟩, .inr rfl⟩, HG4.out.alloc _, Nat.le_refl _⟩
    have H3 := hid hD3
    clear e3 h3 hc3 hPb hD3 HR3 HBE3 HG3 HG2 HBE2 HG4 HBE4 d1
    go_wp2_with fail
    refine (g_num H3.out).mono ?_
    rintro e w4 ⟨rfl, h4, hc4⟩
    have hq4 := hid (num_le s3)
    have hw4 := hid (num_sh s3)
    generalize e4 : RS.num s3 = N at *
    obtain ⟨k4, s4⟩ := N
    simp only [] at h4 hq4 hw4 ⊢
    have E4 := hid e4
    have y4 := h4.d.box.cell_ 1 rfl
    have f4 := h4.d.box.frozen 1
    have H4x := hid (h4.set 1 (.int .i64 k4) { rec0 with kind := k3, txn := k4 } rfl rfl rfl rfl rfl)
    clear e4 h4 hc4 H3
    go_wp2_with fail
    refine (g_num H4x.out).mono ?_
    rintro e w5 ⟨rfl, h5, hc5⟩
    have hq5 := hid (num_le s4)
    have hw5 := hid (num_sh s4)
    generalize e5 : RS.num s4 = N at *
    obtain ⟨k5, s5⟩ := N
    simp only [] at h5 hq5 hw5 ⊢
    have E5 := hid e5
    have y5 := h5.d.box.cell_ 2 rfl
    have f5 := h5.d.box.frozen 2
    have H5x := hid (h5.set 2 (.int .i64 k5) { rec0 with kind := k3, txn := k4, prev := k5 } rfl rfl rfl rfl rfl)
    clear e5 h5 hc5 H4x
    go_wp2_with fail
    refine (g_num H5x.out).mono ?_
    rintro e w6 ⟨rfl, h6, hc6⟩
    have hq6 := hid (num_le s5)
    have hw6 := hid (num_sh s5)
    generalize e6 : RS.num s5 = N at *
    obtain ⟨k6, s6⟩ := N
    simp only [] at h6 hq6 hw6 ⊢
    have E6 := hid e6
    have y6 := h6.d.box.cell_ 3 rfl
    have f6 := h6.d.box.frozen 3
    have H6x := hid (h6.set 3 (.int .i64 k6) { rec0 with kind := k3, txn := k4, prev := k5, next := k6 } rfl rfl rfl rfl rfl)
    clear e6 h6 hc6 H5x
    go_wp2_with fail
    refine (g_num H6x.out).mono ?_
    rintro e w7 ⟨rfl, h7, hc7⟩
    have hq7 := hid (num_le s6)
    have hw7 := hid (num_sh s6)
    generalize e7 : RS.num s6 = N at *
    obtain ⟨k7, s7⟩ := N
    simp only [] at h7 hq7 hw7 ⊢
    have E7 := hid e7
    have y7 := h7.d.box.cell_ 4 rfl
    have f7 := h7.d.box.frozen 4
    have H7x := hid (h7.set 4 (.int .i64 k7) { rec0 with kind := k3, txn := k4, prev := k5, next := k6, page := k7 } rfl rfl rfl rfl rfl)
    clear e7 h7 hc7 H6x
    go_wp2_with fail
    refine (g_num H7x.out).mono ?_
    rintro e w8 ⟨rfl, h8, hc8⟩
    have hq8 := hid (num_le s7)
    have hw8 := hid (num_sh s7)
    generalize e8 : RS.num s7 = N at *
    obtain ⟨k8, s8⟩ := N
    simp only [] at h8 hq8 hw8 ⊢
    have E8 := hid e8
    have y8 := h8.d.box.cell_ 5 rfl
    have f8 := h8.d.box.frozen 5
    have H8x := hid (h8.set 5 (.int .i64 k8) { rec0 with kind := k3, txn := k4, prev := k5, next := k6, page := k7, off := k8 } rfl rfl rfl rfl rfl)
    clear e8 h8 hc8 H7x
    have hs8 := hid (show s8.b.length ≤ 1000000000 by have := hsb.out; have := hw3.out; have := hw4.out; have := hw5.out; have := hw6.out; have := hw7.out; have := hw8.out; omega)
    go_wp2_with fail
    refine (g_data H8x.out hs8.out).mono ?_
    rintro e w10 ⟨B1, nB, cB, rfl, hnB, hnewB, h10, _⟩
    have hx10 := hid (data_sh s8)
    generalize e10 : RS.data s8 = N at *
    obtain ⟨bB, s10⟩ := N
    simp only [] at h10 hnB hnewB hx10 ⊢
    have E10 := hid e10
    have y10 := h10.d.box.cell_ 6 rfl
    have f10 := h10.d.box.frozen 6
    have H10 := hid (h10.setB bB B1 nB cB hnB hnewB)
    clear e10 h10 hnB hnewB H8x
    go_wp2_with fail
    refine (g_data H10.out (by have := hx10.out; have := hs8.out; omega)).mono ?_
    rintro e w11 ⟨B2, nA, cA, rfl, hnA, hnewA, h11, _⟩
    have hx11 := hid (data_sh s10)
    generalize e11 : RS.data s10 = N at *
    obtain ⟨bA, s11⟩ := N
    simp only [] at h11 hnA hnewA hx11 ⊢
    have E11 := hid e11
    have y11 := h11.d.box.cell_ 7 rfl
    have f11 := h11.d.box.frozen 7
    have H12 : Hid (GRec w _ w.heap.size w3.heap.size w2.heap.size s11 (MRec.mk k3 k4 k5 k6 k7 k8 bB bA [] [] 0) B1 cB B2 cA none 0 none 0) := hid (h11.setA bA B2 nA cA hnA hnewA)
    clear e11 h11 hnA hnewA H10
    have hs11 := hid (show s11.b.length ≤ 40000000 by have := hsb.out; have := hw3.out; have := hw4.out; have := hw5.out; have := hw6.out; have := hw7.out; have := hw8.out; have := hx10.out; have := hx11.out; omega)
    go_wp2_with fail
    refine (g_num H12.out).mono ?_
    rintro e w13 ⟨rfl, h13, hc13⟩
    have hq13 := hid (num_le s11)
    have hw13 := hid (num_sh s11)
    generalize e13 : RS.num s11 = N at *
    obtain ⟨k13, s13⟩ := N
    simp only [] at h13 hq13 hw13 ⊢
    have E13 := hid e13
    have H13 := hid h13
    clear e13 h13 hc13 H12
    have hs13 := hid (show s13.b.length ≤ 40000000 by have := hs11.out; have := hw13.out; omega)
    clear y4 y5 y6 y7 y8 y10 y11 f4 f5 f6 f7 f8 f10 f11
    go_upto_block 0 with fail
    go_cut [9] (fun i wr => ∃ (t : RS) (l : List (Int × Int × Int)) (TA : Option Addr) (tc : Nat), GRec w wr w.heap.size w3.heap.size w2.heap.size t (MRec.mk k3 k4 k5 k6 k7 k8 bB bA l [] 0) B1 cB B2 cA TA tc none 0 ∧ RS.txns k13 s13 = (l, t) ∧ l.length ≤ 40000001 ∧ t.b.length ≤ 40000000)
    case first =>
      as_aux_lemma =>
        go_wp2_with fail
        go_loopw [9] (fun i wr => ∃ (j : Nat) (t : RS) (l : List (Int × Int × Int)) (TA : Option Addr) (tc : Nat), i = .int .i64 j ∧ j ≤ k13 ∧ GRec w wr w.heap.size w3.heap.size w2.heap.size t (MRec.mk k3 k4 k5 k6 k7 k8 bB bA l [] 0) B1 cB B2 cA TA tc none 0 ∧
          RS.txns k13 s13 = (l ++ (RS.txns (k13 - j) t).1, (RS.txns (k13 - j) t).2) ∧ l.length ≤ 40000001 ∧ (t.bad = false → 24 * l.length + t.b.length ≤ 40000000) ∧ t.b.length ≤ 40000000) (fun i _ => k13 - (intOf i).toNat)
        case atStart => exact ⟨0, s13, [], none, 0, rfl, by omega, H13.out, by simp, by simp, fun _ => by have := hs13.out; simp; omega, hs13.out⟩
        case round =>
          obtain ⟨j, t, l, TA, tc, rfl, hj, hD, hT, hl, hlb, htb⟩ := hrel
          have HD := hid hD
          have HT := hid hT
          have Hlb := hid hlb
          have hkc := hq13.out
          obtain ⟨A', n', c', hr⟩ := hD.d.rdr
          have d1 : wr.cell? ⟨w2.heap.size, 1, none⟩ = some (.bool t.bad) := hr.box.cell_ 1 rfl
          clear hD hT hlb hr H13
          by_cases hj0 : j < k13
          · have hj0' : (j : Int) < (k13 : Int) := by omega
            by_cases hb : t.bad = true
            · have hfin := hid (txns_stop (k13 - j) t (.inr hb))
              rw [hb] at d1
              clear hb
              go_wp2
              go_meet
              exact ⟨t, l, TA, tc, HD.out, by rw [HT.out, hfin.out]; simp, hl, htb⟩
            · have hb' : t.bad = false := by simpa using hb
              rw [hb'] at d1
              have Hb := hid hb'
              have hstep : Hid (RS.txns (k13 - j) t = (t.txn.1 :: (RS.txns (k13 - (j + 1)) t.txn.2).1, (RS.txns (k13 - (j + 1)) t.txn.2).2)) := hid (by
                have e : k13 - j = (k13 - (j + 1)) + 1 := by omega
                rw [e]
                exact txns_go _ t hb')
              have htl := hid (txn_len t)
              have hts := hid (show t.txn.2.b.length ≤ 40000000 from Nat.le_trans (Nat.le_trans (num_sh _) (Nat.le_trans (num_sh _) (num_sh t))) htb)
              clear hb hb'
              go_wp2_with fail
              refine (g_num HD.out).mono ?_
              rintro e u1 ⟨rfl, h1, _⟩
              have hB1 := hid h1.d.be.size
              have hTP := hid (show w2.heap.size < u1.heap.size from by obtain ⟨cs, hk⟩ := h1.d.tp; exact hk.lt)
              have hx1 := hid (show ∀ g, (Value.slice TA l.length tc).ownBlock = some g → g ≠ u1.heap.size from fun g hg => by have := (h1.d.tx.lt g hg).2; omega)
              have hx2 := hid (show ∀ g, (Value.slice none 0 0).ownBlock = some g → g ≠ u1.heap.size from fun g hg => by have := (h1.d.di.lt g hg).2; omega)
              have H1 := hid (h1.alloc (.cells #[.int .i64 t.num.1, .int .i64 0, .int .i64 0] 43))
              have hT1 := hid (Blk.new u1 43 #[.int .i64 t.num.1, .int .i64 0, .int .i64 0])
              clear h1
              go_wp2_with fail
              refine (g_num H1.out).mono ?_
              rintro e u2 ⟨rfl, h2, hc2⟩
              have hT2 := hT1.out.chg hc2 (by have := hTP.out; omega)
              have y2 := hT2.cell_ 1 rfl
              have f2 := hT2.frozen 1
              have H2 := hid (h2.side hT2 (.inl rfl) hB1.out hx1.out hx2.out 1 (.int .i64 t.num.2.num.1))
              have hT3 : Hid (Blk (u2.setCell ⟨u1.heap.size, 1, none⟩ (.int .i64 t.num.2.num.1)) u1.heap.size 43 #[.int .i64 t.num.1, .int .i64 t.num.2.num.1, .int .i64 0]) := hid (by have := hT2.set_ 1 (.int .i64 t.num.2.num.1); simpa using this)
              clear h2 hc2 hT2 hT1
              go_wp2_with fail
              refine (g_num H2.out).mono ?_
              rintro e u3 ⟨rfl, h3, hc3⟩
              have hT4 := hT3.out.chg hc3 (by have := hTP.out; omega)
              have y3 := hT4.cell_ 2 rfl
              have f3 := hT4.frozen 2
              have H3 := hid (h3.side hT4 (.inl rfl) hB1.out hx1.out hx2.out 2 (.int .i64 t.num.2.num.2.num.1))
              have hT5 : Hid (Blk (u3.setCell ⟨u1.heap.size, 2, none⟩ (.int .i64 t.num.2.num.2.num.1)) u1.heap.size 43 #[.int .i64 t.num.1, .int .i64 t.num.2.num.1, .int .i64 t.num.2.num.2.num.1]) := hid (by have := hT4.set_ 2 (.int .i64 t.num.2.num.2.num.1); simpa using this)
              clear h3 hc3 hT4 hT3 y2 f2
              have z0 := hT5.out.cell_ 0 rfl
              have z1 := hT5.out.cell_ 1 rfl
              have z2 := hT5.out.cell_ 2 rfl
              have zR := H3.out.d.box.cell_ 8 rfl
              have HX := hid (H3.out.alloc (.cells #[.int .i64 t.num.1, .int .i64 t.num.2.num.1, .int .i64 t.num.2.num.2.num.1] 43))
              have hone' := rd_one3 (u3.setCell ⟨u1.heap.size, 2, none⟩ (.int .i64 t.num.2.num.2.num.1)) 43 (.int .i64 t.num.1) (.int .i64 t.num.2.num.1) (.int .i64 t.num.2.num.2.num.1)
              have hszs : (u3.setCell ⟨u1.heap.size, 2, none⟩ (.int .i64 t.num.2.num.2.num.1)).heap.size = u3.heap.size := by simp [World.setCell]
              rw [hszs] at hone'
              have hone := hid hone'
              clear hone' hszs
              go_wp2_with (at_builtin; refine wpList_append_any _ rfl (.tmp 77) (.tmp 79) 25 rfl w.heap.size 43 i43 _ 3 24 Try.underlying25 hi43 ha0 ha1 ha2 rfl (by omega) _ l.length _ rfl HX.out.d.tx _ 1 1 [.int .i64 t.num.1, .int .i64 t.num.2.num.1, .int .i64 t.num.2.num.2.num.1] rfl hone.out (by simp [Value.oneCell']) (by unfold maxLen; omega) (by omega) HX.out.d.be.size ?_)
              intro v4 w4' hown4 hgr4 hat4
              have hbx := (HX.out.d.grew_ HX.out.d.tx hgr4 (.inl rfl)).2.2.1
              obtain ⟨A4, c4, rfl, hD4⟩ := HX.out.growT t.txn.1 hown4 hgr4
              have hfx := hbx.frozen 8
              have hcx := hbx.cell_ 8 rfl
              have HD4 := hid hD4
              clear hbx hown4 hgr4 hat4 hD4 HX hone z0 z1 z2 y3 f3 zR H3 hT5
              go_wp2
              go_roundw
              case rel =>
                refine ⟨j + 1, t.txn.2, l ++ [t.txn.1], A4, c4, by go_num, by omega, HD4.out, by rw [HT.out, hstep.out]; simp, ?_, ?_, hts.out⟩
                · have := Hlb.out Hb.out; simp; omega
                · intro hb'; have h1 := htl.out hb'; have h2 := Hlb.out Hb.out; simp; omega
              case measure => simp [intOf]; omega
          · have hj0' : decide ((j : Int) < (k13 : Int)) = false := by simp; omega
            have hfin := hid (txns_stop (k13 - j) t (.inl (by omega)))
            go_wp2
            go_meet
            exact ⟨t, l, TA, tc, HD.out, by rw [HT.out, hfin.out]; simp, hl, htb⟩
    case rest =>
      obtain ⟨s14, l, TA, tc, hD, hT, hl, hl14⟩ := hcut
      have H14 := hid hD
      have HT14 := hid hT
      clear hD hT H13
      go_wp2_with fail
      refine (g_num H14.out).mono ?_
      rintro e w15 ⟨rfl, h15, hc15⟩
      have hq15 := hid (num_le s14)
      have hw15 := hid (num_sh s14)
      generalize e15 : RS.num s14 = N at *
      obtain ⟨k15, s15⟩ := N
      simp only [] at h15 hq15 hw15 ⊢
      have E15 := hid e15
      have H15 := hid h15
      clear e15 h15 hc15 H14
      have hs15 := hid (show s15.b.length ≤ 40000000 by have := hw15.out; omega)
      go_upto_block 2 with fail
      go_cut [11] (fun i wr => ∃ (t : RS) (l2 : List (Int × Int)) (DA : Option Addr) (dc : Nat), GRec w wr w.heap.size w3.heap.size w2.heap.size t (MRec.mk k3 k4 k5 k6 k7 k8 bB bA l l2 0) B1 cB B2 cA TA tc DA dc ∧ RS.dirs k15 s15 = (l2, t) ∧ l2.length ≤ 40000001 ∧ t.b.length ≤ 40000000)
      case first =>
        as_aux_lemma =>
          go_wp2_with fail
          go_loopw [11] (fun i wr => ∃ (j : Nat) (t : RS) (l2 : List (Int × Int)) (DA : Option Addr) (dc : Nat), i = .int .i64 j ∧ j ≤ k15 ∧ GRec w wr w.heap.size w3.heap.size w2.heap.size t (MRec.mk k3 k4 k5 k6 k7 k8 bB bA l l2 0) B1 cB B2 cA TA tc DA dc ∧
            RS.dirs k15 s15 = (l2 ++ (RS.dirs (k15 - j) t).1, (RS.dirs (k15 - j) t).2) ∧ l2.length ≤ 40000001 ∧ (t.bad = false → 16 * l2.length + t.b.length ≤ 40000000) ∧ t.b.length ≤ 40000000) (fun i _ => k15 - (intOf i).toNat)
          case atStart => exact ⟨0, s15, [], none, 0, rfl, by omega, H15.out, by simp, by simp, fun _ => by have := hs15.out; simp; omega, hs15.out⟩
          case round =>
            obtain ⟨j, t, l2, DA, dc, rfl, hj, hD, hT, hl, hlb, htb⟩ := hrel
            have HD := hid hD
            have HT := hid hT
            have Hlb := hid hlb
            have hkc := hq15.out
            obtain ⟨A', n', c', hr⟩ := hD.d.rdr
            have d1 : wr.cell? ⟨w2.heap.size, 1, none⟩ = some (.bool t.bad) := hr.box.cell_ 1 rfl
            clear hD hT hlb hr H15
            by_cases hj0 : j < k15
            · have hj0' : (j : Int) < (k15 : Int) := by omega
              by_cases hb : t.bad = true
              · have hfin := hid (dirs_stop (k15 - j) t (.inr hb))
                rw [hb] at d1
                clear hb
                go_wp2
                go_meet
                exact ⟨t, l2, DA, dc, HD.out, by rw [HT.out, hfin.out]; simp, hl, htb⟩
              · have hb' : t.bad = false := by simpa using hb
                rw [hb'] at d1
                have Hb := hid hb'
                have hstep : Hid (RS.dirs (k15 - j) t = (t.dir.1 :: (RS.dirs (k15 - (j + 1)) t.dir.2).1, (RS.dirs (k15 - (j + 1)) t.dir.2).2)) := hid (by
                  have e : k15 - j = (k15 - (j + 1)) + 1 := by omega
                  rw [e]
                  exact dirs_go _ t hb')
                have htl := hid (dir_len t)
                have hts := hid (show t.dir.2.b.length ≤ 40000000 from Nat.le_trans (Nat.le_trans (num_sh _) (num_sh t)) htb)
                clear hb hb'
                go_wp2_with fail
                refine (g_num HD.out).mono ?_
                rintro e u1 ⟨rfl, h1, _⟩
                have hB1 := hid h1.d.be.size
                have hTP := hid (show w2.heap.size < u1.heap.size from by obtain ⟨cs, hk⟩ := h1.d.tp; exact hk.lt)
                have hx1 := hid (show ∀ g, (Value.slice TA l.length tc).ownBlock = some g → g ≠ u1.heap.size from fun g hg => by have := (h1.d.tx.lt g hg).2; omega)
                have hx2 := hid (show ∀ g, (Value.slice DA l2.length dc).ownBlock = some g → g ≠ u1.heap.size from fun g hg => by have := (h1.d.di.lt g hg).2; omega)
                have H1 := hid (h1.alloc (.cells #[.int .i64 t.num.1, .int .i64 0] 45))
                have hT1 := hid (Blk.new u1 45 #[.int .i64 t.num.1, .int .i64 0])
                clear h1
                go_wp2_with fail
                refine (g_num H1.out).mono ?_
                rintro e u2 ⟨rfl, h2, hc2⟩
                have hT2 := hT1.out.chg hc2 (by have := hTP.out; omega)
                have y2 := hT2.cell_ 1 rfl
                have f2 := hT2.frozen 1
                have H2 := hid (h2.side hT2 (.inr rfl) hB1.out hx1.out hx2.out 1 (.int .i64 t.num.2.num.1))
                have hT3 : Hid (Blk (u2.setCell ⟨u1.heap.size, 1, none⟩ (.int .i64 t.num.2.num.1)) u1.heap.size 45 #[.int .i64 t.num.1, .int .i64 t.num.2.num.1]) := hid (by have := hT2.set_ 1 (.int .i64 t.num.2.num.1); simpa using this)
                clear h2 hc2 hT2 hT1
                have z0 := hT3.out.cell_ 0 rfl
                have z1 := hT3.out.cell_ 1 rfl
                have zR := H2.out.d.box.cell_ 9 rfl
                have HX := hid (H2.out.alloc (.cells #[.int .i64 t.num.1, .int .i64 t.num.2.num.1] 45))
                have hone' := rd_one2 (u2.setCell ⟨u1.heap.size, 1, none⟩ (.int .i64 t.num.2.num.1)) 45 (.int .i64 t.num.1) (.int .i64 t.num.2.num.1)
                have hszs : (u2.setCell ⟨u1.heap.size, 1, none⟩ (.int .i64 t.num.2.num.1)).heap.size = u2.heap.size := by simp [World.setCell]
                rw [hszs] at hone'
                have hone := hid hone'
                clear hone' hszs
                go_wp2_with (at_builtin; refine wpList_append_any _ rfl (.tmp 103) (.tmp 105) 26 rfl w.heap.size 45 i45 _ 2 16 Try.underlying26 hi45 hb0 hb1 hb2 rfl (by omega) _ l2.length _ rfl HX.out.d.di _ 1 1 [.int .i64 t.num.1, .int .i64 t.num.2.num.1] rfl hone.out (by simp [Value.oneCell']) (by unfold maxLen; omega) (by omega) HX.out.d.be.size ?_)
                intro v4 w4' hown4 hgr4 hat4
                have hbx := (HX.out.d.grew_ HX.out.d.di hgr4 (.inr rfl)).2.2.1
                obtain ⟨A4, c4, rfl, hD4⟩ := HX.out.growD t.dir.1 hown4 hgr4
                have hfx := hbx.frozen 9
                have hcx := hbx.cell_ 9 rfl
                have HD4 := hid hD4
                clear hbx hown4 hgr4 hat4 hD4 HX hone z0 z1 y2 f2 zR H2 hT3
                go_wp2
                go_roundw
                case rel =>
                  refine ⟨j + 1, t.dir.2, l2 ++ [t.dir.1], A4, c4, by go_num, by omega, HD4.out, by rw [HT.out, hstep.out]; simp, ?_, ?_, hts.out⟩
                  · have := Hlb.out Hb.out; simp; omega
                  · intro hb'; have h1 := htl.out hb'; have h2 := Hlb.out Hb.out; simp; omega
                case measure => simp [intOf]; omega
            · have hj0' : decide ((j : Int) < (k15 : Int)) = false := by simp; omega
              have hfin := hid (dirs_stop (k15 - j) t (.inl (by omega)))
              go_wp2
              go_meet
              exact ⟨t, l2, DA, dc, HD.out, by rw [HT.out, hfin.out]; simp, hl, htb⟩
      case rest =>
        obtain ⟨s16, l2, DA, dc, hD, hT, hl2, hl16⟩ := hcut
        have H16 := hid hD
        have HT16 := hid hT
        clear hD hT H15
        go_wp2_with fail
        refine (g_num H16.out).mono ?_
        rintro e w17 ⟨rfl, h17, hc17⟩
        generalize e17 : RS.num s16 = N at *
        obtain ⟨k17, s17⟩ := N
        simp only [] at h17 ⊢
        have E17 := hid e17
        have H17 := hid h17
        clear e17 h17 hc17 H16
        have hfull : Hid (RS.full s = (MRec.mk k3 k4 k5 k6 k7 k8 bB bA l l2 k17, s17)) := hid (by
          simp only [RS.full, E3.out, E4.out, E5.out, E6.out, E7.out, E8.out, E10.out, E11.out, E13.out, HT14.out, E15.out, HT16.out, E17.out])
        have y10 := H17.out.d.box.cell_ 10 rfl
        have f10 := H17.out.d.box.frozen 10
        have H18 := hid (H17.out.set 10 (.int .i64 k17) (MRec.mk k3 k4 k5 k6 k7 k8 bB bA l l2 k17) rfl rfl rfl rfl rfl)
        obtain ⟨A7, n7, c7, hr7⟩ := H18.out.d.rdr
        have hln7 := hid hr7.len
        have d0 : (w17.setCell ⟨w3.heap.size, 10, none⟩ (.int .i64 k17)).cell? ⟨w2.heap.size, 0, none⟩ = some (.slice A7 n7 c7) := hr7.box.cell_ 0 rfl
        have d1 : (w17.setCell ⟨w3.heap.size, 10, none⟩ (.int .i64 k17)).cell? ⟨w2.heap.size, 1, none⟩ = some (.bool s17.bad) := hr7.box.cell_ 1 rfl
        obtain ⟨⟨g0, g1, g2, g3, g4, g5, g6, g7, g8, g9, g10, g11, g12⟩, gfz⟩ := blk13 H18.out.g
        obtain ⟨⟨r0, r1, r2, r3, r4, r5, r6, r7, r8, r9, r10⟩, _⟩ := blk11 H18.out.d.box
        clear H17 hr7
        by_cases hbad : s17.bad = true
        · rw [hbad] at d1
          have hz := hid (hz1.out (by rw [hfull.out]; exact .inl hbad))
          clear hbad
          go_wp2_with fail
          refine bodyPost_ret (results_cell1 rfl _ _ w.heap.size 36 _ _ rfl (blk_store13 _ _ _ _ _ _ _ _ _ _ _ _ _ H18.out.g) Try.underlying36 rfl (by kernel_rfl)) rfl ?_
          have e1 : decR bs = rec0 := by rw [decR, hz.out]
          have e2 : decK bs = 0 := by rw [decK, hz.out]
          have e3 : decB bs = false := by rw [decB, hz.out]; rfl
          exact ⟨none, 0, none, 0, none, 0, none, 0, by rw [e1, e2, e3]; rfl, by rw [e1]; exact ⟨NewRow.nil, NewRow.nil, NewRow.nil, NewRow.nil⟩, H18.out.d.be.trans ((chg_store13 w.heap.size _ _ _ _ _ _ _ _ _ _ _ _ _).below H18.out.d.be.size (fun i hi => by omega))⟩
        · have hb : s17.bad = false := by simpa using hbad
          rw [hb] at d1
          have Hb17 := hid hb
          have hn7 := hid (hln7.out hb)
          clear hbad hb
          by_cases hn0 : 0 < n7
          · have hz := hid (hz1.out (by rw [hfull.out]; exact .inr (fun h => by have h1 := hn7.out; rw [h] at h1; simp at h1; omega)))
            have hn0' : (0 : Int) < (n7 : Int) := by omega
            go_wp2_with fail
            refine bodyPost_ret (results_cell1 rfl _ _ w.heap.size 36 _ _ rfl (blk_store13 _ _ _ _ _ _ _ _ _ _ _ _ _ H18.out.g) Try.underlying36 rfl (by kernel_rfl)) rfl ?_
            have e1 : decR bs = rec0 := by rw [decR, hz.out]
            have e2 : decK bs = 0 := by rw [decK, hz.out]
            have e3 : decB bs = false := by rw [decB, hz.out]; rfl
            exact ⟨none, 0, none, 0, none, 0, none, 0, by rw [e1, e2, e3]; rfl, by rw [e1]; exact ⟨NewRow.nil, NewRow.nil, NewRow.nil, NewRow.nil⟩, H18.out.d.be.trans ((chg_store13 w.heap.size _ _ _ _ _ _ _ _ _ _ _ _ _).below H18.out.d.be.size (fun i hi => by omega))⟩
          · have hn0' : decide ((0 : Int) < (n7 : Int)) = false := by simp; omega
            have hz := hid (hz2.out (by rw [hfull.out]; exact Hb17.out) (by rw [hfull.out]; exact List.eq_nil_of_length_eq_zero (show s17.b.length = 0 by have h1 := hn7.out; omega)))
            go_wp2_with fail
            refine bodyPost_ret (results_cell1 rfl _ _ w.heap.size 36 _ _ rfl (blk_store13 _ _ _ _ _ _ _ _ _ _ _ _ _ H18.out.g) Try.underlying36 rfl (by kernel_rfl)) rfl ?_
            have e1 : decR bs = (MRec.mk k3 k4 k5 k6 k7 k8 bB bA l l2 k17) := by rw [decR, hz.out, hfull.out]
            have e2 : decK bs = k + 8 := by rw [decK, hz.out]
            have e3 : decB bs = true := by rw [decB, hz.out]; rfl
            have hcS := chg_store13 (w := w17.setCell ⟨w3.heap.size, 10, none⟩ (.int .i64 k17)) w.heap.size (.int .i64 k3) (.int .i64 k4) (.int .i64 k5) (.int .i64 k6) (.int .i64 k7) (.int .i64 k8) (.slice B1 bB.length cB) (.slice B2 bA.length cA) (.slice TA l.length tc) (.slice DA l2.length dc) (.int .i64 k17) (.int .i64 ((8 : Int) + k)) (.bool true)
            have hne : ∀ e : TypeId, e ≠ 36 → ∀ g, g = w.heap.size → ∀ cs, ¬ Blk (w17.setCell ⟨w3.heap.size, 10, none⟩ (.int .i64 k17)) g e cs := by
              rintro e he g rfl cs hk
              exact hk.ne_ H18.out.g he rfl
            refine ⟨B1, cB, B2, cA, TA, tc, DA, dc, ?_, ?_, ?_⟩
            · rw [e1, e2, e3]; simp [gotVal]; try omega
            · rw [e1]
              exact ⟨H18.out.d.nb.chg_ty hcS (hne 5 (by decide)), H18.out.d.na.chg_ty hcS (hne 5 (by decide)), (NewRow.of_own H18.out.d.tx).chg_ty hcS (hne 43 (by decide)), (NewRow.of_own H18.out.d.di).chg_ty hcS (hne 45 (by decide))⟩
            · exact H18.out.d.be.trans (hcS.below H18.out.d.be.size (fun i hi => by omega))
end Go.Proofs.Ytkpopjpmjcgbfaa
