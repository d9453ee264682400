/- The walk of SlotPlays. Conditions: what a script is. -/
import Derived.Test.YtpdikmkhkiplbaaSca
namespace Go.Proofs.Ytpdikmkhkiplbaa
open Go.RowKit
set_option maxRecDepth 100000
set_option linter.unusedVariables false
set_option linter.unusedSimpArgs false

/-- two pages of the same bytes -/
structure PlS (w wr : World) (A3 : Option Addr) (c3 : Nat) (A4 : Option Addr) (c4 : Nat) (m : MPage) : Prop where
  be : Below w.heap.size w wr
  va : Valid m
  l3 : 504 ≤ c3
  r3 : Rd wr 1 A3 504 (u8s m.bytes)
  l4 : 504 ≤ c4
  r4 : Rd wr 1 A4 504 (u8s m.bytes)
theorem PlS.below {w wr w' : World} {A3 A4 : Option Addr} {c3 c4 : Nat} {m : MPage} (h : PlS w wr A3 c3 A4 c4 m) (hb : Below wr.heap.size wr w') : PlS w w' A3 c3 A4 c4 m :=
  ⟨h.be.trans (hb.mono h.be.size), h.va, h.l3, h.r3.below hb, h.l4, h.r4.below hb⟩
/-- what both sides answer to a step -/
structure StS (w wx : World) (A3 : Option Addr) (c3 : Nat) (A4 : Option Addr) (c4 : Nat) (m : MPage) (B : Nat) (kd ii : Int) (dv : Value) (A5 : Option Addr) (c5 : Nat) (A6 : Option Addr) (c6 : Nat) (o : List UInt8) (ee : Int) : Prop where
  s : PlS w wx A3 c3 A4 c4 m
  bx : Blk wx B 43 #[.int .i64 kd, .int .i64 ii, dv]
  l5 : o.length ≤ c5
  r5 : Rd wx 1 A5 o.length (u8s o)
  l6 : o.length ≤ c6
  r6 : Rd wx 1 A6 o.length (u8s o)
  ok : ee = 0 → ∃ m', Valid m' ∧ o = m'.bytes
theorem StS.next {w wx : World} {A3 A4 A5 A6 : Option Addr} {c3 c4 c5 c6 B : Nat} {m : MPage} {kd ii ee : Int} {dv : Value} {o : List UInt8} (h : StS w wx A3 c3 A4 c4 m B kd ii dv A5 c5 A6 c6 o ee) (he : ee = 0) : o.length = 504 ∧ ∃ m', PlS w wx A5 c5 A6 c6 m' ∧ o = m'.bytes := by
  obtain ⟨m', hv, rfl⟩ := h.ok he
  have hl : m'.bytes.length = 504 := hv.length
  refine ⟨hl, m', ⟨h.s.be, hv, by have := h.l5; omega, ?_, by have := h.l6; omega, ?_⟩, rfl⟩
  · have := h.r5; rwa [hl] at this
  · have := h.r6; rwa [hl] at this

theorem asks_504 {w wr : World} {A3 A4 : Option Addr} {c3 c4 : Nat} {m : MPage} (h : Hid (PlS w wr A3 c3 A4 c4 m)) (ii : Int) : Calls Try.prog 25 #[.slice A3 504 c3, .slice A4 504 c4, .int .i64 ii] wr fun e w' => e = .returned (.bool true) ∧ Below wr.heap.size wr w' := by
  have hl : m.bytes.length = 504 := h.out.va.length
  have := asks_any A3 c3 A4 c4 m.bytes ii wr (by rw [hl]; exact h.out.r3) (by rw [hl]; exact h.out.l3) (by rw [hl]; exact h.out.r4) (by rw [hl]; exact h.out.l4)
  rw [hl] at this
  exact this
set_option maxHeartbeats 6400000 in
theorem plays_law (A0 : Option Addr) (n0 c0 : Nat) (w : World) (h0 : Script w A0 n0) (l0 : n0 ≤ 9223372036854775807) :
    Calls Try.prog 6 #[.slice A0 n0 c0] w fun e w' => e = .returned (.bool true) ∧ Below w.heap.size w w' := by
  have H0 := hid h0
  clear h0
  go_enter Try.func6, Try.ntmps6
  go_wp2_with fail
  refine (new_any w).mono ?_
  rintro e w1 ⟨v1, rfl, ho1, hb1⟩
  obtain ⟨A1, c1, rfl, HO1⟩ := ho1.split
  have HB1 := hid hb1
  clear ho1 hb1
  go_wp2_with fail
  refine (rnew_any w1).mono ?_
  rintro e w2 ⟨v2, rfl, ho2, hb2⟩
  obtain ⟨A2, c2, rfl, HO2⟩ := ho2.split
  have hl1 : (MPage.bytes ⟨0, []⟩).length = 504 := valid_new.length
  have hS0 : PlS w w2 A1 c1 A2 c2 ⟨0, []⟩ := by
    obtain ⟨X, cx, e, hl, hn⟩ := HO1.out
    injection e with e1 _ e2
    subst e1 e2
    obtain ⟨X2, cx2, e, hl2, hn2⟩ := HO2.out
    injection e with e1 _ e2
    subst e1 e2
    have r1 := hn.rd.below hb2
    have r2 := hn2.rd
    rw [hl1] at r1 r2 hl hl2
    exact ⟨HB1.out.trans (hb2.mono HB1.out.size), valid_new, hl, r1, hl2, r2⟩
  have HS0 := hid hS0
  rw [hl1]
  clear ho2 hb2 HB1 hS0 HO1 HO2 hl1
  go_upto_block 0 with fail
  go_cut [] (fun wx => Below w.heap.size w wx)
  case first => as_aux_lemma =>
    go_wp2_with fail
    go_loopw [3, 4, 5] (fun p q i wr => ∃ (k : Nat) (A3 : Option Addr) (c3 : Nat) (A4 : Option Addr) (c4 : Nat) (m : MPage), k ≤ 80 ∧ i = .int .i64 k ∧ p = .slice A3 504 c3 ∧ q = .slice A4 504 c4 ∧ PlS w wr A3 c3 A4 c4 m) (fun _ _ i _ => 80 - (intOf i).toNat)
    case atStart => exact ⟨0, _, _, _, _, _, by omega, rfl, rfl, rfl, HS0.out⟩
    case round => as_aux_lemma =>
      obtain ⟨k, A3, c3, A4, c4, m, hk, rfl, rfl, rfl, hS⟩ := hrel
      have HS := hid hS
      have HV := hid hS.va
      have hm504 := hid (show m.bytes.length = 504 from hS.va.length)
      clear HS0 hS
      by_cases hgo : k < n0 ∧ k < 80
      · as_aux_lemma =>
        obtain ⟨hk0, hk80⟩ := hgo
        have hk0' : (k : Int) < (n0 : Int) := by omega
        have hk80' : (k : Int) < 80 := by omega
        obtain ⟨b, o, kd, ii, DA, dc, d, rfl, hop⟩ := H0.out k hk0
        have hop := hop.below HS.out.be
        have hlt := hop.lt
        have oc0 := hop.c0
        have oc1 := hop.c1
        have oc2 := hop.c2
        have HRD := hid hop.rd
        clear hop
        go_upto_block 2 with fail
        have hbx : Below wr.heap.size wr (wr.alloc (.cells #[.int .i64 kd, .int .i64 ii, .slice DA d.length dc] 43)) := (Below.refl _ _).alloc (Nat.le_refl _) _
        have HBX := hid (Blk.new wr 43 #[.int .i64 kd, .int .i64 ii, .slice DA d.length dc])
        have HS1 := hid (HS.out.below hbx)
        have HD1 := hid (HRD.out.below hbx)
        generalize hw1 : wr.alloc (.cells #[.int .i64 kd, .int .i64 ii, .slice DA d.length dc] 43) = ws
        rw [hw1] at HBX HS1 HD1
        clear hw1 hbx HS HRD oc0 oc1 oc2 hlt
        have b0 : ws.cell? ⟨wr.heap.size, 0, none⟩ = some (.int .i64 kd) := HBX.out.cell_ 0 rfl
        have b1 : ws.cell? ⟨wr.heap.size, 1, none⟩ = some (.int .i64 ii) := HBX.out.cell_ 1 rfl
        have b2 : ws.cell? ⟨wr.heap.size, 2, none⟩ = some (.slice DA d.length dc) := HBX.out.cell_ 2 rfl
        go_cut [7, 8, 9, 10, 11, 12] (fun q e n v f mm wx => ∃ A5 c5 A6 c6 o ee nn, q = .slice A5 o.length c5 ∧ e = .int .i64 ee ∧ n = .int .i64 nn ∧ v = .slice A6 o.length c6 ∧ f = .int .i64 ee ∧ mm = .int .i64 nn ∧ StS w wx A3 c3 A4 c4 m wr.heap.size kd ii (.slice DA d.length dc) A5 c5 A6 c6 o ee)
        case first => as_aux_lemma =>
          have hl3 := HS1.out.l3
          have hl4 := HS1.out.l4
          by_cases h0 : kd = 0
          · as_aux_lemma =>
            have hb : (kd == 0) = true := by rw [h0]; rfl
            clear h0
            go_wp2_with fail
            refine (put_any A3 504 c3 m.bytes DA _ dc d _ HS1.out.r3 hm504.out.symm hl3 HD1.out rfl).mono ?_
            rintro e x1 ⟨v5, rfl, ho5, hb5⟩
            obtain ⟨A5, c5, rfl, HO5⟩ := ho5.split
            have hlt := HBX.out.lt
            have HBX1 := hid (HBX.out.below hb5 hlt)
            have HS2 := hid (HS1.out.below hb5)
            have HD2 := hid (HD1.out.below hb5)
            obtain ⟨c10, c11, c12⟩ : x1.cell? ⟨wr.heap.size, 0, none⟩ = some (.int .i64 kd) ∧ x1.cell? ⟨wr.heap.size, 1, none⟩ = some (.int .i64 ii) ∧ x1.cell? ⟨wr.heap.size, 2, none⟩ = some (.slice DA d.length dc) := ⟨HBX1.out.cell_ 0 rfl, HBX1.out.cell_ 1 rfl, HBX1.out.cell_ 2 rfl⟩
            clear ho5 hb5 hlt b0 b1 b2 HBX HS1 HD1
            go_wp2_with fail
            refine (rput_any A4 504 c4 m.bytes DA _ dc d _ HS2.out.r4 hm504.out.symm hl4 HD2.out rfl).mono ?_
            rintro e x2 ⟨v6, rfl, ho6, hb6⟩
            obtain ⟨A6, c6, rfl, HO6⟩ := ho6.split
            have hlt := HBX1.out.lt
            have hbz : Below x2.heap.size x2 (x2.alloc (.cells #[.int .i64 (putB m.bytes d).2.1, .slice A6 (obytes (putB m.bytes d).2.2).length c6, .int .i64 (putB m.bytes d).1] 45)) := (Below.refl _ _).alloc (Nat.le_refl _) _
            have HBZ := hid (Blk.new x2 45 #[.int .i64 (putB m.bytes d).2.1, .slice A6 (obytes (putB m.bytes d).2.2).length c6, .int .i64 (putB m.bytes d).1])
            have hbx2 := HBX1.out.below hb6 hlt
            have HBX2 := hid (hbx2.below hbz hbx2.lt)
            have HS3 := hid ((HS2.out.below hb6).below hbz)
            have HO5' := hid ((HO5.out.below hb6).below hbz)
            have HO6' := hid (HO6.out.below hbz)
            clear ho6 hb6 hlt c10 c11 c12 HBX1 HS2 HD2 HO5 HO6 hbx2 hbz
            go_upto_region 19 with fail
            generalize hx3 : x2.alloc (.cells #[.int .i64 (putB m.bytes d).2.1, .slice A6 (obytes (putB m.bytes d).2.2).length c6, .int .i64 (putB m.bytes d).1] 45) = x3
            rw [hx3] at HBZ HBX2 HS3 HO5' HO6'
            obtain ⟨d0, d1, d2⟩ : x3.cell? ⟨x2.heap.size, 0, none⟩ = some (.int .i64 (putB m.bytes d).2.1) ∧ x3.cell? ⟨x2.heap.size, 1, none⟩ = some (.slice A6 (obytes (putB m.bytes d).2.2).length c6) ∧ x3.cell? ⟨x2.heap.size, 2, none⟩ = some (.int .i64 (putB m.bytes d).1) := ⟨HBZ.out.cell_ 0 rfl, HBZ.out.cell_ 1 rfl, HBZ.out.cell_ 2 rfl⟩
            clear hx3
            go_quiet (fail)
            go_wp2
            go_meet
            obtain ⟨X, cx, e, hl, hn⟩ := HO5'.out
            injection e with e1 _ e2
            subst e1 e2
            obtain ⟨X2, cx2, e, hl2, hn2⟩ := HO6'.out
            injection e with e1 _ e2
            subst e1 e2
            exact ⟨_, _, _, _, _, _, _, rfl, rfl, rfl, rfl, rfl, rfl, ⟨HS3.out.below (below_drewN (Below.refl _ _) _), HBX2.out, hl, hn.rd, hl2, hn2.rd, put_out HV.out d⟩⟩
          · have hb0 : (kd == 0) = false := by simpa using h0
            by_cases h1 : kd = 1
            · as_aux_lemma =>
              have hb : (kd == 1) = true := by rw [h1]; rfl
              clear h0 h1
              go_wp2_with fail
              refine (set_any A3 504 c3 m.bytes ii DA _ dc d _ HS1.out.r3 hm504.out.symm hl3 HD1.out rfl).mono ?_
              rintro e x1 ⟨v5, rfl, ho5, hb5⟩
              obtain ⟨A5, c5, rfl, HO5⟩ := ho5.split
              have hlt := HBX.out.lt
              have HBX1 := hid (HBX.out.below hb5 hlt)
              have HS2 := hid (HS1.out.below hb5)
              have HD2 := hid (HD1.out.below hb5)
              obtain ⟨c10, c11, c12⟩ : x1.cell? ⟨wr.heap.size, 0, none⟩ = some (.int .i64 kd) ∧ x1.cell? ⟨wr.heap.size, 1, none⟩ = some (.int .i64 ii) ∧ x1.cell? ⟨wr.heap.size, 2, none⟩ = some (.slice DA d.length dc) := ⟨HBX1.out.cell_ 0 rfl, HBX1.out.cell_ 1 rfl, HBX1.out.cell_ 2 rfl⟩
              clear ho5 hb5 hlt b0 b1 b2 HBX HS1 HD1
              go_wp2_with fail
              refine (rset_any A4 504 c4 m.bytes ii DA _ dc d _ HS2.out.r4 hm504.out.symm hl4 HD2.out rfl).mono ?_
              rintro e x2 ⟨v6, rfl, ho6, hb6⟩
              obtain ⟨A6, c6, rfl, HO6⟩ := ho6.split
              have hlt := HBX1.out.lt
              have HBX2 := hid (HBX1.out.below hb6 hlt)
              have HS3 := hid (HS2.out.below hb6)
              have HO5' := hid (HO5.out.below hb6)
              clear ho6 hb6 hlt c10 c11 c12 HBX1 HS2 HD2 HO5
              go_wp2
              go_meet
              obtain ⟨X, cx, e, hl, hn⟩ := HO5'.out
              injection e with e1 _ e2
              subst e1 e2
              obtain ⟨X2, cx2, e, hl2, hn2⟩ := HO6.out
              injection e with e1 _ e2
              subst e1 e2
              have hr2 := hn2.rd
              exact ⟨_, _, _, _, _, _, _, rfl, rfl, rfl, rfl, rfl, rfl, ⟨HS3.out, HBX2.out, hl, hn.rd, hl2, hr2, set_out HV.out ii d⟩⟩
            · have hb1 : (kd == 1) = false := by simpa using h1
              by_cases h2 : kd = 2
              · as_aux_lemma =>
                have hb : (kd == 2) = true := by rw [h2]; rfl
                clear h0 h1 h2
                go_wp2_with fail
                refine (del_any A3 504 c3 m.bytes ii _ HS1.out.r3 hm504.out.symm hl3).mono ?_
                rintro e x1 ⟨v5, rfl, ho5, hb5⟩
                obtain ⟨A5, c5, rfl, HO5⟩ := ho5.split
                have hlt := HBX.out.lt
                have HBX1 := hid (HBX.out.below hb5 hlt)
                have HS2 := hid (HS1.out.below hb5)
                have HD2 := hid (HD1.out.below hb5)
                obtain ⟨c10, c11, c12⟩ : x1.cell? ⟨wr.heap.size, 0, none⟩ = some (.int .i64 kd) ∧ x1.cell? ⟨wr.heap.size, 1, none⟩ = some (.int .i64 ii) ∧ x1.cell? ⟨wr.heap.size, 2, none⟩ = some (.slice DA d.length dc) := ⟨HBX1.out.cell_ 0 rfl, HBX1.out.cell_ 1 rfl, HBX1.out.cell_ 2 rfl⟩
                clear ho5 hb5 hlt b0 b1 b2 HBX HS1 HD1
                go_wp2_with fail
                refine (rdel_any A4 504 c4 m.bytes ii _ HS2.out.r4 hm504.out.symm hl4).mono ?_
                rintro e x2 ⟨v6, rfl, ho6, hb6⟩
                obtain ⟨A6, c6, rfl, HO6⟩ := ho6.split
                have hlt := HBX1.out.lt
                have HBX2 := hid (HBX1.out.below hb6 hlt)
                have HS3 := hid (HS2.out.below hb6)
                have HO5' := hid (HO5.out.below hb6)
                clear ho6 hb6 hlt c10 c11 c12 HBX1 HS2 HD2 HO5
                go_wp2
                go_meet
                obtain ⟨X, cx, e, hl, hn⟩ := HO5'.out
                injection e with e1 _ e2
                subst e1 e2
                obtain ⟨X2, cx2, e, hl2, hn2⟩ := HO6.out
                injection e with e1 _ e2
                subst e1 e2
                have hr2 := hn2.rd
                exact ⟨_, _, _, _, _, _, _, rfl, rfl, rfl, rfl, rfl, rfl, ⟨HS3.out, HBX2.out, hl, hn.rd, hl2, hr2, del_out HV.out ii⟩⟩
              · as_aux_lemma =>
                have hb2 : (kd == 2) = false := by simpa using h2
                clear h0 h1 h2
                go_wp2_with fail
                refine (setNext_any A3 504 c3 m.bytes ii _ HS1.out.r3 hm504.out.symm hl3 (by omega)).mono ?_
                rintro e x1 ⟨v5, rfl, ho5, hb5⟩
                obtain ⟨A5, c5, rfl, HO5⟩ := ho5.split
                have hlt := HBX.out.lt
                have HBX1 := hid (HBX.out.below hb5 hlt)
                have HS2 := hid (HS1.out.below hb5)
                have HD2 := hid (HD1.out.below hb5)
                obtain ⟨c10, c11, c12⟩ : x1.cell? ⟨wr.heap.size, 0, none⟩ = some (.int .i64 kd) ∧ x1.cell? ⟨wr.heap.size, 1, none⟩ = some (.int .i64 ii) ∧ x1.cell? ⟨wr.heap.size, 2, none⟩ = some (.slice DA d.length dc) := ⟨HBX1.out.cell_ 0 rfl, HBX1.out.cell_ 1 rfl, HBX1.out.cell_ 2 rfl⟩
                clear ho5 hb5 hlt b0 b1 b2 HBX HS1 HD1
                go_wp2_with fail
                refine (rsetNext_any A4 504 c4 m.bytes ii _ HS2.out.r4 hm504.out.symm hl4).mono ?_
                rintro e x2 ⟨v6, rfl, ho6, hb6⟩
                obtain ⟨A6, c6, rfl, hl6, hr6⟩ := ho6
                have HO6 : Hid (RdB x2 (.slice A6 (setNextB m.bytes ii).length c6) (setNextB m.bytes ii)) := hid ⟨A6, c6, rfl, hl6, hr6⟩
                clear hr6 hl6
                have hlt := HBX1.out.lt
                have HBX2 := hid (HBX1.out.below hb6 hlt)
                have HS3 := hid (HS2.out.below hb6)
                have HO5' := hid (HO5.out.below hb6)
                clear hb6 hlt c10 c11 c12 HBX1 HS2 HD2 HO5
                go_wp2
                go_meet
                obtain ⟨X, cx, e, hl, hn⟩ := HO5'.out
                injection e with e1 _ e2
                subst e1 e2
                obtain ⟨X2, cx2, e, hl2, hr2⟩ := HO6.out
                injection e with e1 _ e2
                subst e1 e2
                exact ⟨_, _, _, _, _, 0, 0, rfl, rfl, rfl, rfl, rfl, rfl, ⟨HS3.out, HBX2.out, hl, hn.rd, hl2, hr2, fun _ => next_out HV.out ii⟩⟩
        case rest => as_aux_lemma =>
          obtain ⟨A5, c5, A6, c6, o2, ee, nn, rfl, rfl, rfl, rfl, rfl, rfl, hst⟩ := hcut
          have HST := hid hst
          have s1 := run_str wc A5 o2.length c5 o2 hst.r5
          have s2 := run_str wc A6 o2.length c6 o2 hst.r6
          have e1 : wc.cell? ⟨wr.heap.size, 1, none⟩ = some (.int .i64 ii) := hst.bx.cell_ 1 rfl
          clear hst HBX HS1 HD1 b0 b1 b2
          by_cases he : ee = 0
          · as_aux_lemma =>
            obtain ⟨ho504, m', hS', hom⟩ := HST.out.next he
            have HS2 := hid hS'
            have Hom := hid hom
            subst he
            have hl5 := hS'.l3
            have hl6 := hS'.l4
            rw [ho504] at s1 s2
            rw [ho504]
            clear hS' hom ho504
            have hask := hid (asks_504 HS2 ii)
            go_wp2_with fail
            refine hask.out.mono ?_
            rintro e w3 ⟨rfl, hb3⟩
            have HS3 := hid (HS2.out.below hb3)
            clear hb3 hask s1 s2 e1
            go_wp2
            go_roundw
            case rel => exact ⟨k + 1, A5, c5, A6, c6, m', by omega, by go_num, rfl, rfl, HS3.out⟩
            case measure => simp [intOf]; omega
          · as_aux_lemma =>
            have heb : (ee == 0) = false := by simpa using he
            have HS2 := hid HST.out.s
            have hask := hid (asks_504 HS2 ii)
            clear he
            go_wp2_with fail
            refine hask.out.mono ?_
            rintro e w3 ⟨rfl, hb3⟩
            have HS3 := hid (HS2.out.below hb3)
            clear hb3 hask s1 s2 e1
            go_wp2
            go_roundw
            case rel => exact ⟨k + 1, A3, c3, A4, c4, m, by omega, by go_num, rfl, rfl, HS3.out⟩
            case measure => simp [intOf]; omega
      · by_cases hk0 : k < n0
        · have hk0' : (k : Int) < (n0 : Int) := by omega
          have hk80' : ¬ ((k : Int) < 80) := by omega
          clear hgo
          go_wp2
          go_meet
          exact HS.out.be
        · have hk0' : ¬ ((k : Int) < (n0 : Int)) := by omega
          clear hgo
          go_wp2
          go_meet
          exact HS.out.be
  case rest => as_aux_lemma =>
    have HB := hid hcut
    clear hcut HS0
    go_wp2_with fail
    refine (awake_any _).mono ?_
    rintro e w9 ⟨rfl, hb9⟩
    have HB9 := hid (HB.out.trans (hb9.mono HB.out.size))
    clear hb9
    go_wp2
    go_ret
    exact ⟨rfl, HB9.out⟩
end Go.Proofs.Ytpdikmkhkiplbaa
