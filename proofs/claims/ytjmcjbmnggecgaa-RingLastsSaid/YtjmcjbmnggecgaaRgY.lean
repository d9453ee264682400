/- The walk of RingLasts. No conditions. -/
import Derived.Test.YtjmcjbmnggecgaaRgY0
namespace Go.Proofs.Ytjmcjbmnggecgaa
open Go.RowKit
set_option maxRecDepth 100000
set_option linter.unusedVariables false
set_option linter.unusedSimpArgs false

theorem la_int {w : World} {A : Option Addr} {zs : List Int} {k : Nat} (h : Rd w 1 A zs.length (ints zs)) (hk : k < zs.length) : ∃ b o, A = some ⟨b, o, none⟩ ∧ b < w.heap.size ∧ w.cell? ⟨b, o + k, none⟩ = some (.int .i64 (zs.getD k 0)) := by
  obtain ⟨b, o, rfl, hb, hc⟩ := h.lit (by omega)
  exact ⟨b, o, rfl, hb, hc k _ (by simp [ints, hk])⟩
theorem la_bool {w : World} {A : Option Addr} {ks : List Bool} {k : Nat} (h : Rd w 1 A ks.length (bls ks)) (hk : k < ks.length) : ∃ b o, A = some ⟨b, o, none⟩ ∧ b < w.heap.size ∧ w.cell? ⟨b, o + k, none⟩ = some (.bool (ks.getD k false)) := by
  obtain ⟨b, o, rfl, hb, hc⟩ := h.lit (by omega)
  exact ⟨b, o, rfl, hb, hc k _ (by simp [bls, hk])⟩
theorem la_wf {fs : List Int} (h : ∀ n ∈ fs, (Lit.int .i64 n).wf = true) (k : Nat) : fs.getD k 0 ≤ 9223372036854775807 := by
  rw [List.getD_eq_getElem?_getD]
  cases hk : fs[k]? with
  | none => simp
  | some z =>
    have := h z (List.mem_of_getElem? hk)
    have h2 : -9223372036854775808 ≤ z ∧ z ≤ 9223372036854775807 := by simpa [Lit.wf, IntKind.min, IntKind.max, IntKind.signed, IntKind.bits] using this
    exact h2.2
/-- Append either takes all, or says that it is full -/
theorem rv_try {w wr : World} {R D : Nat} {F G B : Nat → Prop} {l : List (List UInt8)} {v : Value} {st all d : List UInt8} {fr n start : Nat} (h : RV w wr R D (opened fr n start st) l v all F G B) (A : Option Addr) (c : Nat) (hr : Rd wr 1 A d.length (u8s d)) (h63 : d.length ≤ 9223372036854775807) :
    Calls Try.prog 34 #[.pointer (some ⟨R, 0, none⟩), .slice A d.length c] wr fun e w' => ∃ x : Int, e = .returned (.int .i64 x) ∧ ((x = 0 ∧ d.length ≤ (opened fr n start st).room ∧ ∃ B', RV w w' R D (laid fr n start st d) l v all F G B') ∨ (x = 60 ∧ (opened fr n start st).room < d.length ∧ RV w w' R D (opened fr n start st) l v all F G B)) := by
  by_cases hf : d.length ≤ (opened fr n start st).room
  · refine (rv_append h A d.length c d hr rfl hf).mono ?_
    rintro e w' ⟨rfl, B', h1⟩
    exact ⟨0, rfl, .inl ⟨rfl, hf, B', h1⟩⟩
  · refine (append_full R D B _ wr h.rl.mem h.rl.ok h.rl.live A d.length c (by omega) h63).mono ?_
    rintro e w' ⟨rfl, m, rfl⟩
    exact ⟨60, rfl, .inr ⟨rfl, by omega, h.drewN m⟩⟩
/-- a flush that may fail, then a crash: the new stream, or the old one -/
theorem ends_crash {l : List (List UInt8)} {fr n start : Nat} {all d : List UInt8} {g : Int} {l' : List (List UInt8)} {W' : List (Nat × List UInt8)} (h : Ends l fr n start all d g l' W') (ks : List Bool) :
    (applyK l' W' ks W'.length).length = l.length ∧ (RInv (applyK l' W' ks W'.length) fr n start (all ++ d) ∨ (g = 50 ∧ d ≠ [] ∧ RInv (applyK l' W' ks W'.length) fr n start all)) := by
  obtain ⟨h1, h2⟩ := h
  refine ⟨by rw [applyK_length _ _ _ _ (Nat.le_refl _), h1], ?_⟩
  rcases h2 with ⟨rfl, h2⟩ | ⟨rfl, hd, h2⟩
  · exact .inl (h2 ks)
  · rcases h2 ks with h3 | h3
    · exact .inr ⟨rfl, hd, h3⟩
    · exact .inl h3

set_option maxHeartbeats 6400000 in
theorem rlasts_any (A0 : Option Addr) (n0 c0 : Nat) (A1 : Option Addr) (c1 : Nat) (fs : List Int) (A2 : Option Addr) (c2 : Nat) (ks : List Bool) (A3 : Option Addr) (c3 : Nat) (ts : List Bool) (w : World) (h0 : RowsAt w A0 n0) (l0 : n0 ≤ 9223372036854775807)
    (h1 : Rd w 1 A1 fs.length (ints fs)) (l1 : fs.length ≤ 9223372036854775807) (x1 : ∀ n ∈ fs, (Lit.int .i64 n).wf = true) (h2 : Rd w 1 A2 ks.length (bls ks)) (l2 : ks.length ≤ 9223372036854775807) (h3 : Rd w 1 A3 ts.length (bls ts)) (l3 : ts.length ≤ 9223372036854775807) :
    Calls Try.prog 10 #[.slice A0 n0 c0, .slice A1 fs.length c1, .slice A2 ks.length c2, .slice A3 ts.length c3] w fun e w' => e = .returned (.bool true) ∧ Below w.heap.size w w' := by
  have H0 := hid h0
  have H1 := hid h1
  have H2 := hid h2
  have H3 := hid h3
  have HWF := hid (la_wf x1)
  have haw := hid rawake_any
  clear h0 h1 h2 h3 x1
  obtain ⟨i5, hi5, hy0, hy1, hy2⟩ := info_parts info5
  go_enter Try.func10, Try.ntmps10
  go_wp2_with fail
  refine (new_up 40 _ (by omega) (by omega)).mono ?_
  rintro e w1 ⟨D, F, G, rfl, hu, hge, hb1⟩
  have HS0 : Hid (LaS w w1 D 0 0 (List.replicate 40 zeros) (.slice none 0 0) [] F G) := hid ⟨⟨hu, hge, hb1, Mine.nil⟩, rinv_new 40 3 20 (by omega) (by omega), List.length_replicate, by simp⟩
  clear hu hge hb1
  go_upto_block 0 with fail
  go_cut [11, 12, 13] (fun st v _ wx => Below w.heap.size w wx)
  case first => as_aux_lemma =>
    go_wp2_with fail
    go_loopw [11, 12, 13] (fun st v i wr => ∃ (k start : Nat) (l : List (List UInt8)) (all : List UInt8) (F G : Nat → Prop), k ≤ 15 ∧ i = .int .i64 k ∧ st = .int .i64 start ∧ LaS w wr D k start l v all F G) (fun _ _ i _ => 15 - (intOf i).toNat)
    case atStart => exact ⟨0, 0, _, [], F, G, by omega, rfl, rfl, HS0.out⟩
    case round => as_aux_lemma =>
      obtain ⟨k, start, l, all, F1, G1, hk, rfl, rfl, hS⟩ := hrel
      obtain ⟨A9, c9, rfl, HRA, HCA⟩ := hS.ra.my.form
      have HS := hid hS
      have hst := hS.inv.st
      have hsmall := hS.small
      clear HS0 hS HRA
      by_cases hgo : k < n0 ∧ k < 15
      · as_aux_lemma =>
        obtain ⟨hk0, hk40⟩ := hgo
        have hk0' : (k : Int) < (n0 : Int) := by omega
        have hk40' : (k : Int) < 15 := by omega
        obtain ⟨b, o, A4, c4, d, rfl, hb, hcell0, hrd, hdc, hdm⟩ := H0.out.lit hk0
        have HRD := hid hrd
        have HDM := hid (Nat.le_trans hdc hdm)
        have HC0 := hid hcell0
        have hop := hid (rv_open HS.out.ra 3 20 start all (by omega) (by omega) (by rw [HS.out.len]; omega) (by rw [HS.out.len]; omega) HS.out.inv (by omega))
        clear hcell0 hrd hdm
        go_wp2_with fail
        refine hop.out.mono ?_
        rintro e wa ⟨R, B, rfl, hV⟩
        have HV := hid hV
        have hen : Hid (Calls Try.prog 36 #[.pointer (some ⟨R, 0, none⟩)] wa fun e w' => e = .returned (.int .i64 all.length) ∧ w' = wa) := hid (rx_end hV.rx)
        clear hop hV
        go_wp2_with fail
        refine hen.out.mono ?_
        rintro e wa' ⟨rfl, hwa⟩
        subst hwa
        have hcell : wa'.cell? ⟨b, o + k, none⟩ = some (.slice A4 d.length c4) := (HV.out.rl.be.cell (p := ⟨b, o + k, none⟩) hb).trans HC0.out
        by_cases h3000 : d.length ≤ 3000
        · as_aux_lemma =>
          have h3000' : ¬ (3000 < (d.length : Int)) := by omega
          obtain ⟨m, hm⟩ : ∃ m, m = all.length - start := ⟨_, rfl⟩
          have hwm : IntKind.i64.wrap ((all.length : Int) - (start : Int)) = (m : Int) := by rw [IntKind.wrap_i64]; omega
          have hrdc := rv_read HV.out start m (Nat.le_refl _) (by rw [opened_tail hst]; omega)
          have hrr : ((opened 3 20 start all).bytes.drop (start - (opened 3 20 start all).base)).take m = all.drop start := by
            have h := laid_read (fr := 3) (n := 20) (d := []) hst
            rw [laid_nil hst, List.append_nil, ← hm] at h
            exact h
          rw [hrr] at hrdc
          obtain ⟨A6, hsl, hr6⟩ := sl_from0 (c := c9) A9 (u8s all) start hst HCA
          rw [← hm] at hsl hr6
          have HR6 := hid hr6
          have HRDC := hid hrdc
          have Hm := hid hm
          clear hrdc hrr hr6 hm hen
          go_wp2_with fail
          refine HRDC.out.mono ?_
          rintro e w5 ⟨A5, c5, rfl, hx5, hV5⟩
          have s1 : ∀ j, (convert 30 9 (.slice A5 m c5)).run Try.prog (w5.drewN j) = .ok (.string ⟨(all.drop start).toArray⟩) (w5.drewN j) := fun j => run_str _ A5 m c5 (all.drop start) (hx5.below (below_drewN (Below.refl _ _) j)).rd.2
          have s2 : ∀ j, (convert 30 9 (.slice A6 m (c9 - start))).run Try.prog (w5.drewN j) = .ok (.string ⟨(all.drop start).toArray⟩) (w5.drewN j) := fun j => run_str _ A6 m (c9 - start) (all.drop start) (by rw [u8s_drop]; exact HR6.out _ (hV5.drewN j).my.rd.2)
          have HV5 := hid hV5
          clear hx5 hV5 HRDC HV hcell
          go_upto_region 13 with fail
          go_quiet (fail)
          clear s1 s2
          have hV6 := HV5.out.drewN nq
          obtain ⟨w6, hw6⟩ : ∃ w6, w6 = w5.drewN nq := ⟨_, rfl⟩
          rw [← hw6] at hV6 ⊢
          have hcell6 : w6.cell? ⟨b, o + k, none⟩ = some (.slice A4 d.length c4) := (hV6.rl.be.cell (p := ⟨b, o + k, none⟩) hb).trans HC0.out
          have htry := hid (rv_try hV6 A4 c4 (HRD.out.below hV6.rl.be) HDM.out)
          clear hV6 hw6 HV5 hsl
          go_wp2_with fail
          refine htry.out.mono ?_
          rintro e w7 ⟨x, rfl, hxx⟩
          clear htry hcell6
          go_upto_if 108 with fail
          go_cut [12] (fun v wx => ∃ (l : List (List UInt8)) (all : List UInt8) (F G : Nat → Prop), LaS w wx D (k + 1) start l v all F G)
          case first => as_aux_lemma =>
            rcases hxx with ⟨rfl, hfit, B2, hV7⟩ | ⟨rfl, hnf, hV7⟩
            · as_aux_lemma =>
              have HV7 := hid hV7
              have hroom : (opened 3 20 start all).room = (start / 118 + 20 - 1) * 118 - (opened 3 20 start all).tail := rfl
              rw [opened_tail hst] at hroom
              have hcap : (all ++ d).length ≤ (start / 118 + 20 - 1) * 118 := by
                have := HS.out.inv.cap
                rw [List.length_append]; omega
              have HCAP := hid hcap
              clear hroom hcap hfit hV7
              go_upto_if 112 with fail
              go_cut [18] (fun _ wx => ∃ f, RF w wx R D (laid 3 20 start all d) l (.slice A9 all.length c9) all F1 G1 B2 f)
              case first => as_aux_lemma =>
                by_cases hfu : k < fs.length
                · obtain ⟨fb, fo, rfl, hfb, hfc⟩ := la_int H1.out hfu
                  have hfu' : (k : Int) < (fs.length : Int) := by omega
                  obtain ⟨z, hz⟩ : ∃ z, z = fs.getD k 0 := ⟨_, rfl⟩
                  rw [← hz] at hfc
                  have hzb : z ≤ 9223372036854775807 := by rw [hz]; exact HWF.out k
                  have hfc' : w7.cell? ⟨fb, fo + k, none⟩ = some (.int .i64 z) := (HV7.out.rl.be.cell (p := ⟨fb, fo + k, none⟩) hfb).trans hfc
                  have hfus := hid (rf_fuse HV7.out z hzb)
                  clear hfc hz
                  go_wp2_with fail
                  refine hfus.out.mono ?_
                  rintro e w8 ⟨rfl, f, hR⟩
                  have HR := hid hR
                  clear hR hfus hfc'
                  go_wp2
                  go_meet
                  exact ⟨f, HR.out⟩
                · have hfu' : ¬ ((k : Int) < (fs.length : Int)) := by omega
                  go_wp2
                  go_meet
                  exact ⟨-1, HV7.out.rf⟩
              case rest => as_aux_lemma =>
                obtain ⟨f, hR⟩ := hcut
                have hfl := hid (rf_flush hR HS.out.inv HCAP.out (by rw [List.length_append]; omega))
                clear hR HV7
                go_wp2_with fail
                refine hfl.out.mono ?_
                rintro e w9 ⟨g, l', W', F', G', rfl, hC, hE⟩
                have hcr := rc_crash hC A2 c2 ks H2.out l2
                have hec := ends_crash hE ks
                obtain ⟨l'', hl''⟩ : ∃ x, x = applyK l' W' ks W'.length := ⟨_, rfl⟩
                rw [← hl''] at hcr hec
                have HCR := hid hcr
                have HEC := hid hec
                clear hfl hC hE hcr hec hl''
                go_wp2_with fail
                refine HCR.out.mono ?_
                rintro e w10 ⟨rfl, hA⟩
                obtain ⟨hlen, hor⟩ := HEC.out
                rw [HS.out.len] at hlen
                have HL := hid hlen
                have HAA := hid hA
                clear HCR HEC hlen hA
                rcases hor with hI | ⟨rfl, hd, hI⟩
                · as_aux_lemma =>
                  have hop2 := hid (rv_open HAA.out 3 20 start (all ++ d) (by omega) (by omega) (by rw [HL.out]; omega) (by rw [HL.out]; omega) hI (by omega))
                  have HI := hid hI
                  clear hI
                  go_wp2_with fail
                  refine hop2.out.mono ?_
                  rintro e w11 ⟨R2, B3, rfl, hV⟩
                  obtain ⟨t, ht⟩ : ∃ t : Nat, t = (all ++ d).length := ⟨_, rfl⟩
                  have hen : ∀ j, Calls Try.prog 36 #[.pointer (some ⟨R2, 0, none⟩)] (w11.drewN j) fun e w' => e = .returned (.int .i64 t) ∧ w' = w11.drewN j := fun j => by
                    rw [ht]; exact rx_end (hV.drewN j).rx
                  have HEN := hid hen
                  have HV := hid hV
                  have hcell11 : w11.cell? ⟨b, o + k, none⟩ = some (.slice A4 d.length c4) := (hV.rl.be.cell (p := ⟨b, o + k, none⟩) hb).trans HC0.out
                  have htn : t = all.length + d.length := by rw [ht, List.length_append]
                  have hwt : IntKind.i64.wrap ((all.length : Int) + (d.length : Int)) = (t : Int) := by rw [IntKind.wrap_i64]; omega
                  have hnt : (all.length : Int) + (d.length : Int) = (t : Int) := by omega
                  clear hen ht htn hop2 hV HAA
                  go_wp2_with fail
                  go_quiet ((go_at_call 36; exact Calls.quiet_of_same (HEN.out _)))
                  have hV2 := HV.out.drewN nq
                  have hown := hV2.my.own
                  have hrd2 := HRD.out.below hV2.rl.be
                  have hsz : w.heap.size ≤ (w11.drewN nq).heap.size := hV2.rl.be.size
                  have HV2 := hid hV2
                  have hll : all.length + d.length ≤ 100000 := by omega
                  clear hV2 HV
                  go_wp2_with (at_builtin; refine wpList_append_any _ rfl (.tmp 161) (.tmp 165) 30 rfl w.heap.size 5 i5 _ 1 1 Try.underlying30 hi5 hy0 hy1 hy2 rfl (by omega) _ all.length (u8s all) rfl hown A4 d.length c4 _ rfl hrd2 (u8s_one _) (by unfold maxLen; omega) (by omega) hsz ?_)
                  rintro v12 w12 hown12 hg12 hat12
                  have hV12 := HV2.out.grow hg12 hown12 hat12
                  have HG := hid hV12
                  clear hV12 hown12 hg12 hat12 hown hrd2 HV2
                  go_wp2
                  go_meet
                  exact ⟨l'', all ++ d, F', G', HG.out.ra, HI.out, HL.out, by rw [List.length_append]; omega⟩
                · as_aux_lemma =>
                  have hop2 := hid (rv_open HAA.out 3 20 start all (by omega) (by omega) (by rw [HL.out]; omega) (by rw [HL.out]; omega) hI (by omega))
                  have HI := hid hI
                  have hd0 : 0 < d.length := List.length_pos_iff.2 hd
                  clear hI hd
                  go_wp2_with fail
                  refine hop2.out.mono ?_
                  rintro e w11 ⟨R2, B3, rfl, hV⟩
                  have hen : ∀ j, Calls Try.prog 36 #[.pointer (some ⟨R2, 0, none⟩)] (w11.drewN j) fun e w' => e = .returned (.int .i64 all.length) ∧ w' = w11.drewN j := fun j => rx_end (hV.drewN j).rx
                  have HEN := hid hen
                  have HV := hid hV
                  have hcell11 : w11.cell? ⟨b, o + k, none⟩ = some (.slice A4 d.length c4) := (hV.rl.be.cell (p := ⟨b, o + k, none⟩) hb).trans HC0.out
                  have hwt : IntKind.i64.wrap ((all.length : Int) + (d.length : Int)) = (all.length : Int) + (d.length : Int) := by rw [IntKind.wrap_i64]; omega
                  have hne : ((all.length : Int) == (all.length : Int) + (d.length : Int)) = false := beq_eq_false_iff_ne.mpr (by omega)
                  clear hen hop2 hV HAA
                  go_wp2_with fail
                  go_quiet ((go_at_call 36; exact Calls.quiet_of_same (HEN.out _)))
                  go_wp2_with fail
                  refine (HEN.out nq).mono ?_
                  rintro e w12 ⟨rfl, hw12⟩
                  subst hw12
                  go_wp2
                  go_meet
                  exact ⟨l'', all, F', G', (HV.out.drewN nq).ra, HI.out, HL.out, by omega⟩
            · as_aux_lemma =>
              have HV7 := hid hV7
              obtain ⟨rm, hrm⟩ : ∃ rm, rm = (opened 3 20 start all).room := ⟨_, rfl⟩
              have hro : ∀ j, Calls Try.prog 32 #[.pointer (some ⟨R, 0, none⟩)] (w7.drewN j) fun e w' => e = .returned (.int .i64 rm) ∧ ∃ i, w' = (w7.drewN j).drewN i := fun j => by
                rw [hrm]; exact rx_room (hV7.drewN j).rx
              have HRO := hid hro
              have hcell7 : w7.cell? ⟨b, o + k, none⟩ = some (.slice A4 d.length c4) := (hV7.rl.be.cell (p := ⟨b, o + k, none⟩) hb).trans HC0.out
              have hnf' : ¬ ((d.length : Int) ≤ (rm : Int)) := by omega
              clear hro hV7 hrm hnf
              go_wp2_with fail
              go_quiet ((go_at_call 32; exact Calls.quiet_of (HRO.out _)))
              go_wp2
              go_meet
              exact ⟨l, all, F1, G1, (HV7.out.drewN nq).ra, HS.out.inv, HS.out.len, by omega⟩
          case rest => as_aux_lemma =>
            obtain ⟨l9, all9, F9, G9, hS9⟩ := hcut
            obtain ⟨A8, c8, rfl, _, _⟩ := hS9.ra.my.form
            have HS9 := hid hS9
            clear hxx
            by_cases htr : k < ts.length
            · obtain ⟨tb, tq, rfl, htb, htc⟩ := la_bool H3.out htr
              have htr' : (k : Int) < (ts.length : Int) := by omega
              obtain ⟨bt, hbt⟩ : ∃ bt, bt = ts.getD k false := ⟨_, rfl⟩
              rw [← hbt] at htc
              have htc' : wc.cell? ⟨tb, tq + k, none⟩ = some (.bool bt) := (hS9.ra.be.cell (p := ⟨tb, tq + k, none⟩) htb).trans htc
              clear htc hbt hS9
              cases bt
              · go_wp2
                go_roundw
                case rel => exact ⟨k + 1, start, l9, all9, F9, G9, by omega, by go_num, rfl, HS9.out⟩
                case measure => simp [intOf]; omega
              · go_wp2
                go_roundw
                case rel => exact ⟨k + 1, all9.length, l9, all9, F9, G9, by omega, by go_num, rfl, HS9.out.trim⟩
                case measure => simp [intOf]; omega
            · have htr' : ¬ ((k : Int) < (ts.length : Int)) := by omega
              clear hS9
              go_wp2
              go_roundw
              case rel => exact ⟨k + 1, start, l9, all9, F9, G9, by omega, by go_num, rfl, HS9.out⟩
              case measure => simp [intOf]; omega
        · as_aux_lemma =>
          have h3000' : 3000 < (d.length : Int) := by omega
          have hen2 := hid hen.out
          have haw2 := hid (haw.out wa')
          go_wp2_with fail
          refine hen2.out.mono ?_
          rintro e wa2 ⟨rfl, hwa⟩
          subst hwa
          go_wp2_with fail
          refine haw2.out.mono ?_
          rintro e w5 ⟨rfl, hb5⟩
          have HBE2 := hid (HV.out.rl.be.trans (hb5.mono HV.out.rl.be.size))
          clear hb5
          go_wp2
          go_ret
          exact ⟨rfl, HBE2.out⟩
      · as_aux_lemma =>
        by_cases hl2 : k < n0
        · have hk0' : (k : Int) < (n0 : Int) := by omega
          have hk40' : ¬ ((k : Int) < 15) := by omega
          clear hgo
          go_wp2
          go_meet
          exact HS.out.ra.be
        · have hk0' : ¬ ((k : Int) < (n0 : Int)) := by omega
          clear hgo
          go_wp2
          go_meet
          exact HS.out.ra.be
  case rest => as_aux_lemma =>
    have HBE := hid hcut
    have haw2 := hid (haw.out wc)
    clear hcut HS0
    go_wp2_with fail
    refine haw2.out.mono ?_
    rintro e w5 ⟨rfl, hb5⟩
    have HBE2 := hid (HBE.out.trans (hb5.mono HBE.out.size))
    clear hb5
    go_wp2
    go_ret
    exact ⟨rfl, HBE2.out⟩
end Go.Proofs.Ytjmcjbmnggecgaa
