/- The walk of RingRounds. No conditions. -/
import Derived.Test.YtjmcjbmnggecgaaRgT0
namespace Go.Proofs.Ytjmcjbmnggecgaa
open Go.RowKit
set_option maxRecDepth 100000
set_option linter.unusedVariables false
set_option linter.unusedSimpArgs false

set_option maxHeartbeats 6400000 in
theorem rounds_any (A0 : Option Addr) (n0 c0 : Nat) (z : Int) (w : World) (h0 : RowsAt w A0 n0) (l0 : n0 ≤ 9223372036854775807) (hz1 : -9223372036854775808 ≤ z) (hz2 : z ≤ 9223372036854775807) :
    Calls Try.prog 8 #[.slice A0 n0 c0, .int .i64 z] w fun e w' => e = .returned (.bool true) ∧ Below w.heap.size w w' := by
  have H0 := hid h0
  have haw := hid rawake_any
  obtain ⟨s, hs⟩ : ∃ s, s = (z % 256).toNat := ⟨_, rfl⟩
  have hs256 : s < 256 := by rw [hs]; omega
  have hand : bits .and .i64 z 255 = (s : Int) := by rw [and255, hs]
  clear h0 hs hz1 hz2
  obtain ⟨i5, hi5, hy0, hy1, hy2⟩ := info_parts info5
  go_enter Try.func8, Try.ntmps8
  go_wp2_with fail
  refine (new_up 12 _ (by omega) (by omega)).mono ?_
  rintro e w1 ⟨D, F, G, rfl, hu, hge, hb1⟩
  have HS0 : Hid (RdS w w1 D 0 0 (List.replicate 12 zeros) (.slice none 0 0) [] F G) := hid ⟨⟨hu, hge, hb1, Mine.nil⟩, rinv_new 12 2 8 (by omega) (by omega), List.length_replicate, by simp, by simp⟩
  clear hu hge hb1
  go_upto_block 0 with fail
  go_cut [7, 8, 9] (fun st v _ wx => ∃ (k start : Nat) (l : List (List UInt8)) (all : List UInt8) (F G : Nat → Prop), k ≤ 60 ∧ st = .int .i64 (start : Nat) ∧ RdS w wx D k start l v all F G)
  case first => as_aux_lemma =>
    go_wp2_with fail
    go_loopw [7, 8, 9] (fun st v i wr => ∃ (k start : Nat) (l : List (List UInt8)) (all : List UInt8) (F G : Nat → Prop), k ≤ 60 ∧ i = .int .i64 k ∧ st = .int .i64 start ∧ RdS w wr D k start l v all F G) (fun _ _ i _ => 60 - (intOf i).toNat)
    case atStart => exact ⟨0, 0, _, [], F, G, by omega, rfl, rfl, HS0.out⟩
    case round => as_aux_lemma =>
      obtain ⟨k, start, l, all, F1, G1, hk, rfl, rfl, hS⟩ := hrel
      obtain ⟨A2, c2, rfl, HRA, HCA⟩ := hS.ra.my.form
      have HS := hid hS
      have hst := hS.inv.st
      have hnear := hS.near
      have hsmall := hS.small
      clear HS0 hS HRA
      by_cases hgo : k < n0 ∧ k < 60
      · as_aux_lemma =>
        obtain ⟨hk0, hk40⟩ := hgo
        have hk0' : (k : Int) < (n0 : Int) := by omega
        have hk40' : (k : Int) < 60 := by omega
        obtain ⟨b, o, A4, c4, d, rfl, hb, hcell0, hrd, hdc, hdm⟩ := H0.out.lit hk0
        have HRD := hid hrd
        have HDM := hid (Nat.le_trans hdc hdm)
        have HC0 := hid hcell0
        have hop := hid (rv_open HS.out.ra 2 8 start all (by omega) (by omega) (by rw [HS.out.len]; omega) (by rw [HS.out.len]; omega) HS.out.inv (by omega))
        clear hcell0 hrd hdm
        go_wp2_with fail
        refine hop.out.mono ?_
        rintro e wa ⟨R, B, rfl, hV⟩
        have HV := hid hV
        have hen : Hid (Calls Try.prog 36 #[.pointer (some ⟨R, 0, none⟩)] wa fun e w' => e = .returned (.int .i64 all.length) ∧ w' = wa) := hid (rx_end hV.rx)
        clear hop hV
        go_wp2_with fail
        refine hen.out.mono ?_
        rintro e wa' ⟨rfl, hwa⟩
        subst hwa
        have hcell : wa'.cell? ⟨b, o + k, none⟩ = some (.slice A4 d.length c4) := (HV.out.rl.be.cell (p := ⟨b, o + k, none⟩) hb).trans HC0.out
        clear hen
        by_cases h300 : d.length ≤ 300
        · as_aux_lemma =>
          have h300' : ¬ (300 < (d.length : Int)) := by omega
          have hap := hid (rv_append HV.out A4 d.length c4 d (HRD.out.below HV.out.rl.be) rfl (Nat.le_trans h300 HS.out.room))
          go_wp2_with fail
          refine hap.out.mono ?_
          rintro e wb ⟨rfl, B2, hV2⟩
          have hV2' : RV w wb R D (laid 2 8 start all d) l (.slice A2 all.length c2) all F1 G1 B2 := hV2
          have HV2 := hid hV2'
          have hcell2 : wb.cell? ⟨b, o + k, none⟩ = some (.slice A4 d.length c4) := (hV2'.rl.be.cell (p := ⟨b, o + k, none⟩) hb).trans HC0.out
          have hown := hV2'.my.own
          have hrd2 := HRD.out.below hV2'.rl.be
          have hsz : w.heap.size ≤ wb.heap.size := hV2'.rl.be.size
          clear hV2 hV2' hap hcell HV
          go_wp2_with (at_builtin; refine wpList_append_any _ rfl (.tmp 63) (.tmp 67) 30 rfl w.heap.size 5 i5 _ 1 1 Try.underlying30 hi5 hy0 hy1 hy2 rfl (by omega) _ all.length (u8s all) rfl hown A4 d.length c4 _ rfl hrd2 (u8s_one _) (by unfold maxLen; omega) (by omega) hsz ?_)
          rintro v3 w3 hown3 hg3 hat3
          have hV3 := HV2.out.grow hg3 hown3 hat3
          obtain ⟨all2, hall2⟩ : ∃ a, a = all ++ d := ⟨_, rfl⟩
          rw [← hall2] at hV3
          obtain ⟨A3, c3, rfl, HR3, HC3⟩ := hV3.my.form
          have hlen2 : all2.length = all.length + d.length := by rw [hall2, List.length_append]
          have hst2 : start ≤ all2.length := by omega
          obtain ⟨m, hm⟩ : ∃ m, m = all2.length - start := ⟨_, rfl⟩
          have hwm : IntKind.i64.wrap ((all2.length : Int) - (start : Int)) = (m : Int) := by rw [IntKind.wrap_i64]; omega
          have hlt : (laid 2 8 start all d).tail = all2.length := by rw [hall2]; exact laid_tail hst
          have hrdc := rv_read hV3 start m (Nat.le_refl _) (by rw [hlt]; omega)
          have hrr : ((laid 2 8 start all d).bytes.drop (start - (laid 2 8 start all d).base)).take m = all2.drop start := by
            rw [hm, hall2]
            exact laid_read hst
          rw [hrr] at hrdc
          have hbb : (laid 2 8 start all d).bytes = all2.drop (laid 2 8 start all d).base := by rw [hall2]; exact laid_bytes hst
          have HRDC := hid hrdc
          have HB := hid hbb
          have HT := hid hlt
          have Hm := hid hm
          have Hall := hid hall2
          have HL2 := hid hlen2
          have hm64 : (m : Int) ≤ 100000 := by omega
          obtain ⟨A6, hsl, hr6⟩ := sl_from0 (c := c3) A3 (u8s all2) start hst2 HC3
          rw [← hm] at hsl hr6
          have HR6 := hid hr6
          clear hlen2 hV3 hrdc hrr hbb hlt hm hall2 hown3 hg3 hat3 hcell2 hrd2 hown HV2 hr6 HR3
          go_wp2_with fail
          refine HRDC.out.mono ?_
          rintro e w5 ⟨A5, c5, rfl, hx5, hV5⟩
          have HF0 : Hid (RdF w w3 R D B2 (laid 2 8 start all d) l all2 (.slice A3 all2.length c3) all2 (.slice A5 m c5) (all2.drop start) false w5) := hid ⟨F1, G1, hV5, hx5⟩
          have HFL : Hid (∀ w', (∃ done, RdF w w3 R D B2 (laid 2 8 start all d) l all2 (.slice A3 all2.length c3) all2 (.slice A5 m c5) (all2.drop start) done w') → Calls Try.prog 35 #[.pointer (some ⟨R, 0, none⟩)] w' fun e w'' => e = .returned (.int .i64 0) ∧ RdF w w3 R D B2 (laid 2 8 start all d) l all2 (.slice A3 all2.length c3) all2 (.slice A5 m c5) (all2.drop start) true w'') := hid fun w' h => h.elim fun _ h => h.flush HB.out HT.out
          clear hx5 hV5 HRDC HB HT
          go_upto_region 16 with fail
          refine wp_region_held_drew (S := fun w' => ∃ done, RdF w w3 R D B2 (laid 2 8 start all d) l all2 (.slice A3 all2.length c3) all2 (.slice A5 m c5) (all2.drop start) done w') (by kernel_rfl) ⟨false, HF0.out.drew⟩ (fun hHeld0 => ?_)
          refine wpAnyH_take (i := 0) (oi := { dst := some 79, op := Op.move (Operand.tmp 13), type := 25, pos := _, after := #[], guard := none }) (v := ?_) rfl (by kernel_rfl) (by kernel_rfl) (by kernel_rfl) (fun _ _ _ h => h) (Or.inl ⟨by rfl, ?_⟩) (by assumption) ?_
          rotate_left
          · (intro w' hSw; (try dsimp only at hSw); clear hSw; go_simp; try with_reducible rfl)
          try simp only [Act.put, List.setIfInBounds_toArray, List.set_cons_zero, List.set_cons_succ]
          refine wpAnyH_take (i := 1) (oi := { dst := some 80, op := Op.binOp BinOp.neq 25 (Operand.tmp 79) (Operand.const (Value.int IntKind.i64 0)) 25, type := 4, pos := _, after := #[{ on := 0, ground := Ground.data }], guard := none }) (v := ?_) rfl (by kernel_rfl) (by kernel_rfl) (by kernel_rfl) (fun _ _ _ h => h) (Or.inl ⟨by rfl, ?_⟩) (by assumption) ?_
          rotate_left
          · (intro w' hSw; (try dsimp only at hSw); clear hSw; go_simp; try with_reducible rfl)
          try simp only [Act.put, List.setIfInBounds_toArray, List.set_cons_zero, List.set_cons_succ]
          refine wpAnyH_take (i := 2) (oi := { dst := some 81, op := Op.move (Operand.tmp 80), type := 4, pos := _, after := #[{ on := 1, ground := Ground.data }], guard := none }) (v := ?_) rfl (by kernel_rfl) (by kernel_rfl) (by kernel_rfl) (fun _ _ _ h => h) (Or.inl ⟨by rfl, ?_⟩) (by assumption) ?_
          rotate_left
          · (intro w' hSw; (try dsimp only at hSw); clear hSw; go_simp; try with_reducible rfl)
          try simp only [Act.put, List.setIfInBounds_toArray, List.set_cons_zero, List.set_cons_succ]
          refine wpAnyH_take (i := 3) (oi := { dst := some 82, op := Op.move (Operand.tmp 12), type := 30, pos := _, after := #[{ on := 2, ground := Ground.guard }], guard := some (2, false) }) (v := ?_) rfl (by kernel_rfl) (by kernel_rfl) (by kernel_rfl) (fun _ _ _ h => h) (Or.inl ⟨by rfl, ?_⟩) (by assumption) ?_
          rotate_left
          · (intro w' hSw; (try dsimp only at hSw); clear hSw; go_simp; try with_reducible rfl)
          try simp only [Act.put, List.setIfInBounds_toArray, List.set_cons_zero, List.set_cons_succ]
          refine wpAnyH_take (i := 4) (oi := { dst := some 83, op := Op.convert 30 9 (Operand.tmp 82), type := 9, pos := _, after := #[{ on := 3, ground := Ground.data }, { on := 2, ground := Ground.guard }], guard := some (2, false) }) (v := ?_) rfl (by kernel_rfl) (by kernel_rfl) (by kernel_rfl) (fun _ _ _ h => h) (Or.inl ⟨by rfl, ?_⟩) (by assumption) ?_
          rotate_left
          · (intro w' hSw; (try dsimp only at hSw); have hq := hSw.elim fun _ h => h.str; clear hSw; go_simp; try with_reducible rfl)
          try simp only [Act.put, List.setIfInBounds_toArray, List.set_cons_zero, List.set_cons_succ]
          refine wpAnyH_take (i := 5) (oi := { dst := some 84, op := Op.move (Operand.tmp 8), type := 30, pos := _, after := #[{ on := 2, ground := Ground.guard }], guard := some (2, false) }) (v := ?_) rfl (by kernel_rfl) (by kernel_rfl) (by kernel_rfl) (fun _ _ _ h => h) (Or.inl ⟨by rfl, ?_⟩) (by assumption) ?_
          rotate_left
          · (intro w' hSw; (try dsimp only at hSw); clear hSw; go_simp; try with_reducible rfl)
          try simp only [Act.put, List.setIfInBounds_toArray, List.set_cons_zero, List.set_cons_succ]
          refine wpAnyH_take (i := 6) (oi := { dst := some 85, op := Op.move (Operand.tmp 7), type := 3, pos := _, after := #[{ on := 2, ground := Ground.guard }], guard := some (2, false) }) (v := ?_) rfl (by kernel_rfl) (by kernel_rfl) (by kernel_rfl) (fun _ _ _ h => h) (Or.inl ⟨by rfl, ?_⟩) (by assumption) ?_
          rotate_left
          · (intro w' hSw; (try dsimp only at hSw); clear hSw; go_simp; try with_reducible rfl)
          try simp only [Act.put, List.setIfInBounds_toArray, List.set_cons_zero, List.set_cons_succ]
          refine wpAnyH_take (i := 7) (oi := { dst := some 86, op := Op.slice 30 (Operand.tmp 84) (some (Operand.tmp 85)) none none, type := 30, pos := _, after := #[{ on := 5, ground := Ground.data }, { on := 6, ground := Ground.data }, { on := 2, ground := Ground.guard }], guard := some (2, false) }) (v := ?_) rfl (by kernel_rfl) (by kernel_rfl) (by kernel_rfl) (fun _ _ _ h => h) (Or.inl ⟨by rfl, ?_⟩) (by assumption) ?_
          rotate_left
          · (intro w' hSw; (try dsimp only at hSw); clear hSw; go_simp; try with_reducible rfl)
          try simp only [Act.put, List.setIfInBounds_toArray, List.set_cons_zero, List.set_cons_succ]
          refine wpAnyH_take (i := 8) (oi := { dst := some 87, op := Op.convert 30 9 (Operand.tmp 86), type := 9, pos := _, after := #[{ on := 7, ground := Ground.data }, { on := 2, ground := Ground.guard }], guard := some (2, false) }) (v := ?_) rfl (by kernel_rfl) (by kernel_rfl) (by kernel_rfl) (fun _ _ _ h => h) (Or.inl ⟨by rfl, ?_⟩) (by assumption) ?_
          rotate_left
          · (intro w' hSw; (try dsimp only at hSw); have hq := hSw.elim fun dn h => run_str w' A6 m (c3 - start) (all2.drop start) (by rw [u8s_drop]; exact HR6.out _ h.own.2); clear hSw; go_simp; try with_reducible rfl)
          try simp only [Act.put, List.setIfInBounds_toArray, List.set_cons_zero, List.set_cons_succ]
          refine wpAnyH_take (i := 9) (oi := { dst := some 88, op := Op.binOp BinOp.neq 9 (Operand.tmp 83) (Operand.tmp 87) 9, type := 4, pos := _, after := #[{ on := 4, ground := Ground.data }, { on := 8, ground := Ground.data }, { on := 2, ground := Ground.guard }], guard := some (2, false) }) (v := ?_) rfl (by kernel_rfl) (by kernel_rfl) (by kernel_rfl) (fun _ _ _ h => h) (Or.inl ⟨by rfl, ?_⟩) (by assumption) ?_
          rotate_left
          · (intro w' hSw; (try dsimp only at hSw); clear hSw; go_simp; try with_reducible rfl)
          try simp only [Act.put, List.setIfInBounds_toArray, List.set_cons_zero, List.set_cons_succ]
          refine wpAnyH_take (i := 10) (oi := { dst := some 89, op := Op.pick (Operand.tmp 81) (Operand.const (Value.bool true)) (Operand.tmp 88), type := 4, pos := _, after := #[{ on := 2, ground := Ground.data }, { on := 9, ground := Ground.data }], guard := none }) (v := ?_) rfl (by kernel_rfl) (by kernel_rfl) (by kernel_rfl) (fun _ _ _ h => h) (Or.inl ⟨by rfl, ?_⟩) (by assumption) ?_
          rotate_left
          · (intro w' hSw; (try dsimp only at hSw); clear hSw; go_simp; try with_reducible rfl)
          try simp only [Act.put, List.setIfInBounds_toArray, List.set_cons_zero, List.set_cons_succ]
          refine wpAnyH_take (i := 11) (oi := { dst := some 90, op := Op.move (Operand.tmp 89), type := 4, pos := _, after := #[{ on := 10, ground := Ground.data }, { on := 2, ground := Ground.chain }], guard := none }) (v := ?_) rfl (by kernel_rfl) (by kernel_rfl) (by kernel_rfl) (fun _ _ _ h => h) (Or.inl ⟨by rfl, ?_⟩) (by assumption) ?_
          rotate_left
          · (intro w' hSw; (try dsimp only at hSw); clear hSw; go_simp; try with_reducible rfl)
          try simp only [Act.put, List.setIfInBounds_toArray, List.set_cons_zero, List.set_cons_succ]
          refine wpAnyH_take (i := 12) (oi := { dst := some 91, op := Op.move (Operand.tmp 10), type := 59, pos := _, after := #[{ on := 11, ground := Ground.guard }], guard := some (11, false) }) (v := ?_) rfl (by kernel_rfl) (by kernel_rfl) (by kernel_rfl) (fun _ _ _ h => h) (Or.inl ⟨by rfl, ?_⟩) (by assumption) ?_
          rotate_left
          · (intro w' hSw; (try dsimp only at hSw); clear hSw; go_simp; try with_reducible rfl)
          try simp only [Act.put, List.setIfInBounds_toArray, List.set_cons_zero, List.set_cons_succ]
          refine wpAnyH_ready (rs := [13]) (by kernel_rfl) (by simp) ?_
          refine AllReadyH.cons (o := { dst := some 92, op := Op.call { callee := Callee.value (Operand.func 35), args := #[Operand.tmp 91], argTypes := #[59] }, type := 25, pos := _, after := #[{ on := 12, ground := Ground.data }, { on := 11, ground := Ground.chain }, { on := 11, ground := Ground.guard }], guard := some (11, false) }) rfl (fun K hK => ?_) AllReadyH.nil
          go_simp
          refine ((HFL.out _ hHeld0)).mono ?_
          rintro e w8 ⟨rfl, hF8⟩
          refine hK.out _ _ (⟨true, hF8⟩) (fun hHeld1 => ?_)
          clear hK K
          try simp only [Act.put, List.setIfInBounds_toArray, List.set_cons_zero, List.set_cons_succ]
          refine wpAnyH_take (i := 14) (oi := { dst := some 93, op := Op.binOp BinOp.neq 25 (Operand.tmp 92) (Operand.const (Value.int IntKind.i64 0)) 25, type := 4, pos := _, after := #[{ on := 13, ground := Ground.data }, { on := 11, ground := Ground.guard }], guard := some (11, false) }) (v := ?_) rfl (by kernel_rfl) (by kernel_rfl) (by kernel_rfl) (fun _ _ _ h => h) (Or.inl ⟨by rfl, ?_⟩) (by assumption) ?_
          rotate_left
          · (intro w' hSw; (try dsimp only at hSw); clear hSw; go_simp; try with_reducible rfl)
          try simp only [Act.put, List.setIfInBounds_toArray, List.set_cons_zero, List.set_cons_succ]
          refine wpAnyH_take (i := 15) (oi := { dst := some 94, op := Op.pick (Operand.tmp 90) (Operand.const (Value.bool true)) (Operand.tmp 93), type := 4, pos := _, after := #[{ on := 11, ground := Ground.data }, { on := 14, ground := Ground.data }], guard := none }) (v := ?_) rfl (by kernel_rfl) (by kernel_rfl) (by kernel_rfl) (fun _ _ _ h => h) (Or.inl ⟨by rfl, ?_⟩) (by assumption) ?_
          rotate_left
          · (intro w' hSw; (try dsimp only at hSw); clear hSw; go_simp; try with_reducible rfl)
          try simp only [Act.put, List.setIfInBounds_toArray, List.set_cons_zero, List.set_cons_succ]
          refine wpAnyH_done (by kernel_rfl) ?_ _
          obtain ⟨F8, G8, hV8, _⟩ := hF8
          obtain ⟨start', hst'⟩ : ∃ s', s' = max start (all2.length - s) := ⟨_, rfl⟩
          have hwx : IntKind.i64.wrap ((all2.length : Int) - (s : Int)) = (all2.length : Int) - (s : Int) := by have := HL2.out; rw [IntKind.wrap_i64]; omega
          have HV8 := hid hV8
          have HST := hid hst'
          clear hV8 hst'
          go_wp2
          go_roundw
          case rel =>
            have hl2 := HL2.out
            have hm' : start' = max start (all2.length - s) := HST.out
            have h8 := HV8.out
            rw [Hall.out] at h8
            have hn := HS.out.next (start' := start') h300 (by omega) h8 (by omega) (by rw [← Hall.out]; omega) (by rw [← Hall.out]; omega)
            refine ⟨k + 1, start', _, all ++ d, F8, G8, by omega, by go_num, congrArg (Value.int IntKind.i64) ?_, by rw [Hall.out]; exact hn⟩
            split <;> omega
          case measure => simp [intOf]; omega
        · as_aux_lemma =>
          have h300' : 300 < (d.length : Int) := by omega
          have HBE := hid HV.out.rl.be
          have haw2 := hid (haw.out wa')
          go_wp2_with fail
          refine haw2.out.mono ?_
          rintro e w5 ⟨rfl, hb5⟩
          have HBE2 := hid (HBE.out.trans (hb5.mono HBE.out.size))
          clear hb5
          go_wp2
          go_ret
          exact ⟨rfl, HBE2.out⟩
      · as_aux_lemma =>
        by_cases hl2 : k < n0
        · have hk0' : (k : Int) < (n0 : Int) := by omega
          have hk40' : ¬ ((k : Int) < 60) := by omega
          clear hgo
          go_wp2
          go_meet
          exact ⟨k, start, l, all, F1, G1, hk, rfl, HS.out⟩
        · have hk0' : ¬ ((k : Int) < (n0 : Int)) := by omega
          clear hgo
          go_wp2
          go_meet
          exact ⟨k, start, l, all, F1, G1, hk, rfl, HS.out⟩
  case rest => as_aux_lemma =>
    obtain ⟨k, start, l, all, F1, G1, hk, rfl, hS⟩ := hcut
    obtain ⟨A2, c2, rfl, HRA, HCA⟩ := hS.ra.my.form
    have HS := hid hS
    have hop := hid (rv_open hS.ra 2 8 start all (by omega) (by omega) (by rw [hS.len]; omega) (by rw [hS.len]; omega) hS.inv (by have := hS.inv.st; have := hS.small; omega))
    clear HS0 hS HRA
    go_wp2_with fail
    refine hop.out.mono ?_
    rintro e wa ⟨R, B, rfl, hV⟩
    have HV := hid hV
    have hen : Hid (Calls Try.prog 36 #[.pointer (some ⟨R, 0, none⟩)] wa fun e w' => e = .returned (.int .i64 all.length) ∧ w' = wa) := hid (rx_end hV.rx)
    clear hop hV
    go_wp2_with fail
    refine hen.out.mono ?_
    rintro e wa' ⟨rfl, hwa⟩
    subst hwa
    have haw2 := hid (haw.out wa')
    clear hen
    go_wp2_with fail
    refine haw2.out.mono ?_
    rintro e w5 ⟨rfl, hb5⟩
    have HBE2 := hid (HV.out.rl.be.trans (hb5.mono HV.out.rl.be.size))
    clear hb5
    go_wp2
    go_ret
    exact ⟨rfl, HBE2.out⟩
end Go.Proofs.Ytjmcjbmnggecgaa
