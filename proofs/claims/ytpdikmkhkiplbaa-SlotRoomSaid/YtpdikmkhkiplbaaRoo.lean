/- The walk of SlotRoom. No conditions. -/
import Derived.Test.YtpdikmkhkiplbaaRoy
import Derived.Test.YtpdikmkhkiplbaaArg
namespace Go.Proofs.Ytpdikmkhkiplbaa
open Go.RowKit
set_option maxRecDepth 100000
set_option linter.unusedVariables false
set_option linter.unusedSimpArgs false

/-- a page that Puts have filled, without holes -/
structure RooS (w wr : World) (v : Value) (m : MPage) : Prop where
  be : Below w.heap.size w wr
  va : Valid m
  fu : Full m
  p : OutB w.heap.size wr v m.bytes
theorem RooS.below {w wr w' : World} {v : Value} {m : MPage} (h : RooS w wr v m) (hb : Below wr.heap.size wr w') : RooS w w' v m := ⟨h.be.trans (hb.mono h.be.size), h.va, h.fu, h.p.below hb⟩

set_option maxHeartbeats 6400000 in
theorem room_law (A0 : Option Addr) (n0 c0 : Nat) (A1 : Option Addr) (c1 : Nat) (d1 : List UInt8) (w : World) (h0 : RowsAt w A0 n0) (l0 : n0 ≤ 9223372036854775807) (h1 : Rd w 1 A1 d1.length (u8s d1)) (l1 : d1.length ≤ c1) (l2 : c1 ≤ 9223372036854775807) :
    Calls Try.prog 5 #[.slice A0 n0 c0, .slice A1 d1.length c1] w fun e w' => e = .returned (.bool true) ∧ Below w.heap.size w w' := by
  have H0 := hid h0
  have H1 := hid h1
  have hnew := hid (new_any w)
  have hD : d1.length ≤ 9223372036854775807 := Nat.le_trans l1 l2
  clear h0 h1
  go_enter Try.func5, Try.ntmps5
  go_wp2_with fail
  refine hnew.out.mono ?_
  rintro e w1 ⟨v1, rfl, ho1, hb1⟩
  obtain ⟨A2, c2, rfl, HO1⟩ := ho1.split
  have HS0 : Hid (RooS w w1 (.slice A2 (MPage.bytes ⟨0, []⟩).length c2) ⟨0, []⟩) := hid ⟨hb1, valid_new, rfl, HO1.out⟩
  have hl1 : (MPage.bytes ⟨0, []⟩).length = 504 := valid_new.length
  rw [hl1] at HS0 ⊢
  clear ho1 hb1 HO1 hnew
  go_upto_block 0 with fail
  go_cut [5] (fun p wx => ∃ (m : MPage) (A2 : Option Addr) (c2 : Nat), p = .slice A2 504 c2 ∧ RooS w wx (.slice A2 504 c2) m)
  case first => as_aux_lemma =>
    go_wp2_with fail
    go_loopw [5, 6] (fun p i wr => ∃ (k : Nat) (m : MPage) (A2 : Option Addr) (c2 : Nat), k ≤ 30 ∧ i = .int .i64 k ∧ p = .slice A2 504 c2 ∧ RooS w wr (.slice A2 504 c2) m) (fun _ i _ => 30 - (intOf i).toNat)
    case atStart => exact ⟨0, ⟨0, []⟩, A2, c2, by omega, rfl, rfl, HS0.out⟩
    case round => as_aux_lemma =>
      obtain ⟨k, m, A2, c2, hk, rfl, rfl, hS⟩ := hrel
      have HS := hid hS
      have hm504 : m.bytes.length = 504 := hS.va.length
      clear HS0
      by_cases hgo : k < n0 ∧ k < 30
      · as_aux_lemma =>
        obtain ⟨hk0, hk20⟩ := hgo
        have hk0' : (k : Int) < (n0 : Int) := by omega
        have hk20' : (k : Int) < 30 := by omega
        obtain ⟨b, o, A4, c4, d, rfl, hb, hcell, hrd, hdc⟩ := (H0.out.below hS.be).lit hk0
        have hput := hid (put_v (c2 := c4) HS.out.p hrd rfl)
        have hpc := hid (put_cases HS.out.va d)
        clear hrd hS
        go_wp2_with fail
        refine hput.out.mono ?_
        rintro e w3 ⟨v3, rfl, ho3, hb3⟩
        obtain ⟨A5, c5, rfl, HO3⟩ := ho3.split
        have HS3 := hid (HS.out.below hb3)
        clear ho3 hb3 hput hcell
        rcases hpc.out with ⟨e, he, hpe, _⟩ | ⟨hpe, hv, _, _⟩
        · rw [hpe]
          have hne : (e == 0) = false := by simpa using he
          clear hpc hpe
          go_wp2
          go_roundw
          case rel => exact ⟨k + 1, m, A2, c2, by omega, by go_num, rfl, HS3.out⟩
          case measure => simp [intOf]; omega
        · rw [hpe] at HO3 ⊢
          have e504 : (obytes (some (m.put d))).length = 504 := hv.length
          rw [e504] at HO3 ⊢
          have HS4 : Hid (RooS w w3 (.slice A5 504 c5) (m.put d)) := hid ⟨HS3.out.be, hv, full_put_ HS.out.fu d, HO3.out.mono HS.out.be.size⟩
          clear hpc hpe
          go_wp2
          go_roundw
          case rel => exact ⟨k + 1, m.put d, A5, c5, by omega, by go_num, rfl, HS4.out⟩
          case measure => simp [intOf]; omega
      · by_cases hk0 : k < n0
        · have hk0' : (k : Int) < (n0 : Int) := by omega
          have hk20' : ¬ ((k : Int) < 30) := by omega
          clear hgo hS
          go_wp2
          go_meet
          exact ⟨m, A2, c2, rfl, HS.out⟩
        · have hk0' : ¬ ((k : Int) < (n0 : Int)) := by omega
          clear hgo hS
          go_wp2
          go_meet
          exact ⟨m, A2, c2, rfl, HS.out⟩
  case rest => as_aux_lemma =>
    obtain ⟨m, A2, c2, rfl, hS⟩ := hcut
    have HS := hid hS
    have hm504 : m.bytes.length = 504 := hS.va.length
    clear hS HS0
    have hlen : m.l.length ≤ 124 := HS.out.va.len
    have hsum : sum m.l ≤ 498 := by have := HS.out.va.fits.1; omega
    go_upto_region 8 with fail
    go_cut [10] (fun v wx => v = .bool true ∧ RooS w wx (.slice A2 504 c2) m)
    case first => as_aux_lemma =>
      by_cases hL : m.l.length = 0
      · as_aux_lemma =>
        have hLb : ((m.l.length : Int) == 0) = true := by rw [hL]; rfl
        have hLn : m.l = [] := List.eq_nil_of_length_eq_zero hL
        refine wp_region_held_drew (S := fun w' => Below wc.heap.size wc w') (by kernel_rfl) (by exact (Below.refl _ _).drew) (fun hHeld0 => ?_)
        refine wpAnyH_take (i := 0) (oi := { dst := some 43, op := Op.move (Operand.tmp 5), type := 23, pos := _, after := #[], guard := none }) (v := ?_) rfl (by kernel_rfl) (by kernel_rfl) (by kernel_rfl) (fun _ _ _ h => h) (Or.inl ⟨by rfl, ?_⟩) (by assumption) ?_
        rotate_left
        · (intro w' hSw; (try dsimp only at hSw); go_simp; try with_reducible rfl)
        try simp only [Act.put, List.setIfInBounds_toArray, List.set_cons_zero, List.set_cons_succ]
        refine wpAnyH_ready (rs := [1]) (by kernel_rfl) (by simp) ?_
        refine AllReadyH.cons (o := { dst := some 44, op := Op.call { callee := Callee.value (Operand.func 14), args := #[Operand.tmp 43], argTypes := #[23] }, type := 31, pos := _, after := #[{ on := 0, ground := Ground.data }], guard := none }) rfl (fun K hK => ?_) AllReadyH.nil
        go_simp
        refine (slots_f (HS.out.p.below hHeld0) HS.out.va HS.out.fu).mono ?_
        rintro e wa ⟨Aa, ca, rfl, hna, hba⟩
        have hHa := hHeld0.trans (hba.mono hHeld0.size)
        refine hK.out _ _ hHa (fun hHeld1 => ?_)
        clear hK K hba hHa
        try simp only [Act.put, List.setIfInBounds_toArray, List.set_cons_zero, List.set_cons_succ]
        refine wpAnyH_take (i := 2) (oi := { dst := some 45, op := Op.call { callee := Callee.builtin Builtin.len, args := #[Operand.tmp 44], argTypes := #[31] }, type := 3, pos := _, after := #[{ on := 1, ground := Ground.data }], guard := none }) (v := ?_) rfl (by kernel_rfl) (by kernel_rfl) (by kernel_rfl) (fun _ _ _ h => h) (Or.inl ⟨by rfl, ?_⟩) (by assumption) ?_
        rotate_left
        · (intro w' hSw; (try dsimp only at hSw); go_simp; try with_reducible rfl)
        try simp only [Act.put, List.setIfInBounds_toArray, List.set_cons_zero, List.set_cons_succ]
        refine wpAnyH_take (i := 3) (oi := { dst := some 46, op := Op.binOp BinOp.eql 3 (Operand.tmp 45) (Operand.const (Value.int IntKind.i64 0)) 3, type := 4, pos := _, after := #[{ on := 2, ground := Ground.data }], guard := none }) (v := ?_) rfl (by kernel_rfl) (by kernel_rfl) (by kernel_rfl) (fun _ _ _ h => h) (Or.inl ⟨by rfl, ?_⟩) (by assumption) ?_
        rotate_left
        · (intro w' hSw; (try dsimp only at hSw); go_simp; try with_reducible rfl)
        try simp only [Act.put, List.setIfInBounds_toArray, List.set_cons_zero, List.set_cons_succ]
        refine wpAnyH_take (i := 4) (oi := { dst := some 47, op := Op.move (Operand.tmp 46), type := 4, pos := _, after := #[{ on := 3, ground := Ground.data }, { on := 1, ground := Ground.chain }], guard := none }) (v := ?_) rfl (by kernel_rfl) (by kernel_rfl) (by kernel_rfl) (fun _ _ _ h => h) (Or.inl ⟨by rfl, ?_⟩) (by assumption) ?_
        rotate_left
        · (intro w' hSw; (try dsimp only at hSw); go_simp; try with_reducible rfl)
        try simp only [Act.put, List.setIfInBounds_toArray, List.set_cons_zero, List.set_cons_succ]
        refine wpAnyH_take (i := 5) (oi := { dst := some 48, op := Op.move (Operand.tmp 5), type := 23, pos := _, after := #[{ on := 4, ground := Ground.guard }], guard := some (4, false) }) (v := _) rfl (by kernel_rfl) (by kernel_rfl) (by kernel_rfl) (fun _ _ _ h => h) (Or.inr ⟨by rfl, rfl⟩) (by assumption) ?_
        try simp only [Act.put, List.setIfInBounds_toArray, List.set_cons_zero, List.set_cons_succ]
        refine wpAnyH_take (i := 7) (oi := { dst := some 50, op := Op.move (Operand.tmp 5), type := 23, pos := _, after := #[{ on := 4, ground := Ground.guard }], guard := some (4, false) }) (v := _) rfl (by kernel_rfl) (by kernel_rfl) (by kernel_rfl) (fun _ _ _ h => h) (Or.inr ⟨by rfl, rfl⟩) (by assumption) ?_
        try simp only [Act.put, List.setIfInBounds_toArray, List.set_cons_zero, List.set_cons_succ]
        refine wpAnyH_take (i := 13) (oi := { dst := some 56, op := Op.move (Operand.tmp 5), type := 23, pos := _, after := #[{ on := 4, ground := Ground.guard }], guard := some (4, false) }) (v := _) rfl (by kernel_rfl) (by kernel_rfl) (by kernel_rfl) (fun _ _ _ h => h) (Or.inr ⟨by rfl, rfl⟩) (by assumption) ?_
        try simp only [Act.put, List.setIfInBounds_toArray, List.set_cons_zero, List.set_cons_succ]
        refine wpAnyH_take (i := 6) (oi := { dst := some 49, op := Op.call { callee := Callee.value (Operand.func 14), args := #[Operand.tmp 48], argTypes := #[23] }, type := 31, pos := _, after := #[{ on := 5, ground := Ground.data }, { on := 4, ground := Ground.chain }, { on := 4, ground := Ground.guard }], guard := some (4, false) }) (v := _) rfl (by kernel_rfl) (by kernel_rfl) (by kernel_rfl) (fun _ _ _ h => h) (Or.inr ⟨by rfl, rfl⟩) (by assumption) ?_
        try simp only [Act.put, List.setIfInBounds_toArray, List.set_cons_zero, List.set_cons_succ]
        refine wpAnyH_take (i := 8) (oi := { dst := some 51, op := Op.call { callee := Callee.value (Operand.func 14), args := #[Operand.tmp 50], argTypes := #[23] }, type := 31, pos := _, after := #[{ on := 7, ground := Ground.data }, { on := 6, ground := Ground.chain }, { on := 4, ground := Ground.guard }], guard := some (4, false) }) (v := _) rfl (by kernel_rfl) (by kernel_rfl) (by kernel_rfl) (fun _ _ _ h => h) (Or.inr ⟨by rfl, rfl⟩) (by assumption) ?_
        try simp only [Act.put, List.setIfInBounds_toArray, List.set_cons_zero, List.set_cons_succ]
        refine wpAnyH_take (i := 9) (oi := { dst := some 52, op := Op.call { callee := Callee.builtin Builtin.len, args := #[Operand.tmp 51], argTypes := #[31] }, type := 3, pos := _, after := #[{ on := 8, ground := Ground.data }, { on := 4, ground := Ground.guard }], guard := some (4, false) }) (v := _) rfl (by kernel_rfl) (by kernel_rfl) (by kernel_rfl) (fun _ _ _ h => h) (Or.inr ⟨by rfl, rfl⟩) (by assumption) ?_
        try simp only [Act.put, List.setIfInBounds_toArray, List.set_cons_zero, List.set_cons_succ]
        refine wpAnyH_take (i := 10) (oi := { dst := some 53, op := Op.binOp BinOp.sub 3 (Operand.tmp 52) (Operand.const (Value.int IntKind.i64 1)) 3, type := 3, pos := _, after := #[{ on := 9, ground := Ground.data }, { on := 4, ground := Ground.guard }], guard := some (4, false) }) (v := _) rfl (by kernel_rfl) (by kernel_rfl) (by kernel_rfl) (fun _ _ _ h => h) (Or.inr ⟨by rfl, rfl⟩) (by assumption) ?_
        try simp only [Act.put, List.setIfInBounds_toArray, List.set_cons_zero, List.set_cons_succ]
        refine wpAnyH_take (i := 11) (oi := { dst := some 54, op := Op.indexAddr 31 (Operand.tmp 49) (Operand.tmp 53), type := 0, pos := _, after := #[{ on := 6, ground := Ground.data }, { on := 10, ground := Ground.data }, { on := 4, ground := Ground.guard }], guard := some (4, false) }) (v := _) rfl (by kernel_rfl) (by kernel_rfl) (by kernel_rfl) (fun _ _ _ h => h) (Or.inr ⟨by rfl, rfl⟩) (by assumption) ?_
        try simp only [Act.put, List.setIfInBounds_toArray, List.set_cons_zero, List.set_cons_succ]
        refine wpAnyH_take (i := 12) (oi := { dst := some 55, op := Op.load 3 (Operand.tmp 54), type := 3, pos := _, after := #[{ on := 11, ground := Ground.data }, { on := 4, ground := Ground.guard }], guard := some (4, false) }) (v := _) rfl (by kernel_rfl) (by kernel_rfl) (by kernel_rfl) (fun _ _ _ h => h) (Or.inr ⟨by rfl, rfl⟩) (by assumption) ?_
        try simp only [Act.put, List.setIfInBounds_toArray, List.set_cons_zero, List.set_cons_succ]
        refine wpAnyH_take (i := 14) (oi := { dst := some 57, op := Op.call { callee := Callee.value (Operand.func 14), args := #[Operand.tmp 56], argTypes := #[23] }, type := 31, pos := _, after := #[{ on := 13, ground := Ground.data }, { on := 8, ground := Ground.chain }, { on := 4, ground := Ground.guard }], guard := some (4, false) }) (v := _) rfl (by kernel_rfl) (by kernel_rfl) (by kernel_rfl) (fun _ _ _ h => h) (Or.inr ⟨by rfl, rfl⟩) (by assumption) ?_
        try simp only [Act.put, List.setIfInBounds_toArray, List.set_cons_zero, List.set_cons_succ]
        refine wpAnyH_take (i := 15) (oi := { dst := some 58, op := Op.call { callee := Callee.builtin Builtin.len, args := #[Operand.tmp 57], argTypes := #[31] }, type := 3, pos := _, after := #[{ on := 14, ground := Ground.data }, { on := 4, ground := Ground.guard }], guard := some (4, false) }) (v := _) rfl (by kernel_rfl) (by kernel_rfl) (by kernel_rfl) (fun _ _ _ h => h) (Or.inr ⟨by rfl, rfl⟩) (by assumption) ?_
        try simp only [Act.put, List.setIfInBounds_toArray, List.set_cons_zero, List.set_cons_succ]
        refine wpAnyH_take (i := 16) (oi := { dst := some 59, op := Op.binOp BinOp.sub 3 (Operand.tmp 58) (Operand.const (Value.int IntKind.i64 1)) 3, type := 3, pos := _, after := #[{ on := 15, ground := Ground.data }, { on := 4, ground := Ground.guard }], guard := some (4, false) }) (v := _) rfl (by kernel_rfl) (by kernel_rfl) (by kernel_rfl) (fun _ _ _ h => h) (Or.inr ⟨by rfl, rfl⟩) (by assumption) ?_
        try simp only [Act.put, List.setIfInBounds_toArray, List.set_cons_zero, List.set_cons_succ]
        refine wpAnyH_take (i := 17) (oi := { dst := some 60, op := Op.binOp BinOp.eql 3 (Operand.tmp 55) (Operand.tmp 59) 3, type := 4, pos := _, after := #[{ on := 12, ground := Ground.data }, { on := 16, ground := Ground.data }, { on := 4, ground := Ground.guard }], guard := some (4, false) }) (v := _) rfl (by kernel_rfl) (by kernel_rfl) (by kernel_rfl) (fun _ _ _ h => h) (Or.inr ⟨by rfl, rfl⟩) (by assumption) ?_
        try simp only [Act.put, List.setIfInBounds_toArray, List.set_cons_zero, List.set_cons_succ]
        refine wpAnyH_take (i := 18) (oi := { dst := some 61, op := Op.pick (Operand.tmp 47) (Operand.const (Value.bool true)) (Operand.tmp 60), type := 4, pos := _, after := #[{ on := 4, ground := Ground.data }, { on := 17, ground := Ground.data }], guard := none }) (v := ?_) rfl (by kernel_rfl) (by kernel_rfl) (by kernel_rfl) (fun _ _ _ h => h) (Or.inl ⟨by rfl, ?_⟩) (by assumption) ?_
        rotate_left
        · (intro w' hSw; (try dsimp only at hSw); go_simp; try with_reducible rfl)
        try simp only [Act.put, List.setIfInBounds_toArray, List.set_cons_zero, List.set_cons_succ]
        refine wpAnyH_take (i := 19) (oi := { dst := some 10, op := Op.assign (Operand.tmp 61), type := 4, pos := _, after := #[{ on := 18, ground := Ground.data }, { on := 14, ground := Ground.chain }, { on := 0, ground := Ground.phase }, { on := 1, ground := Ground.phase }, { on := 2, ground := Ground.phase }, { on := 3, ground := Ground.phase }, { on := 4, ground := Ground.phase }, { on := 5, ground := Ground.phase }, { on := 6, ground := Ground.phase }, { on := 7, ground := Ground.phase }, { on := 8, ground := Ground.phase }, { on := 9, ground := Ground.phase }, { on := 10, ground := Ground.phase }, { on := 11, ground := Ground.phase }, { on := 12, ground := Ground.phase }, { on := 13, ground := Ground.phase }, { on := 14, ground := Ground.phase }, { on := 15, ground := Ground.phase }, { on := 16, ground := Ground.phase }, { on := 17, ground := Ground.phase }, { on := 18, ground := Ground.phase }], guard := none }) (v := ?_) rfl (by kernel_rfl) (by kernel_rfl) (by kernel_rfl) (fun _ _ _ h => h) (Or.inl ⟨by rfl, ?_⟩) (by assumption) ?_
        rotate_left
        · (intro w' hSw; (try dsimp only at hSw); go_simp; try with_reducible rfl)
        try simp only [Act.put, List.setIfInBounds_toArray, List.set_cons_zero, List.set_cons_succ]
        refine wpAnyH_done (by kernel_rfl) ?_ _
        have HSE := hid (HS.out.below hHeld1)
        go_wp2
        go_meet
        exact ⟨by first | rfl | simp, HSE.out⟩
      · as_aux_lemma =>
        have hLb : ((m.l.length : Int) == 0) = false := beq_eq_false_iff_ne.mpr (by omega)
        have hWr : IntKind.i64.wrap ((m.l.length : Int) - 1) = (m.l.length : Int) - 1 := by rw [IntKind.wrap_i64]; omega
        have hTn : ((m.l.length : Int) - 1).toNat = m.l.length - 1 := by omega
        have hL1 : ((m.l.length - 1 : Nat) : Int) = (m.l.length : Int) - 1 := by omega
        have hL5 : (1 : Int) ≤ (m.l.length : Int) := by omega
        have hL2 : (0 : Int) ≤ (m.l.length : Int) - 1 := by omega
        have hL3 : (m.l.length : Int) - 1 < (m.l.length : Int) := by omega
        refine wp_region_held_drew (S := fun w' => Below wc.heap.size wc w') (by kernel_rfl) (by exact (Below.refl _ _).drew) (fun hHeld0 => ?_)
        refine wpAnyH_take (i := 0) (oi := { dst := some 43, op := Op.move (Operand.tmp 5), type := 23, pos := _, after := #[], guard := none }) (v := ?_) rfl (by kernel_rfl) (by kernel_rfl) (by kernel_rfl) (fun _ _ _ h => h) (Or.inl ⟨by rfl, ?_⟩) (by assumption) ?_
        rotate_left
        · (intro w' hSw; (try dsimp only at hSw); go_simp; try with_reducible rfl)
        try simp only [Act.put, List.setIfInBounds_toArray, List.set_cons_zero, List.set_cons_succ]
        refine wpAnyH_ready (rs := [1]) (by kernel_rfl) (by simp) ?_
        refine AllReadyH.cons (o := { dst := some 44, op := Op.call { callee := Callee.value (Operand.func 14), args := #[Operand.tmp 43], argTypes := #[23] }, type := 31, pos := _, after := #[{ on := 0, ground := Ground.data }], guard := none }) rfl (fun K hK => ?_) AllReadyH.nil
        go_simp
        refine (slots_f (HS.out.p.below hHeld0) HS.out.va HS.out.fu).mono ?_
        rintro e wa ⟨Aa, ca, rfl, hna, hba⟩
        have hHa := hHeld0.trans (hba.mono hHeld0.size)
        refine hK.out _ _ hHa (fun hHeld1 => ?_)
        clear hK K hba hHa
        try simp only [Act.put, List.setIfInBounds_toArray, List.set_cons_zero, List.set_cons_succ]
        refine wpAnyH_take (i := 2) (oi := { dst := some 45, op := Op.call { callee := Callee.builtin Builtin.len, args := #[Operand.tmp 44], argTypes := #[31] }, type := 3, pos := _, after := #[{ on := 1, ground := Ground.data }], guard := none }) (v := ?_) rfl (by kernel_rfl) (by kernel_rfl) (by kernel_rfl) (fun _ _ _ h => h) (Or.inl ⟨by rfl, ?_⟩) (by assumption) ?_
        rotate_left
        · (intro w' hSw; (try dsimp only at hSw); go_simp; try with_reducible rfl)
        try simp only [Act.put, List.setIfInBounds_toArray, List.set_cons_zero, List.set_cons_succ]
        refine wpAnyH_take (i := 3) (oi := { dst := some 46, op := Op.binOp BinOp.eql 3 (Operand.tmp 45) (Operand.const (Value.int IntKind.i64 0)) 3, type := 4, pos := _, after := #[{ on := 2, ground := Ground.data }], guard := none }) (v := ?_) rfl (by kernel_rfl) (by kernel_rfl) (by kernel_rfl) (fun _ _ _ h => h) (Or.inl ⟨by rfl, ?_⟩) (by assumption) ?_
        rotate_left
        · (intro w' hSw; (try dsimp only at hSw); go_simp; try with_reducible rfl)
        try simp only [Act.put, List.setIfInBounds_toArray, List.set_cons_zero, List.set_cons_succ]
        refine wpAnyH_take (i := 4) (oi := { dst := some 47, op := Op.move (Operand.tmp 46), type := 4, pos := _, after := #[{ on := 3, ground := Ground.data }, { on := 1, ground := Ground.chain }], guard := none }) (v := ?_) rfl (by kernel_rfl) (by kernel_rfl) (by kernel_rfl) (fun _ _ _ h => h) (Or.inl ⟨by rfl, ?_⟩) (by assumption) ?_
        rotate_left
        · (intro w' hSw; (try dsimp only at hSw); go_simp; try with_reducible rfl)
        try simp only [Act.put, List.setIfInBounds_toArray, List.set_cons_zero, List.set_cons_succ]
        refine wpAnyH_take (i := 5) (oi := { dst := some 48, op := Op.move (Operand.tmp 5), type := 23, pos := _, after := #[{ on := 4, ground := Ground.guard }], guard := some (4, false) }) (v := ?_) rfl (by kernel_rfl) (by kernel_rfl) (by kernel_rfl) (fun _ _ _ h => h) (Or.inl ⟨by rfl, ?_⟩) (by assumption) ?_
        rotate_left
        · (intro w' hSw; (try dsimp only at hSw); go_simp; try with_reducible rfl)
        try simp only [Act.put, List.setIfInBounds_toArray, List.set_cons_zero, List.set_cons_succ]
        refine wpAnyH_take (i := 7) (oi := { dst := some 50, op := Op.move (Operand.tmp 5), type := 23, pos := _, after := #[{ on := 4, ground := Ground.guard }], guard := some (4, false) }) (v := ?_) rfl (by kernel_rfl) (by kernel_rfl) (by kernel_rfl) (fun _ _ _ h => h) (Or.inl ⟨by rfl, ?_⟩) (by assumption) ?_
        rotate_left
        · (intro w' hSw; (try dsimp only at hSw); go_simp; try with_reducible rfl)
        try simp only [Act.put, List.setIfInBounds_toArray, List.set_cons_zero, List.set_cons_succ]
        refine wpAnyH_take (i := 13) (oi := { dst := some 56, op := Op.move (Operand.tmp 5), type := 23, pos := _, after := #[{ on := 4, ground := Ground.guard }], guard := some (4, false) }) (v := ?_) rfl (by kernel_rfl) (by kernel_rfl) (by kernel_rfl) (fun _ _ _ h => h) (Or.inl ⟨by rfl, ?_⟩) (by assumption) ?_
        rotate_left
        · (intro w' hSw; (try dsimp only at hSw); go_simp; try with_reducible rfl)
        try simp only [Act.put, List.setIfInBounds_toArray, List.set_cons_zero, List.set_cons_succ]
        refine wpAnyH_ready (rs := [6]) (by kernel_rfl) (by simp) ?_
        refine AllReadyH.cons (o := { dst := some 49, op := Op.call { callee := Callee.value (Operand.func 14), args := #[Operand.tmp 48], argTypes := #[23] }, type := 31, pos := _, after := #[{ on := 5, ground := Ground.data }, { on := 4, ground := Ground.chain }, { on := 4, ground := Ground.guard }], guard := some (4, false) }) rfl (fun K hK => ?_) AllReadyH.nil
        go_simp
        refine (slots_f (HS.out.p.below hHeld1) HS.out.va HS.out.fu).mono ?_
        rintro e wb ⟨Ab, cb, rfl, hnb, hbb⟩
        have hBW := hHeld1.trans (hbb.mono hHeld1.size)
        obtain ⟨g, rfl, hg, _, hcell⟩ := range_cell hnb (show m.l.length - 1 < m.l.length by omega)
        refine hK.out _ _ hBW (fun hHeld2 => ?_)
        refine wpAnyH_mono (S' := fun w' => Below wb.heap.size wb w') (fun w' h => hBW.trans (h.mono hBW.size)) _ _ _ _ ?_
        have hHeld3 : Below wb.heap.size wb wb := Below.refl _ _
        clear hK K hbb
        try simp only [Act.put, List.setIfInBounds_toArray, List.set_cons_zero, List.set_cons_succ]
        refine wpAnyH_ready (rs := [8]) (by kernel_rfl) (by simp) ?_
        refine AllReadyH.cons (o := { dst := some 51, op := Op.call { callee := Callee.value (Operand.func 14), args := #[Operand.tmp 50], argTypes := #[23] }, type := 31, pos := _, after := #[{ on := 7, ground := Ground.data }, { on := 6, ground := Ground.chain }, { on := 4, ground := Ground.guard }], guard := some (4, false) }) rfl (fun K hK => ?_) AllReadyH.nil
        go_simp
        refine (slots_f ((HS.out.p.below hBW).below hHeld3) HS.out.va HS.out.fu).mono ?_
        rintro e wd ⟨Ad, cd, rfl, hnd, hbd⟩
        refine hK.out _ _ hbd (fun hHeld4 => ?_)
        clear hK K
        try simp only [Act.put, List.setIfInBounds_toArray, List.set_cons_zero, List.set_cons_succ]
        refine wpAnyH_take (i := 9) (oi := { dst := some 52, op := Op.call { callee := Callee.builtin Builtin.len, args := #[Operand.tmp 51], argTypes := #[31] }, type := 3, pos := _, after := #[{ on := 8, ground := Ground.data }, { on := 4, ground := Ground.guard }], guard := some (4, false) }) (v := ?_) rfl (by kernel_rfl) (by kernel_rfl) (by kernel_rfl) (fun _ _ _ h => h) (Or.inl ⟨by rfl, ?_⟩) (by assumption) ?_
        rotate_left
        · (intro w' hSw; (try dsimp only at hSw); go_simp; try with_reducible rfl)
        try simp only [Act.put, List.setIfInBounds_toArray, List.set_cons_zero, List.set_cons_succ]
        refine wpAnyH_take (i := 10) (oi := { dst := some 53, op := Op.binOp BinOp.sub 3 (Operand.tmp 52) (Operand.const (Value.int IntKind.i64 1)) 3, type := 3, pos := _, after := #[{ on := 9, ground := Ground.data }, { on := 4, ground := Ground.guard }], guard := some (4, false) }) (v := ?_) rfl (by kernel_rfl) (by kernel_rfl) (by kernel_rfl) (fun _ _ _ h => h) (Or.inl ⟨by rfl, ?_⟩) (by assumption) ?_
        rotate_left
        · (intro w' hSw; (try dsimp only at hSw); go_simp; try with_reducible rfl)
        try simp only [Act.put, List.setIfInBounds_toArray, List.set_cons_zero, List.set_cons_succ]
        refine wpAnyH_take (i := 11) (oi := { dst := some 54, op := Op.indexAddr 31 (Operand.tmp 49) (Operand.tmp 53), type := 0, pos := _, after := #[{ on := 6, ground := Ground.data }, { on := 10, ground := Ground.data }, { on := 4, ground := Ground.guard }], guard := some (4, false) }) (v := ?_) rfl (by kernel_rfl) (by kernel_rfl) (by kernel_rfl) (fun _ _ _ h => h) (Or.inl ⟨by rfl, ?_⟩) (by assumption) ?_
        rotate_left
        · (intro w' hSw; (try dsimp only at hSw); go_simp; try with_reducible rfl)
        try simp only [Act.put, List.setIfInBounds_toArray, List.set_cons_zero, List.set_cons_succ]
        refine wpAnyH_take (i := 12) (oi := { dst := some 55, op := Op.load 3 (Operand.tmp 54), type := 3, pos := _, after := #[{ on := 11, ground := Ground.data }, { on := 4, ground := Ground.guard }], guard := some (4, false) }) (v := ?_) rfl (by kernel_rfl) (by kernel_rfl) (by kernel_rfl) (fun _ _ _ h => h) (Or.inl ⟨by rfl, ?_⟩) (by assumption) ?_
        rotate_left
        · (intro w' hSw; (try dsimp only at hSw); have hq : w'.cell? ⟨g, m.l.length - 1, none⟩ = some (.int .i64 ((m.l.length - 1 : Nat) : Int)) := (hSw.cell (p := ⟨g, m.l.length - 1, none⟩) hg).trans hcell; clear hSw; go_simp; try with_reducible rfl)
        try simp only [Act.put, List.setIfInBounds_toArray, List.set_cons_zero, List.set_cons_succ]
        refine wpAnyH_ready (rs := [14]) (by kernel_rfl) (by simp) ?_
        refine AllReadyH.cons (o := { dst := some 57, op := Op.call { callee := Callee.value (Operand.func 14), args := #[Operand.tmp 56], argTypes := #[23] }, type := 31, pos := _, after := #[{ on := 13, ground := Ground.data }, { on := 8, ground := Ground.chain }, { on := 4, ground := Ground.guard }], guard := some (4, false) }) rfl (fun K hK => ?_) AllReadyH.nil
        go_simp
        refine (slots_f ((HS.out.p.below hBW).below hHeld4) HS.out.va HS.out.fu).mono ?_
        rintro e we ⟨Ae, ce, rfl, hne, hbe⟩
        have hHe := hHeld4.trans (hbe.mono hHeld4.size)
        refine hK.out _ _ hHe (fun hHeld5 => ?_)
        clear hK K hbe
        try simp only [Act.put, List.setIfInBounds_toArray, List.set_cons_zero, List.set_cons_succ]
        refine wpAnyH_take (i := 15) (oi := { dst := some 58, op := Op.call { callee := Callee.builtin Builtin.len, args := #[Operand.tmp 57], argTypes := #[31] }, type := 3, pos := _, after := #[{ on := 14, ground := Ground.data }, { on := 4, ground := Ground.guard }], guard := some (4, false) }) (v := ?_) rfl (by kernel_rfl) (by kernel_rfl) (by kernel_rfl) (fun _ _ _ h => h) (Or.inl ⟨by rfl, ?_⟩) (by assumption) ?_
        rotate_left
        · (intro w' hSw; (try dsimp only at hSw); go_simp; try with_reducible rfl)
        try simp only [Act.put, List.setIfInBounds_toArray, List.set_cons_zero, List.set_cons_succ]
        refine wpAnyH_take (i := 16) (oi := { dst := some 59, op := Op.binOp BinOp.sub 3 (Operand.tmp 58) (Operand.const (Value.int IntKind.i64 1)) 3, type := 3, pos := _, after := #[{ on := 15, ground := Ground.data }, { on := 4, ground := Ground.guard }], guard := some (4, false) }) (v := ?_) rfl (by kernel_rfl) (by kernel_rfl) (by kernel_rfl) (fun _ _ _ h => h) (Or.inl ⟨by rfl, ?_⟩) (by assumption) ?_
        rotate_left
        · (intro w' hSw; (try dsimp only at hSw); go_simp; try with_reducible rfl)
        try simp only [Act.put, List.setIfInBounds_toArray, List.set_cons_zero, List.set_cons_succ]
        refine wpAnyH_take (i := 17) (oi := { dst := some 60, op := Op.binOp BinOp.eql 3 (Operand.tmp 55) (Operand.tmp 59) 3, type := 4, pos := _, after := #[{ on := 12, ground := Ground.data }, { on := 16, ground := Ground.data }, { on := 4, ground := Ground.guard }], guard := some (4, false) }) (v := ?_) rfl (by kernel_rfl) (by kernel_rfl) (by kernel_rfl) (fun _ _ _ h => h) (Or.inl ⟨by rfl, ?_⟩) (by assumption) ?_
        rotate_left
        · (intro w' hSw; (try dsimp only at hSw); go_simp; try with_reducible rfl)
        try simp only [Act.put, List.setIfInBounds_toArray, List.set_cons_zero, List.set_cons_succ]
        refine wpAnyH_take (i := 18) (oi := { dst := some 61, op := Op.pick (Operand.tmp 47) (Operand.const (Value.bool true)) (Operand.tmp 60), type := 4, pos := _, after := #[{ on := 4, ground := Ground.data }, { on := 17, ground := Ground.data }], guard := none }) (v := ?_) rfl (by kernel_rfl) (by kernel_rfl) (by kernel_rfl) (fun _ _ _ h => h) (Or.inl ⟨by rfl, ?_⟩) (by assumption) ?_
        rotate_left
        · (intro w' hSw; (try dsimp only at hSw); go_simp; try with_reducible rfl)
        try simp only [Act.put, List.setIfInBounds_toArray, List.set_cons_zero, List.set_cons_succ]
        refine wpAnyH_take (i := 19) (oi := { dst := some 10, op := Op.assign (Operand.tmp 61), type := 4, pos := _, after := #[{ on := 18, ground := Ground.data }, { on := 14, ground := Ground.chain }, { on := 0, ground := Ground.phase }, { on := 1, ground := Ground.phase }, { on := 2, ground := Ground.phase }, { on := 3, ground := Ground.phase }, { on := 4, ground := Ground.phase }, { on := 5, ground := Ground.phase }, { on := 6, ground := Ground.phase }, { on := 7, ground := Ground.phase }, { on := 8, ground := Ground.phase }, { on := 9, ground := Ground.phase }, { on := 10, ground := Ground.phase }, { on := 11, ground := Ground.phase }, { on := 12, ground := Ground.phase }, { on := 13, ground := Ground.phase }, { on := 14, ground := Ground.phase }, { on := 15, ground := Ground.phase }, { on := 16, ground := Ground.phase }, { on := 17, ground := Ground.phase }, { on := 18, ground := Ground.phase }], guard := none }) (v := ?_) rfl (by kernel_rfl) (by kernel_rfl) (by kernel_rfl) (fun _ _ _ h => h) (Or.inl ⟨by rfl, ?_⟩) (by assumption) ?_
        rotate_left
        · (intro w' hSw; (try dsimp only at hSw); go_simp; try with_reducible rfl)
        try simp only [Act.put, List.setIfInBounds_toArray, List.set_cons_zero, List.set_cons_succ]
        refine wpAnyH_done (by kernel_rfl) ?_ _
        have HSE := hid (HS.out.below (hBW.trans (hHeld5.mono hBW.size)))
        go_wp2
        go_meet
        exact ⟨by first | rfl | simp, HSE.out⟩
    case rest => as_aux_lemma =>
      obtain ⟨rfl, hS⟩ := hcut
      have HS2 := hid hS
      have hfr := hid (free_v HS2.out.p)
      obtain ⟨F, hF⟩ : ∃ F, F = freeB m.bytes := ⟨_, rfl⟩
      have hF2 : F = min 480 (max 0 (494 - 4 * (m.l.length : Int) - (sum m.l : Int))) := by rw [hF, freeB, HS.out.va.pg]
      rw [← hF] at hfr
      have hpc := hid (put_cases HS.out.va d1)
      have hwl : (widen m.l).length = m.l.length + 1 := by rw [(full_put HS.out.fu d1).2.2]; simp
      rw [hwl] at hpc
      have hHF := hid hF2
      clear hS hF hF2 hwl
      go_wp2_with fail
      refine hfr.out.mono ?_
      rintro e w3 ⟨rfl, hb3⟩
      have HS3 := hid (HS2.out.below hb3)
      have hput := hid (put_v (c2 := c1) HS3.out.p (H1.out.below HS3.out.be) rfl)
      clear hb3 hfr
      go_wp2_with fail
      refine hput.out.mono ?_
      rintro e w4 ⟨v4, rfl, ho4, hb4⟩
      obtain ⟨A4, c4, rfl, HO4⟩ := ho4.split
      have HS4 := hid (HS3.out.below hb4)
      have HQ4 := hid (HO4.out.mono HS3.out.be.size)
      clear ho4 hb4 hput HO4
      obtain ⟨E, hE⟩ : ∃ E, E = (putB m.bytes d1).1 := ⟨_, rfl⟩
      have HEE := hid hE
      rw [← hE]
      clear hE
      go_upto_region 11 with fail
      go_cut [98] (fun v wx => v = .bool false ∧ RooS w wx (.slice A2 504 c2) m ∧ OutB w.heap.size wx (.slice A4 (obytes (putB m.bytes d1).2.2).length c4) (obytes (putB m.bytes d1).2.2))
      case first => as_aux_lemma =>
        by_cases h480 : d1.length ≤ 480
        · have h480' : (d1.length : Int) ≤ 480 := by omega
          have hsl := hid (slots_f HS4.out.p HS.out.va HS.out.fu)
          by_cases hl4 : 4 * m.l.length ≤ 494
          · have hl4' : 6 + 4 * (m.l.length : Int) + 4 ≤ 504 := by omega
            go_wp2_with fail
            refine hsl.out.mono ?_
            rintro e w5 ⟨A5, c5, rfl, _, hb5⟩
            have HS5 := hid (HS4.out.below hb5)
            have HQ5 := hid (HQ4.out.below hb5)
            have hroo := hid (roomy_any _ _ _ _ _ HS5.out.p HS5.out.be.size HS.out.va HS.out.fu)
            clear hb5 hsl
            by_cases hfit : (d1.length : Int) ≤ F
            · rcases hpc.out with ⟨e, he, hpe, hor⟩ | ⟨hpe, hv, _, _⟩
              · have hX : Hid (E = e) := hid (by rw [HEE.out, hpe])
                have hno : decide (4 * m.l.length + sum m.l ≤ 494) = false := by
                  simp only [decide_eq_false_iff_not]
                  have hF2 := hHF.out
                  rcases hor with h | h <;> omega
                have hne : (E == 0) = false := by rw [hX.out]; simpa using he
                rw [hno] at hroo
                clear hpe hor
                go_wp2_with fail
                refine hroo.out.mono ?_
                rintro e w6 ⟨rfl, hb6⟩
                have HS6 := hid (HS5.out.below hb6)
                have HQ6 := hid (HQ5.out.below hb6)
                clear hb6
                go_wp2
                go_meet
                exact ⟨by first | rfl | simp, HS6.out, HQ6.out⟩
              · have hne : (E == 0) = true := by rw [HEE.out, hpe]; rfl
                have hno : decide (4 * m.l.length + sum m.l ≤ 494) = true := by
                  simp only [decide_eq_true_eq]
                  omega
                rw [hno] at hroo
                clear hpe
                go_wp2_with fail
                refine hroo.out.mono ?_
                rintro e w6 ⟨rfl, hb6⟩
                have HS6 := hid (HS5.out.below hb6)
                have HQ6 := hid (HQ5.out.below hb6)
                clear hb6
                go_wp2
                go_meet
                exact ⟨by first | rfl | simp, HS6.out, HQ6.out⟩
            · have hX : Hid (E ≠ 0) := hid (by
                rcases hpc.out with ⟨e, he, hpe, hor⟩ | ⟨hpe, hv, _, _⟩
                · rw [HEE.out, hpe]; exact he
                · exfalso; have hF2 := hHF.out; omega)
              have hne : (E == 0) = false := by simpa using hX.out
              go_wp2
              go_meet
              exact ⟨by first | rfl | simp, HS5.out, HQ5.out⟩
          · have hl4' : ¬ (6 + 4 * (m.l.length : Int) + 4 ≤ 504) := by omega
            go_wp2_with fail
            refine hsl.out.mono ?_
            rintro e w5 ⟨A5, c5, rfl, _, hb5⟩
            have HS5 := hid (HS4.out.below hb5)
            have HQ5 := hid (HQ4.out.below hb5)
            clear hb5 hsl
            go_wp2
            go_meet
            exact ⟨by first | rfl | simp, HS5.out, HQ5.out⟩
        · have h480' : ¬ ((d1.length : Int) ≤ 480) := by omega
          go_wp2
          go_meet
          exact ⟨by first | rfl | simp, HS4.out, HQ4.out⟩
      case rest => as_aux_lemma =>
        obtain ⟨rfl, hS, hO⟩ := hcut
        have HS5 := hid hS
        have HQ5 := hid hO
        clear hS hO HS4 HQ4
        rcases hpc.out with ⟨e, he, hpe, _⟩ | ⟨hpe, hv, hd480, _⟩
        · have hX : Hid (E = e) := hid (by rw [HEE.out, hpe])
          have hne : (E == 0) = false := by rw [hX.out]; simpa using he
          have haw := hid (awake_any wc)
          clear hpc hpe
          go_wp2_with fail
          refine haw.out.mono ?_
          rintro e w6 ⟨rfl, hb6⟩
          have HBE := hid (HS5.out.be.trans (hb6.mono HS5.out.be.size))
          clear hb6
          go_wp2
          go_ret
          exact ⟨rfl, HBE.out⟩
        · have hX : E = 0 := by rw [HEE.out, hpe]
          have e504 : (obytes (some (m.put d1))).length = 504 := hv.length
          rw [hpe] at HQ5 ⊢
          rw [e504] at HQ5 ⊢
          have HQ5' : Hid (OutB w.heap.size wc (.slice A4 504 c4) (m.put d1).bytes) := HQ5
          have hget := hid (get_v HQ5'.out (spot m.l : Int))
          rw [get_put d1 hv] at hget
          obtain ⟨hd1, hd2⟩ := del_put HS.out.va d1 hv
          have HDD1 := hid hd1
          have HDD2 := hid hd2
          clear hpc hpe hd1 hd2 HQ5
          subst hX
          simp only [Option.getD_some, Option.isSome_some] at hget
          go_wp2_with fail
          refine hget.out.mono ?_
          rintro e w6 ⟨v6, rfl, ho6, hb6⟩
          obtain ⟨A6, c6, rfl, HO6⟩ := ho6.split
          have HS6 := hid (HS5.out.below hb6)
          have HQ6 := hid (HQ5'.out.below hb6)
          have hdel := hid (del_v HQ6.out (spot m.l : Int))
          rw [HDD1.out, HDD2.out] at hdel
          clear ho6 hb6 hget
          go_wp2_with fail
          refine hdel.out.mono ?_
          rintro e w7 ⟨v7, rfl, ho7, hb7⟩
          obtain ⟨A7, c7, rfl, HO7⟩ := ho7.split
          have HS7 := hid (HS6.out.below hb7)
          rw [hm504] at HO7 ⊢
          have s1 := str_v (HO6.out.below hb7)
          have s2 := run_str w7 A1 _ c1 d1 (H1.out.below HS7.out.be)
          have s3 := str_v HO7.out
          have s4 := str_v HS7.out.p
          have haw := hid (awake_any w7)
          clear ho7 hb7 hdel
          go_wp2_with fail
          refine haw.out.mono ?_
          rintro e w8 ⟨rfl, hb8⟩
          have HBE := hid (HS7.out.be.trans (hb8.mono HS7.out.be.size))
          clear hb8
          go_wp2
          go_ret
          exact ⟨by first | rfl | simp, HBE.out⟩

end Go.Proofs.Ytpdikmkhkiplbaa
