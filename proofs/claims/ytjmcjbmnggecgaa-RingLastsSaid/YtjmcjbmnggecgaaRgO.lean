/- ring.Open over a device that holds a stream. Conditions: sizes. -/
import Derived.Test.YtjmcjbmnggecgaaRgM
import Derived.BigRegion
namespace Go.Proofs.Ytjmcjbmnggecgaa
open Go.RowKit
set_option maxRecDepth 100000
set_option linter.unusedVariables false
set_option linter.unusedSimpArgs false

theorem step_app {P : Program} {w w' : World} {ops : Array Oper} {o : Oper} {a : Act} {K : Act → World → Prop} {Q : Exit → Act → World → Prop} {E : Prop} (hgd : o.guard = none) (s x : Operand) (t : TypeId)
    (ho : o.op = .call { callee := .builtin .append, args := #[s, x], argTypes := #[t, t] }) (v u v' : Value) (hs : a.eval s = v) (hx : a.eval x = u) (hrun : (Builtin.append_ #[t, t] o.type #[v, u]).run P w = .ok v' w') (h : K (a.put o.dst v') w') :
    if Region.wanted o (yielded ops a.tmps) = true then Oper.wp P o a w K Q else E := by
  have hw : Region.wanted o (yielded ops a.tmps) = true := by simp [Region.wanted, hgd]
  rw [if_pos hw]
  unfold Oper.wp execOp
  simp only [ho, resolve, invoke, builtin, Sem.run_bind, Sem.run_pure, Result.andThen_ok, List.map_toArray, List.map_cons, List.map_nil, hs, hx, hrun]
  exact h
theorem wp_bare {P : Program} {c : Code} {a : Act} {w : World} {Q : Exit → Act → World → Prop} (h : ∀ K : Act → World → Prop, (∀ a w, Q .normal a w → K a w) → c.wp P (Exit.then K Q) a w) : c.wp P Q a w :=
  Code.wp_mono (fun e a w h => by cases e <;> exact h) (h (fun a w => Q .normal a w) (fun _ _ h => h))
theorem size_up (D : Nat) (F G : Nat → Prop) (l : List (List UInt8)) (W : List (Nat × List UInt8)) (w : World) (h : Up w D F G l W) : Calls Try.prog 28 #[.pointer (some ⟨D, 0, none⟩)] w fun e w' => e = .returned (.int .i64 l.length) ∧ w = w' := by
  obtain ⟨m, hd, rfl, _⟩ := h
  exact size_any D F G m w hd
/-- Open's ring while it is read -/
structure OpS (w wr : World) (R D : Nat) (F G : Nat → Prop) (l : List (List UInt8)) (q : MRing) : Prop where
  up : Up wr D F G l []
  ch : Chg (· = D) w wr
  mem : ∃ B, RgMem wr R D B q ∧ ∀ i, B i → w.heap.size ≤ i
theorem pieces (all : List UInt8) (b k : Nat) (h : b + k * 118 ≤ all.length) (hk : ∃ s, b = s * 118) : (all.drop b).take (k * 118) ++ piece all (b / 118 + k) = (all.drop b).take ((k + 1) * 118) := by
  obtain ⟨s, rfl⟩ := hk
  unfold piece
  rw [Nat.mul_div_cancel _ (by omega), Nat.add_mul, Nat.add_mul, List.take_add, List.drop_drop]

set_option maxHeartbeats 6400000 in
theorem open_any (D : Nat) (F G : Nat → Prop) (l : List (List UInt8)) (w : World) (hd : Up w D F G l []) (fr n start : Nat) (hn2 : 2 ≤ n) (hn8 : n ≤ 8192) (hb : fr + n ≤ l.length) (hl : l.length ≤ 8192) (all : List UInt8) (hinv : RInv l fr n start all) (hst : start ≤ 1099511627776) :
    Calls Try.prog 31 #[.pointer (some ⟨D, 0, none⟩), .int .i64 fr, .int .i64 n, .int .i64 start] w fun e w' => ∃ R B, e = .returned (.tuple #[.pointer (some ⟨R, 0, none⟩), .int .i64 0]) ∧
      RgMem w' R D B ⟨fr, n, start / 118 * 118, all.drop (start / 118 * 118), start, all.length, false⟩ ∧ Up w' D F G l [] ∧ (∀ i, B i → w.heap.size ≤ i) ∧ Chg (· = D) w w' := by
  have HD := hid hd
  have HI := hid hinv
  have hlt := hid hd.lt
  have HT := hid (show all.length ≤ 2199023255552 by have := hinv.cap; omega)
  obtain ⟨s0, hs0⟩ : ∃ s0, s0 = start / 118 := ⟨_, rfl⟩
  obtain ⟨off, hoff⟩ : ∃ off, off = start % 118 := ⟨_, rfl⟩
  have hso : Hid (start = s0 * 118 + off ∧ off < 118) := hid (by omega)
  have hw57 : (start : Int).tdiv 118 = (s0 : Int) := by rw [Int.tdiv_eq_ediv_of_nonneg (by omega)]; omega
  have hw57' : (start : Int) / 118 = (s0 : Int) := by omega
  have hw63 : (start : Int).tmod 118 = (off : Int) := by rw [Int.tmod_eq_emod_of_nonneg (by omega)]; omega
  have hw63' : (start : Int) % 118 = (off : Int) := by omega
  have hs0b : s0 ≤ 10000000000 := by omega
  have hob : off < 118 := hso.out.2
  obtain ⟨b0, hb0⟩ : ∃ b0, b0 = s0 * 118 := ⟨_, rfl⟩
  have hm58 : (s0 : Int) * 118 = (b0 : Int) := by omega
  have hb0b : b0 ≤ 1099511627776 := by omega
  have hg1 : decide ((n : Int) < 2) = false := by simp; omega
  have hg2 : decide ((8192 : Int) < (n : Int)) = false := by simp; omega
  have hg3 : decide ((fr : Int) < 0) = false := by simp
  have hg4 : decide (l.length < fr) = false := by simp; omega
  have hg5 : decide (l.length - fr < n) = false := by simp; omega
  have hg6 : decide ((start : Int) < 0) = false := by simp
  have hg7 : decide ((1099511627776 : Int) < (start : Int)) = false := by simp; omega
  have hsz := hid (size_up D F G l [] w hd)
  have hll : ((l.length : Int) - (fr : Int)) = ((l.length - fr : Nat) : Int) := by omega
  have hB0 : Hid (Blk (w.alloc (.cells #[.pointer (some ⟨D, 0, none⟩), .int .i64 fr, .int .i64 n, .int .i64 b0, .slice none 0 0, .int .i64 start, .int .i64 0, .bool false] 80)) w.heap.size 80 (qcells D (.slice none 0 0) ⟨fr, n, b0, [], start, 0, false⟩)) := hid (Blk.new w 80 _)
  have hbe0 : Below w.heap.size w (w.alloc (.cells #[.pointer (some ⟨D, 0, none⟩), .int .i64 fr, .int .i64 n, .int .i64 b0, .slice none 0 0, .int .i64 start, .int .i64 0, .bool false] 80)) := (Below.refl _ _).alloc (Nat.le_refl _) _
  have HS0 : Hid (OpS w (w.alloc (.cells #[.pointer (some ⟨D, 0, none⟩), .int .i64 fr, .int .i64 n, .int .i64 b0, .slice none 0 0, .int .i64 start, .int .i64 0, .bool false] 80)) w.heap.size D F G l ⟨fr, n, b0, [], start, 0, false⟩) :=
    hid ⟨hd.below hbe0, Chg.of_below hbe0, fun i => i = w.heap.size, ⟨rfl, fun i hi => by subst hi; simp, _, hB0.out, World.ownsRow_nil _ _ _ _, fun g hg => by simp [Value.ownBlock] at hg⟩, fun i hi => by subst hi; exact Nat.le_refl _⟩
  clear hd hinv hbe0 hoff hB0
  rw [← hs0, ← hb0]
  have Hs0 := hid hs0
  have Hb0 := hid hb0
  clear hs0 hb0
  go_enter Try.func31, Try.ntmps31
  go_wp2_with fail
  refine hsz.out.mono ?_
  rintro e w1 ⟨rfl, rfl⟩
  go_wp2_with fail
  refine hsz.out.mono ?_
  rintro e w1 ⟨rfl, rfl⟩
  go_upto_block 0 with fail
  generalize hw0 : w.alloc (.cells #[.pointer (some ⟨D, 0, none⟩), .int .i64 fr, .int .i64 n, .int .i64 b0, .slice none 0 0, .int .i64 start, .int .i64 0, .bool false] 80) = w0
  rw [hw0] at HS0
  clear hw0 HD hsz hll
  go_cut [] (fun wx => OpS w wx w.heap.size D F G l ⟨fr, n, b0, all.drop b0, start, 0, false⟩)
  case first => as_aux_lemma =>
    obtain ⟨i5, hi5, hz0, hz1, hz2⟩ := info_parts info5
    go_wp2_with fail
    go_loopw [65] (fun i wr => ∃ k : Nat, k ≤ n ∧ i = .int .i64 k ∧ b0 + k * 118 ≤ all.length ∧ OpS w wr w.heap.size D F G l ⟨fr, n, b0, (all.drop b0).take (k * 118), start, 0, false⟩) (fun i _ => n - (intOf i).toNat)
    case atStart => exact ⟨0, by omega, rfl, by have := HI.out.st; have := hso.out; have := Hb0.out; omega, HS0.out⟩
    case round => as_aux_lemma =>
      obtain ⟨k, hk, rfl, hlen, hS⟩ := hrel
      have hkn : k < n := by
        have h1 := HI.out.cap
        have h2 := Hs0.out
        have h3 := Hb0.out
        rw [← h2] at h1
        omega
      obtain ⟨bq, hbq⟩ : ∃ bq, bq = (all.drop b0).take (k * 118) := ⟨_, rfl⟩
      have Hbq := hid hbq
      have hlq : bq.length ≤ 1000000 := by rw [hbq, List.length_take]; omega
      rw [← hbq] at hS
      obtain ⟨Bq, hM, hBq⟩ := hS.mem
      obtain ⟨s, hs⟩ : ∃ s, s = l.getD (fr + (s0 + k) % n) [] := ⟨_, rfl⟩
      have hsec := hid (rsector_any w.heap.size D F G Bq _ l wr hM hS.up (fun i hi => ⟨fun hF => by have := hlt.out.1 i hF; have := hBq i hi; omega, fun hG => by have := hlt.out.2.1 i hG; have := hBq i hi; omega⟩) (show 1 ≤ n by omega) (show fr + n ≤ l.length from hb) hl (s0 + k) (by omega) s hs)
      rw [show ((s0 + k : Nat) : Int) = (s0 : Int) + (k : Int) by omega] at hsec
      have hH : Holds s all (s0 + k) := by
        have h2 := Hs0.out
        have h3 := Hb0.out
        rw [hs]
        exact HI.out.sec (s0 + k) (by omega) (by omega)
      have hpl := piece_length all (s0 + k)
      have hpc := pieces all b0 k hlen ⟨s0, Hb0.out⟩
      have hbd : b0 / 118 = s0 := by have := Hb0.out; omega
      rw [hbd, ← hbq] at hpc
      have HS := hid hS
      have hk' : (k : Int) < (n : Int) := by omega
      have hdl : (all.drop b0).length = all.length - b0 := List.length_drop
      clear hS hM hBq hbd hbq
      go_wp2_with fail
      refine hsec.out.mono ?_
      rintro e w1 hpost
      unfold SecPost at hpost
      obtain ⟨A, c, rfl, hcc, hrd, hA, hup, hch⟩ := hpost
      obtain ⟨P, hP⟩ : ∃ P, P = piece all (s0 + k) := ⟨_, rfl⟩
      obtain ⟨bb, hbb⟩ : ∃ bb, bb = (secC s (s0 + k)).1 := ⟨_, rfl⟩
      obtain ⟨m, hm⟩ : ∃ m, m = P.length := ⟨_, rfl⟩
      unfold Holds at hH
      rw [← hP, ← hbb, ← hm] at hH
      rw [← hP, ← hm] at hpl
      rw [← hP] at hpc
      have hH1 := hH.1
      rw [← hbb] at hrd
      rw [hH1]
      have HS1 : Hid (OpS w w1 w.heap.size D F G l ⟨fr, n, b0, bq, start, 0, false⟩) := hid (by
        obtain ⟨Bq, hM, hBq⟩ := HS.out.mem
        exact ⟨hup, HS.out.ch.trans hch, Bq, hM.chg hch (fun i hi e => by have := hBq i hi; have := hlt.out.1 D hlt.out.2.2; omega), hBq⟩)
      have HRD := hid hrd
      have HCC := hid hcc
      have HP2 : Hid (P = bb.take m) := hid hH.2.symm
      have Hm := hid hm
      have Hpc := hid hpc
      clear hrd hA hup hch hH hH1 hs hbb hm hP hsec hcc hpc
      have hm118 : m ≤ 118 := by omega
      have Hpl := hid hpl
      have hml : m ≤ all.length - (s0 + k) * 118 := by have := Hb0.out; omega
      clear hpl
      by_cases hk0 : k = 0
      · subst hk0
        by_cases hle : m ≤ off
        · as_aux_lemma =>
          have hmo : m = off := by have := HI.out.st; have := hso.out; have := Hpl.out; have := Hb0.out; omega
          subst hmo
          obtain ⟨Bq, hM, hBq⟩ := HS1.out.mem
          obtain ⟨Aq, cq, Hq, c0, c1, c2, c3, c4, c5, c6, c7⟩ := hM.cells
          obtain ⟨hsl, hrs⟩ := sl_to HRD.out m (m : Int) rfl (by omega) HCC.out
          have hrs' : Rd w1.drew 1 A m (u8s P) := by
            have e : u8s P = (u8s bb).take m := by rw [HP2.out]; simp [u8s, List.map_take]
            rw [e]
            exact hrs.below (Below.refl _ _).drew
          obtain ⟨v5, w5, happ, hown5, hg5, hat5⟩ := run_append_any (P := Try.prog) w1.drew 0 30 30 5 i5 _ 1 1 Try.underlying30 hi5 hz0 hz1 hz2 rfl (by omega) _ _ _ (show w1.drew.ownsRow 0 5 1 _ _ _ from Hq.out.2.1) A m c _ hrs' (u8s_one _) (by unfold maxLen; show bq.length + _ ≤ _; omega) (by show (bq.length + _) * 1 ≤ _; omega) (by omega)
          have hPm : m = P.length := Hm.out
          have hown5' : w5.ownsRow 0 5 1 v5 (bq.length + P.length) (u8s bq ++ u8s P) := by rw [← hPm]; exact hown5
          obtain ⟨h5c, h5f, B', hM', hB', hch'⟩ := (hM.below (Below.refl _ _).drew).app (w := w1.drew) Hq.out.1 Hq.out.2.1 Hq.out.2.2.1 hg5 hown5' hat5
          have hS' : OpS w (w5.setCell ⟨w.heap.size, 4, none⟩ v5) w.heap.size D F G l ⟨fr, n, b0, bq ++ P, start, 0, false⟩ := by
            have hnB : ∀ i, Bq i → w.heap.size ≤ i := hBq
            refine ⟨(HS1.out.up.below (Below.refl _ _).drew).frame hch' (fun i hi => ?_), HS1.out.ch.trans' (show Chg Bq w1 _ from ⟨hch'.os, hch'.tape, hch'.output, hch'.size, hch'.block⟩) (fun i hi h => by have := hnB i h; omega), B', hM', fun i hi => (hB' i hi).elim (hnB i) (fun h => Nat.le_trans HS1.out.ch.size h)⟩
            exact ⟨fun hF => by have := hlt.out.1 i hF; have := hnB i hi; omega, fun hG => by have := hlt.out.2.1 i hG; have := hnB i hi; omega⟩
          obtain ⟨A6, c6', rfl, _⟩ := own_form hown5
          have c4d : w1.drew.cell? ⟨w.heap.size, 4, none⟩ = some (.slice Aq bq.length cq) := c4
          have HAPP := hid happ
          have HS' := hid hS'
          clear hPm happ hown5 hown5' hg5 hat5 hM' hB' hch' hrs hrs' hM hBq c0 c1 c2 c3 c4 c5 c6 c7 Hq hS'
          go_wp2_with fail
          refine wp_region_held_drew (S := fun _ => True) (by kernel_rfl) trivial (fun _ => ?_)
          refine wpAnyH_take (i := 0) (oi := { dst := some 87, op := Op.move (Operand.tmp 10), type := 59, pos := _, after := #[], guard := none }) (v := ?_) rfl (by kernel_rfl) (by kernel_rfl) (by kernel_rfl) (fun _ _ _ h => h) (Or.inl ⟨by rfl, ?_⟩) trivial ?_
          rotate_left
          · (intro w' hSw; (try dsimp only at hSw); clear hSw; go_simp; try with_reducible rfl)
          try simp only [Act.put, List.setIfInBounds_toArray, List.set_cons_zero, List.set_cons_succ]
          refine wpAnyH_take (i := 1) (oi := { dst := some 88, op := Op.move (Operand.tmp 10), type := 59, pos := _, after := #[], guard := none }) (v := ?_) rfl (by kernel_rfl) (by kernel_rfl) (by kernel_rfl) (fun _ _ _ h => h) (Or.inl ⟨by rfl, ?_⟩) trivial ?_
          rotate_left
          · (intro w' hSw; (try dsimp only at hSw); clear hSw; go_simp; try with_reducible rfl)
          try simp only [Act.put, List.setIfInBounds_toArray, List.set_cons_zero, List.set_cons_succ]
          refine wpAnyH_take (i := 2) (oi := { dst := some 89, op := Op.nilCheck (Operand.tmp 88), type := 0, pos := _, after := #[{ on := 1, ground := Ground.data }], guard := none }) (v := ?_) rfl (by kernel_rfl) (by kernel_rfl) (by kernel_rfl) (fun _ _ _ h => h) (Or.inl ⟨by rfl, ?_⟩) trivial ?_
          rotate_left
          · (intro w' hSw; (try dsimp only at hSw); clear hSw; go_simp; try with_reducible rfl)
          try simp only [Act.put, List.setIfInBounds_toArray, List.set_cons_zero, List.set_cons_succ]
          refine wpAnyH_take (i := 3) (oi := { dst := some 90, op := Op.fieldAddr 80 (Operand.tmp 89) 4, type := 0, pos := _, after := #[{ on := 2, ground := Ground.data }], guard := none }) (v := ?_) rfl (by kernel_rfl) (by kernel_rfl) (by kernel_rfl) (fun _ _ _ h => h) (Or.inl ⟨by rfl, ?_⟩) trivial ?_
          rotate_left
          · (intro w' hSw; (try dsimp only at hSw); clear hSw; go_simp; try with_reducible rfl)
          try simp only [Act.put, List.setIfInBounds_toArray, List.set_cons_zero, List.set_cons_succ]
          refine wpAnyH_take (i := 5) (oi := { dst := some 92, op := Op.move (Operand.tmp 13), type := 30, pos := _, after := #[], guard := none }) (v := ?_) rfl (by kernel_rfl) (by kernel_rfl) (by kernel_rfl) (fun _ _ _ h => h) (Or.inl ⟨by rfl, ?_⟩) trivial ?_
          rotate_left
          · (intro w' hSw; (try dsimp only at hSw); clear hSw; go_simp; try with_reducible rfl)
          try simp only [Act.put, List.setIfInBounds_toArray, List.set_cons_zero, List.set_cons_succ]
          refine wpAnyH_take (i := 6) (oi := { dst := some 93, op := Op.move (Operand.tmp 16), type := 3, pos := _, after := #[], guard := none }) (v := ?_) rfl (by kernel_rfl) (by kernel_rfl) (by kernel_rfl) (fun _ _ _ h => h) (Or.inl ⟨by rfl, ?_⟩) trivial ?_
          rotate_left
          · (intro w' hSw; (try dsimp only at hSw); clear hSw; go_simp; try with_reducible rfl)
          try simp only [Act.put, List.setIfInBounds_toArray, List.set_cons_zero, List.set_cons_succ]
          refine wpAnyH_take (i := 7) (oi := { dst := some 94, op := Op.slice 30 (Operand.tmp 92) none (some (Operand.tmp 93)) none, type := 30, pos := _, after := #[{ on := 5, ground := Ground.data }, { on := 6, ground := Ground.data }], guard := none }) (v := ?_) rfl (by kernel_rfl) (by kernel_rfl) (by kernel_rfl) (fun _ _ _ h => h) (Or.inl ⟨by rfl, ?_⟩) trivial ?_
          rotate_left
          · (intro w' hSw; (try dsimp only at hSw); clear hSw; go_simp; try with_reducible rfl)
          try simp only [Act.put, List.setIfInBounds_toArray, List.set_cons_zero, List.set_cons_succ]
          refine wpAnyH_ready (rs := [4]) (by kernel_rfl) (by simp) ?_
          refine AllReadyH.cons (o := { dst := some 91, op := Op.load 30 (Operand.tmp 90), type := 30, pos := _, after := #[{ on := 3, ground := Ground.data }], guard := none }) rfl (fun K hK => ?_) AllReadyH.nil
          go_simp
          refine hK.out _ _ trivial (fun _ => ?_)
          clear hK K
          try simp only [Act.put, List.setIfInBounds_toArray, List.set_cons_zero, List.set_cons_succ]
          refine wpAnyH_ready (rs := [8]) (by kernel_rfl) (by simp) ?_
          refine AllReadyH.cons (o := { dst := some 95, op := Op.call { callee := Callee.builtin Builtin.append, args := #[Operand.tmp 91, Operand.tmp 94], argTypes := #[30, 30] }, type := 30, pos := _, after := #[{ on := 4, ground := Ground.data }, { on := 7, ground := Ground.data }], guard := none }) rfl (fun K hK => ?_) AllReadyH.nil
          refine step_app (by rfl) _ _ _ (by rfl) _ _ _ (by rfl) (by rfl) HAPP.out ?_
          refine hK.out _ _ trivial (fun _ => ?_)
          clear hK K
          try simp only [Act.put, List.setIfInBounds_toArray, List.set_cons_zero, List.set_cons_succ]
          refine wpAnyH_take (i := 9) (oi := { dst := some 96, op := Op.nilCheck (Operand.tmp 87), type := 0, pos := _, after := #[{ on := 0, ground := Ground.data }, { on := 0, ground := Ground.phase }, { on := 1, ground := Ground.phase }, { on := 2, ground := Ground.phase }, { on := 3, ground := Ground.phase }, { on := 4, ground := Ground.phase }, { on := 5, ground := Ground.phase }, { on := 6, ground := Ground.phase }, { on := 7, ground := Ground.phase }, { on := 8, ground := Ground.phase }], guard := none }) (v := ?_) rfl (by kernel_rfl) (by kernel_rfl) (by kernel_rfl) (fun _ _ _ h => h) (Or.inl ⟨by rfl, ?_⟩) trivial ?_
          rotate_left
          · (intro w' hSw; (try dsimp only at hSw); clear hSw; go_simp; try with_reducible rfl)
          try simp only [Act.put, List.setIfInBounds_toArray, List.set_cons_zero, List.set_cons_succ]
          refine wpAnyH_take (i := 10) (oi := { dst := some 97, op := Op.fieldAddr 80 (Operand.tmp 96) 4, type := 0, pos := _, after := #[{ on := 9, ground := Ground.data }, { on := 0, ground := Ground.phase }, { on := 1, ground := Ground.phase }, { on := 2, ground := Ground.phase }, { on := 3, ground := Ground.phase }, { on := 4, ground := Ground.phase }, { on := 5, ground := Ground.phase }, { on := 6, ground := Ground.phase }, { on := 7, ground := Ground.phase }, { on := 8, ground := Ground.phase }], guard := none }) (v := ?_) rfl (by kernel_rfl) (by kernel_rfl) (by kernel_rfl) (fun _ _ _ h => h) (Or.inl ⟨by rfl, ?_⟩) trivial ?_
          rotate_left
          · (intro w' hSw; (try dsimp only at hSw); clear hSw; go_simp; try with_reducible rfl)
          try simp only [Act.put, List.setIfInBounds_toArray, List.set_cons_zero, List.set_cons_succ]
          refine wpAnyH_ready (rs := [11]) (by kernel_rfl) (by simp) ?_
          refine AllReadyH.cons (o := { dst := none, op := Op.store 30 (Operand.tmp 97) (Operand.tmp 95), type := 0, pos := _, after := #[{ on := 10, ground := Ground.data }, { on := 8, ground := Ground.data }, { on := 8, ground := Ground.chain }, { on := 0, ground := Ground.phase }, { on := 1, ground := Ground.phase }, { on := 2, ground := Ground.phase }, { on := 3, ground := Ground.phase }, { on := 4, ground := Ground.phase }, { on := 5, ground := Ground.phase }, { on := 6, ground := Ground.phase }, { on := 7, ground := Ground.phase }, { on := 8, ground := Ground.phase }], guard := none }) rfl (fun K hK => ?_) AllReadyH.nil
          go_simp
          refine hK.out _ _ trivial (fun _ => ?_)
          clear hK K
          try simp only [Act.put, List.setIfInBounds_toArray, List.set_cons_zero, List.set_cons_succ]
          refine wpAnyH_done (by kernel_rfl) ?_ _
          go_wp2
          go_meet
          have := HS'.out
          have e : bq ++ P = all.drop b0 := by
            rw [Hpc.out]
            exact List.take_of_length_le (by have := Hpl.out; have := Hb0.out; omega)
          rw [e] at this
          exact this
        · have hle' : ¬ ((m : Int) ≤ (off : Int)) := by omega
          have h16 : True := trivial
          as_aux_lemma =>
          obtain ⟨Bq, hM, hBq⟩ := HS1.out.mem
          obtain ⟨Aq, cq, Hq, c0, c1, c2, c3, c4, c5, c6, c7⟩ := hM.cells
          obtain ⟨hsl, hrs⟩ := sl_to HRD.out m (m : Int) rfl (by omega) HCC.out
          have hrs' : Rd w1.drew 1 A m (u8s P) := by
            have e : u8s P = (u8s bb).take m := by rw [HP2.out]; simp [u8s, List.map_take]
            rw [e]
            exact hrs.below (Below.refl _ _).drew
          obtain ⟨v5, w5, happ, hown5, hg5, hat5⟩ := run_append_any (P := Try.prog) w1.drew 0 30 30 5 i5 _ 1 1 Try.underlying30 hi5 hz0 hz1 hz2 rfl (by omega) _ _ _ (show w1.drew.ownsRow 0 5 1 _ _ _ from Hq.out.2.1) A m c _ hrs' (u8s_one _) (by unfold maxLen; show bq.length + _ ≤ _; omega) (by show (bq.length + _) * 1 ≤ _; omega) (by omega)
          have hPm : m = P.length := Hm.out
          have hown5' : w5.ownsRow 0 5 1 v5 (bq.length + P.length) (u8s bq ++ u8s P) := by rw [← hPm]; exact hown5
          obtain ⟨h5c, h5f, B', hM', hB', hch'⟩ := (hM.below (Below.refl _ _).drew).app (w := w1.drew) Hq.out.1 Hq.out.2.1 Hq.out.2.2.1 hg5 hown5' hat5
          have hS' : OpS w (w5.setCell ⟨w.heap.size, 4, none⟩ v5) w.heap.size D F G l ⟨fr, n, b0, bq ++ P, start, 0, false⟩ := by
            have hnB : ∀ i, Bq i → w.heap.size ≤ i := hBq
            refine ⟨(HS1.out.up.below (Below.refl _ _).drew).frame hch' (fun i hi => ?_), HS1.out.ch.trans' (show Chg Bq w1 _ from ⟨hch'.os, hch'.tape, hch'.output, hch'.size, hch'.block⟩) (fun i hi h => by have := hnB i h; omega), B', hM', fun i hi => (hB' i hi).elim (hnB i) (fun h => Nat.le_trans HS1.out.ch.size h)⟩
            exact ⟨fun hF => by have := hlt.out.1 i hF; have := hnB i hi; omega, fun hG => by have := hlt.out.2.1 i hG; have := hnB i hi; omega⟩
          obtain ⟨A6, c6', rfl, _⟩ := own_form hown5
          have c4d : w1.drew.cell? ⟨w.heap.size, 4, none⟩ = some (.slice Aq bq.length cq) := c4
          have HAPP := hid happ
          have HS' := hid hS'
          clear hPm happ hown5 hown5' hg5 hat5 hM' hB' hch' hrs hrs' hM hBq c0 c1 c2 c3 c4 c5 c6 c7 Hq hS'
          go_wp2_with fail
          refine wp_region_held_drew (S := fun _ => True) (by kernel_rfl) trivial (fun _ => ?_)
          refine wpAnyH_take (i := 0) (oi := { dst := some 98, op := Op.move (Operand.tmp 10), type := 59, pos := _, after := #[], guard := none }) (v := ?_) rfl (by kernel_rfl) (by kernel_rfl) (by kernel_rfl) (fun _ _ _ h => h) (Or.inl ⟨by rfl, ?_⟩) trivial ?_
          rotate_left
          · (intro w' hSw; (try dsimp only at hSw); clear hSw; go_simp; try with_reducible rfl)
          try simp only [Act.put, List.setIfInBounds_toArray, List.set_cons_zero, List.set_cons_succ]
          refine wpAnyH_take (i := 1) (oi := { dst := some 99, op := Op.move (Operand.tmp 10), type := 59, pos := _, after := #[], guard := none }) (v := ?_) rfl (by kernel_rfl) (by kernel_rfl) (by kernel_rfl) (fun _ _ _ h => h) (Or.inl ⟨by rfl, ?_⟩) trivial ?_
          rotate_left
          · (intro w' hSw; (try dsimp only at hSw); clear hSw; go_simp; try with_reducible rfl)
          try simp only [Act.put, List.setIfInBounds_toArray, List.set_cons_zero, List.set_cons_succ]
          refine wpAnyH_take (i := 2) (oi := { dst := some 100, op := Op.nilCheck (Operand.tmp 99), type := 0, pos := _, after := #[{ on := 1, ground := Ground.data }], guard := none }) (v := ?_) rfl (by kernel_rfl) (by kernel_rfl) (by kernel_rfl) (fun _ _ _ h => h) (Or.inl ⟨by rfl, ?_⟩) trivial ?_
          rotate_left
          · (intro w' hSw; (try dsimp only at hSw); clear hSw; go_simp; try with_reducible rfl)
          try simp only [Act.put, List.setIfInBounds_toArray, List.set_cons_zero, List.set_cons_succ]
          refine wpAnyH_take (i := 3) (oi := { dst := some 101, op := Op.fieldAddr 80 (Operand.tmp 100) 4, type := 0, pos := _, after := #[{ on := 2, ground := Ground.data }], guard := none }) (v := ?_) rfl (by kernel_rfl) (by kernel_rfl) (by kernel_rfl) (fun _ _ _ h => h) (Or.inl ⟨by rfl, ?_⟩) trivial ?_
          rotate_left
          · (intro w' hSw; (try dsimp only at hSw); clear hSw; go_simp; try with_reducible rfl)
          try simp only [Act.put, List.setIfInBounds_toArray, List.set_cons_zero, List.set_cons_succ]
          refine wpAnyH_take (i := 5) (oi := { dst := some 103, op := Op.move (Operand.tmp 13), type := 30, pos := _, after := #[], guard := none }) (v := ?_) rfl (by kernel_rfl) (by kernel_rfl) (by kernel_rfl) (fun _ _ _ h => h) (Or.inl ⟨by rfl, ?_⟩) trivial ?_
          rotate_left
          · (intro w' hSw; (try dsimp only at hSw); clear hSw; go_simp; try with_reducible rfl)
          try simp only [Act.put, List.setIfInBounds_toArray, List.set_cons_zero, List.set_cons_succ]
          refine wpAnyH_take (i := 6) (oi := { dst := some 104, op := Op.move (Operand.tmp 14), type := 3, pos := _, after := #[], guard := none }) (v := ?_) rfl (by kernel_rfl) (by kernel_rfl) (by kernel_rfl) (fun _ _ _ h => h) (Or.inl ⟨by rfl, ?_⟩) trivial ?_
          rotate_left
          · (intro w' hSw; (try dsimp only at hSw); clear hSw; go_simp; try with_reducible rfl)
          try simp only [Act.put, List.setIfInBounds_toArray, List.set_cons_zero, List.set_cons_succ]
          refine wpAnyH_take (i := 7) (oi := { dst := some 105, op := Op.slice 30 (Operand.tmp 103) none (some (Operand.tmp 104)) none, type := 30, pos := _, after := #[{ on := 5, ground := Ground.data }, { on := 6, ground := Ground.data }], guard := none }) (v := ?_) rfl (by kernel_rfl) (by kernel_rfl) (by kernel_rfl) (fun _ _ _ h => h) (Or.inl ⟨by rfl, ?_⟩) trivial ?_
          rotate_left
          · (intro w' hSw; (try dsimp only at hSw); clear hSw; go_simp; try with_reducible rfl)
          try simp only [Act.put, List.setIfInBounds_toArray, List.set_cons_zero, List.set_cons_succ]
          refine wpAnyH_ready (rs := [4]) (by kernel_rfl) (by simp) ?_
          refine AllReadyH.cons (o := { dst := some 102, op := Op.load 30 (Operand.tmp 101), type := 30, pos := _, after := #[{ on := 3, ground := Ground.data }], guard := none }) rfl (fun K hK => ?_) AllReadyH.nil
          go_simp
          refine hK.out _ _ trivial (fun _ => ?_)
          clear hK K
          try simp only [Act.put, List.setIfInBounds_toArray, List.set_cons_zero, List.set_cons_succ]
          refine wpAnyH_ready (rs := [8]) (by kernel_rfl) (by simp) ?_
          refine AllReadyH.cons (o := { dst := some 106, op := Op.call { callee := Callee.builtin Builtin.append, args := #[Operand.tmp 102, Operand.tmp 105], argTypes := #[30, 30] }, type := 30, pos := _, after := #[{ on := 4, ground := Ground.data }, { on := 7, ground := Ground.data }], guard := none }) rfl (fun K hK => ?_) AllReadyH.nil
          refine step_app (by rfl) _ _ _ (by rfl) _ _ _ (by rfl) (by rfl) HAPP.out ?_
          refine hK.out _ _ trivial (fun _ => ?_)
          clear hK K
          try simp only [Act.put, List.setIfInBounds_toArray, List.set_cons_zero, List.set_cons_succ]
          refine wpAnyH_take (i := 9) (oi := { dst := some 107, op := Op.nilCheck (Operand.tmp 98), type := 0, pos := _, after := #[{ on := 0, ground := Ground.data }, { on := 0, ground := Ground.phase }, { on := 1, ground := Ground.phase }, { on := 2, ground := Ground.phase }, { on := 3, ground := Ground.phase }, { on := 4, ground := Ground.phase }, { on := 5, ground := Ground.phase }, { on := 6, ground := Ground.phase }, { on := 7, ground := Ground.phase }, { on := 8, ground := Ground.phase }], guard := none }) (v := ?_) rfl (by kernel_rfl) (by kernel_rfl) (by kernel_rfl) (fun _ _ _ h => h) (Or.inl ⟨by rfl, ?_⟩) trivial ?_
          rotate_left
          · (intro w' hSw; (try dsimp only at hSw); clear hSw; go_simp; try with_reducible rfl)
          try simp only [Act.put, List.setIfInBounds_toArray, List.set_cons_zero, List.set_cons_succ]
          refine wpAnyH_take (i := 10) (oi := { dst := some 108, op := Op.fieldAddr 80 (Operand.tmp 107) 4, type := 0, pos := _, after := #[{ on := 9, ground := Ground.data }, { on := 0, ground := Ground.phase }, { on := 1, ground := Ground.phase }, { on := 2, ground := Ground.phase }, { on := 3, ground := Ground.phase }, { on := 4, ground := Ground.phase }, { on := 5, ground := Ground.phase }, { on := 6, ground := Ground.phase }, { on := 7, ground := Ground.phase }, { on := 8, ground := Ground.phase }], guard := none }) (v := ?_) rfl (by kernel_rfl) (by kernel_rfl) (by kernel_rfl) (fun _ _ _ h => h) (Or.inl ⟨by rfl, ?_⟩) trivial ?_
          rotate_left
          · (intro w' hSw; (try dsimp only at hSw); clear hSw; go_simp; try with_reducible rfl)
          try simp only [Act.put, List.setIfInBounds_toArray, List.set_cons_zero, List.set_cons_succ]
          refine wpAnyH_ready (rs := [11]) (by kernel_rfl) (by simp) ?_
          refine AllReadyH.cons (o := { dst := none, op := Op.store 30 (Operand.tmp 108) (Operand.tmp 106), type := 0, pos := _, after := #[{ on := 10, ground := Ground.data }, { on := 8, ground := Ground.data }, { on := 8, ground := Ground.chain }, { on := 0, ground := Ground.phase }, { on := 1, ground := Ground.phase }, { on := 2, ground := Ground.phase }, { on := 3, ground := Ground.phase }, { on := 4, ground := Ground.phase }, { on := 5, ground := Ground.phase }, { on := 6, ground := Ground.phase }, { on := 7, ground := Ground.phase }, { on := 8, ground := Ground.phase }], guard := none }) rfl (fun K hK => ?_) AllReadyH.nil
          go_simp
          refine hK.out _ _ trivial (fun _ => ?_)
          clear hK K
          try simp only [Act.put, List.setIfInBounds_toArray, List.set_cons_zero, List.set_cons_succ]
          refine wpAnyH_done (by kernel_rfl) ?_ _
          by_cases hfull : m < 118
          · as_aux_lemma =>
            have hf1 : (m : Int) < 118 := by omega
            go_wp2
            go_meet
            have := HS'.out
            have e : bq ++ P = all.drop b0 := by
              rw [Hpc.out]
              exact List.take_of_length_le (by have := Hpl.out; have := Hb0.out; omega)
            rw [e] at this
            exact this
          · as_aux_lemma =>
            have hf1 : ¬ ((m : Int) < 118) := by omega
            go_wp2
            go_roundw
            case rel => exact ⟨0 + 1, by omega, by go_num, by have := Hpl.out; have := Hb0.out; omega, by rw [← Hpc.out]; exact HS'.out⟩
            case measure => simp [intOf]; omega
      · have hkb : ((k : Int) == 0) = false := beq_eq_false_iff_ne.mpr (by omega)
        by_cases hle : m ≤ 0
        · as_aux_lemma =>
          have hmo : m = 0 := by omega
          subst hmo
          obtain ⟨Bq, hM, hBq⟩ := HS1.out.mem
          obtain ⟨Aq, cq, Hq, c0, c1, c2, c3, c4, c5, c6, c7⟩ := hM.cells
          obtain ⟨hsl, hrs⟩ := sl_to HRD.out 0 (0 : Int) rfl (by omega) HCC.out
          have hrs' : Rd w1.drew 1 A 0 (u8s P) := by
            have e : u8s P = (u8s bb).take 0 := by rw [HP2.out]; simp [u8s, List.map_take]
            rw [e]
            exact hrs.below (Below.refl _ _).drew
          obtain ⟨v5, w5, happ, hown5, hg5, hat5⟩ := run_append_any (P := Try.prog) w1.drew 0 30 30 5 i5 _ 1 1 Try.underlying30 hi5 hz0 hz1 hz2 rfl (by omega) _ _ _ (show w1.drew.ownsRow 0 5 1 _ _ _ from Hq.out.2.1) A 0 c _ hrs' (u8s_one _) (by unfold maxLen; show bq.length + _ ≤ _; omega) (by show (bq.length + _) * 1 ≤ _; omega) (by omega)
          have hPm : 0 = P.length := Hm.out
          have hown5' : w5.ownsRow 0 5 1 v5 (bq.length + P.length) (u8s bq ++ u8s P) := by rw [← hPm]; exact hown5
          obtain ⟨h5c, h5f, B', hM', hB', hch'⟩ := (hM.below (Below.refl _ _).drew).app (w := w1.drew) Hq.out.1 Hq.out.2.1 Hq.out.2.2.1 hg5 hown5' hat5
          have hS' : OpS w (w5.setCell ⟨w.heap.size, 4, none⟩ v5) w.heap.size D F G l ⟨fr, n, b0, bq ++ P, start, 0, false⟩ := by
            have hnB : ∀ i, Bq i → w.heap.size ≤ i := hBq
            refine ⟨(HS1.out.up.below (Below.refl _ _).drew).frame hch' (fun i hi => ?_), HS1.out.ch.trans' (show Chg Bq w1 _ from ⟨hch'.os, hch'.tape, hch'.output, hch'.size, hch'.block⟩) (fun i hi h => by have := hnB i h; omega), B', hM', fun i hi => (hB' i hi).elim (hnB i) (fun h => Nat.le_trans HS1.out.ch.size h)⟩
            exact ⟨fun hF => by have := hlt.out.1 i hF; have := hnB i hi; omega, fun hG => by have := hlt.out.2.1 i hG; have := hnB i hi; omega⟩
          obtain ⟨A6, c6', rfl, _⟩ := own_form hown5
          have c4d : w1.drew.cell? ⟨w.heap.size, 4, none⟩ = some (.slice Aq bq.length cq) := c4
          have HAPP := hid happ
          have HS' := hid hS'
          clear hPm happ hown5 hown5' hg5 hat5 hM' hB' hch' hrs hrs' hM hBq c0 c1 c2 c3 c4 c5 c6 c7 Hq hS'
          go_wp2_with fail
          refine wp_region_held_drew (S := fun _ => True) (by kernel_rfl) trivial (fun _ => ?_)
          refine wpAnyH_take (i := 0) (oi := { dst := some 87, op := Op.move (Operand.tmp 10), type := 59, pos := _, after := #[], guard := none }) (v := ?_) rfl (by kernel_rfl) (by kernel_rfl) (by kernel_rfl) (fun _ _ _ h => h) (Or.inl ⟨by rfl, ?_⟩) trivial ?_
          rotate_left
          · (intro w' hSw; (try dsimp only at hSw); clear hSw; go_simp; try with_reducible rfl)
          try simp only [Act.put, List.setIfInBounds_toArray, List.set_cons_zero, List.set_cons_succ]
          refine wpAnyH_take (i := 1) (oi := { dst := some 88, op := Op.move (Operand.tmp 10), type := 59, pos := _, after := #[], guard := none }) (v := ?_) rfl (by kernel_rfl) (by kernel_rfl) (by kernel_rfl) (fun _ _ _ h => h) (Or.inl ⟨by rfl, ?_⟩) trivial ?_
          rotate_left
          · (intro w' hSw; (try dsimp only at hSw); clear hSw; go_simp; try with_reducible rfl)
          try simp only [Act.put, List.setIfInBounds_toArray, List.set_cons_zero, List.set_cons_succ]
          refine wpAnyH_take (i := 2) (oi := { dst := some 89, op := Op.nilCheck (Operand.tmp 88), type := 0, pos := _, after := #[{ on := 1, ground := Ground.data }], guard := none }) (v := ?_) rfl (by kernel_rfl) (by kernel_rfl) (by kernel_rfl) (fun _ _ _ h => h) (Or.inl ⟨by rfl, ?_⟩) trivial ?_
          rotate_left
          · (intro w' hSw; (try dsimp only at hSw); clear hSw; go_simp; try with_reducible rfl)
          try simp only [Act.put, List.setIfInBounds_toArray, List.set_cons_zero, List.set_cons_succ]
          refine wpAnyH_take (i := 3) (oi := { dst := some 90, op := Op.fieldAddr 80 (Operand.tmp 89) 4, type := 0, pos := _, after := #[{ on := 2, ground := Ground.data }], guard := none }) (v := ?_) rfl (by kernel_rfl) (by kernel_rfl) (by kernel_rfl) (fun _ _ _ h => h) (Or.inl ⟨by rfl, ?_⟩) trivial ?_
          rotate_left
          · (intro w' hSw; (try dsimp only at hSw); clear hSw; go_simp; try with_reducible rfl)
          try simp only [Act.put, List.setIfInBounds_toArray, List.set_cons_zero, List.set_cons_succ]
          refine wpAnyH_take (i := 5) (oi := { dst := some 92, op := Op.move (Operand.tmp 13), type := 30, pos := _, after := #[], guard := none }) (v := ?_) rfl (by kernel_rfl) (by kernel_rfl) (by kernel_rfl) (fun _ _ _ h => h) (Or.inl ⟨by rfl, ?_⟩) trivial ?_
          rotate_left
          · (intro w' hSw; (try dsimp only at hSw); clear hSw; go_simp; try with_reducible rfl)
          try simp only [Act.put, List.setIfInBounds_toArray, List.set_cons_zero, List.set_cons_succ]
          refine wpAnyH_take (i := 6) (oi := { dst := some 93, op := Op.move (Operand.tmp 16), type := 3, pos := _, after := #[], guard := none }) (v := ?_) rfl (by kernel_rfl) (by kernel_rfl) (by kernel_rfl) (fun _ _ _ h => h) (Or.inl ⟨by rfl, ?_⟩) trivial ?_
          rotate_left
          · (intro w' hSw; (try dsimp only at hSw); clear hSw; go_simp; try with_reducible rfl)
          try simp only [Act.put, List.setIfInBounds_toArray, List.set_cons_zero, List.set_cons_succ]
          refine wpAnyH_take (i := 7) (oi := { dst := some 94, op := Op.slice 30 (Operand.tmp 92) none (some (Operand.tmp 93)) none, type := 30, pos := _, after := #[{ on := 5, ground := Ground.data }, { on := 6, ground := Ground.data }], guard := none }) (v := ?_) rfl (by kernel_rfl) (by kernel_rfl) (by kernel_rfl) (fun _ _ _ h => h) (Or.inl ⟨by rfl, ?_⟩) trivial ?_
          rotate_left
          · (intro w' hSw; (try dsimp only at hSw); clear hSw; go_simp; try with_reducible rfl)
          try simp only [Act.put, List.setIfInBounds_toArray, List.set_cons_zero, List.set_cons_succ]
          refine wpAnyH_ready (rs := [4]) (by kernel_rfl) (by simp) ?_
          refine AllReadyH.cons (o := { dst := some 91, op := Op.load 30 (Operand.tmp 90), type := 30, pos := _, after := #[{ on := 3, ground := Ground.data }], guard := none }) rfl (fun K hK => ?_) AllReadyH.nil
          go_simp
          refine hK.out _ _ trivial (fun _ => ?_)
          clear hK K
          try simp only [Act.put, List.setIfInBounds_toArray, List.set_cons_zero, List.set_cons_succ]
          refine wpAnyH_ready (rs := [8]) (by kernel_rfl) (by simp) ?_
          refine AllReadyH.cons (o := { dst := some 95, op := Op.call { callee := Callee.builtin Builtin.append, args := #[Operand.tmp 91, Operand.tmp 94], argTypes := #[30, 30] }, type := 30, pos := _, after := #[{ on := 4, ground := Ground.data }, { on := 7, ground := Ground.data }], guard := none }) rfl (fun K hK => ?_) AllReadyH.nil
          refine step_app (by rfl) _ _ _ (by rfl) _ _ _ (by rfl) (by rfl) HAPP.out ?_
          refine hK.out _ _ trivial (fun _ => ?_)
          clear hK K
          try simp only [Act.put, List.setIfInBounds_toArray, List.set_cons_zero, List.set_cons_succ]
          refine wpAnyH_take (i := 9) (oi := { dst := some 96, op := Op.nilCheck (Operand.tmp 87), type := 0, pos := _, after := #[{ on := 0, ground := Ground.data }, { on := 0, ground := Ground.phase }, { on := 1, ground := Ground.phase }, { on := 2, ground := Ground.phase }, { on := 3, ground := Ground.phase }, { on := 4, ground := Ground.phase }, { on := 5, ground := Ground.phase }, { on := 6, ground := Ground.phase }, { on := 7, ground := Ground.phase }, { on := 8, ground := Ground.phase }], guard := none }) (v := ?_) rfl (by kernel_rfl) (by kernel_rfl) (by kernel_rfl) (fun _ _ _ h => h) (Or.inl ⟨by rfl, ?_⟩) trivial ?_
          rotate_left
          · (intro w' hSw; (try dsimp only at hSw); clear hSw; go_simp; try with_reducible rfl)
          try simp only [Act.put, List.setIfInBounds_toArray, List.set_cons_zero, List.set_cons_succ]
          refine wpAnyH_take (i := 10) (oi := { dst := some 97, op := Op.fieldAddr 80 (Operand.tmp 96) 4, type := 0, pos := _, after := #[{ on := 9, ground := Ground.data }, { on := 0, ground := Ground.phase }, { on := 1, ground := Ground.phase }, { on := 2, ground := Ground.phase }, { on := 3, ground := Ground.phase }, { on := 4, ground := Ground.phase }, { on := 5, ground := Ground.phase }, { on := 6, ground := Ground.phase }, { on := 7, ground := Ground.phase }, { on := 8, ground := Ground.phase }], guard := none }) (v := ?_) rfl (by kernel_rfl) (by kernel_rfl) (by kernel_rfl) (fun _ _ _ h => h) (Or.inl ⟨by rfl, ?_⟩) trivial ?_
          rotate_left
          · (intro w' hSw; (try dsimp only at hSw); clear hSw; go_simp; try with_reducible rfl)
          try simp only [Act.put, List.setIfInBounds_toArray, List.set_cons_zero, List.set_cons_succ]
          refine wpAnyH_ready (rs := [11]) (by kernel_rfl) (by simp) ?_
          refine AllReadyH.cons (o := { dst := none, op := Op.store 30 (Operand.tmp 97) (Operand.tmp 95), type := 0, pos := _, after := #[{ on := 10, ground := Ground.data }, { on := 8, ground := Ground.data }, { on := 8, ground := Ground.chain }, { on := 0, ground := Ground.phase }, { on := 1, ground := Ground.phase }, { on := 2, ground := Ground.phase }, { on := 3, ground := Ground.phase }, { on := 4, ground := Ground.phase }, { on := 5, ground := Ground.phase }, { on := 6, ground := Ground.phase }, { on := 7, ground := Ground.phase }, { on := 8, ground := Ground.phase }], guard := none }) rfl (fun K hK => ?_) AllReadyH.nil
          go_simp
          refine hK.out _ _ trivial (fun _ => ?_)
          clear hK K
          try simp only [Act.put, List.setIfInBounds_toArray, List.set_cons_zero, List.set_cons_succ]
          refine wpAnyH_done (by kernel_rfl) ?_ _
          go_wp2
          go_meet
          have := HS'.out
          have e : bq ++ P = all.drop b0 := by
            rw [Hpc.out]
            exact List.take_of_length_le (by have := Hpl.out; have := Hb0.out; omega)
          rw [e] at this
          exact this
        · have hle' : ¬ ((m : Int) ≤ 0) := by omega
          have h16 : True := trivial
          as_aux_lemma =>
          obtain ⟨Bq, hM, hBq⟩ := HS1.out.mem
          obtain ⟨Aq, cq, Hq, c0, c1, c2, c3, c4, c5, c6, c7⟩ := hM.cells
          obtain ⟨hsl, hrs⟩ := sl_to HRD.out m (m : Int) rfl (by omega) HCC.out
          have hrs' : Rd w1.drew 1 A m (u8s P) := by
            have e : u8s P = (u8s bb).take m := by rw [HP2.out]; simp [u8s, List.map_take]
            rw [e]
            exact hrs.below (Below.refl _ _).drew
          obtain ⟨v5, w5, happ, hown5, hg5, hat5⟩ := run_append_any (P := Try.prog) w1.drew 0 30 30 5 i5 _ 1 1 Try.underlying30 hi5 hz0 hz1 hz2 rfl (by omega) _ _ _ (show w1.drew.ownsRow 0 5 1 _ _ _ from Hq.out.2.1) A m c _ hrs' (u8s_one _) (by unfold maxLen; show bq.length + _ ≤ _; omega) (by show (bq.length + _) * 1 ≤ _; omega) (by omega)
          have hPm : m = P.length := Hm.out
          have hown5' : w5.ownsRow 0 5 1 v5 (bq.length + P.length) (u8s bq ++ u8s P) := by rw [← hPm]; exact hown5
          obtain ⟨h5c, h5f, B', hM', hB', hch'⟩ := (hM.below (Below.refl _ _).drew).app (w := w1.drew) Hq.out.1 Hq.out.2.1 Hq.out.2.2.1 hg5 hown5' hat5
          have hS' : OpS w (w5.setCell ⟨w.heap.size, 4, none⟩ v5) w.heap.size D F G l ⟨fr, n, b0, bq ++ P, start, 0, false⟩ := by
            have hnB : ∀ i, Bq i → w.heap.size ≤ i := hBq
            refine ⟨(HS1.out.up.below (Below.refl _ _).drew).frame hch' (fun i hi => ?_), HS1.out.ch.trans' (show Chg Bq w1 _ from ⟨hch'.os, hch'.tape, hch'.output, hch'.size, hch'.block⟩) (fun i hi h => by have := hnB i h; omega), B', hM', fun i hi => (hB' i hi).elim (hnB i) (fun h => Nat.le_trans HS1.out.ch.size h)⟩
            exact ⟨fun hF => by have := hlt.out.1 i hF; have := hnB i hi; omega, fun hG => by have := hlt.out.2.1 i hG; have := hnB i hi; omega⟩
          obtain ⟨A6, c6', rfl, _⟩ := own_form hown5
          have c4d : w1.drew.cell? ⟨w.heap.size, 4, none⟩ = some (.slice Aq bq.length cq) := c4
          have HAPP := hid happ
          have HS' := hid hS'
          clear hPm happ hown5 hown5' hg5 hat5 hM' hB' hch' hrs hrs' hM hBq c0 c1 c2 c3 c4 c5 c6 c7 Hq hS'
          go_wp2_with fail
          refine wp_region_held_drew (S := fun _ => True) (by kernel_rfl) trivial (fun _ => ?_)
          refine wpAnyH_take (i := 0) (oi := { dst := some 98, op := Op.move (Operand.tmp 10), type := 59, pos := _, after := #[], guard := none }) (v := ?_) rfl (by kernel_rfl) (by kernel_rfl) (by kernel_rfl) (fun _ _ _ h => h) (Or.inl ⟨by rfl, ?_⟩) trivial ?_
          rotate_left
          · (intro w' hSw; (try dsimp only at hSw); clear hSw; go_simp; try with_reducible rfl)
          try simp only [Act.put, List.setIfInBounds_toArray, List.set_cons_zero, List.set_cons_succ]
          refine wpAnyH_take (i := 1) (oi := { dst := some 99, op := Op.move (Operand.tmp 10), type := 59, pos := _, after := #[], guard := none }) (v := ?_) rfl (by kernel_rfl) (by kernel_rfl) (by kernel_rfl) (fun _ _ _ h => h) (Or.inl ⟨by rfl, ?_⟩) trivial ?_
          rotate_left
          · (intro w' hSw; (try dsimp only at hSw); clear hSw; go_simp; try with_reducible rfl)
          try simp only [Act.put, List.setIfInBounds_toArray, List.set_cons_zero, List.set_cons_succ]
          refine wpAnyH_take (i := 2) (oi := { dst := some 100, op := Op.nilCheck (Operand.tmp 99), type := 0, pos := _, after := #[{ on := 1, ground := Ground.data }], guard := none }) (v := ?_) rfl (by kernel_rfl) (by kernel_rfl) (by kernel_rfl) (fun _ _ _ h => h) (Or.inl ⟨by rfl, ?_⟩) trivial ?_
          rotate_left
          · (intro w' hSw; (try dsimp only at hSw); clear hSw; go_simp; try with_reducible rfl)
          try simp only [Act.put, List.setIfInBounds_toArray, List.set_cons_zero, List.set_cons_succ]
          refine wpAnyH_take (i := 3) (oi := { dst := some 101, op := Op.fieldAddr 80 (Operand.tmp 100) 4, type := 0, pos := _, after := #[{ on := 2, ground := Ground.data }], guard := none }) (v := ?_) rfl (by kernel_rfl) (by kernel_rfl) (by kernel_rfl) (fun _ _ _ h => h) (Or.inl ⟨by rfl, ?_⟩) trivial ?_
          rotate_left
          · (intro w' hSw; (try dsimp only at hSw); clear hSw; go_simp; try with_reducible rfl)
          try simp only [Act.put, List.setIfInBounds_toArray, List.set_cons_zero, List.set_cons_succ]
          refine wpAnyH_take (i := 5) (oi := { dst := some 103, op := Op.move (Operand.tmp 13), type := 30, pos := _, after := #[], guard := none }) (v := ?_) rfl (by kernel_rfl) (by kernel_rfl) (by kernel_rfl) (fun _ _ _ h => h) (Or.inl ⟨by rfl, ?_⟩) trivial ?_
          rotate_left
          · (intro w' hSw; (try dsimp only at hSw); clear hSw; go_simp; try with_reducible rfl)
          try simp only [Act.put, List.setIfInBounds_toArray, List.set_cons_zero, List.set_cons_succ]
          refine wpAnyH_take (i := 6) (oi := { dst := some 104, op := Op.move (Operand.tmp 14), type := 3, pos := _, after := #[], guard := none }) (v := ?_) rfl (by kernel_rfl) (by kernel_rfl) (by kernel_rfl) (fun _ _ _ h => h) (Or.inl ⟨by rfl, ?_⟩) trivial ?_
          rotate_left
          · (intro w' hSw; (try dsimp only at hSw); clear hSw; go_simp; try with_reducible rfl)
          try simp only [Act.put, List.setIfInBounds_toArray, List.set_cons_zero, List.set_cons_succ]
          refine wpAnyH_take (i := 7) (oi := { dst := some 105, op := Op.slice 30 (Operand.tmp 103) none (some (Operand.tmp 104)) none, type := 30, pos := _, after := #[{ on := 5, ground := Ground.data }, { on := 6, ground := Ground.data }], guard := none }) (v := ?_) rfl (by kernel_rfl) (by kernel_rfl) (by kernel_rfl) (fun _ _ _ h => h) (Or.inl ⟨by rfl, ?_⟩) trivial ?_
          rotate_left
          · (intro w' hSw; (try dsimp only at hSw); clear hSw; go_simp; try with_reducible rfl)
          try simp only [Act.put, List.setIfInBounds_toArray, List.set_cons_zero, List.set_cons_succ]
          refine wpAnyH_ready (rs := [4]) (by kernel_rfl) (by simp) ?_
          refine AllReadyH.cons (o := { dst := some 102, op := Op.load 30 (Operand.tmp 101), type := 30, pos := _, after := #[{ on := 3, ground := Ground.data }], guard := none }) rfl (fun K hK => ?_) AllReadyH.nil
          go_simp
          refine hK.out _ _ trivial (fun _ => ?_)
          clear hK K
          try simp only [Act.put, List.setIfInBounds_toArray, List.set_cons_zero, List.set_cons_succ]
          refine wpAnyH_ready (rs := [8]) (by kernel_rfl) (by simp) ?_
          refine AllReadyH.cons (o := { dst := some 106, op := Op.call { callee := Callee.builtin Builtin.append, args := #[Operand.tmp 102, Operand.tmp 105], argTypes := #[30, 30] }, type := 30, pos := _, after := #[{ on := 4, ground := Ground.data }, { on := 7, ground := Ground.data }], guard := none }) rfl (fun K hK => ?_) AllReadyH.nil
          refine step_app (by rfl) _ _ _ (by rfl) _ _ _ (by rfl) (by rfl) HAPP.out ?_
          refine hK.out _ _ trivial (fun _ => ?_)
          clear hK K
          try simp only [Act.put, List.setIfInBounds_toArray, List.set_cons_zero, List.set_cons_succ]
          refine wpAnyH_take (i := 9) (oi := { dst := some 107, op := Op.nilCheck (Operand.tmp 98), type := 0, pos := _, after := #[{ on := 0, ground := Ground.data }, { on := 0, ground := Ground.phase }, { on := 1, ground := Ground.phase }, { on := 2, ground := Ground.phase }, { on := 3, ground := Ground.phase }, { on := 4, ground := Ground.phase }, { on := 5, ground := Ground.phase }, { on := 6, ground := Ground.phase }, { on := 7, ground := Ground.phase }, { on := 8, ground := Ground.phase }], guard := none }) (v := ?_) rfl (by kernel_rfl) (by kernel_rfl) (by kernel_rfl) (fun _ _ _ h => h) (Or.inl ⟨by rfl, ?_⟩) trivial ?_
          rotate_left
          · (intro w' hSw; (try dsimp only at hSw); clear hSw; go_simp; try with_reducible rfl)
          try simp only [Act.put, List.setIfInBounds_toArray, List.set_cons_zero, List.set_cons_succ]
          refine wpAnyH_take (i := 10) (oi := { dst := some 108, op := Op.fieldAddr 80 (Operand.tmp 107) 4, type := 0, pos := _, after := #[{ on := 9, ground := Ground.data }, { on := 0, ground := Ground.phase }, { on := 1, ground := Ground.phase }, { on := 2, ground := Ground.phase }, { on := 3, ground := Ground.phase }, { on := 4, ground := Ground.phase }, { on := 5, ground := Ground.phase }, { on := 6, ground := Ground.phase }, { on := 7, ground := Ground.phase }, { on := 8, ground := Ground.phase }], guard := none }) (v := ?_) rfl (by kernel_rfl) (by kernel_rfl) (by kernel_rfl) (fun _ _ _ h => h) (Or.inl ⟨by rfl, ?_⟩) trivial ?_
          rotate_left
          · (intro w' hSw; (try dsimp only at hSw); clear hSw; go_simp; try with_reducible rfl)
          try simp only [Act.put, List.setIfInBounds_toArray, List.set_cons_zero, List.set_cons_succ]
          refine wpAnyH_ready (rs := [11]) (by kernel_rfl) (by simp) ?_
          refine AllReadyH.cons (o := { dst := none, op := Op.store 30 (Operand.tmp 108) (Operand.tmp 106), type := 0, pos := _, after := #[{ on := 10, ground := Ground.data }, { on := 8, ground := Ground.data }, { on := 8, ground := Ground.chain }, { on := 0, ground := Ground.phase }, { on := 1, ground := Ground.phase }, { on := 2, ground := Ground.phase }, { on := 3, ground := Ground.phase }, { on := 4, ground := Ground.phase }, { on := 5, ground := Ground.phase }, { on := 6, ground := Ground.phase }, { on := 7, ground := Ground.phase }, { on := 8, ground := Ground.phase }], guard := none }) rfl (fun K hK => ?_) AllReadyH.nil
          go_simp
          refine hK.out _ _ trivial (fun _ => ?_)
          clear hK K
          try simp only [Act.put, List.setIfInBounds_toArray, List.set_cons_zero, List.set_cons_succ]
          refine wpAnyH_done (by kernel_rfl) ?_ _
          by_cases hfull : m < 118
          · as_aux_lemma =>
            have hf1 : (m : Int) < 118 := by omega
            go_wp2
            go_meet
            have := HS'.out
            have e : bq ++ P = all.drop b0 := by
              rw [Hpc.out]
              exact List.take_of_length_le (by have := Hpl.out; have := Hb0.out; omega)
            rw [e] at this
            exact this
          · as_aux_lemma =>
            have hf1 : ¬ ((m : Int) < 118) := by omega
            go_wp2
            go_roundw
            case rel => exact ⟨k + 1, by omega, by go_num, by have := Hpl.out; have := Hb0.out; omega, by rw [← Hpc.out]; exact HS'.out⟩
            case measure => simp [intOf]; omega
  case rest => as_aux_lemma =>
    have HS := hid hcut
    clear hcut HS0
    obtain ⟨Bq, hM, hBq⟩ := HS.out.mem
    have hdl : (all.drop b0).length = all.length - b0 := List.length_drop
    have hba : b0 ≤ all.length := by have := HI.out.st; have := hso.out; have := Hb0.out; omega
    have htl : MRing.tail ⟨fr, n, b0, all.drop b0, start, 0, false⟩ = all.length := by unfold MRing.tail; show b0 + (all.drop b0).length = _; omega
    have hT := HT.out
    have htail := hid (tail_any w.heap.size D Bq _ wc hM (by omega))
    rw [htl] at htail
    obtain ⟨Aq, cq, Hq, c0, c1, c2, c3, c4, c5, c6, c7⟩ := hM.cells
    have hf6 := fun m => (show (wc.drewN m).frozen? ⟨w.heap.size, 6, none⟩ = false from Hq.out.1.frozen 6)
    have HM := hid hM
    clear hM c0 c1 c2 c3 c4 c5 c7 hdl hba htl
    go_wp2_with fail
    refine htail.out.mono ?_
    rintro e w2 ⟨rfl, m, rfl⟩
    have c6d : (wc.drewN m).cell? ⟨w.heap.size, 6, none⟩ = some (.int .i64 (0 : Nat)) := c6
    have hf6d := hf6 m
    clear hf6
    go_wp2
    go_ret2
    have hM2 := (HM.out.drewN m).set_ (q' := ⟨fr, n, b0, all.drop b0, start, all.length, false⟩) (show Blk (wc.drewN m) w.heap.size 80 _ from Hq.out.1) (show (wc.drewN m).ownsRow 0 5 1 _ _ _ from Hq.out.2.1) Hq.out.2.2.1 6 (.int .i64 all.length) rfl rfl
    have hch2 : Chg (· = w.heap.size) wc ((wc.drewN m).setCell ⟨w.heap.size, 6, none⟩ (.int .i64 all.length)) := (chg_set (w := wc.drewN m) w.heap.size 6 (.int .i64 all.length)) |> fun h => ⟨h.os, h.tape, h.output, h.size, h.block⟩
    exact ⟨w.heap.size, Bq, rfl, hM2, HS.out.up.frame hch2 (fun i hi => ⟨fun hF => by have := hlt.out.1 i hF; omega, fun hG => by have := hlt.out.2.1 i hG; omega⟩), hBq, HS.out.ch.trans' hch2 (fun i hi e => by omega)⟩
end Go.Proofs.Ytjmcjbmnggecgaa
