/- ring.Append, Read, Trim. Conditions: sizes. -/
import Derived.Test.YtjmcjbmnggecgaaRgO
namespace Go.Proofs.Ytjmcjbmnggecgaa
open Go.RowKit
set_option maxRecDepth 100000
set_option linter.unusedVariables false
set_option linter.unusedSimpArgs false

set_option maxHeartbeats 1600000 in
theorem append_full (R D : Nat) (B : Nat → Prop) (q : MRing) (w : World) (h : RgMem w R D B q) (hq : QOk q) (hd : q.dead = false) (A : Option Addr) (n c : Nat) (hn : q.room < n) (h63 : n ≤ 9223372036854775807) :
    Calls Try.prog 34 #[.pointer (some ⟨R, 0, none⟩), .slice A n c] w fun e w' => e = .returned (.int .i64 60) ∧ ∃ m, w' = w.drewN m := by
  have hroom := hid (room_any R D B q w h hq)
  obtain ⟨Aq, cq, Hq, c0, c1, c2, c3, c4, c5, c6, c7⟩ := h.cells
  rw [hd] at c7
  obtain ⟨rm, hrm⟩ : ∃ rm, rm = q.room := ⟨_, rfl⟩
  rw [← hrm] at hroom hn
  have hn' : (rm : Int) < (n : Int) := by omega
  clear h hq hd hrm
  go_enter Try.func34, Try.ntmps34
  go_wp2_with fail
  refine hroom.out.mono ?_
  rintro e w1 ⟨rfl, m, rfl⟩
  go_wp2
  go_ret
  exact ⟨rfl, m, rfl⟩
set_option maxHeartbeats 1600000 in
theorem append_ok (R D : Nat) (B : Nat → Prop) (q : MRing) (w : World) (h : RgMem w R D B q) (hq : QOk q) (hd : q.dead = false) (A : Option Addr) (n c : Nat) (xs : List UInt8) (hr : Rd w 1 A n (u8s xs)) (hx : n = xs.length) (hn : n ≤ q.room) :
    Calls Try.prog 34 #[.pointer (some ⟨R, 0, none⟩), .slice A n c] w fun e w' => e = .returned (.int .i64 0) ∧ ∃ B', RgMem w' R D B' { q with bytes := q.bytes ++ xs } ∧ (∀ i, B' i → B i ∨ w.heap.size ≤ i) ∧ Chg B w w' := by
  have hroom := hid (room_any R D B q w h hq)
  have HM := hid h
  obtain ⟨Aq, cq, Hq, c0, c1, c2, c3, c4, c5, c6, c7⟩ := h.cells
  obtain ⟨i5, hi5, hy0, hy1, hy2⟩ := info_parts info5
  have hbl := hq.tl.2.1
  have hrl : q.room ≤ 1000000 := by
    have h1 := hq.n8
    have h2 := hq.b
    unfold MRing.room MRing.tail
    omega
  rw [hd] at c7
  obtain ⟨rm, hrm⟩ : ∃ rm, rm = q.room := ⟨_, rfl⟩
  rw [← hrm] at hroom hn hrl
  have hn' : ¬ ((rm : Int) < (n : Int)) := by omega
  have HR := hid hr
  have HX := hid hx
  clear h hq hd hrm hr hx
  go_enter Try.func34, Try.ntmps34
  go_wp2_with fail
  refine hroom.out.mono ?_
  rintro e w1 ⟨rfl, m, rfl⟩
  have c4d : (w.drewN m).cell? ⟨R, 4, none⟩ = some (.slice Aq q.bytes.length cq) := c4
  have hrd := HR.out.below (show Below w.heap.size w (w.drewN m) from below_drewN (Below.refl _ _) m)
  have hod : (w.drewN m).ownsRow 0 5 1 (.slice Aq q.bytes.length cq) q.bytes.length (u8s q.bytes) := Hq.out.2.1
  go_wp2_with (at_builtin; refine wpList_append_any _ rfl (.tmp 18) (.tmp 19) 30 rfl 0 5 i5 _ 1 1 Try.underlying30 hi5 hy0 hy1 hy2 rfl (by omega) _ q.bytes.length (u8s q.bytes) rfl hod A n c _ rfl hrd (u8s_one _) (by unfold maxLen; omega) (by omega) (by omega) ?_)
  intro v5 w5 hown5 hg5 hat5
  rw [HX.out] at hown5
  obtain ⟨h5c, h5f, B', hM', hB', hch'⟩ := (HM.out.drewN m).app (show Blk (w.drewN m) R 80 _ from Hq.out.1) hod Hq.out.2.2.1 hg5 hown5 hat5
  have HM' := hid hM'
  have HB' := hid hB'
  have HC' : Hid (Chg B w (w5.setCell ⟨R, 4, none⟩ v5)) := hid ⟨hch'.os, hch'.tape, hch'.output, hch'.size, hch'.block⟩
  obtain ⟨A6, c6', rfl, _⟩ := own_form hown5
  clear hown5 hg5 hat5 hM' hB' hch'
  go_wp2
  go_ret
  exact ⟨rfl, B', HM'.out, HB'.out, HC'.out⟩

set_option maxHeartbeats 800000 in
theorem trim_arg (R D : Nat) (B : Nat → Prop) (q : MRing) (w : World) (h : RgMem w R D B q) (hq : QOk q) (pos : Nat) (hp : q.fin < pos) :
    Calls Try.prog 37 #[.pointer (some ⟨R, 0, none⟩), .int .i64 pos] w fun e w' => e = .returned (.int .i64 1) ∧ w' = w := by
  obtain ⟨Aq, cq, Hq, c0, c1, c2, c3, c4, c5, c6, c7⟩ := h.cells
  have h1 := hq.e1
  have hp1 : (q.fin : Int) < (pos : Int) := by omega
  have hp2 : ¬ ((pos : Int) < (q.start : Int)) := by omega
  clear h hq
  go_enter Try.func37, Try.ntmps37
  go_wp2
  go_ret
  exact ⟨rfl, rfl⟩
theorem sl_mid {w : World} {A : Option Addr} {n c : Nat} {xs : List Value} (hr : Rd w 1 A n xs) (k m : Nat) (hk : k ≤ m) (hm : m ≤ n) (hc : n ≤ c) :
    ∃ A', (∀ W : World, (Instr.slice 30 (.slice A n c) (some (.int .i64 (k : Int))) (some (.int .i64 (m : Int))) none).run Try.prog W = .ok (.slice A' (m - k) (c - k)) W) ∧ Rd w 1 A' (m - k) ((xs.drop k).take (m - k)) := by
  obtain ⟨i0, hi, hz0, hz1, hz2⟩ := info_parts info5
  have hl := hr.1
  refine ⟨if c = k then A else A.map (·.add k), fun W => ?_, ?_, fun hn => ?_⟩
  · have hk' : (k : Int) ≤ (m : Int) := by omega
    have hm' : (m : Int) ≤ (c : Int) := by omega
    simp [Instr.slice, Instr.sliceBounds, Instr.sliceBound, asIntOf, run_underlying Try.underlying30, sizeOf, typeInfo, hi, hz1, hk', hm', hk]
    intro hc'; omega
  · simp; omega
  · obtain ⟨ad, rfl, hlt, hcs⟩ := hr.2 (by omega)
    rw [if_neg (by omega)]
    refine ⟨ad.add k, rfl, by rw [block_of_add]; exact hlt, fun j u hu => ?_⟩
    rw [add_of_add]
    refine hcs _ u ?_
    rw [List.getElem?_take] at hu
    split at hu
    · simpa using hu
    · cases hu
/-- an own row behind nil: new memory -/
theorem nil_below {w w5 : World} (hg : w.grownBy w5 (Value.slice none 0 0).ownBlock) : Below w.heap.size w w5 := ⟨hg.os, hg.tape, hg.output, hg.size, fun k hk => hg.block k hk (by simp [Value.ownBlock])⟩
set_option maxHeartbeats 3200000 in
theorem rread_ok (R D : Nat) (B : Nat → Prop) (q : MRing) (w : World) (h : RgMem w R D B q) (hq : QOk q) (pos k : Nat) (hp : q.start ≤ pos) (hk : pos + k ≤ q.tail) :
    Calls Try.prog 38 #[.pointer (some ⟨R, 0, none⟩), .int .i64 pos, .int .i64 k] w fun e w' => ∃ A c, e = .returned (.tuple #[.slice A k c, .int .i64 0]) ∧ w'.ownsRow w.heap.size 5 1 (.slice A k c) k (u8s ((q.bytes.drop (pos - q.base)).take k)) ∧ Below w.heap.size w w' := by
  obtain ⟨i5, hi5, hy0, hy1, hy2⟩ := info_parts info5
  have htl := hq.tl
  have hqb := hq.b
  have hbp : q.base ≤ pos := by omega
  obtain ⟨a, ha⟩ : ∃ a, a = pos - q.base := ⟨_, rfl⟩
  obtain ⟨m, hm⟩ : ∃ m, m = a + k := ⟨_, rfl⟩
  have htd : q.tail = q.base + q.bytes.length := rfl
  have hal : m ≤ q.bytes.length := by omega
  have ht1 := fun n => (tail_any R D B q (w.drewN n) (h.drewN n) (by omega))
  have HT := hid ht1
  have HT0 := hid (tail_any R D B q w h (by omega))
  have HM := hid h
  obtain ⟨Aq, cq, Hq, c0, c1, c2, c3, c4, c5, c6, c7⟩ := h.cells
  obtain ⟨tl, htt⟩ : ∃ tl, tl = q.tail := ⟨_, rfl⟩
  rw [← htt] at HT HT0 hk htl htd
  have g1 : ¬ ((k : Int) < 0) := by omega
  have g2 : ¬ ((pos : Int) < (q.start : Int)) := by omega
  have g3 : ¬ ((tl : Int) < (pos : Int)) := by omega
  have g4 : IntKind.i64.wrap ((tl : Int) - (pos : Int)) = (tl : Int) - (pos : Int) := by rw [IntKind.wrap_i64]; omega
  have g5 : ¬ ((tl : Int) - (pos : Int) < (k : Int)) := by omega
  have hw9 : IntKind.i64.wrap ((pos : Int) - (q.base : Int)) = (a : Int) := by rw [IntKind.wrap_i64]; omega
  have hw17 : IntKind.i64.wrap ((a : Int) + (k : Int)) = (m : Int) := by rw [IntKind.wrap_i64]; omega
  have hkm : m - a = k := by omega
  have ham : a ≤ m := by omega
  rw [← ha]
  have hltR := h.lt R h.own
  have hk1 : k ≤ 1000000 := by omega
  clear h hq ht1 htt htd hqb hm ha
  go_enter Try.func38, Try.ntmps38
  go_wp2_with fail
  refine HT0.out.mono ?_
  rintro e w1 ⟨rfl, m1, rfl⟩
  go_wp2_with fail
  refine (HT.out m1).mono ?_
  rintro e w1 ⟨rfl, m2, rfl⟩
  go_upto_region 3 with fail
  generalize hwc : w.drewN (m1 + m2) = wc
  have hwb : Below w.heap.size w wc := by rw [← hwc]; exact below_drewN (Below.refl _ _) _
  have hsz : wc.heap.size = w.heap.size := by rw [← hwc]; rfl
  have c3d : wc.cell? ⟨R, 3, none⟩ = some (.int .i64 q.base) := by rw [← hwc]; exact c3
  have c4d : wc.cell? ⟨R, 4, none⟩ = some (.slice Aq q.bytes.length cq) := by rw [← hwc]; exact c4
  have hrd : Rd wc 1 Aq q.bytes.length (u8s q.bytes) := Hq.out.2.2.2.1.below hwb
  obtain ⟨A', hsl, hrs⟩ := sl_mid hrd a m ham hal Hq.out.2.2.2.2
  rw [hkm] at hsl hrs
  have hrs' : Rd wc.drew 1 A' k (u8s ((q.bytes.drop a).take k)) := by
    rw [show u8s ((q.bytes.drop a).take k) = ((u8s q.bytes).drop a).take k by simp [u8s, List.map_take, List.map_drop]]
    exact hrs.below (Below.refl _ _).drew
  rw [← hsz] at hltR
  obtain ⟨v5, w5, happ, hown5, hg5, hat5⟩ := run_append_any (P := Try.prog) wc.drew w.heap.size 30 30 5 i5 _ 1 1 Try.underlying30 hi5 hy0 hy1 hy2 rfl (by omega) (.slice none 0 0) 0 [] (World.ownsRow_nil _ _ _ _) A' k (cq - a) _ hrs' (u8s_one _) (by unfold maxLen; omega) (by omega) (by show w.heap.size ≤ wc.heap.size; omega)
  rw [Nat.zero_add, List.nil_append] at hown5
  have hSA : Hid (Below wc.heap.size wc w5) := hid (by have := nil_below hg5; exact ⟨this.os, this.tape, this.output, this.size, this.block⟩)
  have HB := hid hwb
  obtain ⟨A6, c6', rfl, _⟩ := own_form hown5
  have HAPP := hid happ
  have HO := hid hown5
  clear happ hown5 hg5 hat5 hrs hrs' hrd hwc hwb
  go_wp2_with fail
  refine wp_region_held_drew (S := fun w' => Below wc.heap.size wc w') (by kernel_rfl) (by exact (Below.refl _ _).drew) (fun hHeld0 => ?_)
  refine wpAnyH_take (i := 0) (oi := { dst := some 32, op := Op.move (Operand.tmp 0), type := 59, pos := _, after := #[], guard := none }) (v := ?_) rfl (by kernel_rfl) (by kernel_rfl) (by kernel_rfl) (fun _ _ _ h => h) (Or.inl ⟨by rfl, ?_⟩) (by assumption) ?_
  rotate_left
  · (intro w' hSw; (try dsimp only at hSw); clear hSw; go_simp; try with_reducible rfl)
  try simp only [Act.put, List.setIfInBounds_toArray, List.set_cons_zero, List.set_cons_succ]
  refine wpAnyH_take (i := 1) (oi := { dst := some 33, op := Op.nilCheck (Operand.tmp 32), type := 0, pos := _, after := #[{ on := 0, ground := Ground.data }], guard := none }) (v := ?_) rfl (by kernel_rfl) (by kernel_rfl) (by kernel_rfl) (fun _ _ _ h => h) (Or.inl ⟨by rfl, ?_⟩) (by assumption) ?_
  rotate_left
  · (intro w' hSw; (try dsimp only at hSw); clear hSw; go_simp; try with_reducible rfl)
  try simp only [Act.put, List.setIfInBounds_toArray, List.set_cons_zero, List.set_cons_succ]
  refine wpAnyH_take (i := 2) (oi := { dst := some 34, op := Op.fieldAddr 80 (Operand.tmp 33) 4, type := 0, pos := _, after := #[{ on := 1, ground := Ground.data }], guard := none }) (v := ?_) rfl (by kernel_rfl) (by kernel_rfl) (by kernel_rfl) (fun _ _ _ h => h) (Or.inl ⟨by rfl, ?_⟩) (by assumption) ?_
  rotate_left
  · (intro w' hSw; (try dsimp only at hSw); clear hSw; go_simp; try with_reducible rfl)
  try simp only [Act.put, List.setIfInBounds_toArray, List.set_cons_zero, List.set_cons_succ]
  refine wpAnyH_take (i := 3) (oi := { dst := some 35, op := Op.load 30 (Operand.tmp 34), type := 30, pos := _, after := #[{ on := 2, ground := Ground.data }], guard := none }) (v := ?_) rfl (by kernel_rfl) (by kernel_rfl) (by kernel_rfl) (fun _ _ _ h => h) (Or.inl ⟨by rfl, ?_⟩) (by assumption) ?_
  rotate_left
  · (intro w' hSw; (try dsimp only at hSw); have q0 := (hSw.cell (p := ⟨R, 4, none⟩) hltR).trans c4d; clear hSw; go_simp; try with_reducible rfl)
  try simp only [Act.put, List.setIfInBounds_toArray, List.set_cons_zero, List.set_cons_succ]
  refine wpAnyH_take (i := 4) (oi := { dst := some 36, op := Op.move (Operand.tmp 1), type := 3, pos := _, after := #[], guard := none }) (v := ?_) rfl (by kernel_rfl) (by kernel_rfl) (by kernel_rfl) (fun _ _ _ h => h) (Or.inl ⟨by rfl, ?_⟩) (by assumption) ?_
  rotate_left
  · (intro w' hSw; (try dsimp only at hSw); clear hSw; go_simp; try with_reducible rfl)
  try simp only [Act.put, List.setIfInBounds_toArray, List.set_cons_zero, List.set_cons_succ]
  refine wpAnyH_take (i := 5) (oi := { dst := some 37, op := Op.move (Operand.tmp 0), type := 59, pos := _, after := #[], guard := none }) (v := ?_) rfl (by kernel_rfl) (by kernel_rfl) (by kernel_rfl) (fun _ _ _ h => h) (Or.inl ⟨by rfl, ?_⟩) (by assumption) ?_
  rotate_left
  · (intro w' hSw; (try dsimp only at hSw); clear hSw; go_simp; try with_reducible rfl)
  try simp only [Act.put, List.setIfInBounds_toArray, List.set_cons_zero, List.set_cons_succ]
  refine wpAnyH_take (i := 6) (oi := { dst := some 38, op := Op.nilCheck (Operand.tmp 37), type := 0, pos := _, after := #[{ on := 5, ground := Ground.data }], guard := none }) (v := ?_) rfl (by kernel_rfl) (by kernel_rfl) (by kernel_rfl) (fun _ _ _ h => h) (Or.inl ⟨by rfl, ?_⟩) (by assumption) ?_
  rotate_left
  · (intro w' hSw; (try dsimp only at hSw); clear hSw; go_simp; try with_reducible rfl)
  try simp only [Act.put, List.setIfInBounds_toArray, List.set_cons_zero, List.set_cons_succ]
  refine wpAnyH_take (i := 7) (oi := { dst := some 39, op := Op.fieldAddr 80 (Operand.tmp 38) 3, type := 0, pos := _, after := #[{ on := 6, ground := Ground.data }], guard := none }) (v := ?_) rfl (by kernel_rfl) (by kernel_rfl) (by kernel_rfl) (fun _ _ _ h => h) (Or.inl ⟨by rfl, ?_⟩) (by assumption) ?_
  rotate_left
  · (intro w' hSw; (try dsimp only at hSw); clear hSw; go_simp; try with_reducible rfl)
  try simp only [Act.put, List.setIfInBounds_toArray, List.set_cons_zero, List.set_cons_succ]
  refine wpAnyH_take (i := 8) (oi := { dst := some 40, op := Op.load 3 (Operand.tmp 39), type := 3, pos := _, after := #[{ on := 7, ground := Ground.data }], guard := none }) (v := ?_) rfl (by kernel_rfl) (by kernel_rfl) (by kernel_rfl) (fun _ _ _ h => h) (Or.inl ⟨by rfl, ?_⟩) (by assumption) ?_
  rotate_left
  · (intro w' hSw; (try dsimp only at hSw); have q0 := (hSw.cell (p := ⟨R, 3, none⟩) hltR).trans c3d; clear hSw; go_simp; try with_reducible rfl)
  try simp only [Act.put, List.setIfInBounds_toArray, List.set_cons_zero, List.set_cons_succ]
  refine wpAnyH_take (i := 9) (oi := { dst := some 41, op := Op.binOp BinOp.sub 3 (Operand.tmp 36) (Operand.tmp 40) 3, type := 3, pos := _, after := #[{ on := 4, ground := Ground.data }, { on := 8, ground := Ground.data }], guard := none }) (v := ?_) rfl (by kernel_rfl) (by kernel_rfl) (by kernel_rfl) (fun _ _ _ h => h) (Or.inl ⟨by rfl, ?_⟩) (by assumption) ?_
  rotate_left
  · (intro w' hSw; (try dsimp only at hSw); clear hSw; go_simp; try with_reducible rfl)
  try simp only [Act.put, List.setIfInBounds_toArray, List.set_cons_zero, List.set_cons_succ]
  refine wpAnyH_take (i := 10) (oi := { dst := some 42, op := Op.move (Operand.tmp 1), type := 3, pos := _, after := #[], guard := none }) (v := ?_) rfl (by kernel_rfl) (by kernel_rfl) (by kernel_rfl) (fun _ _ _ h => h) (Or.inl ⟨by rfl, ?_⟩) (by assumption) ?_
  rotate_left
  · (intro w' hSw; (try dsimp only at hSw); clear hSw; go_simp; try with_reducible rfl)
  try simp only [Act.put, List.setIfInBounds_toArray, List.set_cons_zero, List.set_cons_succ]
  refine wpAnyH_take (i := 11) (oi := { dst := some 43, op := Op.move (Operand.tmp 0), type := 59, pos := _, after := #[], guard := none }) (v := ?_) rfl (by kernel_rfl) (by kernel_rfl) (by kernel_rfl) (fun _ _ _ h => h) (Or.inl ⟨by rfl, ?_⟩) (by assumption) ?_
  rotate_left
  · (intro w' hSw; (try dsimp only at hSw); clear hSw; go_simp; try with_reducible rfl)
  try simp only [Act.put, List.setIfInBounds_toArray, List.set_cons_zero, List.set_cons_succ]
  refine wpAnyH_take (i := 12) (oi := { dst := some 44, op := Op.nilCheck (Operand.tmp 43), type := 0, pos := _, after := #[{ on := 11, ground := Ground.data }], guard := none }) (v := ?_) rfl (by kernel_rfl) (by kernel_rfl) (by kernel_rfl) (fun _ _ _ h => h) (Or.inl ⟨by rfl, ?_⟩) (by assumption) ?_
  rotate_left
  · (intro w' hSw; (try dsimp only at hSw); clear hSw; go_simp; try with_reducible rfl)
  try simp only [Act.put, List.setIfInBounds_toArray, List.set_cons_zero, List.set_cons_succ]
  refine wpAnyH_take (i := 13) (oi := { dst := some 45, op := Op.fieldAddr 80 (Operand.tmp 44) 3, type := 0, pos := _, after := #[{ on := 12, ground := Ground.data }], guard := none }) (v := ?_) rfl (by kernel_rfl) (by kernel_rfl) (by kernel_rfl) (fun _ _ _ h => h) (Or.inl ⟨by rfl, ?_⟩) (by assumption) ?_
  rotate_left
  · (intro w' hSw; (try dsimp only at hSw); clear hSw; go_simp; try with_reducible rfl)
  try simp only [Act.put, List.setIfInBounds_toArray, List.set_cons_zero, List.set_cons_succ]
  refine wpAnyH_take (i := 14) (oi := { dst := some 46, op := Op.load 3 (Operand.tmp 45), type := 3, pos := _, after := #[{ on := 13, ground := Ground.data }], guard := none }) (v := ?_) rfl (by kernel_rfl) (by kernel_rfl) (by kernel_rfl) (fun _ _ _ h => h) (Or.inl ⟨by rfl, ?_⟩) (by assumption) ?_
  rotate_left
  · (intro w' hSw; (try dsimp only at hSw); have q0 := (hSw.cell (p := ⟨R, 3, none⟩) hltR).trans c3d; clear hSw; go_simp; try with_reducible rfl)
  try simp only [Act.put, List.setIfInBounds_toArray, List.set_cons_zero, List.set_cons_succ]
  refine wpAnyH_take (i := 15) (oi := { dst := some 47, op := Op.binOp BinOp.sub 3 (Operand.tmp 42) (Operand.tmp 46) 3, type := 3, pos := _, after := #[{ on := 10, ground := Ground.data }, { on := 14, ground := Ground.data }], guard := none }) (v := ?_) rfl (by kernel_rfl) (by kernel_rfl) (by kernel_rfl) (fun _ _ _ h => h) (Or.inl ⟨by rfl, ?_⟩) (by assumption) ?_
  rotate_left
  · (intro w' hSw; (try dsimp only at hSw); clear hSw; go_simp; try with_reducible rfl)
  try simp only [Act.put, List.setIfInBounds_toArray, List.set_cons_zero, List.set_cons_succ]
  refine wpAnyH_take (i := 16) (oi := { dst := some 48, op := Op.move (Operand.tmp 2), type := 3, pos := _, after := #[], guard := none }) (v := ?_) rfl (by kernel_rfl) (by kernel_rfl) (by kernel_rfl) (fun _ _ _ h => h) (Or.inl ⟨by rfl, ?_⟩) (by assumption) ?_
  rotate_left
  · (intro w' hSw; (try dsimp only at hSw); clear hSw; go_simp; try with_reducible rfl)
  try simp only [Act.put, List.setIfInBounds_toArray, List.set_cons_zero, List.set_cons_succ]
  refine wpAnyH_take (i := 17) (oi := { dst := some 49, op := Op.binOp BinOp.add 3 (Operand.tmp 47) (Operand.tmp 48) 3, type := 3, pos := _, after := #[{ on := 15, ground := Ground.data }, { on := 16, ground := Ground.data }], guard := none }) (v := ?_) rfl (by kernel_rfl) (by kernel_rfl) (by kernel_rfl) (fun _ _ _ h => h) (Or.inl ⟨by rfl, ?_⟩) (by assumption) ?_
  rotate_left
  · (intro w' hSw; (try dsimp only at hSw); clear hSw; go_simp; try with_reducible rfl)
  try simp only [Act.put, List.setIfInBounds_toArray, List.set_cons_zero, List.set_cons_succ]
  refine wpAnyH_take (i := 18) (oi := { dst := some 50, op := Op.slice 30 (Operand.tmp 35) (some (Operand.tmp 41)) (some (Operand.tmp 49)) none, type := 30, pos := _, after := #[{ on := 3, ground := Ground.data }, { on := 9, ground := Ground.data }, { on := 17, ground := Ground.data }], guard := none }) (v := ?_) rfl (by kernel_rfl) (by kernel_rfl) (by kernel_rfl) (fun _ _ _ h => h) (Or.inl ⟨by rfl, ?_⟩) (by assumption) ?_
  rotate_left
  · (intro w' hSw; (try dsimp only at hSw); clear hSw; go_simp; try with_reducible rfl)
  try simp only [Act.put, List.setIfInBounds_toArray, List.set_cons_zero, List.set_cons_succ]
  refine wpAnyH_ready (rs := [19]) (by kernel_rfl) (by simp) ?_
  refine AllReadyH.cons (o := { dst := some 51, op := Op.call { callee := Callee.builtin Builtin.append, args := #[Operand.const (Value.slice none 0 0), Operand.tmp 50], argTypes := #[30, 30] }, type := 30, pos := _, after := #[{ on := 18, ground := Ground.data }], guard := none }) rfl (fun K hK => ?_) AllReadyH.nil
  refine step_app (by rfl) _ _ _ (by rfl) _ _ _ (by rfl) (by rfl) HAPP.out ?_
  refine hK.out _ _ (hSA.out) (fun hHeld1 => ?_)
  clear hK K
  try simp only [Act.put, List.setIfInBounds_toArray, List.set_cons_zero, List.set_cons_succ]
  refine wpAnyH_take (i := 20) (oi := { dst := some 6, op := Op.assign (Operand.tmp 51), type := 30, pos := _, after := #[{ on := 19, ground := Ground.data }, { on := 19, ground := Ground.chain }, { on := 0, ground := Ground.phase }, { on := 1, ground := Ground.phase }, { on := 2, ground := Ground.phase }, { on := 3, ground := Ground.phase }, { on := 4, ground := Ground.phase }, { on := 5, ground := Ground.phase }, { on := 6, ground := Ground.phase }, { on := 7, ground := Ground.phase }, { on := 8, ground := Ground.phase }, { on := 9, ground := Ground.phase }, { on := 10, ground := Ground.phase }, { on := 11, ground := Ground.phase }, { on := 12, ground := Ground.phase }, { on := 13, ground := Ground.phase }, { on := 14, ground := Ground.phase }, { on := 15, ground := Ground.phase }, { on := 16, ground := Ground.phase }, { on := 17, ground := Ground.phase }, { on := 18, ground := Ground.phase }, { on := 19, ground := Ground.phase }], guard := none }) (v := ?_) rfl (by kernel_rfl) (by kernel_rfl) (by kernel_rfl) (fun _ _ _ h => h) (Or.inl ⟨by rfl, ?_⟩) (by assumption) ?_
  rotate_left
  · (intro w' hSw; (try dsimp only at hSw); clear hSw; go_simp; try with_reducible rfl)
  try simp only [Act.put, List.setIfInBounds_toArray, List.set_cons_zero, List.set_cons_succ]
  refine wpAnyH_take (i := 21) (oi := { dst := some 7, op := Op.assign (Operand.const (Value.int IntKind.i64 0)), type := 25, pos := _, after := #[{ on := 20, ground := Ground.chain }, { on := 0, ground := Ground.phase }, { on := 1, ground := Ground.phase }, { on := 2, ground := Ground.phase }, { on := 3, ground := Ground.phase }, { on := 4, ground := Ground.phase }, { on := 5, ground := Ground.phase }, { on := 6, ground := Ground.phase }, { on := 7, ground := Ground.phase }, { on := 8, ground := Ground.phase }, { on := 9, ground := Ground.phase }, { on := 10, ground := Ground.phase }, { on := 11, ground := Ground.phase }, { on := 12, ground := Ground.phase }, { on := 13, ground := Ground.phase }, { on := 14, ground := Ground.phase }, { on := 15, ground := Ground.phase }, { on := 16, ground := Ground.phase }, { on := 17, ground := Ground.phase }, { on := 18, ground := Ground.phase }, { on := 19, ground := Ground.phase }, { on := 20, ground := Ground.phase }], guard := none }) (v := ?_) rfl (by kernel_rfl) (by kernel_rfl) (by kernel_rfl) (fun _ _ _ h => h) (Or.inl ⟨by rfl, ?_⟩) (by assumption) ?_
  rotate_left
  · (intro w' hSw; (try dsimp only at hSw); clear hSw; go_simp; try with_reducible rfl)
  try simp only [Act.put, List.setIfInBounds_toArray, List.set_cons_zero, List.set_cons_succ]
  refine wpAnyH_done (by kernel_rfl) ?_ _
  go_wp2
  go_ret2
  exact ⟨A6, c6', rfl, HO.out, HB.out.trans (hSA.out.mono (by omega))⟩
set_option maxHeartbeats 3200000 in
theorem trim_ok (R D : Nat) (B : Nat → Prop) (q : MRing) (w : World) (h : RgMem w R D B q) (hq : QOk q) (pos : Nat) (hp1 : q.start ≤ pos) (hp2 : pos ≤ q.fin) :
    Calls Try.prog 37 #[.pointer (some ⟨R, 0, none⟩), .int .i64 pos] w fun e w' => e = .returned (.int .i64 0) ∧ ∃ B', RgMem w' R D B' { q with start := pos, base := pos / 118 * 118, bytes := q.bytes.drop (pos / 118 * 118 - q.base) } ∧ (∀ i, B' i → B i ∨ w.heap.size ≤ i) ∧ Chg B w w' := by
  obtain ⟨i5, hi5, hy0, hy1, hy2⟩ := info_parts info5
  have htl := hq.tl
  have hqb := hq.b
  have he2 := hq.e2
  obtain ⟨s1, hs1⟩ : ∃ s1, s1 = pos / 118 := ⟨_, rfl⟩
  obtain ⟨b1, hb1⟩ : ∃ b1, b1 = s1 * 118 := ⟨_, rfl⟩
  have hbb : q.base ≤ b1 := by omega
  have hbt : b1 ≤ q.tail := by omega
  have htd : q.tail = q.base + q.bytes.length := rfl
  obtain ⟨a, ha⟩ : ∃ a, a = b1 - q.base := ⟨_, rfl⟩
  have hal : a ≤ q.bytes.length := by omega
  have HM := hid h
  have hneR : ∀ A c, w.ownsRow 0 5 1 (.slice A q.bytes.length c) q.bytes.length (u8s q.bytes) → True := fun _ _ _ => trivial
  obtain ⟨Aq, cq, Hq, c0, c1, c2, c3, c4, c5, c6, c7⟩ := h.cells
  have hf := fun i => (Hq.out.1.frozen i)
  have f5 := hf 5
  have g1 : ¬ ((pos : Int) < (q.start : Int)) := by omega
  have g2 : ¬ ((q.fin : Int) < (pos : Int)) := by omega
  have hwd : (pos : Int).tdiv 118 = (s1 : Int) := by rw [Int.tdiv_eq_ediv_of_nonneg (by omega)]; omega
  have hwd' : (pos : Int) / 118 = (s1 : Int) := by omega
  have hwm : (s1 : Int) * 118 = (b1 : Int) := by omega
  have hM1 : RgMem (w.setCell ⟨R, 5, none⟩ (.int .i64 pos)) R D B { q with start := pos } := h.set_ Hq.out.1 Hq.out.2.1 Hq.out.2.2.1 5 (.int .i64 pos) rfl rfl
  rw [← hs1, ← hb1, ← ha]
  have Hha := hid ha
  have hb18 : b1 ≤ 2199023255552 := by omega
  have hs18 : s1 ≤ 2199023255552 := by omega
  have hlt0 := h.lt R h.own
  have hown : B R := h.own
  have Hqb := hid hqb
  clear h hq hs1 hb1 ha hf hneR hqb htd he2
  go_enter Try.func37, Try.ntmps37
  go_upto_region 5 with fail
  generalize hw1 : w.setCell ⟨R, 5, none⟩ (.int .i64 pos) = w1
  rw [hw1] at hM1
  have hc1 : Chg (· = R) w w1 := by rw [← hw1]; exact chg_set R 5 _
  have HM1 := hid hM1
  have HC1 := hid hc1
  obtain ⟨A2, c2q, H2, d0, d1, d2, d3, d4, d5, d6, d7⟩ := hM1.cells
  clear hw1 hM1 hc1 c0 c1 c2 c3 c4 c5 c6 c7 f5
  have d3' : w1.cell? ⟨R, 3, none⟩ = some (.int .i64 q.base) := d3
  have d4' : w1.cell? ⟨R, 4, none⟩ = some (.slice A2 q.bytes.length c2q) := d4
  have hws : IntKind.i64.wrap ((b1 : Int) - (q.base : Int)) = (a : Int) := by have := Hha.out; rw [IntKind.wrap_i64]; omega
  have hwa : (b1 : Int) - (q.base : Int) = (a : Int) := by have := Hha.out; omega
  have hwA : IntKind.i64.wrap (a : Int) = (a : Int) := by rw [IntKind.wrap_i64]; omega
  clear d0 d1 d2 d3 d4 d5 d6 d7
  by_cases ha0 : 0 < a
  · as_aux_lemma =>
    have ha0' : 0 < (a : Int) := by omega
    go_upto_region 6 with fail
    have hrd : Rd w1 1 A2 q.bytes.length (u8s q.bytes) := H2.out.2.2.2.1
    obtain ⟨A', hsl, _, hrs⟩ := sl_from (B := w1.heap.size) hrd (fun ad e => by
      subst e
      obtain ⟨ad', e', hlt, _⟩ := hrd.2 (by omega)
      injection e' with e'
      subst e'
      exact hlt) a (a : Int) rfl hal H2.out.2.2.2.2
    have hrs' : Rd w1.drew 1 A' (q.bytes.length - a) (u8s (q.bytes.drop a)) := by
      rw [show u8s (q.bytes.drop a) = (u8s q.bytes).drop a by simp [u8s, List.map_drop]]
      exact hrs.below (Below.refl _ _).drew
    obtain ⟨v5, w5, happ, hown5, hg5, hat5⟩ := run_append_any (P := Try.prog) w1.drew w1.heap.size 30 30 5 i5 _ 1 1 Try.underlying30 hi5 hy0 hy1 hy2 rfl (by omega) (.slice none 0 0) 0 [] (World.ownsRow_nil _ _ _ _) A' (q.bytes.length - a) (c2q - a) _ hrs' (u8s_one _) (by unfold maxLen; omega) (by omega) (by show w1.heap.size ≤ w1.heap.size; omega)
    rw [Nat.zero_add, List.nil_append] at hown5
    have hb5 := nil_below hg5
    have hM5 := (HM1.out.below (Below.refl _ _).drew).below hb5
    have hblk5 : Blk w5 R 80 (qcells D (.slice A2 q.bytes.length c2q) { q with start := pos }) := (show Blk w1.drew R 80 _ from H2.out.1).below hb5 (show R < w1.heap.size from HM1.out.lt R HM1.out.own)
    have hne : ∀ g, v5.ownBlock = some g → g ≠ R := fun g hg e => by
      subst e
      obtain ⟨cs, hk⟩ := own_ty hown5 hg
      exact hk.ne_ hblk5 (by decide) rfl
    have c3d : w1.drew.cell? ⟨R, 3, none⟩ = some (.int .i64 q.base) := d3'
    have c4d : w1.drew.cell? ⟨R, 4, none⟩ = some (.slice A2 q.bytes.length c2q) := d4'
    have c3e : Hid (w5.cell? ⟨R, 3, none⟩ = some (.int .i64 q.base)) := hid (hblk5.cell_ 3 rfl)
    have c4e := hblk5.cell_ 4 rfl
    have f4e := hblk5.frozen 4
    obtain ⟨A6, c6', rfl, _⟩ := own_form hown5
    have hblk6 : Blk (w5.setCell ⟨R, 4, none⟩ (.slice A6 (q.bytes.length - a) c6')) R 80 (qcells D (.slice A6 (q.bytes.length - a) c6') { q with start := pos }) := hblk5.set_ 4 _
    have c3f : Hid ((w5.setCell ⟨R, 4, none⟩ (.slice A6 (q.bytes.length - a) c6')).cell? ⟨R, 3, none⟩ = some (.int .i64 q.base)) := hid (hblk6.cell_ 3 rfl)
    have HAPP := hid happ
    have HK6 := hid hblk6
    have HO6 := hid (own_chg hown5 (chg_set R 4 (.slice A6 (q.bytes.length - a) c6')) (fun g hg => hne g hg))
    have HC6 : Hid (Chg (· = R) w1 (w5.setCell ⟨R, 4, none⟩ (.slice A6 (q.bytes.length - a) c6'))) := hid ((show Chg (· = R) w1 w5 from ⟨hb5.os, hb5.tape, hb5.output, hb5.size, fun k hk _ => hb5.block k hk⟩).trans (chg_set R 4 _))
    have HLT := hid (fun g (hg : (Value.slice A6 (q.bytes.length - a) c6').ownBlock = some g) => own_block hown5 hg)
    clear happ hown5 hg5 hat5 hrs hrs' hrd hb5 hM5 hblk5 hblk6
    refine wp_region_held_drew (S := fun w' => w'.cell? ⟨R, 3, none⟩ = some (.int .i64 q.base)) (by kernel_rfl) (by exact c3d) (fun hHeld0 => ?_)
    refine wpAnyH_take (i := 0) (oi := { dst := some 34, op := Op.move (Operand.tmp 0), type := 59, pos := _, after := #[], guard := none }) (v := ?_) rfl (by kernel_rfl) (by kernel_rfl) (by kernel_rfl) (fun _ _ _ h => h) (Or.inl ⟨by rfl, ?_⟩) (by assumption) ?_
    rotate_left
    · (intro w' hSw; (try dsimp only at hSw); clear hSw; go_simp; try with_reducible rfl)
    try simp only [Act.put, List.setIfInBounds_toArray, List.set_cons_zero, List.set_cons_succ]
    refine wpAnyH_take (i := 1) (oi := { dst := some 35, op := Op.move (Operand.tmp 0), type := 59, pos := _, after := #[], guard := none }) (v := ?_) rfl (by kernel_rfl) (by kernel_rfl) (by kernel_rfl) (fun _ _ _ h => h) (Or.inl ⟨by rfl, ?_⟩) (by assumption) ?_
    rotate_left
    · (intro w' hSw; (try dsimp only at hSw); clear hSw; go_simp; try with_reducible rfl)
    try simp only [Act.put, List.setIfInBounds_toArray, List.set_cons_zero, List.set_cons_succ]
    refine wpAnyH_take (i := 2) (oi := { dst := some 36, op := Op.nilCheck (Operand.tmp 35), type := 0, pos := _, after := #[{ on := 1, ground := Ground.data }], guard := none }) (v := ?_) rfl (by kernel_rfl) (by kernel_rfl) (by kernel_rfl) (fun _ _ _ h => h) (Or.inl ⟨by rfl, ?_⟩) (by assumption) ?_
    rotate_left
    · (intro w' hSw; (try dsimp only at hSw); clear hSw; go_simp; try with_reducible rfl)
    try simp only [Act.put, List.setIfInBounds_toArray, List.set_cons_zero, List.set_cons_succ]
    refine wpAnyH_take (i := 3) (oi := { dst := some 37, op := Op.fieldAddr 80 (Operand.tmp 36) 4, type := 0, pos := _, after := #[{ on := 2, ground := Ground.data }], guard := none }) (v := ?_) rfl (by kernel_rfl) (by kernel_rfl) (by kernel_rfl) (fun _ _ _ h => h) (Or.inl ⟨by rfl, ?_⟩) (by assumption) ?_
    rotate_left
    · (intro w' hSw; (try dsimp only at hSw); clear hSw; go_simp; try with_reducible rfl)
    try simp only [Act.put, List.setIfInBounds_toArray, List.set_cons_zero, List.set_cons_succ]
    refine wpAnyH_take (i := 5) (oi := { dst := some 39, op := Op.move (Operand.tmp 5), type := 3, pos := _, after := #[], guard := none }) (v := ?_) rfl (by kernel_rfl) (by kernel_rfl) (by kernel_rfl) (fun _ _ _ h => h) (Or.inl ⟨by rfl, ?_⟩) (by assumption) ?_
    rotate_left
    · (intro w' hSw; (try dsimp only at hSw); clear hSw; go_simp; try with_reducible rfl)
    try simp only [Act.put, List.setIfInBounds_toArray, List.set_cons_zero, List.set_cons_succ]
    refine wpAnyH_take (i := 6) (oi := { dst := some 40, op := Op.move (Operand.tmp 0), type := 59, pos := _, after := #[], guard := none }) (v := ?_) rfl (by kernel_rfl) (by kernel_rfl) (by kernel_rfl) (fun _ _ _ h => h) (Or.inl ⟨by rfl, ?_⟩) (by assumption) ?_
    rotate_left
    · (intro w' hSw; (try dsimp only at hSw); clear hSw; go_simp; try with_reducible rfl)
    try simp only [Act.put, List.setIfInBounds_toArray, List.set_cons_zero, List.set_cons_succ]
    refine wpAnyH_take (i := 7) (oi := { dst := some 41, op := Op.nilCheck (Operand.tmp 40), type := 0, pos := _, after := #[{ on := 6, ground := Ground.data }], guard := none }) (v := ?_) rfl (by kernel_rfl) (by kernel_rfl) (by kernel_rfl) (fun _ _ _ h => h) (Or.inl ⟨by rfl, ?_⟩) (by assumption) ?_
    rotate_left
    · (intro w' hSw; (try dsimp only at hSw); clear hSw; go_simp; try with_reducible rfl)
    try simp only [Act.put, List.setIfInBounds_toArray, List.set_cons_zero, List.set_cons_succ]
    refine wpAnyH_take (i := 8) (oi := { dst := some 42, op := Op.fieldAddr 80 (Operand.tmp 41) 3, type := 0, pos := _, after := #[{ on := 7, ground := Ground.data }], guard := none }) (v := ?_) rfl (by kernel_rfl) (by kernel_rfl) (by kernel_rfl) (fun _ _ _ h => h) (Or.inl ⟨by rfl, ?_⟩) (by assumption) ?_
    rotate_left
    · (intro w' hSw; (try dsimp only at hSw); clear hSw; go_simp; try with_reducible rfl)
    try simp only [Act.put, List.setIfInBounds_toArray, List.set_cons_zero, List.set_cons_succ]
    refine wpAnyH_take (i := 9) (oi := { dst := some 43, op := Op.load 3 (Operand.tmp 42), type := 3, pos := _, after := #[{ on := 8, ground := Ground.data }], guard := none }) (v := ?_) rfl (by kernel_rfl) (by kernel_rfl) (by kernel_rfl) (fun _ _ _ h => h) (Or.inl ⟨by rfl, ?_⟩) (by assumption) ?_
    rotate_left
    · (intro w' hSw; (try dsimp only at hSw); have q0 := hSw; clear hSw; go_simp; try with_reducible rfl)
    try simp only [Act.put, List.setIfInBounds_toArray, List.set_cons_zero, List.set_cons_succ]
    refine wpAnyH_take (i := 10) (oi := { dst := some 44, op := Op.binOp BinOp.sub 3 (Operand.tmp 39) (Operand.tmp 43) 3, type := 3, pos := _, after := #[{ on := 5, ground := Ground.data }, { on := 9, ground := Ground.data }], guard := none }) (v := ?_) rfl (by kernel_rfl) (by kernel_rfl) (by kernel_rfl) (fun _ _ _ h => h) (Or.inl ⟨by rfl, ?_⟩) (by assumption) ?_
    rotate_left
    · (intro w' hSw; (try dsimp only at hSw); clear hSw; go_simp; try with_reducible rfl)
    try simp only [Act.put, List.setIfInBounds_toArray, List.set_cons_zero, List.set_cons_succ]
    refine wpAnyH_ready (rs := [4]) (by kernel_rfl) (by simp) ?_
    refine AllReadyH.cons (o := { dst := some 38, op := Op.load 30 (Operand.tmp 37), type := 30, pos := _, after := #[{ on := 3, ground := Ground.data }], guard := none }) rfl (fun K hK => ?_) AllReadyH.nil
    go_simp
    refine hK.out _ _ (c3d) (fun hHeld1 => ?_)
    clear hK K
    try simp only [Act.put, List.setIfInBounds_toArray, List.set_cons_zero, List.set_cons_succ]
    refine wpAnyH_take (i := 11) (oi := { dst := some 45, op := Op.slice 30 (Operand.tmp 38) (some (Operand.tmp 44)) none none, type := 30, pos := _, after := #[{ on := 4, ground := Ground.data }, { on := 10, ground := Ground.data }], guard := none }) (v := ?_) rfl (by kernel_rfl) (by kernel_rfl) (by kernel_rfl) (fun _ _ _ h => h) (Or.inl ⟨by rfl, ?_⟩) (by assumption) ?_
    rotate_left
    · (intro w' hSw; (try dsimp only at hSw); clear hSw; go_simp; try with_reducible rfl)
    try simp only [Act.put, List.setIfInBounds_toArray, List.set_cons_zero, List.set_cons_succ]
    refine wpAnyH_ready (rs := [12]) (by kernel_rfl) (by simp) ?_
    refine AllReadyH.cons (o := { dst := some 46, op := Op.call { callee := Callee.builtin Builtin.append, args := #[Operand.const (Value.slice none 0 0), Operand.tmp 45], argTypes := #[30, 30] }, type := 30, pos := _, after := #[{ on := 11, ground := Ground.data }], guard := none }) rfl (fun K hK => ?_) AllReadyH.nil
    refine step_app (by rfl) _ _ _ (by rfl) _ _ _ (by rfl) (by rfl) HAPP.out ?_
    refine hK.out _ _ (c3e.out) (fun hHeld2 => ?_)
    clear hK K
    try simp only [Act.put, List.setIfInBounds_toArray, List.set_cons_zero, List.set_cons_succ]
    refine wpAnyH_take (i := 13) (oi := { dst := some 47, op := Op.nilCheck (Operand.tmp 34), type := 0, pos := _, after := #[{ on := 0, ground := Ground.data }, { on := 0, ground := Ground.phase }, { on := 1, ground := Ground.phase }, { on := 2, ground := Ground.phase }, { on := 3, ground := Ground.phase }, { on := 4, ground := Ground.phase }, { on := 5, ground := Ground.phase }, { on := 6, ground := Ground.phase }, { on := 7, ground := Ground.phase }, { on := 8, ground := Ground.phase }, { on := 9, ground := Ground.phase }, { on := 10, ground := Ground.phase }, { on := 11, ground := Ground.phase }, { on := 12, ground := Ground.phase }], guard := none }) (v := ?_) rfl (by kernel_rfl) (by kernel_rfl) (by kernel_rfl) (fun _ _ _ h => h) (Or.inl ⟨by rfl, ?_⟩) (by assumption) ?_
    rotate_left
    · (intro w' hSw; (try dsimp only at hSw); clear hSw; go_simp; try with_reducible rfl)
    try simp only [Act.put, List.setIfInBounds_toArray, List.set_cons_zero, List.set_cons_succ]
    refine wpAnyH_take (i := 14) (oi := { dst := some 48, op := Op.fieldAddr 80 (Operand.tmp 47) 4, type := 0, pos := _, after := #[{ on := 13, ground := Ground.data }, { on := 0, ground := Ground.phase }, { on := 1, ground := Ground.phase }, { on := 2, ground := Ground.phase }, { on := 3, ground := Ground.phase }, { on := 4, ground := Ground.phase }, { on := 5, ground := Ground.phase }, { on := 6, ground := Ground.phase }, { on := 7, ground := Ground.phase }, { on := 8, ground := Ground.phase }, { on := 9, ground := Ground.phase }, { on := 10, ground := Ground.phase }, { on := 11, ground := Ground.phase }, { on := 12, ground := Ground.phase }], guard := none }) (v := ?_) rfl (by kernel_rfl) (by kernel_rfl) (by kernel_rfl) (fun _ _ _ h => h) (Or.inl ⟨by rfl, ?_⟩) (by assumption) ?_
    rotate_left
    · (intro w' hSw; (try dsimp only at hSw); clear hSw; go_simp; try with_reducible rfl)
    try simp only [Act.put, List.setIfInBounds_toArray, List.set_cons_zero, List.set_cons_succ]
    refine wpAnyH_ready (rs := [15]) (by kernel_rfl) (by simp) ?_
    refine AllReadyH.cons (o := { dst := none, op := Op.store 30 (Operand.tmp 48) (Operand.tmp 46), type := 0, pos := _, after := #[{ on := 14, ground := Ground.data }, { on := 12, ground := Ground.data }, { on := 12, ground := Ground.chain }, { on := 0, ground := Ground.phase }, { on := 1, ground := Ground.phase }, { on := 2, ground := Ground.phase }, { on := 3, ground := Ground.phase }, { on := 4, ground := Ground.phase }, { on := 5, ground := Ground.phase }, { on := 6, ground := Ground.phase }, { on := 7, ground := Ground.phase }, { on := 8, ground := Ground.phase }, { on := 9, ground := Ground.phase }, { on := 10, ground := Ground.phase }, { on := 11, ground := Ground.phase }, { on := 12, ground := Ground.phase }], guard := none }) rfl (fun K hK => ?_) AllReadyH.nil
    go_simp
    refine hK.out _ _ (c3f.out) (fun hHeld3 => ?_)
    clear hK K
    try simp only [Act.put, List.setIfInBounds_toArray, List.set_cons_zero, List.set_cons_succ]
    refine wpAnyH_done (by kernel_rfl) ?_ _
    go_upto_region 7 with fail
    generalize hw6 : w5.setCell ⟨R, 4, none⟩ (.slice A6 (q.bytes.length - a) c6') = w6
    rw [hw6] at HK6 HO6 HC6
    have e3 := HK6.out.cell_ 3 rfl
    have f3 := HK6.out.frozen 3
    clear hw6
    go_wp2
    go_ret
    have hbd := HK6.out.set_ 3 (.int .i64 b1)
    have hch7 := chg_set (w := w6) R 3 (.int .i64 (b1 : Int))
    refine ⟨rfl, fun i => i = R ∨ (Value.slice A6 (q.bytes.length - a) c6').ownBlock = some i, ⟨.inl rfl, fun i hi => ?_, _, hbd, ?_, fun g hg => .inr hg⟩, fun i hi => ?_, ?_⟩
    · rcases hi with rfl | hi
      · have := HC1.out.size; have := HC6.out.size; have := hch7.size; omega
      · exact Nat.lt_of_lt_of_le (own_block HO6.out hi).2 hch7.size
    · have := own_chg HO6.out hch7 (fun g hg e => by
        subst e
        obtain ⟨cs, hk⟩ := own_ty HO6.out hg
        exact hk.ne_ HK6.out (by decide) rfl)
      have e : (q.bytes.drop a).length = q.bytes.length - a := List.length_drop
      show World.ownsRow _ 0 5 1 _ (q.bytes.drop a).length (u8s (q.bytes.drop a))
      rw [e]
      exact ⟨this.1, this.2.imp id fun ⟨g, cap, cur, e, hg, r⟩ => ⟨g, cap, cur, e, by omega, r⟩⟩
    · rcases hi with rfl | hi
      · exact .inl hown
      · exact .inr (Nat.le_trans HC1.out.size (HLT.out i hi).1)
    · exact ((HC1.out.trans HC6.out).trans hch7).mono (fun i _ e => by subst e; exact hown)
  · as_aux_lemma =>
    have ha1 : a = 0 := by omega
    have ha0' : ¬ (0 < (a : Int)) := by omega
    have hbe : b1 = q.base := by have := Hha.out; omega
    go_wp2
    go_ret
    subst ha1
    have e : ({ q with start := pos, base := b1, bytes := q.bytes.drop 0 } : MRing) = { q with start := pos } := by rw [hbe]; simp
    have hm := HM1.out
    rw [← e] at hm
    exact ⟨rfl, B, by first | exact hm | simpa using hm | simpa using HM1.out, fun i hi => .inl hi, HC1.out.mono (fun i _ e => by subst e; exact hown)⟩
end Go.Proofs.Ytjmcjbmnggecgaa
