/- The walk of the document's Same, of one record in two places. Conditions: sizes. -/
import Derived.Test.YtkpopjpmjcgbfaaEncD
namespace Go.Proofs.Ytkpopjpmjcgbfaa
open Go.RowKit
set_option maxRecDepth 100000
set_option linter.unusedVariables false
set_option linter.unusedSimpArgs false

/-- what is asked of the world may be made more -/
theorem wpAnyH_mono {P : Program} {md : Region.Mode} {ops : Array Oper} {Q : Exit → Act → World → Prop} {S S' : World → Prop} (hS : ∀ w, S' w → S w) : ∀ (fuel : Nat) (listed : Array Bool) (a : Act) (w : World),
    wpAnyH P md ops Q S' fuel listed a w → wpAnyH P md ops Q S fuel listed a w
  | 0, _, _, _, h => h
  | fuel + 1, _, _, _, h => ⟨h.1, fun i hi => wpOp_mono (fun a' w' h' => ⟨hS _ h'.1, wpAnyH_mono hS fuel _ a' w' h'.2⟩) (h.2 i hi)⟩
theorem below_of_drew {B : Nat} {w w' : World} (h : Below B w.drew w') : Below B w w' := ⟨h.os, h.tape, h.output, h.size, h.block⟩
theorem RecMem.of_heap {w wd : World} {r : MRec} {BA AA TA DA : Option Addr} (h : RecMem w r BA AA TA DA) (he : wd.heap = w.heap) : RecMem wd r BA AA TA DA :=
  ⟨h.b.keep (by rw [he]; exact Nat.le_refl _) (fun _ _ _ => by rw [he]), h.a.keep (by rw [he]; exact Nat.le_refl _) (fun _ _ _ => by rw [he]), h.t.keep (by rw [he]; exact Nat.le_refl _) (fun _ _ _ => by rw [he]), h.d.keep (by rw [he]; exact Nat.le_refl _) (fun _ _ _ => by rw [he])⟩
theorem blk11_ {w : World} {g : Nat} {t : TypeId} {a0 a1 a2 a3 a4 a5 a6 a7 a8 a9 a10 : Value} (h : Blk w g t #[a0, a1, a2, a3, a4, a5, a6, a7, a8, a9, a10]) :
    (w.cell? ⟨g, 0, none⟩ = some a0 ∧ w.cell? ⟨g, 1, none⟩ = some a1 ∧ w.cell? ⟨g, 2, none⟩ = some a2 ∧ w.cell? ⟨g, 3, none⟩ = some a3 ∧ w.cell? ⟨g, 4, none⟩ = some a4 ∧ w.cell? ⟨g, 5, none⟩ = some a5 ∧ w.cell? ⟨g, 6, none⟩ = some a6 ∧ w.cell? ⟨g, 7, none⟩ = some a7 ∧ w.cell? ⟨g, 8, none⟩ = some a8 ∧ w.cell? ⟨g, 9, none⟩ = some a9 ∧ w.cell? ⟨g, 10, none⟩ = some a10) ∧ True :=
  ⟨⟨h.cell_ 0 rfl, h.cell_ 1 rfl, h.cell_ 2 rfl, h.cell_ 3 rfl, h.cell_ 4 rfl, h.cell_ 5 rfl, h.cell_ 6 rfl, h.cell_ 7 rfl, h.cell_ 8 rfl, h.cell_ 9 rfl, h.cell_ 10 rfl⟩, trivial⟩
theorem cells22 {wx : World} {g h : Nat} {t u : TypeId} {a0 a1 a2 a3 a4 a5 a6 a7 a8 a9 a10 b0 b1 b2 b3 b4 b5 b6 b7 b8 b9 b10 : Value} (k : Blk wx g t #[a0, a1, a2, a3, a4, a5, a6, a7, a8, a9, a10]) (l : Blk wx h u #[b0, b1, b2, b3, b4, b5, b6, b7, b8, b9, b10]) :
    wx.cell? ⟨g, 0, none⟩ = some a0 ∧ wx.cell? ⟨g, 1, none⟩ = some a1 ∧ wx.cell? ⟨g, 2, none⟩ = some a2 ∧ wx.cell? ⟨g, 3, none⟩ = some a3 ∧ wx.cell? ⟨g, 4, none⟩ = some a4 ∧ wx.cell? ⟨g, 5, none⟩ = some a5 ∧ wx.cell? ⟨g, 6, none⟩ = some a6 ∧ wx.cell? ⟨g, 7, none⟩ = some a7 ∧ wx.cell? ⟨g, 8, none⟩ = some a8 ∧ wx.cell? ⟨g, 9, none⟩ = some a9 ∧ wx.cell? ⟨g, 10, none⟩ = some a10 ∧ wx.cell? ⟨h, 0, none⟩ = some b0 ∧ wx.cell? ⟨h, 1, none⟩ = some b1 ∧ wx.cell? ⟨h, 2, none⟩ = some b2 ∧ wx.cell? ⟨h, 3, none⟩ = some b3 ∧ wx.cell? ⟨h, 4, none⟩ = some b4 ∧ wx.cell? ⟨h, 5, none⟩ = some b5 ∧ wx.cell? ⟨h, 6, none⟩ = some b6 ∧ wx.cell? ⟨h, 7, none⟩ = some b7 ∧ wx.cell? ⟨h, 8, none⟩ = some b8 ∧ wx.cell? ⟨h, 9, none⟩ = some b9 ∧ wx.cell? ⟨h, 10, none⟩ = some b10 :=
  ⟨k.cell_ 0 rfl, k.cell_ 1 rfl, k.cell_ 2 rfl, k.cell_ 3 rfl, k.cell_ 4 rfl, k.cell_ 5 rfl, k.cell_ 6 rfl, k.cell_ 7 rfl, k.cell_ 8 rfl, k.cell_ 9 rfl, k.cell_ 10 rfl, l.cell_ 0 rfl, l.cell_ 1 rfl, l.cell_ 2 rfl, l.cell_ 3 rfl, l.cell_ 4 rfl, l.cell_ 5 rfl, l.cell_ 6 rfl, l.cell_ 7 rfl, l.cell_ 8 rfl, l.cell_ 9 rfl, l.cell_ 10 rfl⟩

set_option maxHeartbeats 3200000 in
theorem same_any (r : MRec) (BA : Option Addr) (bc : Nat) (AA : Option Addr) (ac : Nat) (TA : Option Addr) (tc : Nat) (DA : Option Addr) (dc : Nat) (B2 : Option Addr) (b2 : Nat) (A2 : Option Addr) (a2 : Nat) (T2 : Option Addr) (t2 : Nat) (D2 : Option Addr) (d2 : Nat) (w : World) (h : RecMem w r BA AA TA DA) (h2 : RecMem w r B2 A2 T2 D2) (hs : r.size ≤ 50000000) :
    Calls Try.prog 12 #[recVal r BA bc AA ac TA tc DA dc, recVal r B2 b2 A2 a2 T2 t2 D2 d2] w fun e w' => e = .returned (.bool true) ∧ Below w.heap.size w w' := by
  have hb0 : Below w.heap.size w ((w.alloc (.cells #[.int .i64 r.kind, .int .i64 r.txn, .int .i64 r.prev, .int .i64 r.next, .int .i64 r.page, .int .i64 r.off, .slice BA r.before.length bc, .slice AA r.after.length ac, .slice TA r.txns.length tc, .slice DA r.dirty.length dc, .int .i64 r.count] 28)).alloc (.cells #[.int .i64 r.kind, .int .i64 r.txn, .int .i64 r.prev, .int .i64 r.next, .int .i64 r.page, .int .i64 r.off, .slice B2 r.before.length b2, .slice A2 r.after.length a2, .slice T2 r.txns.length t2, .slice D2 r.dirty.length d2, .int .i64 r.count] 28)) := ((Below.refl _ w).alloc (Nat.le_refl _) _).alloc (by simp) _
  have H := hid (h.below hb0)
  have H2 := hid (h2.below hb0)
  have HB0 := hid hb0
  have hba : Blk ((w.alloc (.cells #[.int .i64 r.kind, .int .i64 r.txn, .int .i64 r.prev, .int .i64 r.next, .int .i64 r.page, .int .i64 r.off, .slice BA r.before.length bc, .slice AA r.after.length ac, .slice TA r.txns.length tc, .slice DA r.dirty.length dc, .int .i64 r.count] 28)).alloc (.cells #[.int .i64 r.kind, .int .i64 r.txn, .int .i64 r.prev, .int .i64 r.next, .int .i64 r.page, .int .i64 r.off, .slice B2 r.before.length b2, .slice A2 r.after.length a2, .slice T2 r.txns.length t2, .slice D2 r.dirty.length d2, .int .i64 r.count] 28)) w.heap.size 28 #[.int .i64 r.kind, .int .i64 r.txn, .int .i64 r.prev, .int .i64 r.next, .int .i64 r.page, .int .i64 r.off, .slice BA r.before.length bc, .slice AA r.after.length ac, .slice TA r.txns.length tc, .slice DA r.dirty.length dc, .int .i64 r.count] := (Blk.new w 28 _).alloc _
  have HBA := hid hba
  have hbx : Blk ((w.alloc (.cells #[.int .i64 r.kind, .int .i64 r.txn, .int .i64 r.prev, .int .i64 r.next, .int .i64 r.page, .int .i64 r.off, .slice BA r.before.length bc, .slice AA r.after.length ac, .slice TA r.txns.length tc, .slice DA r.dirty.length dc, .int .i64 r.count] 28)).alloc (.cells #[.int .i64 r.kind, .int .i64 r.txn, .int .i64 r.prev, .int .i64 r.next, .int .i64 r.page, .int .i64 r.off, .slice B2 r.before.length b2, .slice A2 r.after.length a2, .slice T2 r.txns.length t2, .slice D2 r.dirty.length d2, .int .i64 r.count] 28)) (w.heap.size + 1) 28 #[.int .i64 r.kind, .int .i64 r.txn, .int .i64 r.prev, .int .i64 r.next, .int .i64 r.page, .int .i64 r.off, .slice B2 r.before.length b2, .slice A2 r.after.length a2, .slice T2 r.txns.length t2, .slice D2 r.dirty.length d2, .int .i64 r.count] := by
    have := Blk.new (w.alloc (.cells #[.int .i64 r.kind, .int .i64 r.txn, .int .i64 r.prev, .int .i64 r.next, .int .i64 r.page, .int .i64 r.off, .slice BA r.before.length bc, .slice AA r.after.length ac, .slice TA r.txns.length tc, .slice DA r.dirty.length dc, .int .i64 r.count] 28)) 28 #[.int .i64 r.kind, .int .i64 r.txn, .int .i64 r.prev, .int .i64 r.next, .int .i64 r.page, .int .i64 r.off, .slice B2 r.before.length b2, .slice A2 r.after.length a2, .slice T2 r.txns.length t2, .slice D2 r.dirty.length d2, .int .i64 r.count]
    rwa [show (w.alloc (.cells #[.int .i64 r.kind, .int .i64 r.txn, .int .i64 r.prev, .int .i64 r.next, .int .i64 r.page, .int .i64 r.off, .slice BA r.before.length bc, .slice AA r.after.length ac, .slice TA r.txns.length tc, .slice DA r.dirty.length dc, .int .i64 r.count] 28)).heap.size = w.heap.size + 1 by simp] at this
  have HBX := hid hbx
  have henc := hid (rencode_any r BA bc AA ac TA tc DA dc)
  have henc2 := hid (rencode_any r B2 b2 A2 a2 T2 t2 D2 d2)
  clear h h2 hb0 hbx hba
  unfold recVal at *
  go_enter Try.func12, Try.ntmps12
  go_wp2_with fail
  refine wp_region_held_drew (S := fun w' => w'.cell? ⟨w.heap.size, 0, none⟩ = some (.int .i64 r.kind) ∧ w'.cell? ⟨w.heap.size, 1, none⟩ = some (.int .i64 r.txn) ∧ w'.cell? ⟨w.heap.size, 2, none⟩ = some (.int .i64 r.prev) ∧ w'.cell? ⟨w.heap.size, 3, none⟩ = some (.int .i64 r.next) ∧ w'.cell? ⟨w.heap.size, 4, none⟩ = some (.int .i64 r.page) ∧ w'.cell? ⟨w.heap.size, 5, none⟩ = some (.int .i64 r.off) ∧ w'.cell? ⟨w.heap.size, 6, none⟩ = some (.slice BA r.before.length bc) ∧ w'.cell? ⟨w.heap.size, 7, none⟩ = some (.slice AA r.after.length ac) ∧ w'.cell? ⟨w.heap.size, 8, none⟩ = some (.slice TA r.txns.length tc) ∧ w'.cell? ⟨w.heap.size, 9, none⟩ = some (.slice DA r.dirty.length dc) ∧ w'.cell? ⟨w.heap.size, 10, none⟩ = some (.int .i64 r.count) ∧ w'.cell? ⟨w.heap.size + 1, 0, none⟩ = some (.int .i64 r.kind) ∧ w'.cell? ⟨w.heap.size + 1, 1, none⟩ = some (.int .i64 r.txn) ∧ w'.cell? ⟨w.heap.size + 1, 2, none⟩ = some (.int .i64 r.prev) ∧ w'.cell? ⟨w.heap.size + 1, 3, none⟩ = some (.int .i64 r.next) ∧ w'.cell? ⟨w.heap.size + 1, 4, none⟩ = some (.int .i64 r.page) ∧ w'.cell? ⟨w.heap.size + 1, 5, none⟩ = some (.int .i64 r.off) ∧ w'.cell? ⟨w.heap.size + 1, 6, none⟩ = some (.slice B2 r.before.length b2) ∧ w'.cell? ⟨w.heap.size + 1, 7, none⟩ = some (.slice A2 r.after.length a2) ∧ w'.cell? ⟨w.heap.size + 1, 8, none⟩ = some (.slice T2 r.txns.length t2) ∧ w'.cell? ⟨w.heap.size + 1, 9, none⟩ = some (.slice D2 r.dirty.length d2) ∧ w'.cell? ⟨w.heap.size + 1, 10, none⟩ = some (.int .i64 r.count)) (by kernel_rfl) (cells22 HBA.out.drew HBX.out.drew) (fun hHeld => ?_)
  refine wpAnyH_take (i := 0) (oi := { dst := some 5, op := Op.load 28 (Operand.tmp 2), type := 28, pos := _, after := #[], guard := none }) (v := ?_) rfl (by kernel_rfl) (by kernel_rfl) (by kernel_rfl) (fun _ _ _ h => h) (Or.inl ⟨by rfl, ?_⟩) (by assumption) ?_
  rotate_left
  · (intro w' hSw; (try dsimp only at hSw); go_simp; try with_reducible rfl)
  try simp only [Act.put, List.setIfInBounds_toArray, List.set_cons_zero, List.set_cons_succ]
  refine wpAnyH_take (i := 3) (oi := { dst := some 8, op := Op.load 28 (Operand.tmp 3), type := 28, pos := _, after := #[], guard := none }) (v := ?_) rfl (by kernel_rfl) (by kernel_rfl) (by kernel_rfl) (fun _ _ _ h => h) (Or.inl ⟨by rfl, ?_⟩) (by assumption) ?_
  rotate_left
  · (intro w' hSw; (try dsimp only at hSw); go_simp; try with_reducible rfl)
  try simp only [Act.put, List.setIfInBounds_toArray, List.set_cons_zero, List.set_cons_succ]
  refine wpAnyH_ready (rs := [1]) (by kernel_rfl) (by simp) ?_
  refine AllReadyH.cons (o := { dst := some 6, op := Op.call { callee := Callee.value (Operand.func 14), args := #[Operand.tmp 5], argTypes := #[28] }, type := 23, pos := _, after := #[{ on := 0, ground := Ground.data }], guard := none }) rfl (fun K hK => ?_) AllReadyH.nil
  go_simp
  refine (henc.out _ (by exact H.out.of_heap rfl) hs).mono ?_
  rintro e w1 ⟨A5, N5, c5, rfl, hb1⟩
  have hB1 : Below ((w.alloc (.cells #[.int .i64 r.kind, .int .i64 r.txn, .int .i64 r.prev, .int .i64 r.next, .int .i64 r.page, .int .i64 r.off, .slice BA r.before.length bc, .slice AA r.after.length ac, .slice TA r.txns.length tc, .slice DA r.dirty.length dc, .int .i64 r.count] 28)).alloc (.cells #[.int .i64 r.kind, .int .i64 r.txn, .int .i64 r.prev, .int .i64 r.next, .int .i64 r.page, .int .i64 r.off, .slice B2 r.before.length b2, .slice A2 r.after.length a2, .slice T2 r.txns.length t2, .slice D2 r.dirty.length d2, .int .i64 r.count] 28)).heap.size ((w.alloc (.cells #[.int .i64 r.kind, .int .i64 r.txn, .int .i64 r.prev, .int .i64 r.next, .int .i64 r.page, .int .i64 r.off, .slice BA r.before.length bc, .slice AA r.after.length ac, .slice TA r.txns.length tc, .slice DA r.dirty.length dc, .int .i64 r.count] 28)).alloc (.cells #[.int .i64 r.kind, .int .i64 r.txn, .int .i64 r.prev, .int .i64 r.next, .int .i64 r.page, .int .i64 r.off, .slice B2 r.before.length b2, .slice A2 r.after.length a2, .slice T2 r.txns.length t2, .slice D2 r.dirty.length d2, .int .i64 r.count] 28)) w1 := ⟨hb1.be.os, hb1.be.tape, hb1.be.output, hb1.be.size, hb1.be.block⟩
  have HB1 := hid hB1
  have HF1 := hid hb1
  have s1 := run_str w1 A5 N5 c5 r.enc hb1.rd
  refine hK.out _ _ (cells22 (HBA.out.below hB1 HBA.out.lt) (HBX.out.below hB1 HBX.out.lt)) (fun hHeld1 => ?_)
  clear hHeld hK K hb1 hB1
  refine wpAnyH_mono (S' := fun w' => (w'.cell? ⟨w.heap.size, 0, none⟩ = some (.int .i64 r.kind) ∧ w'.cell? ⟨w.heap.size, 1, none⟩ = some (.int .i64 r.txn) ∧ w'.cell? ⟨w.heap.size, 2, none⟩ = some (.int .i64 r.prev) ∧ w'.cell? ⟨w.heap.size, 3, none⟩ = some (.int .i64 r.next) ∧ w'.cell? ⟨w.heap.size, 4, none⟩ = some (.int .i64 r.page) ∧ w'.cell? ⟨w.heap.size, 5, none⟩ = some (.int .i64 r.off) ∧ w'.cell? ⟨w.heap.size, 6, none⟩ = some (.slice BA r.before.length bc) ∧ w'.cell? ⟨w.heap.size, 7, none⟩ = some (.slice AA r.after.length ac) ∧ w'.cell? ⟨w.heap.size, 8, none⟩ = some (.slice TA r.txns.length tc) ∧ w'.cell? ⟨w.heap.size, 9, none⟩ = some (.slice DA r.dirty.length dc) ∧ w'.cell? ⟨w.heap.size, 10, none⟩ = some (.int .i64 r.count) ∧ w'.cell? ⟨w.heap.size + 1, 0, none⟩ = some (.int .i64 r.kind) ∧ w'.cell? ⟨w.heap.size + 1, 1, none⟩ = some (.int .i64 r.txn) ∧ w'.cell? ⟨w.heap.size + 1, 2, none⟩ = some (.int .i64 r.prev) ∧ w'.cell? ⟨w.heap.size + 1, 3, none⟩ = some (.int .i64 r.next) ∧ w'.cell? ⟨w.heap.size + 1, 4, none⟩ = some (.int .i64 r.page) ∧ w'.cell? ⟨w.heap.size + 1, 5, none⟩ = some (.int .i64 r.off) ∧ w'.cell? ⟨w.heap.size + 1, 6, none⟩ = some (.slice B2 r.before.length b2) ∧ w'.cell? ⟨w.heap.size + 1, 7, none⟩ = some (.slice A2 r.after.length a2) ∧ w'.cell? ⟨w.heap.size + 1, 8, none⟩ = some (.slice T2 r.txns.length t2) ∧ w'.cell? ⟨w.heap.size + 1, 9, none⟩ = some (.slice D2 r.dirty.length d2) ∧ w'.cell? ⟨w.heap.size + 1, 10, none⟩ = some (.int .i64 r.count)) ∧ (convert 23 9 (.slice A5 N5 c5)).run Try.prog w' = .ok (.string ⟨r.enc.toArray⟩) w') (fun w' h => h.1) _ _ _ _ ?_
  have hHeld2 := And.intro hHeld1 s1
  try simp only [Act.put, List.setIfInBounds_toArray, List.set_cons_zero, List.set_cons_succ]
  refine wpAnyH_take (i := 2) (oi := { dst := some 7, op := Op.convert 23 9 (Operand.tmp 6), type := 9, pos := _, after := #[{ on := 1, ground := Ground.data }], guard := none }) (v := ?_) rfl (by kernel_rfl) (by kernel_rfl) (by kernel_rfl) (fun _ _ _ h => h) (Or.inl ⟨by rfl, ?_⟩) (by assumption) ?_
  rotate_left
  · (intro w' hSw; (try dsimp only at hSw); go_simp; try with_reducible rfl)
  try simp only [Act.put, List.setIfInBounds_toArray, List.set_cons_zero, List.set_cons_succ]
  refine wpAnyH_ready (rs := [4]) (by kernel_rfl) (by simp) ?_
  refine AllReadyH.cons (o := { dst := some 9, op := Op.call { callee := Callee.value (Operand.func 14), args := #[Operand.tmp 8], argTypes := #[28] }, type := 23, pos := _, after := #[{ on := 3, ground := Ground.data }, { on := 1, ground := Ground.chain }], guard := none }) rfl (fun K hK => ?_) AllReadyH.nil
  go_simp
  refine (henc2.out _ (by exact (H2.out.below HB1.out).of_heap rfl) hs).mono ?_
  rintro e w2 ⟨A6, N6, c6, rfl, hb2⟩
  have hB2 : Below w1.heap.size w1 w2 := ⟨hb2.be.os, hb2.be.tape, hb2.be.output, hb2.be.size, hb2.be.block⟩
  have HB2 := hid hB2
  have s2 := run_str w2 A6 N6 c6 r.enc hb2.rd
  have s3 := run_str w2 A5 N5 c5 r.enc (HF1.out.rd.below hB2)
  refine hK.out _ _ ⟨cells22 ((HBA.out.below HB1.out HBA.out.lt).below hB2 (HBA.out.below HB1.out HBA.out.lt).lt) ((HBX.out.below HB1.out HBX.out.lt).below hB2 (HBX.out.below HB1.out HBX.out.lt).lt), s3⟩ (fun hHeld3 => ?_)
  clear hHeld1 hHeld2 hK K hb2 hB2 s1
  refine wpAnyH_mono (S' := fun w' => ((w'.cell? ⟨w.heap.size, 0, none⟩ = some (.int .i64 r.kind) ∧ w'.cell? ⟨w.heap.size, 1, none⟩ = some (.int .i64 r.txn) ∧ w'.cell? ⟨w.heap.size, 2, none⟩ = some (.int .i64 r.prev) ∧ w'.cell? ⟨w.heap.size, 3, none⟩ = some (.int .i64 r.next) ∧ w'.cell? ⟨w.heap.size, 4, none⟩ = some (.int .i64 r.page) ∧ w'.cell? ⟨w.heap.size, 5, none⟩ = some (.int .i64 r.off) ∧ w'.cell? ⟨w.heap.size, 6, none⟩ = some (.slice BA r.before.length bc) ∧ w'.cell? ⟨w.heap.size, 7, none⟩ = some (.slice AA r.after.length ac) ∧ w'.cell? ⟨w.heap.size, 8, none⟩ = some (.slice TA r.txns.length tc) ∧ w'.cell? ⟨w.heap.size, 9, none⟩ = some (.slice DA r.dirty.length dc) ∧ w'.cell? ⟨w.heap.size, 10, none⟩ = some (.int .i64 r.count) ∧ w'.cell? ⟨w.heap.size + 1, 0, none⟩ = some (.int .i64 r.kind) ∧ w'.cell? ⟨w.heap.size + 1, 1, none⟩ = some (.int .i64 r.txn) ∧ w'.cell? ⟨w.heap.size + 1, 2, none⟩ = some (.int .i64 r.prev) ∧ w'.cell? ⟨w.heap.size + 1, 3, none⟩ = some (.int .i64 r.next) ∧ w'.cell? ⟨w.heap.size + 1, 4, none⟩ = some (.int .i64 r.page) ∧ w'.cell? ⟨w.heap.size + 1, 5, none⟩ = some (.int .i64 r.off) ∧ w'.cell? ⟨w.heap.size + 1, 6, none⟩ = some (.slice B2 r.before.length b2) ∧ w'.cell? ⟨w.heap.size + 1, 7, none⟩ = some (.slice A2 r.after.length a2) ∧ w'.cell? ⟨w.heap.size + 1, 8, none⟩ = some (.slice T2 r.txns.length t2) ∧ w'.cell? ⟨w.heap.size + 1, 9, none⟩ = some (.slice D2 r.dirty.length d2) ∧ w'.cell? ⟨w.heap.size + 1, 10, none⟩ = some (.int .i64 r.count)) ∧ (convert 23 9 (.slice A5 N5 c5)).run Try.prog w' = .ok (.string ⟨r.enc.toArray⟩) w') ∧ (convert 23 9 (.slice A6 N6 c6)).run Try.prog w' = .ok (.string ⟨r.enc.toArray⟩) w') (fun w' h => h.1) _ _ _ _ ?_
  have hHeld4 := And.intro hHeld3 s2
  try simp only [Act.put, List.setIfInBounds_toArray, List.set_cons_zero, List.set_cons_succ]
  refine wpAnyH_take (i := 5) (oi := { dst := some 10, op := Op.convert 23 9 (Operand.tmp 9), type := 9, pos := _, after := #[{ on := 4, ground := Ground.data }], guard := none }) (v := ?_) rfl (by kernel_rfl) (by kernel_rfl) (by kernel_rfl) (fun _ _ _ h => h) (Or.inl ⟨by rfl, ?_⟩) (by assumption) ?_
  rotate_left
  · (intro w' hSw; (try dsimp only at hSw); go_simp; try with_reducible rfl)
  try simp only [Act.put, List.setIfInBounds_toArray, List.set_cons_zero, List.set_cons_succ]
  refine wpAnyH_take (i := 6) (oi := { dst := some 11, op := Op.binOp BinOp.eql 9 (Operand.tmp 7) (Operand.tmp 10) 9, type := 4, pos := _, after := #[{ on := 2, ground := Ground.data }, { on := 5, ground := Ground.data }], guard := none }) (v := ?_) rfl (by kernel_rfl) (by kernel_rfl) (by kernel_rfl) (fun _ _ _ h => h) (Or.inl ⟨by rfl, ?_⟩) (by assumption) ?_
  rotate_left
  · (intro w' hSw; (try dsimp only at hSw); go_simp; try with_reducible rfl)
  try simp only [Act.put, List.setIfInBounds_toArray, List.set_cons_zero, List.set_cons_succ]
  refine wpAnyH_take (i := 7) (oi := { dst := some 4, op := Op.assign (Operand.tmp 11), type := 4, pos := _, after := #[{ on := 6, ground := Ground.data }, { on := 4, ground := Ground.chain }, { on := 0, ground := Ground.phase }, { on := 1, ground := Ground.phase }, { on := 2, ground := Ground.phase }, { on := 3, ground := Ground.phase }, { on := 4, ground := Ground.phase }, { on := 5, ground := Ground.phase }, { on := 6, ground := Ground.phase }], guard := none }) (v := ?_) rfl (by kernel_rfl) (by kernel_rfl) (by kernel_rfl) (fun _ _ _ h => h) (Or.inl ⟨by rfl, ?_⟩) (by assumption) ?_
  rotate_left
  · (intro w' hSw; (try dsimp only at hSw); go_simp; try with_reducible rfl)
  try simp only [Act.put, List.setIfInBounds_toArray, List.set_cons_zero, List.set_cons_succ]
  refine wpAnyH_done (by kernel_rfl) ?_ _
  clear hHeld3 hHeld4 s2 s3
  have HE := hid ((HB0.out.trans (HB1.out.mono HB0.out.size)).trans (HB2.out.mono (by have := HB0.out.size; have := HB1.out.size; omega)))
  go_wp2
  go_ret
  exact ⟨by first | rfl | simp, by first | exact HE.out | exact HE.out.drew | exact HE.out.drew.drew⟩
end Go.Proofs.Ytkpopjpmjcgbfaa
