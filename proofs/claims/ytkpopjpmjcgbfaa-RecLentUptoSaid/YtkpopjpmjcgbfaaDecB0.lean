/- The state of the document's Decode. Conditions: sizes. -/
import Derived.Test.YtkpopjpmjcgbfaaDecA
namespace Go.Proofs.Ytkpopjpmjcgbfaa
open Go.RowKit
set_option maxRecDepth 100000
set_option linter.unusedVariables false
set_option linter.unusedSimpArgs false

def Z36 : Array Value := #[.int .i64 0, .int .i64 0, .int .i64 0, .int .i64 0, .int .i64 0, .int .i64 0, .slice none 0 0, .slice none 0 0, .slice none 0 0, .slice none 0 0, .int .i64 0, .int .i64 0, .bool false]
theorem blk13 {w : World} {g : Nat} {t : TypeId} {a0 a1 a2 a3 a4 a5 a6 a7 a8 a9 a10 a11 a12 : Value} (h : Blk w g t #[a0, a1, a2, a3, a4, a5, a6, a7, a8, a9, a10, a11, a12]) : (w.cell? ⟨g, 0, none⟩ = some a0 ∧ w.cell? ⟨g, 1, none⟩ = some a1 ∧ w.cell? ⟨g, 2, none⟩ = some a2 ∧ w.cell? ⟨g, 3, none⟩ = some a3 ∧ w.cell? ⟨g, 4, none⟩ = some a4 ∧ w.cell? ⟨g, 5, none⟩ = some a5 ∧ w.cell? ⟨g, 6, none⟩ = some a6 ∧ w.cell? ⟨g, 7, none⟩ = some a7 ∧ w.cell? ⟨g, 8, none⟩ = some a8 ∧ w.cell? ⟨g, 9, none⟩ = some a9 ∧ w.cell? ⟨g, 10, none⟩ = some a10 ∧ w.cell? ⟨g, 11, none⟩ = some a11 ∧ w.cell? ⟨g, 12, none⟩ = some a12) ∧ ∀ i, w.frozen? ⟨g, i, none⟩ = false :=
  ⟨⟨h.cell_ 0 rfl, h.cell_ 1 rfl, h.cell_ 2 rfl, h.cell_ 3 rfl, h.cell_ 4 rfl, h.cell_ 5 rfl, h.cell_ 6 rfl, h.cell_ 7 rfl, h.cell_ 8 rfl, h.cell_ 9 rfl, h.cell_ 10 rfl, h.cell_ 11 rfl, h.cell_ 12 rfl⟩, fun i => h.frozen i⟩
theorem blk_store13 {w : World} {g : Nat} {t : TypeId} {a0 a1 a2 a3 a4 a5 a6 a7 a8 a9 a10 a11 a12 : Value} (b0 b1 b2 b3 b4 b5 b6 b7 b8 b9 b10 b11 b12 : Value) (h : Blk w g t #[a0, a1, a2, a3, a4, a5, a6, a7, a8, a9, a10, a11, a12]) : Blk (((((((((((((w.setCell ⟨g, 0, none⟩ b0).setCell ⟨g, 1, none⟩ b1).setCell ⟨g, 2, none⟩ b2).setCell ⟨g, 3, none⟩ b3).setCell ⟨g, 4, none⟩ b4).setCell ⟨g, 5, none⟩ b5).setCell ⟨g, 6, none⟩ b6).setCell ⟨g, 7, none⟩ b7).setCell ⟨g, 8, none⟩ b8).setCell ⟨g, 9, none⟩ b9).setCell ⟨g, 10, none⟩ b10).setCell ⟨g, 11, none⟩ b11).setCell ⟨g, 12, none⟩ b12) g t #[b0, b1, b2, b3, b4, b5, b6, b7, b8, b9, b10, b11, b12] := by
  have := (((((((((((((h.set_ 0 b0).set_ 1 b1).set_ 2 b2).set_ 3 b3).set_ 4 b4).set_ 5 b5).set_ 6 b6).set_ 7 b7).set_ 8 b8).set_ 9 b9).set_ 10 b10).set_ 11 b11).set_ 12 b12)
  simpa using this
theorem chg_store13 {w : World} (g : Nat) (b0 b1 b2 b3 b4 b5 b6 b7 b8 b9 b10 b11 b12 : Value) : Chg (· = g) w (((((((((((((w.setCell ⟨g, 0, none⟩ b0).setCell ⟨g, 1, none⟩ b1).setCell ⟨g, 2, none⟩ b2).setCell ⟨g, 3, none⟩ b3).setCell ⟨g, 4, none⟩ b4).setCell ⟨g, 5, none⟩ b5).setCell ⟨g, 6, none⟩ b6).setCell ⟨g, 7, none⟩ b7).setCell ⟨g, 8, none⟩ b8).setCell ⟨g, 9, none⟩ b9).setCell ⟨g, 10, none⟩ b10).setCell ⟨g, 11, none⟩ b11).setCell ⟨g, 12, none⟩ b12) := ((((((((((((((Chg.refl (· = g) w).setCell (p := ⟨g, 0, none⟩) (fun _ => rfl) b0).setCell (p := ⟨g, 1, none⟩) (fun _ => rfl) b1).setCell (p := ⟨g, 2, none⟩) (fun _ => rfl) b2).setCell (p := ⟨g, 3, none⟩) (fun _ => rfl) b3).setCell (p := ⟨g, 4, none⟩) (fun _ => rfl) b4).setCell (p := ⟨g, 5, none⟩) (fun _ => rfl) b5).setCell (p := ⟨g, 6, none⟩) (fun _ => rfl) b6).setCell (p := ⟨g, 7, none⟩) (fun _ => rfl) b7).setCell (p := ⟨g, 8, none⟩) (fun _ => rfl) b8).setCell (p := ⟨g, 9, none⟩) (fun _ => rfl) b9).setCell (p := ⟨g, 10, none⟩) (fun _ => rfl) b10).setCell (p := ⟨g, 11, none⟩) (fun _ => rfl) b11).setCell (p := ⟨g, 12, none⟩) (fun _ => rfl) b12)

/-- what the document's Decode answers, as a value -/
def gotVal (r : MRec) (BA : Option Addr) (bc : Nat) (AA : Option Addr) (ac : Nat) (TA : Option Addr) (tc : Nat) (DA : Option Addr) (dc : Nat) (k : Nat) (ok : Bool) : Value :=
  .agg #[.int .i64 r.kind, .int .i64 r.txn, .int .i64 r.prev, .int .i64 r.next, .int .i64 r.page, .int .i64 r.off, .slice BA r.before.length bc, .slice AA r.after.length ac, .slice TA r.txns.length tc, .slice DA r.dirty.length dc, .int .i64 r.count, .int .i64 k, .bool ok]
def GotPost (bs : List UInt8) (w : World) (e : Ending) (w' : World) : Prop :=
  ∃ BA bc AA ac TA tc DA dc, e = .returned (gotVal (decR bs) BA bc AA ac TA tc DA dc (decK bs) (decB bs)) ∧ RecNew w.heap.size w' (decR bs) BA AA TA DA ∧ Below w.heap.size w w'

structure GRec (w wr : World) (G R P : Nat) (s : RS) (m : MRec) (BA : Option Addr) (bc : Nat) (AA : Option Addr) (ac : Nat) (TA : Option Addr) (tc : Nat) (DA : Option Addr) (dc : Nat) : Prop where
  d : DRec w wr 57 R P s m BA bc AA ac TA tc DA dc
  g : Blk wr G 36 Z36
  lg : w.heap.size ≤ G

section
variable {w wr w' : World} {G R P : Nat} {s : RS} {m : MRec} {BA AA TA DA : Option Addr} {bc ac tc dc : Nat}
theorem GRec.g1 (h : GRec w wr G R P s m BA bc AA ac TA tc DA dc) {p : Nat} {e : TypeId} {cs : Array Value} (hp : Blk wr p e cs) (he : e ≠ 36) (hc : Chg (· = p) wr w') : Blk w' G 36 Z36 :=
  h.g.chg hc (by rintro rfl; exact hp.ne_ h.g he rfl)
theorem g_num (h : GRec w wr G R P s m BA bc AA ac TA tc DA dc) : Calls Try.prog 22 #[.pointer (some ⟨P, 0, none⟩)] wr fun e w' => e = .returned (.int .i64 s.num.1) ∧ GRec w w' G R P s.num.2 m BA bc AA ac TA tc DA dc ∧ Chg (· = P) wr w' := by
  obtain ⟨cs, hP⟩ := h.d.tp
  exact (dr_num h.d).mono fun e w' ⟨he, hr, hc⟩ => ⟨he, ⟨hr, h.g1 hP (by decide) hc, h.lg⟩, hc⟩
theorem g_data (h : GRec w wr G R P s m BA bc AA ac TA tc DA dc) (hs : s.b.length ≤ 1000000000) : Calls Try.prog 24 #[.pointer (some ⟨P, 0, none⟩)] wr fun e w' => ∃ A n c, e = .returned (.slice A n c) ∧ n = s.data.1.length ∧ NewRow w.heap.size w' 5 1 A n (u8s s.data.1) ∧ GRec w w' G R P s.data.2 m BA bc AA ac TA tc DA dc ∧ Chg (· = P) wr w' := by
  obtain ⟨cs, hP⟩ := h.d.tp
  exact (dr_data h.d hs).mono fun e w' ⟨A, n, c, he, hn, hnw, hr, hc⟩ => ⟨A, n, c, he, hn, hnw, ⟨hr, h.g1 hP (by decide) hc, h.lg⟩, hc⟩
theorem GRec.set (h : GRec w wr G R P s m BA bc AA ac TA tc DA dc) (i : Nat) (v : Value) (m' : MRec) (he : (recCells m BA bc AA ac TA tc DA dc).setIfInBounds i v = recCells m' BA bc AA ac TA tc DA dc)
    (hb : m'.before = m.before) (ha : m'.after = m.after) (ht : m'.txns = m.txns) (hd : m'.dirty = m.dirty) : GRec w (wr.setCell ⟨R, i, none⟩ v) G R P s m' BA bc AA ac TA tc DA dc :=
  ⟨h.d.set i v m' he hb ha ht hd, h.g1 h.d.box (by decide) (chg_set R i v), h.lg⟩
theorem GRec.setB (h : GRec w wr G R P s m BA bc AA ac TA tc DA dc) (bs : List UInt8) (A : Option Addr) (n c : Nat) (hn : n = bs.length) (hr : NewRow w.heap.size wr 5 1 A n (u8s bs)) :
    GRec w (wr.setCell ⟨R, 6, none⟩ (.slice A n c)) G R P s { m with before := bs } A c AA ac TA tc DA dc :=
  ⟨h.d.setB bs A n c hn hr, h.g1 h.d.box (by decide) (chg_set R 6 _), h.lg⟩
theorem GRec.setA (h : GRec w wr G R P s m BA bc AA ac TA tc DA dc) (bs : List UInt8) (A : Option Addr) (n c : Nat) (hn : n = bs.length) (hr : NewRow w.heap.size wr 5 1 A n (u8s bs)) :
    GRec w (wr.setCell ⟨R, 7, none⟩ (.slice A n c)) G R P s { m with after := bs } BA bc A c TA tc DA dc :=
  ⟨h.d.setA bs A n c hn hr, h.g1 h.d.box (by decide) (chg_set R 7 _), h.lg⟩
theorem GRec.alloc (h : GRec w wr G R P s m BA bc AA ac TA tc DA dc) (o : Obj) : GRec w (wr.alloc o) G R P s m BA bc AA ac TA tc DA dc := ⟨h.d.alloc o, h.g.alloc o, h.lg⟩
/-- a cell of a box beside the record is written -/
theorem GRec.side (h : GRec w wr G R P s m BA bc AA ac TA tc DA dc) {T : Nat} {e : TypeId} {cs : Array Value} (hT : Blk wr T e cs) (he : e = 43 ∨ e = 45) (hB : w.heap.size ≤ T) (h1 : ∀ g, (Value.slice TA m.txns.length tc).ownBlock = some g → g ≠ T) (h2 : ∀ g, (Value.slice DA m.dirty.length dc).ownBlock = some g → g ≠ T) (i : Nat) (v : Value) :
    GRec w (wr.setCell ⟨T, i, none⟩ v) G R P s m BA bc AA ac TA tc DA dc := by
  obtain ⟨csP, hP⟩ := h.d.tp
  have hc : Chg (· = T) wr (wr.setCell ⟨T, i, none⟩ v) := chg_set T i v
  have e36 : e ≠ 36 := by rcases he with rfl | rfl <;> decide
  have e28 : (28 : TypeId) ≠ e := by rcases he with rfl | rfl <;> decide
  have e5 : (5 : TypeId) ≠ e := by rcases he with rfl | rfl <;> decide
  have e57 : (57 : TypeId) ≠ e := by rcases he with rfl | rfl <;> decide
  have hr := h.d.rdr.chg hc (fun i hi => by subst hi; exact ⟨hB, by rintro rfl; exact hP.ne_ hT e57 rfl⟩)
  refine ⟨⟨h.d.be.trans (hc.below h.d.be.size fun i hi => by subst hi; exact hB), hr, h.d.box.chg hc ?_, h.d.nb.chg_ty hc ?_, h.d.na.chg_ty hc ?_, own_chg h.d.tx hc ?_, own_chg h.d.di hc ?_, h.d.lr, h.d.lp, hr.blk, h.d.tt⟩, h.g1 hT e36 hc, h.lg⟩
  · rintro rfl; exact h.d.box.ne_ hT e28 rfl
  · rintro g rfl cs hk; exact hk.ne_ hT e5 rfl
  · rintro g rfl cs hk; exact hk.ne_ hT e5 rfl
  · rintro g hg rfl; exact h1 _ hg rfl
  · rintro g hg rfl; exact h2 _ hg rfl
theorem GRec.growT (h : GRec w wr G R P s m BA bc AA ac TA tc DA dc) {v : Value} (x : Int × Int × Int) (hown : w'.ownsRow w.heap.size 43 3 v (m.txns.length + 1) (txV m.txns ++ txV [x])) (hg : wr.grownBy w' (Value.slice TA m.txns.length tc).ownBlock) :
    ∃ A' c', v = .slice A' (m.txns.length + 1) c' ∧ GRec w (w'.setCell ⟨R, 8, none⟩ v) G R P s { m with txns := m.txns ++ [x] } BA bc AA ac A' c' DA dc := by
  obtain ⟨A', c', rfl, hd⟩ := h.d.growT x hown hg
  have hb := (h.d.grew_ h.d.tx hg (.inl rfl)).2.2.1
  have hg' : Blk w' G 36 Z36 := h.g.grown hg (fun e => by obtain ⟨cs, hk⟩ := own_ty h.d.tx e.symm; exact hk.ne_ h.g (by decide) rfl)
  exact ⟨A', c', rfl, hd, hg'.far (p := ⟨R, 8, none⟩) (by rintro rfl; exact hg'.ne_ hb (by decide) rfl) _, h.lg⟩
theorem GRec.growD (h : GRec w wr G R P s m BA bc AA ac TA tc DA dc) {v : Value} (x : Int × Int) (hown : w'.ownsRow w.heap.size 45 2 v (m.dirty.length + 1) (diV m.dirty ++ diV [x])) (hg : wr.grownBy w' (Value.slice DA m.dirty.length dc).ownBlock) :
    ∃ A' c', v = .slice A' (m.dirty.length + 1) c' ∧ GRec w (w'.setCell ⟨R, 9, none⟩ v) G R P s { m with dirty := m.dirty ++ [x] } BA bc AA ac TA tc A' c' := by
  obtain ⟨A', c', rfl, hd⟩ := h.d.growD x hown hg
  have hb := (h.d.grew_ h.d.di hg (.inr rfl)).2.2.1
  have hg' : Blk w' G 36 Z36 := h.g.grown hg (fun e => by obtain ⟨cs, hk⟩ := own_ty h.d.di e.symm; exact hk.ne_ h.g (by decide) rfl)
  exact ⟨A', c', rfl, hd, hg'.far (p := ⟨R, 9, none⟩) (by rintro rfl; exact hg'.ne_ hb (by decide) rfl) _, h.lg⟩
end
end Go.Proofs.Ytkpopjpmjcgbfaa
