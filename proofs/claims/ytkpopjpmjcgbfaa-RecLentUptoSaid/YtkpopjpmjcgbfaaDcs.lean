/- Decode: its state, and what the plain reader says of lengths. No conditions. -/
import Derived.Test.YtkpopjpmjcgbfaaRDec
namespace Go.Proofs.Ytkpopjpmjcgbfaa
open Go.RowKit
set_option maxRecDepth 100000
set_option linter.unusedVariables false
set_option linter.unusedSimpArgs false

/-! ### lengths -/
theorem num_dn (s : RS) (h : s.bad = true) : s.num.2.bad = true := by rw [num_bad s (.inl h)]
theorem num_sh (s : RS) : s.num.2.b.length ≤ s.b.length := by
  unfold RS.num
  split
  · exact Nat.le_refl _
  · simp
theorem data_len (s : RS) (h : s.data.2.bad = false) : s.bad = false ∧ s.data.2.b.length + 8 + s.data.1.length = s.b.length := by
  unfold RS.data at *
  split at h
  · cases h
  · rename_i hn
    rw [if_neg hn]
    simp only [not_or] at hn
    obtain ⟨h1, h2⟩ := hn
    have h1' : s.num.2.bad = false := by cases h' : s.num.2.bad <;> simp_all
    obtain ⟨a, b, _⟩ := num_len s h1'
    refine ⟨a, ?_⟩
    simp
    omega
theorem data_sh (s : RS) : s.data.2.b.length ≤ s.b.length ∧ s.data.1.length ≤ s.b.length := by
  have := num_sh s
  unfold RS.data
  split
  · exact ⟨this, Nat.zero_le _⟩
  · simp; omega
theorem txn_len (s : RS) (h : s.txn.2.bad = false) : s.bad = false ∧ s.txn.2.b.length + 24 = s.b.length := by
  obtain ⟨a, b, _⟩ := num_len _ h
  obtain ⟨a', b', _⟩ := num_len _ a
  obtain ⟨a'', b'', _⟩ := num_len _ a'
  exact ⟨a'', by simp only [RS.txn]; omega⟩
theorem dir_len (s : RS) (h : s.dir.2.bad = false) : s.bad = false ∧ s.dir.2.b.length + 16 = s.b.length := by
  obtain ⟨a, b, _⟩ := num_len _ h
  obtain ⟨a', b', _⟩ := num_len _ a
  exact ⟨a', by simp only [RS.dir]; omega⟩
theorem txns_stop (k : Nat) (s : RS) (h : k = 0 ∨ s.bad = true) : RS.txns k s = ([], s) := by
  cases k with
  | zero => rfl
  | succ k =>
    rcases h with h | h
    · cases h
    · simp [RS.txns, h]
theorem txns_go (k : Nat) (s : RS) (h : s.bad = false) : RS.txns (k + 1) s = (s.txn.1 :: (RS.txns k s.txn.2).1, (RS.txns k s.txn.2).2) := by simp [RS.txns, h]
theorem dirs_stop (k : Nat) (s : RS) (h : k = 0 ∨ s.bad = true) : RS.dirs k s = ([], s) := by
  cases k with
  | zero => rfl
  | succ k =>
    rcases h with h | h
    · cases h
    · simp [RS.dirs, h]
theorem dirs_go (k : Nat) (s : RS) (h : s.bad = false) : RS.dirs (k + 1) s = (s.dir.1 :: (RS.dirs k s.dir.2).1, (RS.dirs k s.dir.2).2) := by simp [RS.dirs, h]

/-! ### the state -/
structure DRec (w wr : World) (t : TypeId) (R P : Nat) (s : RS) (m : MRec) (BA : Option Addr) (bc : Nat) (AA : Option Addr) (ac : Nat) (TA : Option Addr) (tc : Nat) (DA : Option Addr) (dc : Nat) : Prop where
  be : Below w.heap.size w wr
  rdr : RdAt w.heap.size wr t P s
  box : Blk wr R 28 (recCells m BA bc AA ac TA tc DA dc)
  nb : NewRow w.heap.size wr 5 1 BA m.before.length (u8s m.before)
  na : NewRow w.heap.size wr 5 1 AA m.after.length (u8s m.after)
  tx : wr.ownsRow w.heap.size 43 3 (.slice TA m.txns.length tc) m.txns.length (txV m.txns)
  di : wr.ownsRow w.heap.size 45 2 (.slice DA m.dirty.length dc) m.dirty.length (diV m.dirty)
  lr : w.heap.size ≤ R
  lp : w.heap.size ≤ P
  tp : ∃ cs, Blk wr P t cs
  tt : t = 52 ∨ t = 57

section
variable {w wr w' : World} {t : TypeId} {R P : Nat} {s s' : RS} {m m' : MRec} {BA AA TA DA : Option Addr} {bc ac tc dc : Nat} {S : Nat → Prop}
theorem RdAt.blk {B : Nat} (h : RdAt B wr t P s) : ∃ cs, Blk wr P t cs := by obtain ⟨_, _, _, h⟩ := h; exact ⟨_, h.box⟩
theorem DRec.drew (h : DRec w wr t R P s m BA bc AA ac TA tc DA dc) : DRec w wr.drew t R P s m BA bc AA ac TA tc DA dc :=
  ⟨h.be.drew, h.rdr.drew, h.box, ⟨h.nb.rd, h.nb.at_⟩, ⟨h.na.rd, h.na.at_⟩, h.tx, h.di, h.lr, h.lp, h.tp, h.tt⟩
/-- a call that turned the reader alone -/
theorem DRec.turn (h : DRec w wr t R P s m BA bc AA ac TA tc DA dc) (hr : RdAt w.heap.size w' t P s') (hc : Chg (· = P) wr w') : DRec w w' t R P s' m BA bc AA ac TA tc DA dc := by
  obtain ⟨csP, hP⟩ := h.tp
  have h52 : t ≠ 28 ∧ t ≠ 5 ∧ t ≠ 43 ∧ t ≠ 45 := by rcases h.tt with rfl | rfl <;> decide
  refine ⟨h.be.trans (hc.below h.be.size fun i hi => by subst hi; exact h.lp), hr, h.box.chg hc ?_, h.nb.chg_ty hc ?_, h.na.chg_ty hc ?_, own_chg h.tx hc ?_, own_chg h.di hc ?_, h.lr, h.lp, hr.blk, h.tt⟩
  · rintro rfl; exact hP.ne_ h.box h52.1 rfl
  · rintro g rfl cs hk; exact hP.ne_ hk h52.2.1 rfl
  · rintro g rfl cs hk; exact hP.ne_ hk h52.2.1 rfl
  · rintro g hg rfl; obtain ⟨cs, hk⟩ := own_ty h.tx hg; exact hP.ne_ hk h52.2.2.1 rfl
  · rintro g hg rfl; obtain ⟨cs, hk⟩ := own_ty h.di hg; exact hP.ne_ hk h52.2.2.2 rfl
/-- nothing but new blocks -/
theorem DRec.fresh (h : DRec w wr t R P s m BA bc AA ac TA tc DA dc) (hb : Below wr.heap.size wr w') : DRec w w' t R P s m BA bc AA ac TA tc DA dc := by
  have hc : Chg (fun _ => False) wr w' := Chg.of_below hb
  have hr := h.rdr.chg hc (fun _ h => h.elim)
  exact ⟨h.be.trans (hb.mono h.be.size), hr, h.box.chg hc (fun h => h), h.nb.below hb, h.na.below hb, own_chg h.tx hc (fun _ _ h => h), own_chg h.di hc (fun _ _ h => h), h.lr, h.lp, hr.blk, h.tt⟩
theorem DRec.alloc (h : DRec w wr t R P s m BA bc AA ac TA tc DA dc) (o : Obj) : DRec w (wr.alloc o) t R P s m BA bc AA ac TA tc DA dc := h.fresh ((Below.refl _ _).alloc (Nat.le_refl _) _)
/-- a cell of the record's box is written -/
theorem DRec.store (h : DRec w wr t R P s m BA bc AA ac TA tc DA dc) (i : Nat) (v : Value) (cs' : Array Value) (he : (recCells m BA bc AA ac TA tc DA dc).setIfInBounds i v = cs') :
    Below w.heap.size w (wr.setCell ⟨R, i, none⟩ v) ∧ RdAt w.heap.size (wr.setCell ⟨R, i, none⟩ v) t P s ∧ Blk (wr.setCell ⟨R, i, none⟩ v) R 28 cs' ∧ (∀ e size A n xs, e ≠ 28 → NewRow w.heap.size wr e size A n xs → NewRow w.heap.size (wr.setCell ⟨R, i, none⟩ v) e size A n xs) ∧
      (∀ e size v' n xs, e ≠ 28 → wr.ownsRow w.heap.size e size v' n xs → (wr.setCell ⟨R, i, none⟩ v).ownsRow w.heap.size e size v' n xs) := by
  obtain ⟨csP, hP⟩ := h.tp
  have h52 : t ≠ 28 := by rcases h.tt with rfl | rfl <;> decide
  have hne : R ≠ P := by rintro rfl; exact hP.ne_ h.box h52 rfl
  have hc : Chg (· = R) wr (wr.setCell ⟨R, i, none⟩ v) := chg_set R i v
  refine ⟨h.be.trans (hc.below h.be.size fun i hi => by subst hi; exact h.lr), h.rdr.chg hc (fun i hi => by subst hi; exact ⟨h.lr, hne⟩), by rw [← he]; exact h.box.set_ i v, fun e size A n xs he hn => hn.chg_ty hc ?_, fun e size v' n xs he ho => own_chg ho hc ?_⟩
  · rintro g rfl cs hk; exact hk.ne_ h.box he rfl
  · rintro g hg rfl; obtain ⟨cs, hk⟩ := own_ty ho hg; exact hk.ne_ h.box he rfl
theorem DRec.set (h : DRec w wr t R P s m BA bc AA ac TA tc DA dc) (i : Nat) (v : Value) (m' : MRec) (he : (recCells m BA bc AA ac TA tc DA dc).setIfInBounds i v = recCells m' BA bc AA ac TA tc DA dc)
    (hb : m'.before = m.before) (ha : m'.after = m.after) (ht : m'.txns = m.txns) (hd : m'.dirty = m.dirty) : DRec w (wr.setCell ⟨R, i, none⟩ v) t R P s m' BA bc AA ac TA tc DA dc := by
  obtain ⟨h1, h2, h3, h4, h5⟩ := h.store i v _ he
  exact ⟨h1, h2, h3, by rw [hb]; exact h4 _ _ _ _ _ (by decide) h.nb, by rw [ha]; exact h4 _ _ _ _ _ (by decide) h.na, by rw [ht]; exact h5 _ _ _ _ _ (by decide) h.tx, by rw [hd]; exact h5 _ _ _ _ _ (by decide) h.di, h.lr, h.lp, h2.blk, h.tt⟩
theorem DRec.setB (h : DRec w wr t R P s m BA bc AA ac TA tc DA dc) (bs : List UInt8) (A : Option Addr) (n c : Nat) (hn : n = bs.length) (hr : NewRow w.heap.size wr 5 1 A n (u8s bs)) :
    DRec w (wr.setCell ⟨R, 6, none⟩ (.slice A n c)) t R P s { m with before := bs } A c AA ac TA tc DA dc := by
  obtain ⟨h1, h2, h3, h4, h5⟩ := h.store 6 (.slice A n c) (recCells { m with before := bs } A c AA ac TA tc DA dc) (by rw [hn]; rfl)
  exact ⟨h1, h2, h3, h4 _ _ _ _ _ (by decide) (by rw [← hn]; exact hr), h4 _ _ _ _ _ (by decide) h.na, h5 _ _ _ _ _ (by decide) h.tx, h5 _ _ _ _ _ (by decide) h.di, h.lr, h.lp, h2.blk, h.tt⟩
theorem DRec.setA (h : DRec w wr t R P s m BA bc AA ac TA tc DA dc) (bs : List UInt8) (A : Option Addr) (n c : Nat) (hn : n = bs.length) (hr : NewRow w.heap.size wr 5 1 A n (u8s bs)) :
    DRec w (wr.setCell ⟨R, 7, none⟩ (.slice A n c)) t R P s { m with after := bs } BA bc A c TA tc DA dc := by
  obtain ⟨h1, h2, h3, h4, h5⟩ := h.store 7 (.slice A n c) (recCells { m with after := bs } BA bc A c TA tc DA dc) (by rw [hn]; rfl)
  exact ⟨h1, h2, h3, h4 _ _ _ _ _ (by decide) h.nb, h4 _ _ _ _ _ (by decide) (by rw [← hn]; exact hr), h5 _ _ _ _ _ (by decide) h.tx, h5 _ _ _ _ _ (by decide) h.di, h.lr, h.lp, h2.blk, h.tt⟩
/-- a row of the record's has grown, at the address of the others' types -/
theorem DRec.grew_ (h : DRec w wr t R P s m BA bc AA ac TA tc DA dc) {v : Value} {e : TypeId} {size n : Nat} {xs : List Value} (ho : wr.ownsRow w.heap.size e size v n xs) (hg : wr.grownBy w' v.ownBlock) (he : e = 43 ∨ e = 45) :
    Below w.heap.size w w' ∧ RdAt w.heap.size w' t P s ∧ Blk w' R 28 (recCells m BA bc AA ac TA tc DA dc) ∧ NewRow w.heap.size w' 5 1 BA m.before.length (u8s m.before) ∧ NewRow w.heap.size w' 5 1 AA m.after.length (u8s m.after) ∧
      (∀ e' size' v' n' xs', e' ≠ e → wr.ownsRow w.heap.size e' size' v' n' xs' → w'.ownsRow w.heap.size e' size' v' n' xs') := by
  have hc : Chg (fun i => v.ownBlock = some i) wr w' := (Chg.refl _ _).grown hg fun k hk _ => hk
  obtain ⟨csP, hP⟩ := h.tp
  have hne : ∀ i, v.ownBlock = some i → ∃ cs, Blk wr i e cs := fun i hi => own_ty ho hi
  have ht : t ≠ e := by rcases h.tt with rfl | rfl <;> rcases he with rfl | rfl <;> decide
  have h28 : (28 : TypeId) ≠ e := by rcases he with rfl | rfl <;> decide
  have h5 : (5 : TypeId) ≠ e := by rcases he with rfl | rfl <;> decide
  refine ⟨h.be.trans (hc.below h.be.size fun i hi => (ho.lt i hi).1), h.rdr.chg hc (fun i hi => ⟨(ho.lt i hi).1, ?_⟩), h.box.chg hc ?_, h.nb.chg_ty hc ?_, h.na.chg_ty hc ?_, fun e' size' v' n' xs' hee ho' => own_chg ho' hc ?_⟩
  · rintro rfl; obtain ⟨cs, hk⟩ := hne _ hi; exact hP.ne_ hk ht rfl
  · intro hi; obtain ⟨cs, hk⟩ := hne _ hi; exact h.box.ne_ hk h28 rfl
  · intro g hi cs hk; obtain ⟨cs', hk'⟩ := hne _ hi; exact hk.ne_ hk' h5 rfl
  · intro g hi cs hk; obtain ⟨cs', hk'⟩ := hne _ hi; exact hk.ne_ hk' h5 rfl
  · intro g hg hi; obtain ⟨cs, hk⟩ := own_ty ho' hg; obtain ⟨cs', hk'⟩ := hne _ hi; exact hk.ne_ hk' hee rfl
theorem txV_append (a b : List (Int × Int × Int)) : txV (a ++ b) = txV a ++ txV b := by simp [txV]
theorem diV_append (a b : List (Int × Int)) : diV (a ++ b) = diV a ++ diV b := by simp [diV]
/-- one transaction more -/
theorem DRec.growT (h : DRec w wr t R P s m BA bc AA ac TA tc DA dc) {v : Value} (x : Int × Int × Int) (hown : w'.ownsRow w.heap.size 43 3 v (m.txns.length + 1) (txV m.txns ++ txV [x])) (hg : wr.grownBy w' (Value.slice TA m.txns.length tc).ownBlock) :
    ∃ A' c', v = .slice A' (m.txns.length + 1) c' ∧ DRec w (w'.setCell ⟨R, 8, none⟩ v) t R P s { m with txns := m.txns ++ [x] } BA bc AA ac A' c' DA dc := by
  obtain ⟨k1, k2, k3, k4, k5, k6⟩ := h.grew_ h.tx hg (.inl rfl)
  obtain ⟨A', c', rfl, _⟩ := own_form hown
  obtain ⟨csP, hP⟩ := k2.blk
  have h52 : t ≠ 28 := by rcases h.tt with rfl | rfl <;> decide
  have hne : R ≠ P := by rintro rfl; exact hP.ne_ k3 h52 rfl
  have hc : Chg (· = R) w' (w'.setCell ⟨R, 8, none⟩ (.slice A' (m.txns.length + 1) c')) := chg_set R 8 _
  have hr := k2.chg hc (fun i hi => by subst hi; exact ⟨h.lr, hne⟩)
  refine ⟨A', c', rfl, k1.trans (hc.below k1.size fun i hi => by subst hi; exact h.lr), hr, by have := k3.set_ 8 (.slice A' (m.txns.length + 1) c'); simpa [recCells] using this, k4.chg_ty hc ?_, k5.chg_ty hc ?_, ?_, own_chg (k6 _ _ _ _ _ (by decide) h.di) hc ?_, h.lr, h.lp, hr.blk, h.tt⟩
  · rintro g rfl cs hk; exact hk.ne_ k3 (by decide) rfl
  · rintro g rfl cs hk; exact hk.ne_ k3 (by decide) rfl
  · rw [txV_append, List.length_append]
    exact own_chg hown hc (by rintro g hg rfl; obtain ⟨cs, hk⟩ := own_ty hown hg; exact hk.ne_ k3 (by decide) rfl)
  · rintro g hg rfl; obtain ⟨cs, hk⟩ := own_ty (k6 _ _ _ _ _ (by decide) h.di) hg; exact hk.ne_ k3 (by decide) rfl
/-- one dirty page more -/
theorem DRec.growD (h : DRec w wr t R P s m BA bc AA ac TA tc DA dc) {v : Value} (x : Int × Int) (hown : w'.ownsRow w.heap.size 45 2 v (m.dirty.length + 1) (diV m.dirty ++ diV [x])) (hg : wr.grownBy w' (Value.slice DA m.dirty.length dc).ownBlock) :
    ∃ A' c', v = .slice A' (m.dirty.length + 1) c' ∧ DRec w (w'.setCell ⟨R, 9, none⟩ v) t R P s { m with dirty := m.dirty ++ [x] } BA bc AA ac TA tc A' c' := by
  obtain ⟨k1, k2, k3, k4, k5, k6⟩ := h.grew_ h.di hg (.inr rfl)
  obtain ⟨A', c', rfl, _⟩ := own_form hown
  obtain ⟨csP, hP⟩ := k2.blk
  have h52 : t ≠ 28 := by rcases h.tt with rfl | rfl <;> decide
  have hne : R ≠ P := by rintro rfl; exact hP.ne_ k3 h52 rfl
  have hc : Chg (· = R) w' (w'.setCell ⟨R, 9, none⟩ (.slice A' (m.dirty.length + 1) c')) := chg_set R 9 _
  have hr := k2.chg hc (fun i hi => by subst hi; exact ⟨h.lr, hne⟩)
  refine ⟨A', c', rfl, k1.trans (hc.below k1.size fun i hi => by subst hi; exact h.lr), hr, by have := k3.set_ 9 (.slice A' (m.dirty.length + 1) c'); simpa [recCells] using this, k4.chg_ty hc ?_, k5.chg_ty hc ?_, own_chg (k6 _ _ _ _ _ (by decide) h.tx) hc ?_, ?_, h.lr, h.lp, hr.blk, h.tt⟩
  · rintro g rfl cs hk; exact hk.ne_ k3 (by decide) rfl
  · rintro g rfl cs hk; exact hk.ne_ k3 (by decide) rfl
  · rintro g hg rfl; obtain ⟨cs, hk⟩ := own_ty (k6 _ _ _ _ _ (by decide) h.tx) hg; exact hk.ne_ k3 (by decide) rfl
  · rw [diV_append, List.length_append]
    exact own_chg hown hc (by rintro g hg rfl; obtain ⟨cs, hk⟩ := own_ty hown hg; exact hk.ne_ k3 (by decide) rfl)
theorem d_num (h : DRec w wr 52 R P s m BA bc AA ac TA tc DA dc) : Calls Try.prog 20 #[.pointer (some ⟨P, 0, none⟩)] wr fun e w' => e = .returned (.int .i64 s.num.1) ∧ DRec w w' 52 R P s.num.2 m BA bc AA ac TA tc DA dc :=
  (rd_num w.heap.size P s wr h.rdr).mono fun e w' ⟨he, hr, hc⟩ => ⟨he, h.turn hr hc⟩
theorem d_data (h : DRec w wr 52 R P s m BA bc AA ac TA tc DA dc) (hs : s.b.length ≤ 1000000000) : Calls Try.prog 21 #[.pointer (some ⟨P, 0, none⟩)] wr fun e w' => ∃ A n c, e = .returned (.slice A n c) ∧ n = s.data.1.length ∧ NewRow w.heap.size w' 5 1 A n (u8s s.data.1) ∧ DRec w w' 52 R P s.data.2 m BA bc AA ac TA tc DA dc ∧ Chg (· = P) wr w' :=
  (rd_data w.heap.size P s wr h.rdr h.be.size hs).mono fun e w' ⟨A, n, c, he, hn, hnw, hr, hc⟩ => ⟨A, n, c, he, hn, hnw, h.turn hr hc, hc⟩
theorem dr_num (h : DRec w wr 57 R P s m BA bc AA ac TA tc DA dc) : Calls Try.prog 22 #[.pointer (some ⟨P, 0, none⟩)] wr fun e w' => e = .returned (.int .i64 s.num.1) ∧ DRec w w' 57 R P s.num.2 m BA bc AA ac TA tc DA dc ∧ Chg (· = P) wr w' :=
  (rr_num w.heap.size P s wr h.rdr).mono fun e w' ⟨he, _, hr, hc⟩ => ⟨he, h.turn hr hc, hc⟩
theorem dr_data (h : DRec w wr 57 R P s m BA bc AA ac TA tc DA dc) (hs : s.b.length ≤ 1000000000) : Calls Try.prog 24 #[.pointer (some ⟨P, 0, none⟩)] wr fun e w' => ∃ A n c, e = .returned (.slice A n c) ∧ n = s.data.1.length ∧ NewRow w.heap.size w' 5 1 A n (u8s s.data.1) ∧ DRec w w' 57 R P s.data.2 m BA bc AA ac TA tc DA dc ∧ Chg (· = P) wr w' :=
  (rr_data w.heap.size P s wr h.rdr h.be.size hs).mono fun e w' ⟨A, n, c, he, hn, hnw, hr, hc⟩ => ⟨A, n, c, he, hn, hnw, h.turn hr hc, hc⟩
end
end Go.Proofs.Ytkpopjpmjcgbfaa
