/- RecCodes: the walk of the law. Conditions: the bulk of what comes in. -/
import Derived.Test.YtkpopjpmjcgbfaaDecB
import Derived.Test.YtkpopjpmjcgbfaaSam
import Derived.Test.YtkpopjpmjcgbfaaBak
namespace Go.Proofs.Ytkpopjpmjcgbfaa
open Go.RowKit
set_option maxRecDepth 100000
set_option linter.unusedVariables false
set_option linter.unusedSimpArgs false

/-! ### what is decoded is no longer than the bytes -/
theorem txns_len (k : Nat) (s : RS) (h : (RS.txns k s).2.bad = false) : s.bad = false ∧ (RS.txns k s).2.b.length + 24 * (RS.txns k s).1.length = s.b.length := by
  induction k generalizing s with
  | zero => exact ⟨h, by simp [RS.txns]⟩
  | succ k ih =>
    by_cases hb : s.bad = true
    · rw [txns_stop _ _ (.inr hb)] at h ⊢
      exact ⟨h, by simp⟩
    · have hb' : s.bad = false := by simpa using hb
      rw [txns_go k s hb'] at h ⊢
      obtain ⟨i1, i2⟩ := ih s.txn.2 h
      obtain ⟨_, i3⟩ := txn_len s i1
      refine ⟨hb', ?_⟩
      simp only [List.length_cons]
      omega
theorem dirs_len (k : Nat) (s : RS) (h : (RS.dirs k s).2.bad = false) : s.bad = false ∧ (RS.dirs k s).2.b.length + 16 * (RS.dirs k s).1.length = s.b.length := by
  induction k generalizing s with
  | zero => exact ⟨h, by simp [RS.dirs]⟩
  | succ k ih =>
    by_cases hb : s.bad = true
    · rw [dirs_stop _ _ (.inr hb)] at h ⊢
      exact ⟨h, by simp⟩
    · have hb' : s.bad = false := by simpa using hb
      rw [dirs_go k s hb'] at h ⊢
      obtain ⟨i1, i2⟩ := ih s.dir.2 h
      obtain ⟨_, i3⟩ := dir_len s i1
      refine ⟨hb', ?_⟩
      simp only [List.length_cons]
      omega
theorem full_len (s : RS) (h : s.full.2.bad = false) : s.full.1.size ≤ s.b.length + 96 := by
  simp only [RS.full] at h ⊢
  obtain ⟨h13, l13, _⟩ := num_len _ h
  obtain ⟨h12, l12⟩ := dirs_len _ _ h13
  obtain ⟨h11, l11, _⟩ := num_len _ h12
  obtain ⟨h10, l10⟩ := txns_len _ _ h11
  obtain ⟨h9, l9, _⟩ := num_len _ h10
  obtain ⟨h8, l8⟩ := data_len _ h9
  obtain ⟨h7, l7⟩ := data_len _ h8
  obtain ⟨h6, l6, _⟩ := num_len _ h7
  obtain ⟨h5, l5, _⟩ := num_len _ h6
  obtain ⟨h4, l4, _⟩ := num_len _ h5
  obtain ⟨h3, l3, _⟩ := num_len _ h4
  obtain ⟨h2, l2, _⟩ := num_len _ h3
  obtain ⟨h1, l1, _⟩ := num_len _ h2
  unfold MRec.size
  simp only []
  omega
theorem decR_size (bs : List UInt8) : (decR bs).size ≤ bs.length + 96 := by
  unfold decR dec
  simp only []
  split
  · exact Nat.le_add_left _ _
  · rename_i x hx
    split at hx
    · cases hx
    · split at hx
      · cases hx
      · rename_i h1 h2
        injection hx with hx
        subst hx
        simp only [not_or] at h2
        have h := full_len _ (by cases h : (RS.full ⟨(RS.num ⟨bs, false⟩).2.b.take (RS.num ⟨bs, false⟩).1, false⟩).2.bad <;> simp_all)
        have h3 := num_sh ⟨bs, false⟩
        simp only [List.length_take] at h ⊢
        simp only [] at h3
        omega

theorem cells35 {wx : World} {g h i : Nat} {t u v : TypeId} {a0 a1 a2 a3 a4 a5 a6 a7 a8 a9 a10 b0 b1 b2 b3 b4 b5 b6 b7 b8 b9 b10 c0 c1 c2 c3 c4 c5 c6 c7 c8 c9 c10 c11 c12 : Value} (k : Blk wx g t #[a0, a1, a2, a3, a4, a5, a6, a7, a8, a9, a10]) (l : Blk wx h u #[b0, b1, b2, b3, b4, b5, b6, b7, b8, b9, b10]) (m : Blk wx i v #[c0, c1, c2, c3, c4, c5, c6, c7, c8, c9, c10, c11, c12]) :
    wx.cell? ⟨g, 0, none⟩ = some a0 ∧ wx.cell? ⟨g, 1, none⟩ = some a1 ∧ wx.cell? ⟨g, 2, none⟩ = some a2 ∧ wx.cell? ⟨g, 3, none⟩ = some a3 ∧ wx.cell? ⟨g, 4, none⟩ = some a4 ∧ wx.cell? ⟨g, 5, none⟩ = some a5 ∧ wx.cell? ⟨g, 6, none⟩ = some a6 ∧ wx.cell? ⟨g, 7, none⟩ = some a7 ∧ wx.cell? ⟨g, 8, none⟩ = some a8 ∧ wx.cell? ⟨g, 9, none⟩ = some a9 ∧ wx.cell? ⟨g, 10, none⟩ = some a10 ∧ wx.cell? ⟨h, 0, none⟩ = some b0 ∧ wx.cell? ⟨h, 1, none⟩ = some b1 ∧ wx.cell? ⟨h, 2, none⟩ = some b2 ∧ wx.cell? ⟨h, 3, none⟩ = some b3 ∧ wx.cell? ⟨h, 4, none⟩ = some b4 ∧ wx.cell? ⟨h, 5, none⟩ = some b5 ∧ wx.cell? ⟨h, 6, none⟩ = some b6 ∧ wx.cell? ⟨h, 7, none⟩ = some b7 ∧ wx.cell? ⟨h, 8, none⟩ = some b8 ∧ wx.cell? ⟨h, 9, none⟩ = some b9 ∧ wx.cell? ⟨h, 10, none⟩ = some b10 ∧ wx.cell? ⟨i, 0, none⟩ = some c0 ∧ wx.cell? ⟨i, 1, none⟩ = some c1 ∧ wx.cell? ⟨i, 2, none⟩ = some c2 ∧ wx.cell? ⟨i, 3, none⟩ = some c3 ∧ wx.cell? ⟨i, 4, none⟩ = some c4 ∧ wx.cell? ⟨i, 5, none⟩ = some c5 ∧ wx.cell? ⟨i, 6, none⟩ = some c6 ∧ wx.cell? ⟨i, 7, none⟩ = some c7 ∧ wx.cell? ⟨i, 8, none⟩ = some c8 ∧ wx.cell? ⟨i, 9, none⟩ = some c9 ∧ wx.cell? ⟨i, 10, none⟩ = some c10 ∧ wx.cell? ⟨i, 11, none⟩ = some c11 ∧ wx.cell? ⟨i, 12, none⟩ = some c12 :=
  ⟨k.cell_ 0 rfl, k.cell_ 1 rfl, k.cell_ 2 rfl, k.cell_ 3 rfl, k.cell_ 4 rfl, k.cell_ 5 rfl, k.cell_ 6 rfl, k.cell_ 7 rfl, k.cell_ 8 rfl, k.cell_ 9 rfl, k.cell_ 10 rfl, l.cell_ 0 rfl, l.cell_ 1 rfl, l.cell_ 2 rfl, l.cell_ 3 rfl, l.cell_ 4 rfl, l.cell_ 5 rfl, l.cell_ 6 rfl, l.cell_ 7 rfl, l.cell_ 8 rfl, l.cell_ 9 rfl, l.cell_ 10 rfl, m.cell_ 0 rfl, m.cell_ 1 rfl, m.cell_ 2 rfl, m.cell_ 3 rfl, m.cell_ 4 rfl, m.cell_ 5 rfl, m.cell_ 6 rfl, m.cell_ 7 rfl, m.cell_ 8 rfl, m.cell_ 9 rfl, m.cell_ 10 rfl, m.cell_ 11 rfl, m.cell_ 12 rfl⟩

set_option maxHeartbeats 6400000 in
theorem codes_any (r : MRec) (XA : Option Addr) (xb : Nat) (XB : Option Addr) (xa : Nat) (XT : Option Addr) (xt : Nat) (XD : Option Addr) (xd : Nat) (QA : Option Addr) (qc : Nat) (bs : List UInt8) (w : World) (h : RecMem w r XA XB XT XD) (hr : Rd w 1 QA bs.length (u8s bs)) (hc : bs.length ≤ qc) (hQ : ∀ ad, QA = some ad → ad.block < w.heap.size) (hs : r.size + bs.length ≤ 30000000) :
    Calls Try.prog 4 #[recVal r XA xb XB xa XT xt XD xd, .slice QA bs.length qc] w fun e w' => e = .returned (.bool true) ∧ Below w.heap.size w w' := by
  have HM := hid h
  have HR := hid hr
  have HQ := hid hQ
  have hqs := hid (decR_size bs)
  have hE : Below w.heap.size w (w.alloc (.cells #[.int .i64 r.kind, .int .i64 r.txn, .int .i64 r.prev, .int .i64 r.next, .int .i64 r.page, .int .i64 r.off, .slice XA r.before.length xb, .slice XB r.after.length xa, .slice XT r.txns.length xt, .slice XD r.dirty.length xd, .int .i64 r.count] 28)) := (Below.refl _ w).alloc (Nat.le_refl _) _
  have HEa := hid hE
  have HXa := hid (Blk.new w 28 #[.int .i64 r.kind, .int .i64 r.txn, .int .i64 r.prev, .int .i64 r.next, .int .i64 r.page, .int .i64 r.off, .slice XA r.before.length xb, .slice XB r.after.length xa, .slice XT r.txns.length xt, .slice XD r.dirty.length xd, .int .i64 r.count])
  have henc := hid (encode_any r XA xb XB xa XT xt XD xd)
  have hrenc := hid (rencode_any r XA xb XB xa XT xt XD xd)
  have hsize := hid (size_any r XA xb XB xa XT xt XD xd)
  clear h hr hQ hE
  unfold recVal at *
  go_enter Try.func4, Try.ntmps4
  go_wp2_with fail
  refine (decode_any QA _ qc bs _ (HR.out.below HEa.out) rfl hc (by omega) (fun ad e => Nat.lt_of_lt_of_le (HQ.out ad e) HEa.out.size)).mono ?_
  rintro e w1 ⟨YA, yb, YB, ya, YT, yt, YD, yd, rfl, hn1, hb1⟩
  have HEb := hid (HEa.out.trans (hb1.mono HEa.out.size))
  have HXb := hid (HXa.out.below hb1 HXa.out.lt)
  generalize hq : decR bs = q at *
  generalize hqk : decK bs = qk at *
  generalize hqo : decB bs = qo at *
  have HN1 := hid hn1
  have hv1 : recVal q YA yb YB ya YT yt YD yd = .agg #[.int .i64 q.kind, .int .i64 q.txn, .int .i64 q.prev, .int .i64 q.next, .int .i64 q.page, .int .i64 q.off, .slice YA q.before.length yb, .slice YB q.after.length ya, .slice YT q.txns.length yt, .slice YD q.dirty.length yd, .int .i64 q.count] := rfl
  rw [hv1]
  have HEc := hid (HEb.out.alloc HEb.out.size (.cells #[.int .i64 q.kind, .int .i64 q.txn, .int .i64 q.prev, .int .i64 q.next, .int .i64 q.page, .int .i64 q.off, .slice YA q.before.length yb, .slice YB q.after.length ya, .slice YT q.txns.length yt, .slice YD q.dirty.length yd, .int .i64 q.count] 28))
  have HXc := hid (HXb.out.alloc (.cells #[.int .i64 q.kind, .int .i64 q.txn, .int .i64 q.prev, .int .i64 q.next, .int .i64 q.page, .int .i64 q.off, .slice YA q.before.length yb, .slice YB q.after.length ya, .slice YT q.txns.length yt, .slice YD q.dirty.length yd, .int .i64 q.count] 28))
  have HYc := hid (Blk.new w1 28 #[.int .i64 q.kind, .int .i64 q.txn, .int .i64 q.prev, .int .i64 q.next, .int .i64 q.page, .int .i64 q.off, .slice YA q.before.length yb, .slice YB q.after.length ya, .slice YT q.txns.length yt, .slice YD q.dirty.length yd, .int .i64 q.count])
  have Hq := hid hq
  have Hqk := hid hqk
  have Hqo := hid hqo
  clear hn1 hb1 hq hqk hqo HEa HXa
  go_wp2_with fail
  refine (rdecode_any QA _ qc bs _ (HR.out.below HEc.out) rfl hc (by omega) (fun ad e => Nat.lt_of_lt_of_le (HQ.out ad e) HEc.out.size)).mono ?_
  rintro e w2 ⟨ZA, zb, ZB, za, ZT, zt, ZD, zd, rfl, hn2, hb2⟩
  rw [Hq.out] at hn2
  rw [Hq.out, Hqk.out, Hqo.out]
  have HN2 := hid hn2
  have hv2 : gotVal q ZA zb ZB za ZT zt ZD zd qk qo = .agg #[.int .i64 q.kind, .int .i64 q.txn, .int .i64 q.prev, .int .i64 q.next, .int .i64 q.page, .int .i64 q.off, .slice ZA q.before.length zb, .slice ZB q.after.length za, .slice ZT q.txns.length zt, .slice ZD q.dirty.length zd, .int .i64 q.count, .int .i64 qk, .bool qo] := rfl
  rw [hv2]
  have HE0 := hid ((HEc.out.trans (hb2.mono HEc.out.size)).alloc (by have := HEc.out.size; have := hb2.size; omega) (.cells #[.int .i64 q.kind, .int .i64 q.txn, .int .i64 q.prev, .int .i64 q.next, .int .i64 q.page, .int .i64 q.off, .slice ZA q.before.length zb, .slice ZB q.after.length za, .slice ZT q.txns.length zt, .slice ZD q.dirty.length zd, .int .i64 q.count, .int .i64 qk, .bool qo] 36))
  have HX0 := hid ((HXc.out.below hb2 HXc.out.lt).alloc (.cells #[.int .i64 q.kind, .int .i64 q.txn, .int .i64 q.prev, .int .i64 q.next, .int .i64 q.page, .int .i64 q.off, .slice ZA q.before.length zb, .slice ZB q.after.length za, .slice ZT q.txns.length zt, .slice ZD q.dirty.length zd, .int .i64 q.count, .int .i64 qk, .bool qo] 36))
  have HY0 := hid ((HYc.out.below hb2 HYc.out.lt).alloc (.cells #[.int .i64 q.kind, .int .i64 q.txn, .int .i64 q.prev, .int .i64 q.next, .int .i64 q.page, .int .i64 q.off, .slice ZA q.before.length zb, .slice ZB q.after.length za, .slice ZT q.txns.length zt, .slice ZD q.dirty.length zd, .int .i64 q.count, .int .i64 qk, .bool qo] 36))
  have HZ0 := hid (Blk.new w2 36 #[.int .i64 q.kind, .int .i64 q.txn, .int .i64 q.prev, .int .i64 q.next, .int .i64 q.page, .int .i64 q.off, .slice ZA q.before.length zb, .slice ZB q.after.length za, .slice ZT q.txns.length zt, .slice ZD q.dirty.length zd, .int .i64 q.count, .int .i64 qk, .bool qo])
  have hB12 : Below w1.heap.size w1 w2 := ((Below.refl w1.heap.size w1).alloc (Nat.le_refl _) (.cells #[.int .i64 q.kind, .int .i64 q.txn, .int .i64 q.prev, .int .i64 q.next, .int .i64 q.page, .int .i64 q.off, .slice YA q.before.length yb, .slice YB q.after.length ya, .slice YT q.txns.length yt, .slice YD q.dirty.length yd, .int .i64 q.count] 28)).trans (hb2.mono (by simp))
  have HQ1 := hid ((HN1.out.mem.below hB12).below ((Below.refl w2.heap.size w2).alloc (Nat.le_refl _) (.cells #[.int .i64 q.kind, .int .i64 q.txn, .int .i64 q.prev, .int .i64 q.next, .int .i64 q.page, .int .i64 q.off, .slice ZA q.before.length zb, .slice ZB q.after.length za, .slice ZT q.txns.length zt, .slice ZD q.dirty.length zd, .int .i64 q.count, .int .i64 qk, .bool qo] 36)))
  have HQ2 := hid (HN2.out.mem.below ((Below.refl w2.heap.size w2).alloc (Nat.le_refl _) (.cells #[.int .i64 q.kind, .int .i64 q.txn, .int .i64 q.prev, .int .i64 q.next, .int .i64 q.page, .int .i64 q.off, .slice ZA q.before.length zb, .slice ZB q.after.length za, .slice ZT q.txns.length zt, .slice ZD q.dirty.length zd, .int .i64 q.count, .int .i64 qk, .bool qo] 36)))
  have hsame := hid (same_any q YA yb YB ya YT yt YD yd ZA zb ZB za ZT zt ZD zd)
  unfold recVal at hsame
  have HV0 := hid (Below.refl (w2.alloc (.cells #[.int .i64 q.kind, .int .i64 q.txn, .int .i64 q.prev, .int .i64 q.next, .int .i64 q.page, .int .i64 q.off, .slice ZA q.before.length zb, .slice ZB q.after.length za, .slice ZT q.txns.length zt, .slice ZD q.dirty.length zd, .int .i64 q.count, .int .i64 qk, .bool qo] 36)).heap.size (w2.alloc (.cells #[.int .i64 q.kind, .int .i64 q.txn, .int .i64 q.prev, .int .i64 q.next, .int .i64 q.page, .int .i64 q.off, .slice ZA q.before.length zb, .slice ZB q.after.length za, .slice ZT q.txns.length zt, .slice ZD q.dirty.length zd, .int .i64 q.count, .int .i64 qk, .bool qo] 36)))
  clear hn2 hb2 hB12 HN1 HN2 HEb HEc HXb HXc HYc
  go_wp2_with fail
  refine wp_region_held_drew (S := fun w' => w'.cell? ⟨w.heap.size, 0, none⟩ = some (.int .i64 r.kind) ∧ w'.cell? ⟨w.heap.size, 1, none⟩ = some (.int .i64 r.txn) ∧ w'.cell? ⟨w.heap.size, 2, none⟩ = some (.int .i64 r.prev) ∧ w'.cell? ⟨w.heap.size, 3, none⟩ = some (.int .i64 r.next) ∧ w'.cell? ⟨w.heap.size, 4, none⟩ = some (.int .i64 r.page) ∧ w'.cell? ⟨w.heap.size, 5, none⟩ = some (.int .i64 r.off) ∧ w'.cell? ⟨w.heap.size, 6, none⟩ = some (.slice XA r.before.length xb) ∧ w'.cell? ⟨w.heap.size, 7, none⟩ = some (.slice XB r.after.length xa) ∧ w'.cell? ⟨w.heap.size, 8, none⟩ = some (.slice XT r.txns.length xt) ∧ w'.cell? ⟨w.heap.size, 9, none⟩ = some (.slice XD r.dirty.length xd) ∧ w'.cell? ⟨w.heap.size, 10, none⟩ = some (.int .i64 r.count) ∧ w'.cell? ⟨w1.heap.size, 0, none⟩ = some (.int .i64 q.kind) ∧ w'.cell? ⟨w1.heap.size, 1, none⟩ = some (.int .i64 q.txn) ∧ w'.cell? ⟨w1.heap.size, 2, none⟩ = some (.int .i64 q.prev) ∧ w'.cell? ⟨w1.heap.size, 3, none⟩ = some (.int .i64 q.next) ∧ w'.cell? ⟨w1.heap.size, 4, none⟩ = some (.int .i64 q.page) ∧ w'.cell? ⟨w1.heap.size, 5, none⟩ = some (.int .i64 q.off) ∧ w'.cell? ⟨w1.heap.size, 6, none⟩ = some (.slice YA q.before.length yb) ∧ w'.cell? ⟨w1.heap.size, 7, none⟩ = some (.slice YB q.after.length ya) ∧ w'.cell? ⟨w1.heap.size, 8, none⟩ = some (.slice YT q.txns.length yt) ∧ w'.cell? ⟨w1.heap.size, 9, none⟩ = some (.slice YD q.dirty.length yd) ∧ w'.cell? ⟨w1.heap.size, 10, none⟩ = some (.int .i64 q.count) ∧ w'.cell? ⟨w2.heap.size, 0, none⟩ = some (.int .i64 q.kind) ∧ w'.cell? ⟨w2.heap.size, 1, none⟩ = some (.int .i64 q.txn) ∧ w'.cell? ⟨w2.heap.size, 2, none⟩ = some (.int .i64 q.prev) ∧ w'.cell? ⟨w2.heap.size, 3, none⟩ = some (.int .i64 q.next) ∧ w'.cell? ⟨w2.heap.size, 4, none⟩ = some (.int .i64 q.page) ∧ w'.cell? ⟨w2.heap.size, 5, none⟩ = some (.int .i64 q.off) ∧ w'.cell? ⟨w2.heap.size, 6, none⟩ = some (.slice ZA q.before.length zb) ∧ w'.cell? ⟨w2.heap.size, 7, none⟩ = some (.slice ZB q.after.length za) ∧ w'.cell? ⟨w2.heap.size, 8, none⟩ = some (.slice ZT q.txns.length zt) ∧ w'.cell? ⟨w2.heap.size, 9, none⟩ = some (.slice ZD q.dirty.length zd) ∧ w'.cell? ⟨w2.heap.size, 10, none⟩ = some (.int .i64 q.count) ∧ w'.cell? ⟨w2.heap.size, 11, none⟩ = some (.int .i64 qk) ∧ w'.cell? ⟨w2.heap.size, 12, none⟩ = some (.bool qo)) (by kernel_rfl) (cells35 HX0.out.drew HY0.out.drew HZ0.out.drew) (fun hHeld => ?_)
  refine wpAnyH_take (i := 0) (oi := { dst := some 17, op := Op.load 28 (Operand.tmp 2), type := 28, pos := _, after := #[], guard := none }) (v := ?_) rfl (by kernel_rfl) (by kernel_rfl) (by kernel_rfl) (fun _ _ _ h => h) (Or.inl ⟨by rfl, ?_⟩) (by assumption) ?_
  rotate_left
  · (intro w' hSw; (try dsimp only at hSw); go_simp; try with_reducible rfl)
  try simp only [Act.put, List.setIfInBounds_toArray, List.set_cons_zero, List.set_cons_succ]
  refine wpAnyH_take (i := 3) (oi := { dst := some 20, op := Op.load 28 (Operand.tmp 2), type := 28, pos := _, after := #[], guard := none }) (v := ?_) rfl (by kernel_rfl) (by kernel_rfl) (by kernel_rfl) (fun _ _ _ h => h) (Or.inl ⟨by rfl, ?_⟩) (by assumption) ?_
  rotate_left
  · (intro w' hSw; (try dsimp only at hSw); go_simp; try with_reducible rfl)
  try simp only [Act.put, List.setIfInBounds_toArray, List.set_cons_zero, List.set_cons_succ]
  refine wpAnyH_ready (rs := [1]) (by kernel_rfl) (by simp) ?_
  refine AllReadyH.cons (o := { dst := some 18, op := Op.call { callee := Callee.value (Operand.func 10), args := #[Operand.tmp 17], argTypes := #[28] }, type := 23, pos := _, after := #[{ on := 0, ground := Ground.data }], guard := none }) rfl (fun K hK => ?_) AllReadyH.nil
  go_simp
  refine (henc.out _ (by exact (HM.out.below HE0.out).of_heap rfl) (by omega)).mono ?_
  rintro e u1 ⟨A5, N5, c5, rfl, hb1⟩
  have hB1 : Below (w2.alloc (.cells #[.int .i64 q.kind, .int .i64 q.txn, .int .i64 q.prev, .int .i64 q.next, .int .i64 q.page, .int .i64 q.off, .slice ZA q.before.length zb, .slice ZB q.after.length za, .slice ZT q.txns.length zt, .slice ZD q.dirty.length zd, .int .i64 q.count, .int .i64 qk, .bool qo] 36)).heap.size (w2.alloc (.cells #[.int .i64 q.kind, .int .i64 q.txn, .int .i64 q.prev, .int .i64 q.next, .int .i64 q.page, .int .i64 q.off, .slice ZA q.before.length zb, .slice ZB q.after.length za, .slice ZT q.txns.length zt, .slice ZD q.dirty.length zd, .int .i64 q.count, .int .i64 qk, .bool qo] 36)) u1 := ⟨hb1.be.os, hb1.be.tape, hb1.be.output, hb1.be.size, hb1.be.block⟩
  have HX1 := hid (HX0.out.below hB1 HX0.out.lt)
  have HY1 := hid (HY0.out.below hB1 HY0.out.lt)
  have HZ1 := hid (HZ0.out.below hB1 HZ0.out.lt)
  have HE1 := hid (HE0.out.trans (hB1.mono HE0.out.size))
  have HV1 := hid (HV0.out.trans (hB1.mono HV0.out.size))
  refine hK.out _ _ (cells35 HX1.out HY1.out HZ1.out) (fun hH1 => ?_)
  clear hK K hB1 hHeld
  have HF0_1 := hid (hb1.rd)
  have cvn := run_str u1 A5 N5 c5 _ HF0_1.out
  refine wpAnyH_mono (S' := fun w' => (w'.cell? ⟨w.heap.size, 0, none⟩ = some (.int .i64 r.kind) ∧ w'.cell? ⟨w.heap.size, 1, none⟩ = some (.int .i64 r.txn) ∧ w'.cell? ⟨w.heap.size, 2, none⟩ = some (.int .i64 r.prev) ∧ w'.cell? ⟨w.heap.size, 3, none⟩ = some (.int .i64 r.next) ∧ w'.cell? ⟨w.heap.size, 4, none⟩ = some (.int .i64 r.page) ∧ w'.cell? ⟨w.heap.size, 5, none⟩ = some (.int .i64 r.off) ∧ w'.cell? ⟨w.heap.size, 6, none⟩ = some (.slice XA r.before.length xb) ∧ w'.cell? ⟨w.heap.size, 7, none⟩ = some (.slice XB r.after.length xa) ∧ w'.cell? ⟨w.heap.size, 8, none⟩ = some (.slice XT r.txns.length xt) ∧ w'.cell? ⟨w.heap.size, 9, none⟩ = some (.slice XD r.dirty.length xd) ∧ w'.cell? ⟨w.heap.size, 10, none⟩ = some (.int .i64 r.count) ∧ w'.cell? ⟨w1.heap.size, 0, none⟩ = some (.int .i64 q.kind) ∧ w'.cell? ⟨w1.heap.size, 1, none⟩ = some (.int .i64 q.txn) ∧ w'.cell? ⟨w1.heap.size, 2, none⟩ = some (.int .i64 q.prev) ∧ w'.cell? ⟨w1.heap.size, 3, none⟩ = some (.int .i64 q.next) ∧ w'.cell? ⟨w1.heap.size, 4, none⟩ = some (.int .i64 q.page) ∧ w'.cell? ⟨w1.heap.size, 5, none⟩ = some (.int .i64 q.off) ∧ w'.cell? ⟨w1.heap.size, 6, none⟩ = some (.slice YA q.before.length yb) ∧ w'.cell? ⟨w1.heap.size, 7, none⟩ = some (.slice YB q.after.length ya) ∧ w'.cell? ⟨w1.heap.size, 8, none⟩ = some (.slice YT q.txns.length yt) ∧ w'.cell? ⟨w1.heap.size, 9, none⟩ = some (.slice YD q.dirty.length yd) ∧ w'.cell? ⟨w1.heap.size, 10, none⟩ = some (.int .i64 q.count) ∧ w'.cell? ⟨w2.heap.size, 0, none⟩ = some (.int .i64 q.kind) ∧ w'.cell? ⟨w2.heap.size, 1, none⟩ = some (.int .i64 q.txn) ∧ w'.cell? ⟨w2.heap.size, 2, none⟩ = some (.int .i64 q.prev) ∧ w'.cell? ⟨w2.heap.size, 3, none⟩ = some (.int .i64 q.next) ∧ w'.cell? ⟨w2.heap.size, 4, none⟩ = some (.int .i64 q.page) ∧ w'.cell? ⟨w2.heap.size, 5, none⟩ = some (.int .i64 q.off) ∧ w'.cell? ⟨w2.heap.size, 6, none⟩ = some (.slice ZA q.before.length zb) ∧ w'.cell? ⟨w2.heap.size, 7, none⟩ = some (.slice ZB q.after.length za) ∧ w'.cell? ⟨w2.heap.size, 8, none⟩ = some (.slice ZT q.txns.length zt) ∧ w'.cell? ⟨w2.heap.size, 9, none⟩ = some (.slice ZD q.dirty.length zd) ∧ w'.cell? ⟨w2.heap.size, 10, none⟩ = some (.int .i64 q.count) ∧ w'.cell? ⟨w2.heap.size, 11, none⟩ = some (.int .i64 qk) ∧ w'.cell? ⟨w2.heap.size, 12, none⟩ = some (.bool qo)) ∧ (convert 23 9 (.slice A5 N5 c5)).run Try.prog w' = .ok (.string ⟨r.enc.toArray⟩) w') (fun w' h => h.1) _ _ _ _ ?_
  have hG1 := And.intro hH1 cvn
  clear hH1
  have hH1 := hG1
  clear hG1
  try simp only [Act.put, List.setIfInBounds_toArray, List.set_cons_zero, List.set_cons_succ]
  refine wpAnyH_take (i := 2) (oi := { dst := some 19, op := Op.convert 23 9 (Operand.tmp 18), type := 9, pos := _, after := #[{ on := 1, ground := Ground.data }], guard := none }) (v := ?_) rfl (by kernel_rfl) (by kernel_rfl) (by kernel_rfl) (fun _ _ _ h => h) (Or.inl ⟨by rfl, ?_⟩) (by assumption) ?_
  rotate_left
  · (intro w' hSw; (try dsimp only at hSw); go_simp; try with_reducible rfl)
  try simp only [Act.put, List.setIfInBounds_toArray, List.set_cons_zero, List.set_cons_succ]
  refine wpAnyH_ready (rs := [4]) (by kernel_rfl) (by simp) ?_
  refine AllReadyH.cons (o := { dst := some 21, op := Op.call { callee := Callee.value (Operand.func 14), args := #[Operand.tmp 20], argTypes := #[28] }, type := 23, pos := _, after := #[{ on := 3, ground := Ground.data }, { on := 1, ground := Ground.chain }], guard := none }) rfl (fun K hK => ?_) AllReadyH.nil
  go_simp
  refine (hrenc.out _ (by exact (HM.out.below HE1.out).of_heap rfl) (by omega)).mono ?_
  rintro e u2 ⟨A6, N6, c6, rfl, hb2⟩
  have hB2 : Below u1.heap.size u1 u2 := ⟨hb2.be.os, hb2.be.tape, hb2.be.output, hb2.be.size, hb2.be.block⟩
  have HX2 := hid (HX1.out.below hB2 HX1.out.lt)
  have HY2 := hid (HY1.out.below hB2 HY1.out.lt)
  have HZ2 := hid (HZ1.out.below hB2 HZ1.out.lt)
  have HE2 := hid (HE1.out.trans (hB2.mono HE1.out.size))
  have HV2 := hid (HV1.out.trans (hB2.mono HV1.out.size))
  have HF0_2 := hid (HF0_1.out.below hB2)
  have cv0_2 := run_str u2 A5 N5 c5 _ HF0_2.out
  refine hK.out _ _ ⟨(cells35 HX2.out HY2.out HZ2.out), cv0_2⟩ (fun hH2 => ?_)
  clear hK K hB2 hH1
  have HF1_2 := hid (hb2.rd)
  have cvn := run_str u2 A6 N6 c6 _ HF1_2.out
  refine wpAnyH_mono (S' := fun w' => ((w'.cell? ⟨w.heap.size, 0, none⟩ = some (.int .i64 r.kind) ∧ w'.cell? ⟨w.heap.size, 1, none⟩ = some (.int .i64 r.txn) ∧ w'.cell? ⟨w.heap.size, 2, none⟩ = some (.int .i64 r.prev) ∧ w'.cell? ⟨w.heap.size, 3, none⟩ = some (.int .i64 r.next) ∧ w'.cell? ⟨w.heap.size, 4, none⟩ = some (.int .i64 r.page) ∧ w'.cell? ⟨w.heap.size, 5, none⟩ = some (.int .i64 r.off) ∧ w'.cell? ⟨w.heap.size, 6, none⟩ = some (.slice XA r.before.length xb) ∧ w'.cell? ⟨w.heap.size, 7, none⟩ = some (.slice XB r.after.length xa) ∧ w'.cell? ⟨w.heap.size, 8, none⟩ = some (.slice XT r.txns.length xt) ∧ w'.cell? ⟨w.heap.size, 9, none⟩ = some (.slice XD r.dirty.length xd) ∧ w'.cell? ⟨w.heap.size, 10, none⟩ = some (.int .i64 r.count) ∧ w'.cell? ⟨w1.heap.size, 0, none⟩ = some (.int .i64 q.kind) ∧ w'.cell? ⟨w1.heap.size, 1, none⟩ = some (.int .i64 q.txn) ∧ w'.cell? ⟨w1.heap.size, 2, none⟩ = some (.int .i64 q.prev) ∧ w'.cell? ⟨w1.heap.size, 3, none⟩ = some (.int .i64 q.next) ∧ w'.cell? ⟨w1.heap.size, 4, none⟩ = some (.int .i64 q.page) ∧ w'.cell? ⟨w1.heap.size, 5, none⟩ = some (.int .i64 q.off) ∧ w'.cell? ⟨w1.heap.size, 6, none⟩ = some (.slice YA q.before.length yb) ∧ w'.cell? ⟨w1.heap.size, 7, none⟩ = some (.slice YB q.after.length ya) ∧ w'.cell? ⟨w1.heap.size, 8, none⟩ = some (.slice YT q.txns.length yt) ∧ w'.cell? ⟨w1.heap.size, 9, none⟩ = some (.slice YD q.dirty.length yd) ∧ w'.cell? ⟨w1.heap.size, 10, none⟩ = some (.int .i64 q.count) ∧ w'.cell? ⟨w2.heap.size, 0, none⟩ = some (.int .i64 q.kind) ∧ w'.cell? ⟨w2.heap.size, 1, none⟩ = some (.int .i64 q.txn) ∧ w'.cell? ⟨w2.heap.size, 2, none⟩ = some (.int .i64 q.prev) ∧ w'.cell? ⟨w2.heap.size, 3, none⟩ = some (.int .i64 q.next) ∧ w'.cell? ⟨w2.heap.size, 4, none⟩ = some (.int .i64 q.page) ∧ w'.cell? ⟨w2.heap.size, 5, none⟩ = some (.int .i64 q.off) ∧ w'.cell? ⟨w2.heap.size, 6, none⟩ = some (.slice ZA q.before.length zb) ∧ w'.cell? ⟨w2.heap.size, 7, none⟩ = some (.slice ZB q.after.length za) ∧ w'.cell? ⟨w2.heap.size, 8, none⟩ = some (.slice ZT q.txns.length zt) ∧ w'.cell? ⟨w2.heap.size, 9, none⟩ = some (.slice ZD q.dirty.length zd) ∧ w'.cell? ⟨w2.heap.size, 10, none⟩ = some (.int .i64 q.count) ∧ w'.cell? ⟨w2.heap.size, 11, none⟩ = some (.int .i64 qk) ∧ w'.cell? ⟨w2.heap.size, 12, none⟩ = some (.bool qo)) ∧ (convert 23 9 (.slice A5 N5 c5)).run Try.prog w' = .ok (.string ⟨r.enc.toArray⟩) w') ∧ (convert 23 9 (.slice A6 N6 c6)).run Try.prog w' = .ok (.string ⟨r.enc.toArray⟩) w') (fun w' h => h.1) _ _ _ _ ?_
  have hG2 := And.intro hH2 cvn
  clear hH2
  have hH2 := hG2
  clear hG2
  try simp only [Act.put, List.setIfInBounds_toArray, List.set_cons_zero, List.set_cons_succ]
  refine wpAnyH_take (i := 5) (oi := { dst := some 22, op := Op.convert 23 9 (Operand.tmp 21), type := 9, pos := _, after := #[{ on := 4, ground := Ground.data }], guard := none }) (v := ?_) rfl (by kernel_rfl) (by kernel_rfl) (by kernel_rfl) (fun _ _ _ h => h) (Or.inl ⟨by rfl, ?_⟩) (by assumption) ?_
  rotate_left
  · (intro w' hSw; (try dsimp only at hSw); go_simp; try with_reducible rfl)
  try simp only [Act.put, List.setIfInBounds_toArray, List.set_cons_zero, List.set_cons_succ]
  refine wpAnyH_take (i := 6) (oi := { dst := some 23, op := Op.binOp BinOp.eql 9 (Operand.tmp 19) (Operand.tmp 22) 9, type := 4, pos := _, after := #[{ on := 2, ground := Ground.data }, { on := 5, ground := Ground.data }], guard := none }) (v := ?_) rfl (by kernel_rfl) (by kernel_rfl) (by kernel_rfl) (fun _ _ _ h => h) (Or.inl ⟨by rfl, ?_⟩) (by assumption) ?_
  rotate_left
  · (intro w' hSw; (try dsimp only at hSw); go_simp; try with_reducible rfl)
  try simp only [Act.put, List.setIfInBounds_toArray, List.set_cons_zero, List.set_cons_succ]
  refine wpAnyH_take (i := 7) (oi := { dst := some 24, op := Op.move (Operand.tmp 23), type := 4, pos := _, after := #[{ on := 6, ground := Ground.data }, { on := 4, ground := Ground.chain }], guard := none }) (v := ?_) rfl (by kernel_rfl) (by kernel_rfl) (by kernel_rfl) (fun _ _ _ h => h) (Or.inl ⟨by rfl, ?_⟩) (by assumption) ?_
  rotate_left
  · (intro w' hSw; (try dsimp only at hSw); go_simp; try with_reducible rfl)
  try simp only [Act.put, List.setIfInBounds_toArray, List.set_cons_zero, List.set_cons_succ]
  refine wpAnyH_take (i := 8) (oi := { dst := some 25, op := Op.load 28 (Operand.tmp 2), type := 28, pos := _, after := #[{ on := 7, ground := Ground.guard }], guard := some (7, true) }) (v := ?_) rfl (by kernel_rfl) (by kernel_rfl) (by kernel_rfl) (fun _ _ _ h => h) (Or.inl ⟨by rfl, ?_⟩) (by assumption) ?_
  rotate_left
  · (intro w' hSw; (try dsimp only at hSw); go_simp; try with_reducible rfl)
  try simp only [Act.put, List.setIfInBounds_toArray, List.set_cons_zero, List.set_cons_succ]
  refine wpAnyH_take (i := 10) (oi := { dst := some 27, op := Op.load 28 (Operand.tmp 2), type := 28, pos := _, after := #[{ on := 7, ground := Ground.guard }], guard := some (7, true) }) (v := ?_) rfl (by kernel_rfl) (by kernel_rfl) (by kernel_rfl) (fun _ _ _ h => h) (Or.inl ⟨by rfl, ?_⟩) (by assumption) ?_
  rotate_left
  · (intro w' hSw; (try dsimp only at hSw); go_simp; try with_reducible rfl)
  try simp only [Act.put, List.setIfInBounds_toArray, List.set_cons_zero, List.set_cons_succ]
  refine wpAnyH_ready (rs := [9]) (by kernel_rfl) (by simp) ?_
  refine AllReadyH.cons (o := { dst := some 26, op := Op.call { callee := Callee.value (Operand.func 15), args := #[Operand.tmp 25], argTypes := #[28] }, type := 3, pos := _, after := #[{ on := 8, ground := Ground.data }, { on := 7, ground := Ground.chain }, { on := 7, ground := Ground.guard }], guard := some (7, true) }) rfl (fun K hK => ?_) AllReadyH.nil
  go_simp
  refine (hsize.out _ (by omega)).mono ?_
  rintro e u3 ⟨rfl, hb3⟩
  have hB3 : Below u2.heap.size u2 u3 := ⟨hb3.os, hb3.tape, hb3.output, hb3.size, hb3.block⟩
  have HX3 := hid (HX2.out.below hB3 HX2.out.lt)
  have HY3 := hid (HY2.out.below hB3 HY2.out.lt)
  have HZ3 := hid (HZ2.out.below hB3 HZ2.out.lt)
  have HE3 := hid (HE2.out.trans (hB3.mono HE2.out.size))
  have HV3 := hid (HV2.out.trans (hB3.mono HV2.out.size))
  have HF0_3 := hid (HF0_2.out.below hB3)
  have cv0_3 := run_str u3 A5 N5 c5 _ HF0_3.out
  have HF1_3 := hid (HF1_2.out.below hB3)
  have cv1_3 := run_str u3 A6 N6 c6 _ HF1_3.out
  refine hK.out _ _ ⟨⟨(cells35 HX3.out HY3.out HZ3.out), cv0_3⟩, cv1_3⟩ (fun hH3 => ?_)
  clear hK K hB3 hH2
  try simp only [Act.put, List.setIfInBounds_toArray, List.set_cons_zero, List.set_cons_succ]
  refine wpAnyH_ready (rs := [11]) (by kernel_rfl) (by simp) ?_
  refine AllReadyH.cons (o := { dst := some 28, op := Op.call { callee := Callee.value (Operand.func 14), args := #[Operand.tmp 27], argTypes := #[28] }, type := 23, pos := _, after := #[{ on := 10, ground := Ground.data }, { on := 9, ground := Ground.chain }, { on := 7, ground := Ground.guard }], guard := some (7, true) }) rfl (fun K hK => ?_) AllReadyH.nil
  go_simp
  refine (hrenc.out _ (by exact (HM.out.below HE3.out).of_heap rfl) (by omega)).mono ?_
  rintro e u4 ⟨A7, N7, c7, rfl, hb4⟩
  have hN7 : N7 = r.size := by rw [hb4.len, length_enc]
  subst hN7
  have hB4 : Below u3.heap.size u3 u4 := ⟨hb4.be.os, hb4.be.tape, hb4.be.output, hb4.be.size, hb4.be.block⟩
  have HX4 := hid (HX3.out.below hB4 HX3.out.lt)
  have HY4 := hid (HY3.out.below hB4 HY3.out.lt)
  have HZ4 := hid (HZ3.out.below hB4 HZ3.out.lt)
  have HE4 := hid (HE3.out.trans (hB4.mono HE3.out.size))
  have HV4 := hid (HV3.out.trans (hB4.mono HV3.out.size))
  have HF0_4 := hid (HF0_3.out.below hB4)
  have cv0_4 := run_str u4 A5 N5 c5 _ HF0_4.out
  have HF1_4 := hid (HF1_3.out.below hB4)
  have cv1_4 := run_str u4 A6 N6 c6 _ HF1_4.out
  refine hK.out _ _ ⟨⟨(cells35 HX4.out HY4.out HZ4.out), cv0_4⟩, cv1_4⟩ (fun hH4 => ?_)
  clear hK K hB4 hH3
  try simp only [Act.put, List.setIfInBounds_toArray, List.set_cons_zero, List.set_cons_succ]
  refine wpAnyH_take (i := 12) (oi := { dst := some 29, op := Op.call { callee := Callee.builtin Builtin.len, args := #[Operand.tmp 28], argTypes := #[23] }, type := 3, pos := _, after := #[{ on := 11, ground := Ground.data }, { on := 7, ground := Ground.guard }], guard := some (7, true) }) (v := ?_) rfl (by kernel_rfl) (by kernel_rfl) (by kernel_rfl) (fun _ _ _ h => h) (Or.inl ⟨by rfl, ?_⟩) (by assumption) ?_
  rotate_left
  · (intro w' hSw; (try dsimp only at hSw); go_simp; try with_reducible rfl)
  try simp only [Act.put, List.setIfInBounds_toArray, List.set_cons_zero, List.set_cons_succ]
  refine wpAnyH_take (i := 13) (oi := { dst := some 30, op := Op.binOp BinOp.eql 3 (Operand.tmp 26) (Operand.tmp 29) 3, type := 4, pos := _, after := #[{ on := 9, ground := Ground.data }, { on := 12, ground := Ground.data }, { on := 7, ground := Ground.guard }], guard := some (7, true) }) (v := ?_) rfl (by kernel_rfl) (by kernel_rfl) (by kernel_rfl) (fun _ _ _ h => h) (Or.inl ⟨by rfl, ?_⟩) (by assumption) ?_
  rotate_left
  · (intro w' hSw; (try dsimp only at hSw); go_simp; try with_reducible rfl)
  try simp only [Act.put, List.setIfInBounds_toArray, List.set_cons_zero, List.set_cons_succ]
  refine wpAnyH_take (i := 14) (oi := { dst := some 31, op := Op.pick (Operand.tmp 24) (Operand.tmp 30) (Operand.const (Value.bool false)), type := 4, pos := _, after := #[{ on := 7, ground := Ground.data }, { on := 13, ground := Ground.data }], guard := none }) (v := ?_) rfl (by kernel_rfl) (by kernel_rfl) (by kernel_rfl) (fun _ _ _ h => h) (Or.inl ⟨by rfl, ?_⟩) (by assumption) ?_
  rotate_left
  · (intro w' hSw; (try dsimp only at hSw); go_simp; try with_reducible rfl)
  try simp only [Act.put, List.setIfInBounds_toArray, List.set_cons_zero, List.set_cons_succ]
  refine wpAnyH_take (i := 15) (oi := { dst := some 32, op := Op.move (Operand.tmp 31), type := 4, pos := _, after := #[{ on := 14, ground := Ground.data }, { on := 11, ground := Ground.chain }], guard := none }) (v := ?_) rfl (by kernel_rfl) (by kernel_rfl) (by kernel_rfl) (fun _ _ _ h => h) (Or.inl ⟨by rfl, ?_⟩) (by assumption) ?_
  rotate_left
  · (intro w' hSw; (try dsimp only at hSw); go_simp; try with_reducible rfl)
  try simp only [Act.put, List.setIfInBounds_toArray, List.set_cons_zero, List.set_cons_succ]
  refine wpAnyH_take (i := 16) (oi := { dst := some 33, op := Op.move (Operand.tmp 6), type := 3, pos := _, after := #[{ on := 15, ground := Ground.guard }], guard := some (15, true) }) (v := ?_) rfl (by kernel_rfl) (by kernel_rfl) (by kernel_rfl) (fun _ _ _ h => h) (Or.inl ⟨by rfl, ?_⟩) (by assumption) ?_
  rotate_left
  · (intro w' hSw; (try dsimp only at hSw); go_simp; try with_reducible rfl)
  try simp only [Act.put, List.setIfInBounds_toArray, List.set_cons_zero, List.set_cons_succ]
  refine wpAnyH_take (i := 17) (oi := { dst := some 34, op := Op.fieldAddr 36 (Operand.tmp 8) 1, type := 0, pos := _, after := #[{ on := 15, ground := Ground.guard }], guard := some (15, true) }) (v := ?_) rfl (by kernel_rfl) (by kernel_rfl) (by kernel_rfl) (fun _ _ _ h => h) (Or.inl ⟨by rfl, ?_⟩) (by assumption) ?_
  rotate_left
  · (intro w' hSw; (try dsimp only at hSw); go_simp; try with_reducible rfl)
  try simp only [Act.put, List.setIfInBounds_toArray, List.set_cons_zero, List.set_cons_succ]
  refine wpAnyH_take (i := 18) (oi := { dst := some 35, op := Op.load 3 (Operand.tmp 34), type := 3, pos := _, after := #[{ on := 17, ground := Ground.data }, { on := 15, ground := Ground.guard }], guard := some (15, true) }) (v := ?_) rfl (by kernel_rfl) (by kernel_rfl) (by kernel_rfl) (fun _ _ _ h => h) (Or.inl ⟨by rfl, ?_⟩) (by assumption) ?_
  rotate_left
  · (intro w' hSw; (try dsimp only at hSw); go_simp; try with_reducible rfl)
  try simp only [Act.put, List.setIfInBounds_toArray, List.set_cons_zero, List.set_cons_succ]
  refine wpAnyH_take (i := 19) (oi := { dst := some 36, op := Op.binOp BinOp.eql 3 (Operand.tmp 33) (Operand.tmp 35) 3, type := 4, pos := _, after := #[{ on := 16, ground := Ground.data }, { on := 18, ground := Ground.data }, { on := 15, ground := Ground.guard }], guard := some (15, true) }) (v := ?_) rfl (by kernel_rfl) (by kernel_rfl) (by kernel_rfl) (fun _ _ _ h => h) (Or.inl ⟨by rfl, ?_⟩) (by assumption) ?_
  rotate_left
  · (intro w' hSw; (try dsimp only at hSw); go_simp; try with_reducible rfl)
  try simp only [Act.put, List.setIfInBounds_toArray, List.set_cons_zero, List.set_cons_succ]
  refine wpAnyH_take (i := 20) (oi := { dst := some 37, op := Op.pick (Operand.tmp 32) (Operand.tmp 36) (Operand.const (Value.bool false)), type := 4, pos := _, after := #[{ on := 15, ground := Ground.data }, { on := 19, ground := Ground.data }], guard := none }) (v := ?_) rfl (by kernel_rfl) (by kernel_rfl) (by kernel_rfl) (fun _ _ _ h => h) (Or.inl ⟨by rfl, ?_⟩) (by assumption) ?_
  rotate_left
  · (intro w' hSw; (try dsimp only at hSw); go_simp; try with_reducible rfl)
  try simp only [Act.put, List.setIfInBounds_toArray, List.set_cons_zero, List.set_cons_succ]
  refine wpAnyH_take (i := 21) (oi := { dst := some 38, op := Op.move (Operand.tmp 37), type := 4, pos := _, after := #[{ on := 20, ground := Ground.data }, { on := 15, ground := Ground.chain }], guard := none }) (v := ?_) rfl (by kernel_rfl) (by kernel_rfl) (by kernel_rfl) (fun _ _ _ h => h) (Or.inl ⟨by rfl, ?_⟩) (by assumption) ?_
  rotate_left
  · (intro w' hSw; (try dsimp only at hSw); go_simp; try with_reducible rfl)
  try simp only [Act.put, List.setIfInBounds_toArray, List.set_cons_zero, List.set_cons_succ]
  refine wpAnyH_take (i := 22) (oi := { dst := some 39, op := Op.move (Operand.tmp 7), type := 4, pos := _, after := #[{ on := 21, ground := Ground.guard }], guard := some (21, true) }) (v := ?_) rfl (by kernel_rfl) (by kernel_rfl) (by kernel_rfl) (fun _ _ _ h => h) (Or.inl ⟨by rfl, ?_⟩) (by assumption) ?_
  rotate_left
  · (intro w' hSw; (try dsimp only at hSw); go_simp; try with_reducible rfl)
  try simp only [Act.put, List.setIfInBounds_toArray, List.set_cons_zero, List.set_cons_succ]
  refine wpAnyH_take (i := 23) (oi := { dst := some 40, op := Op.fieldAddr 36 (Operand.tmp 8) 2, type := 0, pos := _, after := #[{ on := 21, ground := Ground.guard }], guard := some (21, true) }) (v := ?_) rfl (by kernel_rfl) (by kernel_rfl) (by kernel_rfl) (fun _ _ _ h => h) (Or.inl ⟨by rfl, ?_⟩) (by assumption) ?_
  rotate_left
  · (intro w' hSw; (try dsimp only at hSw); go_simp; try with_reducible rfl)
  try simp only [Act.put, List.setIfInBounds_toArray, List.set_cons_zero, List.set_cons_succ]
  refine wpAnyH_take (i := 24) (oi := { dst := some 41, op := Op.load 4 (Operand.tmp 40), type := 4, pos := _, after := #[{ on := 23, ground := Ground.data }, { on := 21, ground := Ground.guard }], guard := some (21, true) }) (v := ?_) rfl (by kernel_rfl) (by kernel_rfl) (by kernel_rfl) (fun _ _ _ h => h) (Or.inl ⟨by rfl, ?_⟩) (by assumption) ?_
  rotate_left
  · (intro w' hSw; (try dsimp only at hSw); go_simp; try with_reducible rfl)
  try simp only [Act.put, List.setIfInBounds_toArray, List.set_cons_zero, List.set_cons_succ]
  refine wpAnyH_take (i := 25) (oi := { dst := some 42, op := Op.binOp BinOp.eql 4 (Operand.tmp 39) (Operand.tmp 41) 4, type := 4, pos := _, after := #[{ on := 22, ground := Ground.data }, { on := 24, ground := Ground.data }, { on := 21, ground := Ground.guard }], guard := some (21, true) }) (v := ?_) rfl (by kernel_rfl) (by kernel_rfl) (by kernel_rfl) (fun _ _ _ h => h) (Or.inl ⟨by rfl, ?_⟩) (by assumption) ?_
  rotate_left
  · (intro w' hSw; (try dsimp only at hSw); go_simp; try with_reducible rfl)
  try simp only [Act.put, List.setIfInBounds_toArray, List.set_cons_zero, List.set_cons_succ]
  refine wpAnyH_take (i := 26) (oi := { dst := some 43, op := Op.pick (Operand.tmp 38) (Operand.tmp 42) (Operand.const (Value.bool false)), type := 4, pos := _, after := #[{ on := 21, ground := Ground.data }, { on := 25, ground := Ground.data }], guard := none }) (v := ?_) rfl (by kernel_rfl) (by kernel_rfl) (by kernel_rfl) (fun _ _ _ h => h) (Or.inl ⟨by rfl, ?_⟩) (by assumption) ?_
  rotate_left
  · (intro w' hSw; (try dsimp only at hSw); go_simp; try with_reducible rfl)
  try simp only [Act.put, List.setIfInBounds_toArray, List.set_cons_zero, List.set_cons_succ]
  refine wpAnyH_take (i := 27) (oi := { dst := some 44, op := Op.move (Operand.tmp 43), type := 4, pos := _, after := #[{ on := 26, ground := Ground.data }, { on := 21, ground := Ground.chain }], guard := none }) (v := ?_) rfl (by kernel_rfl) (by kernel_rfl) (by kernel_rfl) (fun _ _ _ h => h) (Or.inl ⟨by rfl, ?_⟩) (by assumption) ?_
  rotate_left
  · (intro w' hSw; (try dsimp only at hSw); go_simp; try with_reducible rfl)
  try simp only [Act.put, List.setIfInBounds_toArray, List.set_cons_zero, List.set_cons_succ]
  refine wpAnyH_take (i := 28) (oi := { dst := some 45, op := Op.load 28 (Operand.tmp 5), type := 28, pos := _, after := #[{ on := 27, ground := Ground.guard }], guard := some (27, true) }) (v := ?_) rfl (by kernel_rfl) (by kernel_rfl) (by kernel_rfl) (fun _ _ _ h => h) (Or.inl ⟨by rfl, ?_⟩) (by assumption) ?_
  rotate_left
  · (intro w' hSw; (try dsimp only at hSw); go_simp; try with_reducible rfl)
  try simp only [Act.put, List.setIfInBounds_toArray, List.set_cons_zero, List.set_cons_succ]
  refine wpAnyH_take (i := 29) (oi := { dst := some 46, op := Op.fieldAddr 36 (Operand.tmp 8) 0, type := 0, pos := _, after := #[{ on := 27, ground := Ground.guard }], guard := some (27, true) }) (v := ?_) rfl (by kernel_rfl) (by kernel_rfl) (by kernel_rfl) (fun _ _ _ h => h) (Or.inl ⟨by rfl, ?_⟩) (by assumption) ?_
  rotate_left
  · (intro w' hSw; (try dsimp only at hSw); go_simp; try with_reducible rfl)
  try simp only [Act.put, List.setIfInBounds_toArray, List.set_cons_zero, List.set_cons_succ]
  refine wpAnyH_take (i := 30) (oi := { dst := some 47, op := Op.load 28 (Operand.tmp 46), type := 28, pos := _, after := #[{ on := 29, ground := Ground.data }, { on := 27, ground := Ground.guard }], guard := some (27, true) }) (v := ?_) rfl (by kernel_rfl) (by kernel_rfl) (by kernel_rfl) (fun _ _ _ h => h) (Or.inl ⟨by rfl, ?_⟩) (by assumption) ?_
  rotate_left
  · (intro w' hSw; (try dsimp only at hSw); go_simp; try with_reducible rfl)
  try simp only [Act.put, List.setIfInBounds_toArray, List.set_cons_zero, List.set_cons_succ]
  refine wpAnyH_ready (rs := [31]) (by kernel_rfl) (by simp) ?_
  refine AllReadyH.cons (o := { dst := some 48, op := Op.call { callee := Callee.value (Operand.func 12), args := #[Operand.tmp 45, Operand.tmp 47], argTypes := #[28, 28] }, type := 4, pos := _, after := #[{ on := 28, ground := Ground.data }, { on := 30, ground := Ground.data }, { on := 27, ground := Ground.chain }, { on := 27, ground := Ground.guard }], guard := some (27, true) }) rfl (fun K hK => ?_) AllReadyH.nil
  go_simp
  refine (hsame.out _ (by exact (HQ1.out.below HV4.out).of_heap rfl) (by exact (HQ2.out.below HV4.out).of_heap rfl) (by have := hqs.out; omega)).mono ?_
  rintro e u5 ⟨rfl, hb5⟩
  have hB5 : Below u4.heap.size u4 u5 := ⟨hb5.os, hb5.tape, hb5.output, hb5.size, hb5.block⟩
  have HX5 := hid (HX4.out.below hB5 HX4.out.lt)
  have HY5 := hid (HY4.out.below hB5 HY4.out.lt)
  have HZ5 := hid (HZ4.out.below hB5 HZ4.out.lt)
  have HE5 := hid (HE4.out.trans (hB5.mono HE4.out.size))
  have HV5 := hid (HV4.out.trans (hB5.mono HV4.out.size))
  have HF0_5 := hid (HF0_4.out.below hB5)
  have cv0_5 := run_str u5 A5 N5 c5 _ HF0_5.out
  have HF1_5 := hid (HF1_4.out.below hB5)
  have cv1_5 := run_str u5 A6 N6 c6 _ HF1_5.out
  refine hK.out _ _ ⟨⟨(cells35 HX5.out HY5.out HZ5.out), cv0_5⟩, cv1_5⟩ (fun hH5 => ?_)
  clear hK K hB5 hH4
  try simp only [Act.put, List.setIfInBounds_toArray, List.set_cons_zero, List.set_cons_succ]
  refine wpAnyH_take (i := 32) (oi := { dst := some 49, op := Op.pick (Operand.tmp 44) (Operand.tmp 48) (Operand.const (Value.bool false)), type := 4, pos := _, after := #[{ on := 27, ground := Ground.data }, { on := 31, ground := Ground.data }], guard := none }) (v := ?_) rfl (by kernel_rfl) (by kernel_rfl) (by kernel_rfl) (fun _ _ _ h => h) (Or.inl ⟨by rfl, ?_⟩) (by assumption) ?_
  rotate_left
  · (intro w' hSw; (try dsimp only at hSw); go_simp; try with_reducible rfl)
  try simp only [Act.put, List.setIfInBounds_toArray, List.set_cons_zero, List.set_cons_succ]
  refine wpAnyH_take (i := 33) (oi := { dst := some 50, op := Op.move (Operand.tmp 49), type := 4, pos := _, after := #[{ on := 32, ground := Ground.data }, { on := 31, ground := Ground.chain }], guard := none }) (v := ?_) rfl (by kernel_rfl) (by kernel_rfl) (by kernel_rfl) (fun _ _ _ h => h) (Or.inl ⟨by rfl, ?_⟩) (by assumption) ?_
  rotate_left
  · (intro w' hSw; (try dsimp only at hSw); go_simp; try with_reducible rfl)
  try simp only [Act.put, List.setIfInBounds_toArray, List.set_cons_zero, List.set_cons_succ]
  refine wpAnyH_ready (rs := [34]) (by kernel_rfl) (by simp) ?_
  refine AllReadyH.cons (o := { dst := some 51, op := Op.call { callee := Callee.value (Operand.func 9), args := #[], argTypes := #[] }, type := 4, pos := _, after := #[{ on := 33, ground := Ground.chain }, { on := 33, ground := Ground.guard }], guard := some (33, true) }) rfl (fun K hK => ?_) AllReadyH.nil
  go_simp
  refine (awake_any _).mono ?_
  rintro e u6 ⟨rfl, hb6⟩
  have hB6 : Below u5.heap.size u5 u6 := ⟨hb6.os, hb6.tape, hb6.output, hb6.size, hb6.block⟩
  have HX6 := hid (HX5.out.below hB6 HX5.out.lt)
  have HY6 := hid (HY5.out.below hB6 HY5.out.lt)
  have HZ6 := hid (HZ5.out.below hB6 HZ5.out.lt)
  have HE6 := hid (HE5.out.trans (hB6.mono HE5.out.size))
  have HV6 := hid (HV5.out.trans (hB6.mono HV5.out.size))
  have HF0_6 := hid (HF0_5.out.below hB6)
  have cv0_6 := run_str u6 A5 N5 c5 _ HF0_6.out
  have HF1_6 := hid (HF1_5.out.below hB6)
  have cv1_6 := run_str u6 A6 N6 c6 _ HF1_6.out
  refine hK.out _ _ ⟨⟨(cells35 HX6.out HY6.out HZ6.out), cv0_6⟩, cv1_6⟩ (fun hH6 => ?_)
  clear hK K hB6 hH5
  try simp only [Act.put, List.setIfInBounds_toArray, List.set_cons_zero, List.set_cons_succ]
  refine wpAnyH_take (i := 35) (oi := { dst := some 52, op := Op.pick (Operand.tmp 50) (Operand.tmp 51) (Operand.const (Value.bool false)), type := 4, pos := _, after := #[{ on := 33, ground := Ground.data }, { on := 34, ground := Ground.data }], guard := none }) (v := ?_) rfl (by kernel_rfl) (by kernel_rfl) (by kernel_rfl) (fun _ _ _ h => h) (Or.inl ⟨by rfl, ?_⟩) (by assumption) ?_
  rotate_left
  · (intro w' hSw; (try dsimp only at hSw); go_simp; try with_reducible rfl)
  try simp only [Act.put, List.setIfInBounds_toArray, List.set_cons_zero, List.set_cons_succ]
  refine wpAnyH_take (i := 36) (oi := { dst := some 4, op := Op.assign (Operand.tmp 52), type := 4, pos := _, after := #[{ on := 35, ground := Ground.data }, { on := 34, ground := Ground.chain }, { on := 0, ground := Ground.phase }, { on := 1, ground := Ground.phase }, { on := 2, ground := Ground.phase }, { on := 3, ground := Ground.phase }, { on := 4, ground := Ground.phase }, { on := 5, ground := Ground.phase }, { on := 6, ground := Ground.phase }, { on := 7, ground := Ground.phase }, { on := 8, ground := Ground.phase }, { on := 9, ground := Ground.phase }, { on := 10, ground := Ground.phase }, { on := 11, ground := Ground.phase }, { on := 12, ground := Ground.phase }, { on := 13, ground := Ground.phase }, { on := 14, ground := Ground.phase }, { on := 15, ground := Ground.phase }, { on := 16, ground := Ground.phase }, { on := 17, ground := Ground.phase }, { on := 18, ground := Ground.phase }, { on := 19, ground := Ground.phase }, { on := 20, ground := Ground.phase }, { on := 21, ground := Ground.phase }, { on := 22, ground := Ground.phase }, { on := 23, ground := Ground.phase }, { on := 24, ground := Ground.phase }, { on := 25, ground := Ground.phase }, { on := 26, ground := Ground.phase }, { on := 27, ground := Ground.phase }, { on := 28, ground := Ground.phase }, { on := 29, ground := Ground.phase }, { on := 30, ground := Ground.phase }, { on := 31, ground := Ground.phase }, { on := 32, ground := Ground.phase }, { on := 33, ground := Ground.phase }, { on := 34, ground := Ground.phase }, { on := 35, ground := Ground.phase }], guard := none }) (v := ?_) rfl (by kernel_rfl) (by kernel_rfl) (by kernel_rfl) (fun _ _ _ h => h) (Or.inl ⟨by rfl, ?_⟩) (by assumption) ?_
  rotate_left
  · (intro w' hSw; (try dsimp only at hSw); go_simp; try with_reducible rfl)
  try simp only [Act.put, List.setIfInBounds_toArray, List.set_cons_zero, List.set_cons_succ]
  refine wpAnyH_done (by kernel_rfl) ?_ _
  go_wp2
  go_ret
  exact ⟨by first | rfl | simp, by first | exact HE6.out | exact HE6.out.drew⟩
end Go.Proofs.Ytkpopjpmjcgbfaa
