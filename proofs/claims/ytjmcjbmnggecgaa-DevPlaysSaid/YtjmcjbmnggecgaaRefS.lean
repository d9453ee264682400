/- Read, Sync, Crash of the document's own device. -/
import Derived.Test.YtjmcjbmnggecgaaRefW
import Derived.BigRegion
namespace Go.Proofs.Ytjmcjbmnggecgaa
open Go.RowKit
set_option maxRecDepth 100000
attribute [local go_sem ↓] Go.wp_at_zero Go.wp_at_succ

theorem rread_dead (R : Nat) (F : Nat → Prop) (m : MDev) (w : World) (h : RefAt w R F m) (i : Int) (hd : m.dead = true) :
    Calls Try.prog 23 #[.pointer (some ⟨R, 0, none⟩), .int .i64 i] w fun e w' => e = .returned (.tuple #[.string ⟨#[]⟩, .int .i64 50]) ∧ w = w' := by
  obtain ⟨lv, cv, hb, hm⟩ := h.mem
  obtain ⟨_, _, _, c3, _⟩ := blk5 hb
  rw [hd] at c3
  clear hb hd
  go_enter Try.func23, Try.ntmps23
  go_wp2
  go_ret2
  exact ⟨rfl, rfl⟩

theorem rread_arg (R : Nat) (F : Nat → Prop) (m : MDev) (w : World) (h : RefAt w R F m) (i : Int) (hd : m.dead = false) (hi : i < 0 ∨ (m.l.length : Int) ≤ i) :
    Calls Try.prog 23 #[.pointer (some ⟨R, 0, none⟩), .int .i64 i] w fun e w' => e = .returned (.tuple #[.string ⟨#[]⟩, .int .i64 1]) ∧ w = w' := by
  obtain ⟨lv, cv, hb, hm⟩ := h.mem
  obtain ⟨LA, lc, rfl, _⟩ := own_form hm.ol
  obtain ⟨c0, _, _, c3, _⟩ := blk5 hb
  rw [hd] at c3
  clear hb hd
  have hn := h.n2
  by_cases h1 : i < 0
  · clear hi
    have hz : decide (i < 0) = true := by simpa using h1
    go_enter Try.func23, Try.ntmps23
    go_wp2
    go_ret2
    exact ⟨rfl, rfl⟩
  · have h2 : (m.l.length : Int) ≤ i := by omega
    clear hi
    go_enter Try.func23, Try.ntmps23
    go_wp2
    go_ret2
    exact ⟨rfl, rfl⟩

set_option maxHeartbeats 1600000 in
theorem rread_ok (R : Nat) (F : Nat → Prop) (m : MDev) (w : World) (h : RefAt w R F m) (i : Nat) (hd : m.dead = false) (hi : i < m.l.length) (hW : m.W.length ≤ 1000000) :
    Calls Try.prog 23 #[.pointer (some ⟨R, 0, none⟩), .int .i64 i] w fun e w' => e = .returned (.tuple #[.string ⟨(m.get i).toArray⟩, .int .i64 0]) ∧ RefAt w' R F { m with calls := wrap64 (m.calls + 1) } ∧ Chg (· = R) w w' := by
  obtain ⟨lv, cv, hb, hm⟩ := h.mem
  obtain ⟨LA, lc, rfl, _⟩ := own_form hm.ol
  obtain ⟨CA, cc, rfl, _⟩ := own_form hm.oc
  have nl := h.n1
  obtain ⟨L, rfl⟩ : ∃ L, LA = some ⟨L, 0, none⟩ := by
    obtain ⟨g, cap, hv, _⟩ := hm.ol.form (by omega)
    injection hv with hv _ _
    exact ⟨g, hv⟩
  obtain ⟨c0, c1, _, c3, c4⟩ := blk5 hb
  rw [hd] at c3
  have f4 := hb.frozen 4
  have cL : w.cell? ⟨L, i, none⟩ = some (.string ⟨(m.l[i]).toArray⟩) := by rw [hm.ol.cellAt _ (by omega)]; exact strs_at _ _ _ (List.getElem?_eq_getElem hi)
  have hnl := h.n2
  have Hb := hid hb
  have Hm := hid hm
  have hi1 : (0 : Int) ≤ (i : Int) := Int.natCast_nonneg _
  have hi2 : (i : Int) < (m.l.length : Int) := by omega
  have lR := hb.lt
  clear hb hm hd
  go_enter Try.func23, Try.ntmps23
  go_wp2_with fail
  go_loopw [6, 7] (fun s j wr => ∃ k : Nat, k ≤ m.W.length ∧ j = .int .i64 k ∧ s = .string ⟨(getW (m.l.getD i []) (m.W.take k) i).toArray⟩ ∧ Below w.heap.size w wr) (fun _ j _ => m.W.length - (intOf j).toNat)
  case atStart => exact ⟨0, Nat.zero_le _, rfl, by simp [getW, hi], Below.refl _ _⟩
  case round =>
    obtain ⟨k, hk, rfl, rfl, hbr⟩ := hrel
    have d1 : wr.cell? ⟨R, 1, none⟩ = _ := (hbr.cell (p := ⟨R, 1, none⟩) lR).trans c1
    have Hbr := hid hbr
    clear hbr
    by_cases hlt : k < m.W.length
    · obtain ⟨C, rfl⟩ : ∃ C, CA = some ⟨C, 0, none⟩ := by
        obtain ⟨g, cap, hv, _⟩ := Hm.out.oc.form (by omega)
        injection hv with hv _ _
        exact ⟨g, hv⟩
      obtain ⟨n1, eb, hWk⟩ : ∃ n1 eb, m.W[k]? = some (n1, eb) := ⟨_, _, List.getElem?_eq_getElem hlt⟩
      obtain ⟨q1, q2⟩ := wrs_at _ _ _ hWk
      have lC : C < w.heap.size := (Hm.out.oc.lt C rfl).2
      have r0 : wr.cell? ⟨C, k * 2, none⟩ = some (.int .i64 (n1 : Int)) := by rw [Hbr.out.cell (p := ⟨C, k * 2, none⟩) lC, Hm.out.oc.cellAt _ (by omega)]; exact q1
      have r1 : wr.cell? ⟨C, k * 2 + 1, none⟩ = some (.string ⟨eb.toArray⟩) := by rw [Hbr.out.cell (p := ⟨C, k * 2 + 1, none⟩) lC, Hm.out.oc.cellAt _ (by omega)]; exact q2
      have HWk := hid hWk
      clear q1 q2 hWk
      by_cases hni : n1 = i
      · have hz : ((n1 : Int) == (i : Int)) = true := by simp [hni]
        have Hni := hid hni
        clear hni
        go_wp2
        go_roundw
        case rel =>
          refine ⟨k + 1, by omega, by go_num, ?_, Hbr.out⟩
          rw [take_snoc' _ _ _ HWk.out, getW_snoc, if_pos Hni.out]
        case measure => simp [intOf]; omega
      · have hz : ((n1 : Int) == (i : Int)) = false := by simp; omega
        have Hni := hid hni
        clear hni
        go_wp2
        go_roundw
        case rel =>
          refine ⟨k + 1, by omega, by go_num, ?_, Hbr.out⟩
          rw [take_snoc' _ _ _ HWk.out, getW_snoc, if_neg Hni.out]
        case measure => simp [intOf]; omega
    · have Hk : Hid (k = m.W.length) := hid (by omega)
      have hbr' := Hb.out.below Hbr.out lR
      obtain ⟨_, _, _, _, r4⟩ := blk5 hbr'
      have rf4 := hbr'.frozen 4
      have Hbr' := hid hbr'
      clear hbr'
      go_wp2
      go_ret2
      have hR := h.below Hbr.out
      refine ⟨?_, hR.fields (Hm.out.chg (Chg.of_below Hbr.out) (S := fun _ => False) fun _ _ h => h.elim) Hbr'.out (chg_set R 4 _) (f := m.fuse) (d := m.dead) (Hbr'.out.set_ 4 _) h.f1 h.f2, (Chg.of_below Hbr.out).trans (chg_set R 4 _)⟩
      have := Hk.out
      subst this
      rw [List.take_length]
      rfl
end Go.Proofs.Ytjmcjbmnggecgaa
