/- Copy of the document's own device. -/
import Derived.Test.YtjmcjbmnggecgaaRefC
namespace Go.Proofs.Ytjmcjbmnggecgaa
open Go.RowKit
set_option maxRecDepth 100000
attribute [local go_sem ↓] Go.wp_at_zero Go.wp_at_succ

theorem rcopy_close {w w2 w3 : World} {F : Nat → Prop} {R : Nat} {m : MDev} {A1 A2 : Option Addr} {c1 c2 : Nat} (h : RefAt w R F m)
    (hown1 : w2.ownsRow (w.heap.size + 1) 9 1 (.slice A1 m.l.length c1) m.l.length (strs m.l)) (hb1 : Below (w.heap.size + 1) (w.alloc (.cells #[.slice none 0 0, .slice none 0 0, .int .i64 m.fuse, .bool m.dead, .int .i64 m.calls] 53)) w2)
    (hown2 : w3.ownsRow w2.heap.size 76 2 (.slice A2 m.W.length c2) m.W.length (wrs m.W)) (hb2 : Below w2.heap.size (w2.setCell ⟨w.heap.size, 0, none⟩ (.slice A1 m.l.length c1)) w3) :
    ∃ R' F', Ending.returned (.pointer (some ⟨w.heap.size, 0, none⟩)) = Ending.returned (.pointer (some ⟨R', 0, none⟩)) ∧ RefAt (w3.setCell ⟨w.heap.size, 1, none⟩ (.slice A2 m.W.length c2)) R' F' m ∧ (∀ i, F' i → w.heap.size ≤ i) ∧ Below w.heap.size w (w3.setCell ⟨w.heap.size, 1, none⟩ (.slice A2 m.W.length c2)) := by
  have hs1 : w.heap.size + 1 ≤ w2.heap.size := by simpa using hb1.size
  have hs2 : w2.heap.size ≤ w3.heap.size := by simpa [World.setCell] using hb2.size
  have hN2 : Blk w2 w.heap.size 53 _ := (Blk.new w 53 _).below hb1 (by simp)
  have hN3 : Blk w3 w.heap.size 53 _ := (hN2.set_ 0 (.slice A1 m.l.length c1)).below hb2 (by omega)
  have hN := hN3.set_ 1 (.slice A2 m.W.length c2)
  have hB2 : Below w.heap.size w w2 := ((Below.refl _ w).alloc (Nat.le_refl _) _).trans (hb1.mono (by omega))
  have hB3 : Below w.heap.size w w3 := (hB2.setCell (p := ⟨w.heap.size, 0, none⟩) (Nat.le_refl _) _).trans (hb2.mono (by omega))
  have hB := hB3.setCell (p := ⟨w.heap.size, 1, none⟩) (Nat.le_refl _) (.slice A2 m.W.length c2)
  have hsz : (w3.setCell ⟨w.heap.size, 1, none⟩ (.slice A2 m.W.length c2)).heap.size = w3.heap.size := by simp [World.setCell]
  have k1 : Chg (· = w.heap.size) w2 w3 := ((chg_set w.heap.size 0 _).trans' (Chg.of_below' hb2) (fun i hi hle => by omega))
  have k2 : Chg (· = w.heap.size) w3 (w3.setCell ⟨w.heap.size, 1, none⟩ (.slice A2 m.W.length c2)) := chg_set _ _ _
  have a1 := own_chg (own_chg hown1 k1 (fun g hg e => by have := (hown1.lt g hg).1; omega)) k2 (fun g hg e => by have := (hown1.lt g hg).1; omega)
  have a2 := own_chg hown2 k2 (fun g hg e => by have := (hown2.lt g hg).1; omega)
  refine ⟨w.heap.size, fun i => w.heap.size ≤ i ∧ i < w3.heap.size, rfl, ⟨⟨Nat.le_refl _, by omega⟩, fun i hi => by rw [hsz]; exact hi.2, h.n1, h.n2, h.f1, h.f2, h.wi, _, _, hN, ?_⟩, fun i hi => hi.1, hB⟩
  refine ⟨⟨a1.1, a1.2.imp id fun ⟨g, cap, cur, a, _, b⟩ => ⟨g, cap, cur, a, Nat.zero_le _, b⟩⟩, fun g hg => ?_, ⟨a2.1, a2.2.imp id fun ⟨g, cap, cur, a, _, b⟩ => ⟨g, cap, cur, a, Nat.zero_le _, b⟩⟩, fun g hg => ?_⟩
  · have := hown1.lt g hg; omega
  · have := hown2.lt g hg; omega

set_option maxHeartbeats 1600000 in
theorem rcopy_any (R : Nat) (F : Nat → Prop) (m : MDev) (w : World) (h : RefAt w R F m) (hW : m.W.length ≤ 1000000) :
    Calls Try.prog 27 #[.pointer (some ⟨R, 0, none⟩)] w fun e w' => ∃ R' F', e = .returned (.pointer (some ⟨R', 0, none⟩)) ∧ RefAt w' R' F' m ∧ (∀ i, F' i → w.heap.size ≤ i) ∧ Below w.heap.size w w' := by
  obtain ⟨i9, hi, hz0, hz1, hz2⟩ := info_parts info9
  obtain ⟨i76, gi, gz0, gz1, gz2⟩ := info_parts info76
  obtain ⟨lv, cv, hb, hm⟩ := h.mem
  obtain ⟨LA, lc, rfl, _⟩ := own_form hm.ol
  obtain ⟨CA, cc, rfl, _⟩ := own_form hm.oc
  obtain ⟨c0, c1, c2, c3, c4⟩ := blk5 hb
  have hn := h.n2
  have lR := hb.lt
  have Hm := hid hm
  have hN := Blk.new w 53 #[.slice none 0 0, .slice none 0 0, .int .i64 m.fuse, .bool m.dead, .int .i64 m.calls]
  obtain ⟨n0, n1, _, _, _⟩ := blk5 hN
  have nf0 := hN.frozen 0
  have Hl : Hid (Rd (w.alloc (.cells #[.slice none 0 0, .slice none 0 0, .int .i64 m.fuse, .bool m.dead, .int .i64 m.calls] 53)) 1 LA m.l.length (strs m.l)) := hid ((Rd.of_own hm.ol).keep (by simp) fun _ _ h => Below.heap_alloc _ _ _ h)
  have HN := hid hN
  have Hb := hid hb
  clear hb hm hN
  go_enter Try.func27, Try.ntmps27
  go_wp2_with fail
  go_region
  go_wp2_with fail
  go_region_law
    (first
      | ((refine step_append_any _ (by rfl) _ _ _ (by rfl) (w.heap.size + 1) 9 i9 _ 1 16 Try.underlying50 hi hz0 hz1 hz2 rfl (by omega) _ 0 [] (by rfl) (World.ownsRow_nil _ _ _ _) LA m.l.length lc (strs m.l) (by rfl) Hl.out (strs_one _) (by unfold maxLen; omega) (by omega) (by simp) ?_); intro v2 w2 hown1' hg1 hat1; have hown1 : w2.ownsRow (w.heap.size + 1) 9 1 v2 m.l.length (strs m.l) := (by simpa using hown1'); obtain ⟨A1, q1, rfl, _⟩ := own_form hown1; have hb1 : Below (w.heap.size + 1) (w.alloc (.cells #[.slice none 0 0, .slice none 0 0, .int .i64 m.fuse, .bool m.dead, .int .i64 m.calls] 53)) w2 := ⟨hg1.os, hg1.tape, hg1.output, hg1.size, fun k hk => hg1.block k (by simp; omega) (by simp [Value.ownBlock])⟩; have e0 := (hb1.cell (p := ⟨w.heap.size, 0, none⟩) (by simp)).trans n0; have g0 : w2.frozen? ⟨w.heap.size, 0, none⟩ = false := (HN.out.below hb1 (by omega)).frozen 0)
      | go_simp)
  all_goals
    have hB2 : Below w.heap.size w w2 := ((Below.refl _ w).alloc (Nat.le_refl _) _).trans (hb1.mono (by omega))
    have lR2 : R < w2.heap.size := Nat.lt_of_lt_of_le lR hB2.size
    have hb2 : Blk w2 R 53 _ := Hb.out.below hB2 lR
    have hN2 := (HN.out.below hb1 (by omega)).set_ 0 (.slice A1 m.l.length q1)
    have s2 : w.heap.size + 1 ≤ w2.heap.size := by simpa using hb1.size
    have hR2 := hb2.far (p := ⟨w.heap.size, 0, none⟩) (by simp; omega) (.slice A1 m.l.length q1)
    obtain ⟨_, r1, _, _, _⟩ := blk5 hR2
    obtain ⟨_, p1, _, _, _⟩ := blk5 hN2
    have p1f := hN2.frozen 1
    have HN2 := hid hN2
    have HR2 := hid hR2
    have Hown1 := hid hown1
    have Hb1 := hid hb1
    have HB2 := hid hB2
    have hB3 : Below w.heap.size w (w2.setCell ⟨w.heap.size, 0, none⟩ (.slice A1 m.l.length q1)) := hB2.setCell (p := ⟨w.heap.size, 0, none⟩) (Nat.le_refl _) _
    have Hc : Hid (Rd (w2.setCell ⟨w.heap.size, 0, none⟩ (.slice A1 m.l.length q1)) 2 CA m.W.length (wrs m.W)) := hid ((Rd.of_own Hm.out.oc).keep hB3.size fun ad e hl => hB3.block _ hl)
    have sz2 : w2.heap.size = (w2.setCell ⟨w.heap.size, 0, none⟩ (.slice A1 m.l.length q1)).heap.size := by simp [World.setCell]
    have hsz2 : w2.heap.size ≤ (w2.setCell ⟨w.heap.size, 0, none⟩ (.slice A1 m.l.length q1)).heap.size := Nat.le_of_eq sz2
    have Hsz2 := hid sz2
    clear hown1 hown1' hb1 hB2 hB3 hN2 hR2 hb2 hg1 hat1 c0 c1 c2 c3 c4 n0 n1 nf0 e0 g0 sz2
    go_wp2_with fail
    go_region_law
      (first
        | ((refine step_append_any _ (by rfl) _ _ _ (by rfl) w2.heap.size 76 i76 _ 2 24 Try.underlying51 gi gz0 gz1 gz2 rfl (by omega) _ 0 [] (by rfl) (World.ownsRow_nil _ _ _ _) CA m.W.length cc (wrs m.W) (by rfl) Hc.out (wrs_one _) (by unfold maxLen; omega) (by omega) hsz2 ?_); intro v3 w3 hown3' hg3 hat3; have hown3 : w3.ownsRow w2.heap.size 76 2 v3 m.W.length (wrs m.W) := (by simpa using hown3'); obtain ⟨A3, q3, rfl, _⟩ := own_form hown3; have hb3 : Below w2.heap.size (w2.setCell ⟨w.heap.size, 0, none⟩ (.slice A1 m.l.length q1)) w3 := ⟨hg3.os, hg3.tape, hg3.output, hg3.size, fun k hk => hg3.block k (Nat.lt_of_lt_of_le hk hsz2) (by simp [Value.ownBlock])⟩; have e1 := (hb3.cell (p := ⟨w.heap.size, 1, none⟩) (by exact s2)).trans p1; have g1 : w3.frozen? ⟨w.heap.size, 1, none⟩ = false := (HN2.out.below hb3 (by exact s2)).frozen 1)
        | go_simp)
  all_goals go_wp2
  all_goals go_ret
  all_goals exact rcopy_close h Hown1.out Hb1.out hown3 hb3
end Go.Proofs.Ytjmcjbmnggecgaa
