/- Copy of the device. -/
import Derived.Test.YtjmcjbmnggecgaaDevM
namespace Go.Proofs.Ytjmcjbmnggecgaa
open Go.RowKit
set_option maxRecDepth 100000
attribute [local go_sem ↓] Go.wp_at_zero Go.wp_at_succ

theorem copy_close {D : Nat} {F G : Nat → Prop} {m : MDev} {w w2 w3 : World} {LA CA A2 : Option Addr} {lc cc g1 cap1 cap2 : Nat} {ls ws : List Value} (h : DevAt w D F G m)
    (hm : DevMem w F G m.l m.W (.slice LA m.l.length lc) (.slice CA m.W.length cc) ls ws)
    (hown1 : w2.ownsRow (w.heap.size + 1) 30 1 (.slice (some ⟨g1, 0, none⟩) m.l.length cap1) m.l.length ls) (hb1 : Below (w.heap.size + 1) (w.alloc (.cells #[.slice LA m.l.length lc, .slice CA m.W.length cc, .int .i64 m.fuse, .bool m.dead, .int .i64 m.calls] 70)) w2)
    (hown2 : w3.ownsRow w2.heap.size 73 2 (.slice A2 m.W.length cap2) m.W.length ws) (hb2 : Below w2.heap.size w2 w3) :
    ∃ D' F', Ending.returned (.pointer (some ⟨w.heap.size, 0, none⟩)) = Ending.returned (.pointer (some ⟨D', 0, none⟩)) ∧
      DevAt ((w3.setCell ⟨w.heap.size, 0, none⟩ (.slice (some ⟨g1, 0, none⟩) m.l.length cap1)).setCell ⟨w.heap.size, 1, none⟩ (.slice A2 m.W.length cap2)) D' F' G m ∧ (∀ i, F' i → w.heap.size ≤ i) ∧
      Below w.heap.size w ((w3.setCell ⟨w.heap.size, 0, none⟩ (.slice (some ⟨g1, 0, none⟩) m.l.length cap1)).setCell ⟨w.heap.size, 1, none⟩ (.slice A2 m.W.length cap2)) := by
  have hs1 : w.heap.size + 1 ≤ w2.heap.size := by simpa using hb1.size
  have hs2 := hb2.size
  have hN : Blk w3 w.heap.size 70 _ := ((Blk.new w 70 _).below hb1 (by simp)).below hb2 (by omega)
  have hN' := (hN.set_ 0 (.slice (some ⟨g1, 0, none⟩) m.l.length cap1)).set_ 1 (.slice A2 m.W.length cap2)
  have hB3 : Below w.heap.size w w3 := (((Below.refl _ w).alloc (Nat.le_refl _) _).trans (hb1.mono (by omega))).trans (hb2.mono (by omega))
  have hB : Below w.heap.size w ((w3.setCell ⟨w.heap.size, 0, none⟩ (.slice (some ⟨g1, 0, none⟩) m.l.length cap1)).setCell ⟨w.heap.size, 1, none⟩ (.slice A2 m.W.length cap2)) :=
    (hB3.setCell (p := ⟨w.heap.size, 0, none⟩) (Nat.le_refl _) _).setCell (p := ⟨w.heap.size, 1, none⟩) (Nat.le_refl _) _
  have hc3 : Chg (· = w.heap.size) w3 ((w3.setCell ⟨w.heap.size, 0, none⟩ (.slice (some ⟨g1, 0, none⟩) m.l.length cap1)).setCell ⟨w.heap.size, 1, none⟩ (.slice A2 m.W.length cap2)) := chg_set2 _ _ _ _ _
  have hsz : ((w3.setCell ⟨w.heap.size, 0, none⟩ (.slice (some ⟨g1, 0, none⟩) m.l.length cap1)).setCell ⟨w.heap.size, 1, none⟩ (.slice A2 m.W.length cap2)).heap.size = w3.heap.size := by simp [World.setCell]
  have hG : ∀ i, G i → i < w.heap.size := h.lg
  refine ⟨w.heap.size, fun i => w.heap.size ≤ i ∧ i < w3.heap.size, rfl, ⟨⟨Nat.le_refl _, by omega⟩, fun i hi => by rw [hsz]; exact hi.2, fun i hi => by rw [hsz]; have := hG i hi; omega, h.n1, h.n2, h.f1, h.f2, h.wi,
    .slice (some ⟨g1, 0, none⟩) m.l.length cap1, .slice A2 m.W.length cap2, ls, ws, hN', ?_⟩, fun i hi => hi.1, hB⟩
  have k1 : w3.ownsRow (w.heap.size + 1) 30 1 (.slice (some ⟨g1, 0, none⟩) m.l.length cap1) m.l.length ls := own_chg hown1 (Chg.of_below hb2) (S := fun _ => False) (fun _ _ h => h)
  have hnew : ∀ (base : Nat) (e : TypeId) (size : Nat) (v : Value) (n : Nat) (xs : List Value), w.heap.size + 1 ≤ base → w3.ownsRow base e size v n xs →
      ((w3.setCell ⟨w.heap.size, 0, none⟩ (.slice (some ⟨g1, 0, none⟩) m.l.length cap1)).setCell ⟨w.heap.size, 1, none⟩ (.slice A2 m.W.length cap2)).ownsRow 0 e size v n xs ∧ ∀ g, v.ownBlock = some g → w.heap.size ≤ g ∧ g < w3.heap.size := by
    intro base e size v n xs hbs ho
    have hlt := ho.lt
    have h1 := own_chg ho hc3 (fun g hg e => by have := hlt g hg; omega)
    refine ⟨⟨h1.1, h1.2.imp id fun ⟨g, cap, cur, a, _, b⟩ => ⟨g, cap, cur, a, Nat.zero_le _, b⟩⟩, fun g hg => ?_⟩
    have := hlt g hg
    omega
  obtain ⟨a1, a2⟩ := hnew _ _ _ _ _ _ (Nat.le_refl _) k1
  obtain ⟨b1, b2⟩ := hnew _ _ _ _ _ _ hs1 hown2
  have hk : Chg (fun i => w.heap.size ≤ i) w _ := Chg.of_below' hB
  have h5 : ∀ i, G i → w.heap.size ≤ i → ∃ t cs, t ≠ 5 ∧ Blk w i t cs := fun i hi hle => by have := hG i hi; omega
  exact ⟨a1, a2, b1, b2, fun i bs hbs => by obtain ⟨v, hv, hs⟩ := hm.sl i bs hbs; exact ⟨v, hv, hs.chg hk h5⟩, fun i e he => by obtain ⟨hq, v, hv, hs⟩ := hm.sc i e he; exact ⟨hq, v, hv, hs.chg hk h5⟩⟩

set_option maxHeartbeats 1600000 in
theorem copy_any (D : Nat) (F G : Nat → Prop) (m : MDev) (w : World) (h : DevAt w D F G m) (hW : m.W.length ≤ 1000000) :
    Calls Try.prog 26 #[.pointer (some ⟨D, 0, none⟩)] w fun e w' => ∃ D' F', e = .returned (.pointer (some ⟨D', 0, none⟩)) ∧ DevAt w' D' F' G m ∧ (∀ i, F' i → w.heap.size ≤ i) ∧ Below w.heap.size w w' := by
  obtain ⟨lv, cv, ls, ws, hb, hm⟩ := h.mem
  obtain ⟨LA, lc, rfl, hrl⟩ := own_form hm.ol
  obtain ⟨CA, cc, rfl, hrc⟩ := own_form hm.oc
  have nl := h.n1
  obtain ⟨c0, c1, c2, c3, c4⟩ := blk5 hb
  have lD := hb.lt
  have hnl := h.n2
  have h1l : Hid (∀ u ∈ ls, u.oneCell' = true) := hid (by
    intro u hu
    obtain ⟨i, hi, rfl⟩ := List.mem_iff_getElem.1 hu
    have hls := hm.ol.1
    obtain ⟨v, hv, hs⟩ := hm.sl i _ (List.getElem?_eq_getElem (by omega))
    rw [List.getElem?_eq_getElem hi] at hv
    injection hv with hv
    rw [hv]
    rcases hs with ⟨rfl, _⟩ | ⟨_, g, c, _, rfl, _⟩ <;> rfl)
  have h1c : Hid (∀ u ∈ ws, u.oneCell' = true) := hid (by
    intro u hu
    obtain ⟨i, hi, rfl⟩ := List.mem_iff_getElem.1 hu
    have hls := hm.oc.1
    obtain ⟨hq, v, hv, hs⟩ := hm.sc (i / 2) _ (List.getElem?_eq_getElem (by omega))
    rcases Nat.mod_two_eq_zero_or_one i with he | he
    · rw [show i / 2 * 2 = i by omega, List.getElem?_eq_getElem hi] at hq
      injection hq with hq
      rw [hq]; rfl
    · rw [show i / 2 * 2 + 1 = i by omega, List.getElem?_eq_getElem hi] at hv
      injection hv with hv
      rw [hv]
      obtain ⟨_, g, c, _, rfl, _⟩ := hs
      rfl)
  have Hrl := hid hrl
  have Hm := hid hm
  have nND : w.heap.size ≠ D := by omega
  clear hb hm hrl hrc
  go_enter Try.func26, Try.ntmps26
  go_wp2_with fail
  go_region_held3 (fun w' => w'.cell? ⟨D, 0, none⟩ = some (.slice LA m.l.length lc) ∧ w'.cell? ⟨D, 1, none⟩ = some (.slice CA m.W.length cc))
    (first
      | go_keep
      | (exact ⟨(hb1.cell (p := ⟨D, 0, none⟩) (by simp; omega)).trans ((World.cell?_alloc_past _ _ _ lD).trans c0), (hb1.cell (p := ⟨D, 1, none⟩) (by simp; omega)).trans ((World.cell?_alloc_past _ _ _ lD).trans c1)⟩)
      | (exact ⟨(hb2.cell (p := ⟨D, 0, none⟩) (by show D < w2.heap.size; omega)).trans ((hb1.cell (p := ⟨D, 0, none⟩) (by simp; omega)).trans ((World.cell?_alloc_past _ _ _ lD).trans c0)), (hb2.cell (p := ⟨D, 1, none⟩) (by show D < w2.heap.size; omega)).trans ((hb1.cell (p := ⟨D, 1, none⟩) (by simp; omega)).trans ((World.cell?_alloc_past _ _ _ lD).trans c1))⟩))
    (first
      | (go_at_call 43
         refine (clone_rows LA m.l.length lc ls _ (by omega) (by omega) (by exact Hrl.out.keep (by simp) fun _ _ h => Below.heap_alloc _ _ _ h) h1l.out).mono ?_
         rintro e w2 ⟨g1, cap1, rfl, hown1, hb1'⟩
         have hb1 := below_of_drew hb1'
         have hs1 := hb1.size
         have hs1' : w.heap.size + 1 ≤ w2.heap.size := by simpa using hs1)
      | (go_at_call 44
         refine (clone_cache CA m.W.length cc ws _ hW (by exact own_chg (own_chg Hm.out.oc ((Chg.refl (fun _ => False) w).alloc _) (fun _ _ h => h)) (Chg.of_below hb1) (S := fun _ => False) (fun _ _ h => h)) h1c.out).mono ?_
         rintro e w3 ⟨A2, cap2, rfl, hown2, hb2⟩
         have hs2 := hb2.size
         have hN2 : Blk w3 w.heap.size 70 _ := ((Blk.new w 70 _).below hb1 (by simp)).below hb2 (by omega)
         obtain ⟨n0, n1, n2, n3, n4⟩ := blk5 hN2
         have nf0 := hN2.frozen 0
         have nf1 := hN2.frozen 1))
  go_wp2
  go_ret
  exact copy_close h Hm.out (by simpa using hown1) (by simpa using hb1) hown2 hb2
end Go.Proofs.Ytjmcjbmnggecgaa
