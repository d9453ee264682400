/- The Ring laws' awake. No conditions. -/
import Derived.Test.YtjmcjbmnggecgaaRgL
namespace Go.Proofs.Ytjmcjbmnggecgaa
open Go.RowKit
set_option maxRecDepth 100000
set_option linter.unusedVariables false
set_option linter.unusedSimpArgs false
theorem make200 (W : World) : (Instr.makeSlice 30 (.int .i64 200) (.int .i64 200)).run Try.prog W = .ok (.slice (some ⟨W.heap.size, 0, none⟩) 200 200) (W.alloc (.cells (u8s (List.replicate 200 0)).toArray 5)) := by kernel_rfl
set_option maxHeartbeats 3200000 in
theorem rawake_any (w : World) : Calls Try.prog 30 #[] w fun e w' => e = .returned (.bool true) ∧ Below w.heap.size w w' := by
  obtain ⟨x, hx⟩ : ∃ x, x = List.replicate 200 (0 : UInt8) := ⟨_, rfl⟩
  have hxl : x.length = 200 := by rw [hx]; simp
  have hm := make200
  rw [← hx] at hm
  clear hx
  go_enter Try.func30, Try.ntmps30
  go_wp2_with fail
  refine (new_up 16 w (by omega) (by omega)).mono ?_
  rintro e w1 ⟨D, F, G, rfl, hu, hge, hb1⟩
  have HU := hid hu
  have HGE := hid hge
  have HB1 := hid hb1
  clear hu hge hb1
  go_wp2_with fail
  refine (rl_open (w := w) HU.out HGE.out HB1.out 8 4 0 (by omega) (by omega) (by simp) (by simp) [] (rinv_new 16 8 4 (by omega) (by omega)) (by omega)).mono ?_
  rintro e w2 ⟨R, B, rfl, hS, hB, hC⟩
  have HS := hid hS
  have hr1 := hid (room_any R D B _ w2 hS.mem hS.ok)
  have e354 : MRing.room ⟨8, 4, 0 / 118 * 118, ([] : List UInt8).drop (0 / 118 * 118), 0, ([] : List UInt8).length, false⟩ = 354 := rfl
  rw [e354] at hr1
  clear hS hB hC HU HB1
  go_wp2_with fail
  refine hr1.out.mono ?_
  rintro e w3 ⟨rfl, m3, rfl⟩
  have hbe3 : Below w2.heap.size w2 ((w2.drewN m3).alloc (.cells (u8s x).toArray 5)) := (below_drewN (Below.refl _ _) m3).alloc (Nat.le_refl _) _
  have HS3 := hid (HS.out.below hbe3)
  have hrd : Rd ((w2.drewN m3).alloc (.cells (u8s x).toArray 5)) 1 (some ⟨w2.heap.size, 0, none⟩) 200 (u8s x) := Rd.of_blk (Blk.new (w2.drewN m3) 5 _) (by rw [length_u8s, hxl])
  have hap := hid (rl_append HS3.out (some ⟨w2.heap.size, 0, none⟩) 200 200 x hrd hxl.symm (by rw [e354]; omega))
  clear hbe3 hrd hr1 HS
  go_wp2_with fail
  refine hap.out.mono ?_
  rintro e w4 ⟨rfl, B4, hS4, _, _⟩
  have hte : MRing.tail { (⟨8, 4, 0 / 118 * 118, ([] : List UInt8).drop (0 / 118 * 118), 0, ([] : List UInt8).length, false⟩ : MRing) with bytes := ([] : List UInt8).drop (0 / 118 * 118) ++ x } = 200 := by
    show 0 / 118 * 118 + (([] : List UInt8).drop (0 / 118 * 118) ++ x).length = 200
    simp [hxl]
  have hfl := hid (rl_flush hS4 x (by show ([] : List UInt8).drop (0 / 118 * 118) ++ x = x.drop (0 / 118 * 118); simp) (by rw [hte, hxl]))
  clear hS4 hap HS3
  go_wp2_with fail
  refine hfl.out.mono ?_
  rintro e w5 ⟨rfl, F5, G5, hS5, _, _, _⟩
  obtain ⟨q5, hq5⟩ : ∃ q5 : MRing, q5 = { ({ (⟨8, 4, 0 / 118 * 118, ([] : List UInt8).drop (0 / 118 * 118), 0, ([] : List UInt8).length, false⟩ : MRing) with bytes := ([] : List UInt8).drop (0 / 118 * 118) ++ x } : MRing) with fin := MRing.tail { (⟨8, 4, 0 / 118 * 118, ([] : List UInt8).drop (0 / 118 * 118), 0, ([] : List UInt8).length, false⟩ : MRing) with bytes := ([] : List UInt8).drop (0 / 118 * 118) ++ x } } := ⟨_, rfl⟩
  rw [← hq5] at hS5
  have hfin : q5.fin = 200 := by rw [hq5]; exact hte
  have htail : q5.tail = 200 := by rw [hq5]; exact hte
  have hst : q5.start = 0 := by rw [hq5]
  have hnn : q5.n = 4 := by rw [hq5]
  have hroom : q5.room = 154 := by unfold MRing.room; rw [htail, hst, hnn]
  have HS5 := hid hS5
  clear hfl hS5 hq5
  have h1 := hid (end_any R D B4 q5 w5 HS5.out.mem)
  rw [hfin] at h1
  go_wp2_with fail
  refine h1.out.mono ?_
  rintro e w6 ⟨rfl, hw6⟩
  subst hw6
  have h2 := hid (tail_any R D B4 q5 w6 HS5.out.mem (by omega))
  rw [htail] at h2
  go_wp2_with fail
  refine h2.out.mono ?_
  rintro e w7 ⟨rfl, m7, rfl⟩
  have h3 := hid (room_any R D B4 q5 _ (HS5.out.mem.drewN m7) HS5.out.ok)
  rw [hroom] at h3
  go_wp2_with fail
  refine h3.out.mono ?_
  rintro e w8 ⟨rfl, m8, rfl⟩
  have HS8 := hid (HS5.out.below (below_drewN (Below.refl _ _) (m7 + m8)))
  have h4 := hid (rl_trim HS8.out 118 (by omega) (by omega) (by omega))
  clear h1 h2 h3
  go_wp2_with fail
  refine h4.out.mono ?_
  rintro e w9 ⟨rfl, B9, hS9, _, _⟩
  obtain ⟨q9, hq9⟩ : ∃ q9 : MRing, q9 = { q5 with start := 118, base := 118 / 118 * 118, bytes := q5.bytes.drop (118 / 118 * 118 - q5.base) } := ⟨_, rfl⟩
  rw [← hq9] at hS9
  have hst9 : q9.start = 118 := by rw [hq9]
  have hn9 : q9.n = 4 := by rw [hq9]; exact hnn
  have ht9 : q9.tail = 200 := by
    rw [hq9]
    show 118 / 118 * 118 + (q5.bytes.drop (118 / 118 * 118 - q5.base)).length = 200
    have hb5 : q5.base = 0 := by have := HS5.out.ok.b; rw [hst] at this; exact this
    have : q5.bytes.length = 200 := by have h : q5.base + q5.bytes.length = 200 := htail; omega
    rw [List.length_drop, hb5]
    omega
  have hr9 : q9.room = 272 := by unfold MRing.room; rw [ht9, hst9, hn9]
  have HS9 := hid hS9
  clear h4 hS9 hq9
  have h5 := hid (start_any R D B9 q9 w9 HS9.out.mem)
  rw [hst9] at h5
  go_wp2_with fail
  refine h5.out.mono ?_
  rintro e w10 ⟨rfl, hw10⟩
  subst hw10
  have h6 := hid (room_any R D B9 q9 _ HS9.out.mem HS9.out.ok)
  rw [hr9] at h6
  go_wp2_with fail
  refine h6.out.mono ?_
  rintro e w11 ⟨rfl, m11, rfl⟩
  go_wp2
  go_ret
  exact ⟨rfl, HS9.out.be.trans ((below_drewN (Below.refl _ _) m11).mono HS9.out.be.size)⟩
end Go.Proofs.Ytjmcjbmnggecgaa
