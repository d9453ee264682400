/- 'awake' of the device's laws. -/
import Derived.Test.YtjmcjbmnggecgaaDevY
namespace Go.Proofs.Ytjmcjbmnggecgaa
open Go.RowKit
set_option maxRecDepth 100000

theorem Rd.of_blk {w : World} {g n : Nat} {t : TypeId} {xs : List Value} (h : Blk w g t xs.toArray) (hn : xs.length = n) : Rd w 1 (some ⟨g, 0, none⟩) n xs :=
  ⟨by omega, fun _ => ⟨_, rfl, h.lt, fun j u hu => by rw [Addr.add_lit, Nat.zero_add, h.cell]; simpa using hu⟩⟩

set_option maxHeartbeats 1600000 in
theorem awake_any (w : World) : Calls Try.prog 18 #[] w fun e w' => e = .returned (.bool true) ∧ Below w.heap.size w w' := by
  go_enter Try.func18, Try.ntmps18
  go_wp2_with fail
  refine (new_ok 4 _ (by omega) (by omega)).mono ?_
  rintro e w1 ⟨D, F, G, rfl, hd, hF, hb1⟩
  have lD := hd.lt D hd.own
  have bD := hF D (.inl hd.own)
  have Hd := hid hd
  have HF := hid hF
  have hs1 := hb1.size
  clear hd hF
  go_wp2_with fail
  refine (sector_any 1 7 _).mono ?_
  rintro e w2 ⟨g, rfl, hg, hblk, hb2⟩
  have Hblk := hid hblk
  have hs2 := hb2.size
  clear hblk
  go_wp2_with fail
  refine (write_ok D F G (MDev.new 4) w2 (Hd.out.below hb2) 1 _ _ (sector 1 7) rfl (by decide) (by decide) (Rd.of_blk Hblk.out (by simp [length_u8s, length_sector])) (by rintro ad h rfl; injection h with h; subst h; exact absurd lD (by simp; omega)) (by decide)).mono ?_
  rintro e w3 ⟨rfl, F3, G3, hd3, hF3, hG3, hc3⟩
  have Hd3 : Hid (∃ m3, DevAt w3 D F3 G3 m3 ∧ m3.W.length = 1 ∧ m3.l.length = 4 ∧ m3.calls = 1 ∧ m3.dead = false ∧ applyK m3.l m3.W [] m3.W.length = List.replicate 4 zeros) := hid ⟨_, hd3, rfl, rfl, by simp [MDev.lit, MDev.new, wrap64], rfl, rfl⟩
  obtain ⟨m3, q1, q2, q3, q4, q5, q6⟩ := Hd3.out
  have Q1 := hid q1
  have Q2 := hid q2
  have Q3 := hid q3
  have Q4 := hid q4
  have Q5 := hid q5
  have Q6 := hid q6
  have hs3 := hc3.size
  have HF3 : Hid (∀ i, F3 i → w.heap.size ≤ i) := hid (fun i hi => (hF3 i hi).elim (fun h => HF.out i (.inl h)) (fun h => by omega))
  have HB3 : Hid (Below w.heap.size w w3) := hid ((hb1.trans (hb2.mono hs1)).trans (hc3.below (by omega) (fun i hi => HF.out i (.inl hi))))
  clear hd3 hF3 hG3 hc3 hb1 hb2 q1 q2 q3 q4 q5 q6 Hd3 Hd HF Hblk
  go_wp2_with fail
  refine (pending_any D F3 G3 m3 _ Q1.out).mono ?_
  rintro e w' ⟨rfl, rfl⟩
  rw [Q2.out]
  go_wp2_with fail
  refine (crash_any D F3 G3 m3 _ Q1.out (by rw [Q2.out]; omega) none 0 [] Rd.none_ (fun h => absurd h (by simp)) (by simp)).mono ?_
  rintro e w4 ⟨rfl, hd4, hc4⟩
  rw [Q6.out] at hd4
  have Hd4 := hid hd4
  have hs4 := hc4.size
  have HB4 : Hid (Below w.heap.size w w4) := hid (HB3.out.trans (hc4.below (by omega) HF3.out))
  clear hd4 hc4
  go_wp2_with fail
  refine (read_ok D F3 G3 _ w4 Hd4.out 1 rfl (by simp) (by simp)).mono ?_
  rintro e w5 ⟨g5, rfl, hg5, hblk5, hd5, hc5⟩
  have e5 : MDev.get { l := List.replicate 4 zeros, W := [], fuse := -1, dead := false, calls := m3.calls } 1 = zeros := rfl
  rw [e5] at hblk5
  have r5 : w5.cell? ⟨g5, 0, none⟩ = some (.int .u8 0) := hblk5.cell_ 0 rfl
  have Hd5 := hid hd5
  have HB5 : Hid (Below w.heap.size w w5) := hid (HB4.out.trans (hc5.below (by omega) (by rintro i rfl; exact bD)))
  clear hd5 hc5 hblk5
  go_wp2_with (first | (go_at_call 28; refine (size_any D F3 G3 _ _ Hd5.out).mono ?_; rintro e w' ⟨rfl, rfl⟩) | (go_at_call 29; refine (calls_any D F3 G3 _ _ Hd5.out).mono ?_; rintro e w' ⟨rfl, rfl⟩; rw [show wrap64 (m3.calls + 1) = 2 from by rw [Q4.out]; simp [wrap64]]))
  go_ret
  exact ⟨rfl, HB5.out⟩
end Go.Proofs.Ytjmcjbmnggecgaa
