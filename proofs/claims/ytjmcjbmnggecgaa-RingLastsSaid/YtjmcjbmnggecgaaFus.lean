/- DevFuses: the walk. -/
import Derived.Test.YtjmcjbmnggecgaaDevU
import Derived.Test.YtjmcjbmnggecgaaLaw
namespace Go.Proofs.Ytjmcjbmnggecgaa
open Go.RowKit
set_option maxRecDepth 100000
set_option linter.unusedSimpArgs false

theorem arg_bool' {w : World} {A : Option Addr} {ks : List Bool} {k : Nat} (h : Rd w 1 A ks.length (bls ks)) (hk : k < ks.length) : ∃ b o, A = some ⟨b, o, none⟩ ∧ b < w.heap.size ∧ w.cell? ⟨b, o + k, none⟩ = some (.bool (ks.getD k false)) := by
  obtain ⟨b, o, rfl, hb, hc⟩ := h.lit (by omega)
  exact ⟨b, o, rfl, hb, hc k _ (by simp [bls, hk])⟩

structure L0 (w wr : World) (D : Nat) (m : MDev) (F G : Nat → Prop) : Prop where
  at_ : DevAt wr D F G m
  ge : ∀ i, F i ∨ G i → w.heap.size ≤ i
  be : Below w.heap.size w wr
theorem L0.below {w wr w' : World} {D : Nat} {m : MDev} {F G : Nat → Prop} (h : L0 w wr D m F G) (hb : Below wr.heap.size wr w') : L0 w w' D m F G :=
  ⟨h.at_.below hb, h.ge, h.be.trans (hb.mono h.be.size)⟩
theorem L0.step {w wr w' : World} {D : Nat} {m m' : MDev} {F G F' G' : Nat → Prop} (h : L0 w wr D m F G) (hu : DevAt w' D F' G' m')
    (hF : ∀ i, F' i → F i ∨ wr.heap.size ≤ i) (hG : ∀ i, G' i → G i ∨ wr.heap.size ≤ i) (hc : Chg F wr w') : L0 w w' D m' F' G' := by
  have hs := h.be.size
  exact ⟨hu, fun i hi => by
      rcases hi with hi | hi
      · rcases hF i hi with hi | hi
        · exact h.ge i (.inl hi)
        · omega
      · rcases hG i hi with hi | hi
        · exact h.ge i (.inr hi)
        · omega, h.be.trans (hc.below hs (fun i hi => h.ge i (.inl hi)))⟩
theorem L0.step' {w wr w' : World} {D : Nat} {m m' : MDev} {F G : Nat → Prop} (h : L0 w wr D m F G) (hu : DevAt w' D F G m') (hc : Chg F wr w') : L0 w w' D m' F G := h.step hu (fun _ h => .inl h) (fun _ h => .inl h) hc
theorem L0.stepD {w wr w' : World} {D : Nat} {m m' : MDev} {F G : Nat → Prop} (h : L0 w wr D m F G) (hu : DevAt w' D F G m') (hc : Chg (· = D) wr w') : L0 w w' D m' F G := h.step' hu (hc.mono (by rintro i _ rfl; exact h.at_.own))

theorem sync_dead (D : Nat) (F G : Nat → Prop) (m : MDev) (w : World) (h : DevAt w D F G m) (hd : m.dead = true) :
    Calls Try.prog 14 #[.pointer (some ⟨D, 0, none⟩)] w fun e w' => e = .returned (.int .i64 50) ∧ w = w' := by
  obtain ⟨lv, cv, ls, ws, hb, hm⟩ := h.mem
  obtain ⟨_, _, _, c3, _⟩ := blk5 hb
  rw [hd] at c3
  clear hb hd
  go_enter Try.func14, Try.ntmps14
  go_wp2
  go_ret
  exact ⟨rfl, rfl⟩
theorem sync_fuse (D : Nat) (F G : Nat → Prop) (m : MDev) (w : World) (h : DevAt w D F G m) (hd : m.dead = false) (hf : m.fuse = 0) :
    Calls Try.prog 14 #[.pointer (some ⟨D, 0, none⟩)] w fun e w' => e = .returned (.int .i64 50) ∧ DevAt w' D F G { m with dead := true } ∧ Chg (· = D) w w' := by
  obtain ⟨lv, cv, ls, ws, hb, hm⟩ := h.mem
  obtain ⟨_, _, _, c3, _⟩ := blk5 hb
  rw [hd] at c3
  have Hf := hid hf
  clear hb hd hf
  go_enter Try.func14, Try.ntmps14
  go_wp2_with fail
  refine (burn_no D F G m w h Hf.out).mono ?_
  rintro e w1 ⟨rfl, hq1, hq2⟩
  have H1 := hid hq1
  have H2 := hid hq2
  clear hq1 hq2
  go_wp2
  go_ret
  exact ⟨rfl, H1.out, H2.out⟩

/-- the device behind k calls: fz is the fuse that was told -/
def FSt (fz : Int) (k : Nat) (m : MDev) : Prop :=
  m.l.length = 8 ∧ m.W.length ≤ k ∧ ((fz < 0 ∧ m.dead = false ∧ m.fuse = -1) ∨ (0 ≤ fz ∧ (k : Int) ≤ fz ∧ m.dead = false ∧ m.fuse = fz - k) ∨ (0 ≤ fz ∧ fz < (k : Int) ∧ m.dead = true))

/-- a call of the device: it goes well just where the fuse lets it -/
def FOk (fz : Int) (k : Nat) (x : Int) (m : MDev) : Prop := FSt fz (k + 1) m ∧ ((x = 0 ∧ m.dead = false ∧ (fz < 0 ∨ (0 ≤ fz ∧ (k : Int) < fz))) ∨ (x = 50 ∧ m.dead = true ∧ 0 ≤ fz ∧ fz ≤ (k : Int)))

theorem f_sync (fz : Int) (k : Nat) (hk : k ≤ 60) (w wr : World) (D : Nat) (m : MDev) (F G : Nat → Prop) (h : L0 w wr D m F G) (hs : FSt fz k m) :
    Calls Try.prog 14 #[.pointer (some ⟨D, 0, none⟩)] wr fun e w' => ∃ x m' F' G', e = .returned (.int .i64 x) ∧ L0 w w' D m' F' G' ∧ FOk fz k x m' := by
  obtain ⟨h1, h2, h3 | ⟨h3, h4, h5, h6⟩ | ⟨h3, h4, h5⟩⟩ := hs
  · obtain ⟨h3, h5, h6⟩ := h3
    refine (sync_ok D F G m wr h.at_ h5 (by rw [h6]; decide) (by omega)).mono ?_
    rintro e w' ⟨rfl, ha, hc⟩
    exact ⟨0, _, F, G, rfl, h.step' ha hc, ⟨by simp [applyW_length, h1], by simp, .inl ⟨h3, h5, by simp [MDev.lit, h6]⟩⟩, .inl ⟨rfl, h5, .inl h3⟩⟩
  · by_cases hz : m.fuse = 0
    · refine (sync_fuse D F G m wr h.at_ h5 hz).mono ?_
      rintro e w' ⟨rfl, ha, hc⟩
      exact ⟨50, _, F, G, rfl, h.stepD ha hc, ⟨h1, by show m.W.length ≤ k + 1; omega, .inr (.inr ⟨h3, by omega, rfl⟩)⟩, .inr ⟨rfl, rfl, h3, by omega⟩⟩
    · refine (sync_ok D F G m wr h.at_ h5 hz (by omega)).mono ?_
      rintro e w' ⟨rfl, ha, hc⟩
      exact ⟨0, _, F, G, rfl, h.step' ha hc, ⟨by simp [applyW_length, h1], by simp, .inr (.inl ⟨h3, by omega, h5, by simp [MDev.lit, h6]; omega⟩)⟩, .inl ⟨rfl, h5, .inr ⟨h3, by omega⟩⟩⟩
  · refine (sync_dead D F G m wr h.at_ h5).mono ?_
    rintro e w' ⟨rfl, rfl⟩
    exact ⟨50, m, F, G, rfl, h, ⟨h1, by omega, .inr (.inr ⟨h3, by omega, h5⟩)⟩, .inr ⟨rfl, h5, h3, by omega⟩⟩

theorem f_write (fz : Int) (k : Nat) (hk : k ≤ 60) (w wr : World) (D : Nat) (m : MDev) (F G : Nat → Prop) (h : L0 w wr D m F G) (hs : FSt fz k m) (i : Nat) (hi : i < 8) (A : Option Addr) (c : Nat) (bs : List UInt8) (hr : Rd wr 1 A 128 (u8s bs)) (hA : ∀ ad, A = some ad → ¬ ad.block = D) :
    Calls Try.prog 12 #[.pointer (some ⟨D, 0, none⟩), .int .i64 i, .slice A 128 c] wr fun e w' => ∃ x m' F' G', e = .returned (.int .i64 x) ∧ L0 w w' D m' F' G' ∧ FOk fz k x m' := by
  obtain ⟨h1, h2, h3 | ⟨h3, h4, h5, h6⟩ | ⟨h3, h4, h5⟩⟩ := hs
  · obtain ⟨h3, h5, h6⟩ := h3
    refine (write_ok D F G m wr h.at_ i A c bs h5 (by omega) (by rw [h6]; decide) hr hA (by omega)).mono ?_
    rintro e w' ⟨rfl, F', G', ha, hF, hG, hc⟩
    exact ⟨0, _, F', G', rfl, h.step ha hF hG hc, ⟨h1, by simp; omega, .inl ⟨h3, h5, by simp [MDev.lit, h6]⟩⟩, .inl ⟨rfl, h5, .inl h3⟩⟩
  · by_cases hz : m.fuse = 0
    · refine (write_fuse D F G m wr h.at_ (i : Int) A c h5 (by omega) (by omega) hz).mono ?_
      rintro e w' ⟨rfl, ha, hc⟩
      exact ⟨50, _, F, G, rfl, h.stepD ha hc, ⟨h1, by show m.W.length ≤ k + 1; omega, .inr (.inr ⟨h3, by omega, rfl⟩)⟩, .inr ⟨rfl, rfl, h3, by omega⟩⟩
    · refine (write_ok D F G m wr h.at_ i A c bs h5 (by omega) hz hr hA (by omega)).mono ?_
      rintro e w' ⟨rfl, F', G', ha, hF, hG, hc⟩
      exact ⟨0, _, F', G', rfl, h.step ha hF hG hc, ⟨h1, by simp; omega, .inr (.inl ⟨h3, by omega, h5, by simp [MDev.lit, h6]; omega⟩)⟩, .inl ⟨rfl, h5, .inr ⟨h3, by omega⟩⟩⟩
  · refine (write_dead D F G m wr h.at_ (i : Int) _ h5).mono ?_
    rintro e w' ⟨rfl, rfl⟩
    exact ⟨50, m, F, G, rfl, h, ⟨h1, by omega, .inr (.inr ⟨h3, by omega, h5⟩)⟩, .inr ⟨rfl, h5, h3, by omega⟩⟩

theorem f_read (fz : Int) (k : Nat) (hk : k ≤ 60) (w wr : World) (D : Nat) (m : MDev) (F G : Nat → Prop) (h : L0 w wr D m F G) (hs : FSt fz k m) :
    Calls Try.prog 16 #[.pointer (some ⟨D, 0, none⟩), .int .i64 0] wr fun e w' => ∃ v x m', e = .returned (.tuple #[v, .int .i64 x]) ∧ L0 w w' D m' F G ∧ m'.l.length = 8 ∧ m'.W.length ≤ 60 ∧ ((x = 0 ∧ m'.dead = false) ∨ (x = 50 ∧ m'.dead = true)) := by
  obtain ⟨h1, h2, h3⟩ := hs
  cases hd : m.dead
  · refine (read_ok D F G m wr h.at_ 0 hd (by omega) (by omega)).mono ?_
    rintro e w' ⟨g, rfl, _, _, ha, hc⟩
    exact ⟨_, _, _, rfl, h.stepD ha hc, h1, by show m.W.length ≤ 60; omega, .inl ⟨rfl, hd⟩⟩
  · refine (read_dead D F G m wr h.at_ 0 hd).mono ?_
    rintro e w' ⟨rfl, rfl⟩
    exact ⟨_, _, m, rfl, h, h1, by omega, .inr ⟨rfl, hd⟩⟩

set_option maxHeartbeats 4000000 in
theorem fuses_any (CA : Option Addr) (cc : Nat) (cs : List Bool) (fz : Int) (w : World) (h1 : Rd w 1 CA cs.length (bls cs)) (b1 : cs.length ≤ 9223372036854775807) (b2 : fz ≤ 9223372036854775807) (b3 : -9223372036854775808 ≤ fz) :
    Calls Try.prog 4 #[.slice CA cs.length cc, .int .i64 fz] w fun e w' => e = .returned (.bool true) ∧ Below w.heap.size w w' := by
  have H1 := hid h1
  clear h1
  by_cases hlen : 60 < cs.length
  · go_enter Try.func4, Try.ntmps4
    go_wp2_with fail
    refine (new_ok 8 _ (by omega) (by omega)).mono ?_
    rintro e w1 ⟨D, F, G, rfl, hu, hF, hb1⟩
    have Hb := hid hb1
    have hs1 := hb1.size
    clear hu hF hb1
    go_wp2_with (go_at_call 18; refine (awake_any _).mono ?_; rintro e w9 ⟨rfl, hb9⟩)
    go_ret
    exact ⟨rfl, Hb.out.trans (hb9.mono hs1)⟩
  · have hlen' : cs.length ≤ 60 := by omega
    clear hlen
    go_enter Try.func4, Try.ntmps4
    go_wp2_with fail
    refine (new_ok 8 _ (by omega) (by omega)).mono ?_
    rintro e w1 ⟨D, F, G, rfl, hu, hF, hb1⟩
    have HL0 : Hid (L0 w w1 D (MDev.new 8) F G) := hid ⟨hu, hF, hb1⟩
    clear hu hF hb1
    go_wp2_with fail
    refine (fuse_any D F G _ _ HL0.out.at_ fz b2).mono ?_
    rintro e w2 ⟨rfl, hu, hc⟩
    have HL : Hid (∃ m F G, L0 w w2 D m F G ∧ FSt fz 0 m) := hid ⟨_, F, G, HL0.out.stepD hu hc, by simp [MDev.setFuse, MDev.new], by simp [MDev.setFuse, MDev.new], by
      simp only [MDev.setFuse, MDev.new]
      by_cases hz : fz < 0
      · exact .inl ⟨hz, rfl, by simp; omega⟩
      · exact .inr (.inl ⟨by omega, by omega, rfl, by simp; omega⟩)⟩
    clear hu hc HL0
    go_upto_block 0 with fail
    go_cut [7] (fun _ wx => ∃ m F G, L0 w wx D m F G ∧ FSt fz cs.length m)
    case first =>
      go_wp2_with fail
      go_loopw [7] (fun i wr => ∃ k : Nat, k ≤ cs.length ∧ i = .int .i64 k ∧ ∃ m F G, L0 w wr D m F G ∧ FSt fz k m) (fun i _ => cs.length - (intOf i).toNat)
      case atStart => exact ⟨0, by omega, rfl, HL.out⟩
      case round =>
        obtain ⟨k, hk, rfl, m, F1, G1, hR, hS⟩ := hrel
        have HR := hid hR
        have HS := hid hS
        clear hR hS
        by_cases hlt : k < cs.length
        · obtain ⟨fb, fo, rfl, hfb, hfc⟩ := arg_bool' H1.out hlt
          obtain ⟨b, hb⟩ : ∃ b, b = cs.getD k false := ⟨_, rfl⟩
          rw [← hb] at hfc
          have rfc : wr.cell? ⟨fb, fo + k, none⟩ = some (.bool b) := (HR.out.be.cell (p := ⟨fb, fo + k, none⟩) hfb).trans hfc
          have k0 : (0 : Int) ≤ (k : Int) := Int.natCast_nonneg _
          have k1 : (k : Int) < (cs.length : Int) := by omega
          have k6 : (k : Int) < 60 := by omega
          clear hb hfc
          cases b
          · obtain ⟨s, hs⟩ : ∃ s, s = sidx (k : Int) := ⟨_, rfl⟩
            have ha : bits .and .i64 (k : Int) 7 = (s : Int) := by rw [and7, hs]; rfl
            have hs8 : s < 8 := by rw [hs]; exact sidx_lt _
            clear hs
            go_wp2_with fail
            refine (sector_any 1 (k : Int) _).mono ?_
            rintro e w3 ⟨g3, rfl, hg3, hblk3, hb3⟩
            have HR3 := hid (HR.out.below hb3)
            have ng : ¬ g3 = D := fun e => by have := HR.out.at_.lt _ HR.out.at_.own; omega
            have Hblk := hid hblk3
            clear hblk3 hb3 hg3
            go_wp2_with fail
            refine (f_write fz k (by omega) w w3 D m F1 G1 HR3.out HS.out s hs8 _ _ (sector 1 (k : Int)) (Rd.of_blk Hblk.out (by simp [length_u8s, length_sector])) (by rintro ad h; injection h with h; subst h; exact ng)).mono ?_
            rintro e w4 ⟨x, m', F4, G4, rfl, hL4, hok⟩
            have HL4 := hid hL4
            have HS4 := hid hok.1
            obtain ⟨_, hx⟩ := hok
            clear hL4 HR HR3 rfc HS Hblk
            rcases hx with ⟨rfl, hd, hz | ⟨hz1, hz2⟩⟩ | ⟨rfl, hd, hz1, hz2⟩
            all_goals
              have Hd := hid hd
              clear hd
              go_wp2_with (go_at_call 20; refine (dead_any D F4 G4 m' _ HL4.out.at_).mono ?_; rintro e w' ⟨rfl, rfl⟩; rw [Hd.out])
              go_roundw
              case rel => exact ⟨k + 1, by omega, by go_num, m', F4, G4, HL4.out, HS4.out⟩
              case measure => simp [intOf]; omega
          · go_wp2_with fail
            refine (f_sync fz k (by omega) w wr D m F1 G1 HR.out HS.out).mono ?_
            rintro e w4 ⟨x, m', F4, G4, rfl, hL4, hok⟩
            have HL4 := hid hL4
            have HS4 := hid hok.1
            obtain ⟨_, hx⟩ := hok
            clear hL4 HR rfc HS
            rcases hx with ⟨rfl, hd, hz | ⟨hz1, hz2⟩⟩ | ⟨rfl, hd, hz1, hz2⟩
            all_goals
              have Hd := hid hd
              clear hd
              go_wp2_with (go_at_call 20; refine (dead_any D F4 G4 m' _ HL4.out.at_).mono ?_; rintro e w' ⟨rfl, rfl⟩; rw [Hd.out])
              go_roundw
              case rel => exact ⟨k + 1, by omega, by go_num, m', F4, G4, HL4.out, HS4.out⟩
              case measure => simp [intOf]; omega
        · have hk' : k = cs.length := by omega
          have Hk := hid hk'
          clear hk'
          go_wp2
          go_meet
          exact ⟨m, F1, G1, HR.out, by rw [← Hk.out]; exact HS.out⟩
    case rest =>
      obtain ⟨m, F2, G2, hL, hS⟩ := hcut
      have HL2 := hid hL
      have HS2 := hid hS
      clear hL hS HL
      go_wp2_with fail
      refine (f_read fz cs.length hlen' w _ D m F2 G2 HL2.out HS2.out).mono ?_
      rintro e w5 ⟨v5, x5, m5, rfl, hL5, hl5, hW5, hx5⟩
      have HL5 := hid hL5
      have Hl5 := hid hl5
      have Hl5w := hid hW5
      clear hL5 HL2 HS2 hl5 hW5
      rcases hx5 with ⟨rfl, hd⟩ | ⟨rfl, hd⟩
      all_goals
        have Hd := hid hd
        clear hd
        go_wp2_with (go_at_call 20; refine (dead_any D F2 G2 m5 _ HL5.out.at_).mono ?_; rintro e w' ⟨rfl, rfl⟩; rw [Hd.out])
        refine (crash_any D F2 G2 m5 _ HL5.out.at_ (by have := Hl5w.out; omega) none 0 [] Rd.none_ (fun h => absurd h (by simp)) (by simp)).mono ?_
        rintro e w6 ⟨rfl, ha6, hc6⟩
        have HL6 := hid (HL5.out.step' ha6 hc6)
        have Hl6 : Hid ((applyK m5.l m5.W [] m5.W.length).length = 8) := hid ((applyK_length _ _ _ _ (Nat.le_refl _)).trans Hl5.out)
        clear ha6 hc6
        go_wp2_with fail
        refine (read_ok D F2 G2 _ _ HL6.out.at_ 0 rfl (by show 0 < (applyK m5.l m5.W [] m5.W.length).length; rw [Hl6.out]; omega) (by simp)).mono ?_
        rintro e w7 ⟨g7, rfl, _, _, ha7, hc7⟩
        have HL7 := hid (HL6.out.stepD ha7 hc7)
        clear ha7 hc7
        go_wp2_with fail
        refine (sector_any 2 2 _).mono ?_
        rintro e w8 ⟨g8, rfl, hg8, hblk8, hb8⟩
        have HL8 := hid (HL7.out.below hb8)
        have ng : ¬ g8 = D := fun e => by have := HL7.out.at_.lt _ HL7.out.at_.own; omega
        have Hblk := hid hblk8
        clear hblk8 hb8 hg8
        go_wp2_with fail
        refine (write_ok D F2 G2 _ w8 HL8.out.at_ 0 _ _ (sector 2 2) rfl (by show 0 < (applyK m5.l m5.W [] m5.W.length).length; rw [Hl6.out]; omega) (by show (-1 : Int) ≠ 0; decide) (Rd.of_blk Hblk.out (by simp [length_u8s, length_sector])) (by rintro ad h; injection h with h; subst h; exact ng) (by simp)).mono ?_
        rintro e w9 ⟨rfl, F9, G9, ha9, hF9, hG9, hc9⟩
        have HL9 := hid (HL8.out.step ha9 hF9 hG9 hc9)
        clear ha9 hF9 hG9 hc9
        go_wp2_with fail
        refine (dead_any D F9 G9 _ _ HL9.out.at_).mono ?_
        rintro e w' ⟨rfl, rfl⟩
        rw [show (MDev.lit { l := applyK m5.l m5.W [] m5.W.length, W := [], fuse := -1, dead := false, calls := wrap64 (m5.calls + 1) }).dead = false from rfl]
        go_wp2_with fail
        refine (sync_ok D F9 G9 _ _ HL9.out.at_ rfl (by simp [MDev.lit]) (by simp)).mono ?_
        rintro e w10 ⟨rfl, ha10, hc10⟩
        have HL10 := hid (HL9.out.step' ha10 hc10)
        clear ha10 hc10
        go_wp2_with (go_at_call 18; refine (awake_any _).mono ?_; rintro e w11 ⟨rfl, hb11⟩)
        go_ret
        exact ⟨rfl, HL10.out.be.trans (hb11.mono HL10.out.be.size)⟩
end Go.Proofs.Ytjmcjbmnggecgaa
