/- DevApart: the walk. -/
import Derived.Test.YtjmcjbmnggecgaaDevU
import Derived.Test.YtjmcjbmnggecgaaLaw
namespace Go.Proofs.Ytjmcjbmnggecgaa
open Go.RowKit
set_option maxRecDepth 100000
set_option linter.unusedSimpArgs false
attribute [local go_sem ↓] Go.wp_at_zero Go.wp_at_succ

theorem arg_int' {w : World} {A : Option Addr} {zs : List Int} {k : Nat} (h : Rd w 1 A zs.length (ints zs)) (hk : k < zs.length) : ∃ b o, A = some ⟨b, o, none⟩ ∧ b < w.heap.size ∧ w.cell? ⟨b, o + k, none⟩ = some (.int .i64 (zs.getD k 0)) := by
  obtain ⟨b, o, rfl, hb, hc⟩ := h.lit (by omega)
  exact ⟨b, o, rfl, hb, hc k _ (by simp [ints, hk])⟩

structure U0 (w wr : World) (D : Nat) (l : List (List UInt8)) (W : List (Nat × List UInt8)) (F G : Nat → Prop) : Prop where
  up : Up wr D F G l W
  ge : ∀ i, F i ∨ G i → w.heap.size ≤ i
  be : Below w.heap.size w wr
theorem U0.below {w wr w' : World} {D : Nat} {l : List (List UInt8)} {W : List (Nat × List UInt8)} {F G : Nat → Prop} (h : U0 w wr D l W F G) (hb : Below wr.heap.size wr w') : U0 w w' D l W F G :=
  ⟨h.up.below hb, h.ge, h.be.trans (hb.mono h.be.size)⟩
theorem U0.step {w wr w' : World} {D : Nat} {l l' : List (List UInt8)} {W W' : List (Nat × List UInt8)} {F G F' G' : Nat → Prop} (h : U0 w wr D l W F G) (hu : Up w' D F' G' l' W')
    (hF : ∀ i, F' i → F i ∨ wr.heap.size ≤ i) (hG : ∀ i, G' i → G i ∨ wr.heap.size ≤ i) (hc : Chg F wr w') : U0 w w' D l' W' F' G' := by
  have hs := h.be.size
  exact ⟨hu, fun i hi => by
      rcases hi with hi | hi
      · rcases hF i hi with hi | hi
        · exact h.ge i (.inl hi)
        · omega
      · rcases hG i hi with hi | hi
        · exact h.ge i (.inr hi)
        · omega, h.be.trans (hc.below hs (fun i hi => h.ge i (.inl hi)))⟩

/-- another device's own block has changed -/
theorem DevAt.frameD {w w' : World} {D D2 : Nat} {F G : Nat → Prop} {m : MDev} {cs : Array Value} (h : DevAt w D F G m) (hc : Chg (· = D2) w w') (hb : Blk w D2 70 cs) (hn : ¬ F D2) : DevAt w' D F G m := by
  obtain ⟨lv, cv, ls, ws, hbd, hm⟩ := h.mem
  refine ⟨h.own, fun i hi => Nat.lt_of_lt_of_le (h.lt i hi) hc.size, fun i hi => Nat.lt_of_lt_of_le (h.lg i hi) hc.size, h.n1, h.n2, h.f1, h.f2, h.wi, lv, cv, ls, ws, hbd.chg hc (fun e => hn (by rw [← e]; exact h.own)), hm.chg hc ?_⟩
  rintro i _ rfl
  exact ⟨70, cs, by decide, by decide, by decide, hb⟩
theorem DevAt.blk {w : World} {D : Nat} {F G : Nat → Prop} {m : MDev} (h : DevAt w D F G m) : ∃ cs, Blk w D 70 cs := by
  obtain ⟨lv, cv, ls, ws, hbd, hm⟩ := h.mem
  exact ⟨_, hbd⟩

/-- three devices: d and its copy v hold the same; c goes its own way -/
structure A3 (w wr : World) (D Dv Dc : Nat) (l : List (List UInt8)) (W Wc : List (Nat × List UInt8)) (F G Fv Fc Gc : Nat → Prop) : Prop where
  d : Up wr D F G l W
  v : Up wr Dv Fv G l W
  c : Up wr Dc Fc Gc l Wc
  x1 : ∀ i, Fc i → ¬ F i ∧ ¬ G i ∧ ¬ Fv i
  x2 : ¬ Fv D ∧ ¬ F Dv ∧ ¬ Fc D ∧ ¬ Fc Dv
  ge : ∀ i, F i ∨ Fv i ∨ Fc i → w.heap.size ≤ i
  be : Below w.heap.size w wr

theorem A3.below {w wr w' : World} {D Dv Dc : Nat} {l : List (List UInt8)} {W Wc : List (Nat × List UInt8)} {F G Fv Fc Gc : Nat → Prop} (h : A3 w wr D Dv Dc l W Wc F G Fv Fc Gc) (hb : Below wr.heap.size wr w') : A3 w w' D Dv Dc l W Wc F G Fv Fc Gc :=
  ⟨h.d.below hb, h.v.below hb, h.c.below hb, h.x1, h.x2, h.ge, h.be.trans (hb.mono h.be.size)⟩
theorem A3.stepC {w wr w' : World} {D Dv Dc : Nat} {l : List (List UInt8)} {W Wc Wc' : List (Nat × List UInt8)} {F G Fv Fc Gc Fc' Gc' : Nat → Prop} (h : A3 w wr D Dv Dc l W Wc F G Fv Fc Gc) (hu : Up w' Dc Fc' Gc' l Wc')
    (hF : ∀ i, Fc' i → Fc i ∨ wr.heap.size ≤ i) (hc : Chg Fc wr w') : A3 w w' D Dv Dc l W Wc' F G Fv Fc' Gc' := by
  have hs := h.be.size
  refine ⟨h.d.frame hc fun i hi => ⟨(h.x1 i hi).1, (h.x1 i hi).2.1⟩, h.v.frame hc fun i hi => ⟨(h.x1 i hi).2.2, (h.x1 i hi).2.1⟩, hu, fun i hi => ?_, ⟨h.x2.1, h.x2.2.1, fun hi => ?_, fun hi => ?_⟩, fun i hi => ?_, h.be.trans (hc.below hs fun i hi => h.ge i (.inr (.inr hi)))⟩
  · rcases hF i hi with hi | hi
    · exact h.x1 i hi
    · exact ⟨fun a => by have := h.d.lt.1 i a; omega, fun a => by have := h.d.lt.2.1 i a; omega, fun a => by have := h.v.lt.1 i a; omega⟩
  · rcases hF _ hi with hi | hi
    · exact h.x2.2.2.1 hi
    · have := h.d.lt.1 _ h.d.lt.2.2; omega
  · rcases hF _ hi with hi | hi
    · exact h.x2.2.2.2 hi
    · have := h.v.lt.1 _ h.v.lt.2.2; omega
  · rcases hi with hi | hi | hi
    · exact h.ge i (.inl hi)
    · exact h.ge i (.inr (.inl hi))
    · rcases hF i hi with hi | hi
      · exact h.ge i (.inr (.inr hi))
      · omega

/-- the same, c being dead -/
structure A4 (w wr : World) (D Dv Dc : Nat) (l : List (List UInt8)) (W : List (Nat × List UInt8)) (F G Fv Fc Gc : Nat → Prop) : Prop where
  d : Up wr D F G l W
  v : Up wr Dv Fv G l W
  c : ∃ m, DevAt wr Dc Fc Gc m ∧ m.dead = true
  x2 : ¬ Fv D ∧ ¬ F Dv ∧ ¬ Fc D ∧ ¬ Fc Dv
  ge : w.heap.size ≤ D ∧ w.heap.size ≤ Dv
  be : Below w.heap.size w wr
theorem Up.frameD {w w' : World} {D D2 : Nat} {F G : Nat → Prop} {l : List (List UInt8)} {W : List (Nat × List UInt8)} {cs : Array Value} (h : Up w D F G l W) (hc : Chg (· = D2) w w') (hb : Blk w D2 70 cs) (hn : ¬ F D2) : Up w' D F G l W := by
  obtain ⟨m, h, r⟩ := h
  exact ⟨m, h.frameD hc hb hn, r⟩
theorem Up.blk {w : World} {D : Nat} {F G : Nat → Prop} {l : List (List UInt8)} {W : List (Nat × List UInt8)} (h : Up w D F G l W) : ∃ cs, Blk w D 70 cs := by
  obtain ⟨m, h, _⟩ := h; exact h.blk
theorem A4.stepD {w wr w' : World} {D Dv Dc : Nat} {l : List (List UInt8)} {W : List (Nat × List UInt8)} {F G Fv Fc Gc : Nat → Prop} (h : A4 w wr D Dv Dc l W F G Fv Fc Gc) (hu : Up w' D F G l W) (hc : Chg (· = D) wr w') : A4 w w' D Dv Dc l W F G Fv Fc Gc := by
  obtain ⟨cs, hb⟩ := h.d.blk
  obtain ⟨m, hm, hd⟩ := h.c
  exact ⟨hu, h.v.frameD hc hb h.x2.1, ⟨m, hm.frameD hc hb h.x2.2.2.1, hd⟩, h.x2, h.ge, h.be.trans (hc.below h.be.size (by rintro i rfl; exact h.ge.1))⟩
theorem A4.stepV {w wr w' : World} {D Dv Dc : Nat} {l : List (List UInt8)} {W : List (Nat × List UInt8)} {F G Fv Fc Gc : Nat → Prop} (h : A4 w wr D Dv Dc l W F G Fv Fc Gc) (hu : Up w' Dv Fv G l W) (hc : Chg (· = Dv) wr w') : A4 w w' D Dv Dc l W F G Fv Fc Gc := by
  obtain ⟨cs, hb⟩ := h.v.blk
  obtain ⟨m, hm, hd⟩ := h.c
  exact ⟨h.d.frameD hc hb h.x2.2.1, hu, ⟨m, hm.frameD hc hb h.x2.2.2.2, hd⟩, h.x2, h.ge, h.be.trans (hc.below h.be.size (by rintro i rfl; exact h.ge.2))⟩
theorem A4.below {w wr w' : World} {D Dv Dc : Nat} {l : List (List UInt8)} {W : List (Nat × List UInt8)} {F G Fv Fc Gc : Nat → Prop} (h : A4 w wr D Dv Dc l W F G Fv Fc Gc) (hb : Below wr.heap.size wr w') : A4 w w' D Dv Dc l W F G Fv Fc Gc := by
  obtain ⟨m, hm, hd⟩ := h.c
  exact ⟨h.d.below hb, h.v.below hb, ⟨m, hm.below hb, hd⟩, h.x2, h.ge, h.be.trans (hb.mono h.be.size)⟩

theorem copy_up (D : Nat) (F G : Nat → Prop) (l : List (List UInt8)) (W : List (Nat × List UInt8)) (w : World) (h : Up w D F G l W) (hW : W.length ≤ 1000000) :
    Calls Try.prog 26 #[.pointer (some ⟨D, 0, none⟩)] w fun e w' => ∃ D' F', e = .returned (.pointer (some ⟨D', 0, none⟩)) ∧ Up w' D' F' G l W ∧ (∀ i, F' i → w.heap.size ≤ i) ∧ Below w.heap.size w w' := by
  obtain ⟨m, h, rfl, rfl, hd, hf⟩ := h
  refine (copy_any D F G m w h hW).mono ?_
  rintro e w' ⟨D', F', rfl, h', a, b⟩
  exact ⟨D', F', rfl, ⟨m, h', rfl, rfl, hd, hf⟩, a, b⟩
theorem dead_up (D : Nat) (F G : Nat → Prop) (l : List (List UInt8)) (W : List (Nat × List UInt8)) (w : World) (h : Up w D F G l W) : Calls Try.prog 20 #[.pointer (some ⟨D, 0, none⟩)] w fun e w' => e = .returned (.bool false) ∧ w = w' := by
  obtain ⟨m, h, rfl, rfl, hd, hf⟩ := h
  rw [← hd]
  exact dead_any D F G m w h
/-- a fuse that has burnt down, and the next call -/
theorem fuse0 (D : Nat) (F G : Nat → Prop) (l : List (List UInt8)) (W : List (Nat × List UInt8)) (w : World) (h : Up w D F G l W) : Calls Try.prog 19 #[.pointer (some ⟨D, 0, none⟩), .int .i64 0] w fun e w' => e = .returned (.tuple #[]) ∧ (∃ m, DevAt w' D F G m ∧ m.dead = false ∧ m.fuse = 0) ∧ Chg (· = D) w w' := by
  obtain ⟨m, h, rfl, rfl, hd, hf⟩ := h
  refine (fuse_any D F G m w h 0 (by omega)).mono ?_
  rintro e w' ⟨rfl, ha, hc⟩
  exact ⟨rfl, ⟨_, ha, by simp [MDev.setFuse, hd], by simp [MDev.setFuse, hd]; omega⟩, hc⟩
theorem sync0 (D : Nat) (F G : Nat → Prop) (w : World) (h : ∃ m, DevAt w D F G m ∧ m.dead = false ∧ m.fuse = 0) : Calls Try.prog 14 #[.pointer (some ⟨D, 0, none⟩)] w fun e w' => e = .returned (.int .i64 50) ∧ (∃ m, DevAt w' D F G m ∧ m.dead = true) ∧ Chg (· = D) w w' := by
  obtain ⟨m, h, hd, hf⟩ := h
  obtain ⟨lv, cv, ls, ws, hb, hm⟩ := h.mem
  obtain ⟨_, _, _, c3, _⟩ := blk5 hb
  rw [hd] at c3
  have Hf := hid hf
  clear hb hd hf
  go_enter Try.func14, Try.ntmps14
  go_wp2_with fail
  refine (burn_no D F G m w h Hf.out).mono ?_
  rintro e w1 ⟨rfl, hq1, hq2⟩
  have H1 := hid hq1
  have H2 := hid hq2
  clear hq1 hq2
  go_wp2
  go_ret
  exact ⟨rfl, ⟨_, H1.out, rfl⟩, H2.out⟩

set_option maxHeartbeats 4000000 in
theorem apart_any (AA BA : Option Addr) (ac bc : Nat) (xs bs : List Int) (w : World) (h1 : Rd w 1 AA xs.length (ints xs)) (h2 : Rd w 1 BA bs.length (ints bs)) (b1 : xs.length ≤ 9223372036854775807) (b2 : bs.length ≤ 9223372036854775807) :
    Calls Try.prog 6 #[.slice AA xs.length ac, .slice BA bs.length bc] w fun e w' => e = .returned (.bool true) ∧ Below w.heap.size w w' := by
  have H1 := hid h1
  have H2 := hid h2
  clear h1 h2
  go_enter Try.func6, Try.ntmps6
  go_wp2_with fail
  refine (new_up 8 _ (by omega) (by omega)).mono ?_
  rintro e w1 ⟨D, F, G, rfl, hu, hF, hb1⟩
  have HL : Hid (∃ F G, U0 w w1 D (List.replicate 8 zeros) (wl (fun i => sector 1 (i : Int)) xs 0) F G) := hid ⟨F, G, hu, hF, hb1⟩
  clear hu hF hb1
  go_upto_block 0 with fail
  go_cut [7] (fun _ wx => ∃ n F G, n ≤ 30 ∧ U0 w wx D (List.replicate 8 zeros) (wl (fun i => sector 1 (i : Int)) xs n) F G)
  case first =>
    go_wp2_with fail
    go_loopw [7] (fun i wr => ∃ k : Nat, k ≤ xs.length ∧ k ≤ 30 ∧ i = .int .i64 k ∧ ∃ F G, U0 w wr D (List.replicate 8 zeros) (wl (fun i => sector 1 (i : Int)) xs k) F G) (fun i _ => 30 - (intOf i).toNat)
    case atStart => exact ⟨0, by omega, by omega, rfl, HL.out⟩
    case round =>
      obtain ⟨k, hk, hk40, rfl, F1, G1, hR⟩ := hrel
      by_cases hlt : k < xs.length ∧ k < 30
      · obtain ⟨hlt, hlt40⟩ := hlt
        obtain ⟨fb, fo, rfl, hfb, hfc⟩ := arg_int' H1.out hlt
        obtain ⟨x, hx⟩ : ∃ x, x = xs.getD k 0 := ⟨_, rfl⟩
        rw [← hx] at hfc
        have rfc : wr.cell? ⟨fb, fo + k, none⟩ = some (.int .i64 x) := (hR.be.cell (p := ⟨fb, fo + k, none⟩) hfb).trans hfc
        obtain ⟨s, hs⟩ : ∃ s, s = sidx x := ⟨_, rfl⟩
        have ha : bits .and .i64 x 7 = (s : Int) := by rw [and7, hs]; rfl
        have hs8 : s < 8 := by rw [hs]; exact sidx_lt x
        have hk0 : (0 : Int) ≤ (k : Int) := Int.natCast_nonneg _
        have hk1 : (k : Int) < (xs.length : Int) := by omega
        have Hx := hid hx
        have Hs := hid hs
        have HR := hid hR
        have hbr := hR.be.size
        clear hx hs hR hfc
        go_wp2_with fail
        go_region_held3 (fun w' => w'.cell? ⟨fb, fo + k, none⟩ = some (.int .i64 x))
          (first
            | go_keep
            | (exact (hb2.cell (p := ⟨fb, fo + k, none⟩) (by show fb < wr.heap.size; omega)).trans rfc)
            | (exact (hc3.cell (p := ⟨fb, fo + k, none⟩) (by show fb < w2.heap.size; omega) (fun h => by have := HR2.out.ge _ (.inl h); simp at this; omega)).trans ((hb2.cell (p := ⟨fb, fo + k, none⟩) (by show fb < wr.heap.size; omega)).trans rfc)))
          (first
            | (go_at_call 13
               refine (sector_any 1 (k : Int) _).mono ?_
               rintro e w2 ⟨g2, rfl, hg2, hblk2, hb2'⟩
               have hb2 : Below wr.heap.size wr w2 := below_of_drew hb2'
               have hs2 := hb2.size
               have ng : ¬ g2 = D := fun e => by have := HR.out.up.lt.1 _ HR.out.up.lt.2.2; have hg2' : wr.heap.size ≤ g2 := hg2; omega
               have HR2 := hid (HR.out.below hb2))
            | (go_at_call 12
               refine (write_up D F1 G1 _ _ w2 HR2.out.up s _ _ (sector 1 (k : Int)) (by simp; omega) (Rd.of_blk hblk2 (by simp [length_u8s, length_sector])) (by rintro ad h; injection h with h; subst h; exact ng) (by rw [wl_length]; omega)).mono ?_
               rintro e w3 ⟨rfl, F3, G3, hu3, hF3, hG3, hc3⟩
               have HR3 := hid (HR2.out.step hu3 hF3 hG3 hc3)))
        clear rfc hb2 hb2' hc3 hF3 hG3 hu3 hblk2 hg2 HR2
        go_wp2
        go_roundw
        case rel =>
          refine ⟨k + 1, by omega, by omega, by go_num, F3, G3, ?_⟩
          have hL := HR3.out
          rw [wl_succ, ← Hx.out, ← Hs.out]
          exact hL
        case measure => simp [intOf]; omega
      · have HR := hid hR
        have hk1 : (k : Int) ≤ 30 := by omega
        clear hR
        by_cases hl2 : k < xs.length
        · have hk2 : 30 ≤ k := by omega
          clear hlt
          go_wp2
          go_meet
          exact ⟨k, F1, G1, hk40, HR.out⟩
        · clear hlt
          go_wp2
          go_meet
          exact ⟨k, F1, G1, hk40, HR.out⟩
  case rest =>
    obtain ⟨n, F2, G2, hn, hL⟩ := hcut
    obtain ⟨W, hW⟩ : ∃ W, W = wl (fun i => sector 1 (i : Int)) xs n := ⟨_, rfl⟩
    rw [← hW] at hL
    have HL3 := hid hL
    have HW : Hid (W.length ≤ 30) := hid (by rw [hW, wl_length]; omega)
    clear hL HL hW
    go_wp2_with fail
    refine (copy_up D F2 G2 _ _ _ HL3.out.up (by have := HW.out; omega)).mono ?_
    rintro e w4 ⟨Dc, Fc, rfl, huc, hFc, hb4⟩
    have HL4 := hid (HL3.out.below hb4)
    have Huc := hid huc
    have HFc := hid hFc
    have hs4 := hb4.size
    clear huc hFc hb4
    go_wp2_with fail
    refine (copy_up D F2 G2 _ _ _ HL4.out.up (by have := HW.out; omega)).mono ?_
    rintro e w5 ⟨Dv, Fv, rfl, huv, hFv, hb5⟩
    have HA : Hid (∃ Fc' Gc', A3 w w5 D Dv Dc (List.replicate 8 zeros) W (W ++ wl (fun i => sector 3 (i : Int)) bs 0) F2 G2 Fv Fc' Gc') := hid ⟨Fc, G2, by
      have hl3 := HL3.out.up.lt
      have hl4 := Huc.out.lt
      have hge := HL3.out.be.size
      refine ⟨HL4.out.up.below hb5, huv, by simpa [wl] using Huc.out.below hb5, fun i hi => ⟨fun a => ?_, fun a => ?_, fun a => ?_⟩, ⟨fun a => ?_, fun a => ?_, fun a => ?_, fun a => ?_⟩, fun i hi => ?_, HL4.out.be.trans (hb5.mono HL4.out.be.size)⟩
      · have := hl3.1 i a; have := HFc.out i hi; omega
      · have := hl3.2.1 i a; have := HFc.out i hi; omega
      · have := hFv i a; have := hl4.1 i hi; omega
      · have := hFv D a; have := hl3.1 D hl3.2.2; omega
      · have := hFv Dv huv.lt.2.2; have := hl3.1 Dv a; omega
      · have := hl3.1 D hl3.2.2; have := HFc.out D a; omega
      · have := hFv Dv huv.lt.2.2; have := hl4.1 Dv a; omega
      · rcases hi with hi | hi | hi
        · exact HL3.out.ge i (.inl hi)
        · have := hFv i hi; omega
        · have := HFc.out i hi; omega⟩
    clear huv hFv hb5 HL3 HL4 Huc HFc
    have hs5 : w.heap.size ≤ w5.heap.size := HA.out.elim fun _ h => h.elim fun _ h => h.be.size
    go_upto_block 2 with fail
    go_cut [10] (fun _ wx => ∃ Wc Fc Gc, Wc.length ≤ 60 ∧ A3 w wx D Dv Dc (List.replicate 8 zeros) W Wc F2 G2 Fv Fc Gc)
    case first =>
      go_wp2_with fail
      go_loopw [10] (fun i wr => ∃ k : Nat, k ≤ bs.length ∧ k ≤ 30 ∧ i = .int .i64 k ∧ ∃ Fc' Gc', A3 w wr D Dv Dc (List.replicate 8 zeros) W (W ++ wl (fun i => sector 3 (i : Int)) bs k) F2 G2 Fv Fc' Gc') (fun i _ => 30 - (intOf i).toNat)
      case atStart => exact ⟨0, by omega, by omega, rfl, HA.out⟩
      case round =>
        obtain ⟨k, hk, hk40, rfl, F1, G1, hR⟩ := hrel
        by_cases hlt : k < bs.length ∧ k < 30
        · obtain ⟨hlt, hlt40⟩ := hlt
          obtain ⟨fb, fo, rfl, hfb, hfc⟩ := arg_int' H2.out hlt
          obtain ⟨x, hx⟩ : ∃ x, x = bs.getD k 0 := ⟨_, rfl⟩
          rw [← hx] at hfc
          have rfc : wr.cell? ⟨fb, fo + k, none⟩ = some (.int .i64 x) := (hR.be.cell (p := ⟨fb, fo + k, none⟩) hfb).trans hfc
          obtain ⟨s, hs⟩ : ∃ s, s = sidx x := ⟨_, rfl⟩
          have ha : bits .and .i64 x 7 = (s : Int) := by rw [and7, hs]; rfl
          have hs8 : s < 8 := by rw [hs]; exact sidx_lt x
          have hk0 : (0 : Int) ≤ (k : Int) := Int.natCast_nonneg _
          have hk1 : (k : Int) < (bs.length : Int) := by omega
          have Hx := hid hx
          have Hs := hid hs
          have HR := hid hR
          have hbr := hR.be.size
          clear hx hs hR hfc
          go_wp2_with fail
          go_region_held3 (fun w' => w'.cell? ⟨fb, fo + k, none⟩ = some (.int .i64 x))
            (first
              | go_keep
              | (exact (hb2.cell (p := ⟨fb, fo + k, none⟩) (by show fb < wr.heap.size; omega)).trans rfc)
              | (exact (hc3.cell (p := ⟨fb, fo + k, none⟩) (by show fb < w2.heap.size; omega) (fun h => by have := HR2.out.ge _ (.inr (.inr h)); simp at this; omega)).trans ((hb2.cell (p := ⟨fb, fo + k, none⟩) (by show fb < wr.heap.size; omega)).trans rfc)))
            (first
              | (go_at_call 13
                 refine (sector_any 3 (k : Int) _).mono ?_
                 rintro e w2 ⟨g2, rfl, hg2, hblk2, hb2'⟩
                 have hb2 : Below wr.heap.size wr w2 := below_of_drew hb2'
                 have hs2 := hb2.size
                 have ng : ¬ g2 = Dc := fun e => by have := HR.out.c.lt.1 _ HR.out.c.lt.2.2; have hg2' : wr.heap.size ≤ g2 := hg2; omega
                 have HR2 := hid (HR.out.below hb2))
              | (go_at_call 12
                 refine (write_up Dc F1 G1 _ _ w2 HR2.out.c s _ _ (sector 3 (k : Int)) (by simp; omega) (Rd.of_blk hblk2 (by simp [length_u8s, length_sector])) (by rintro ad h; injection h with h; subst h; exact ng) (by rw [List.length_append, wl_length]; have := HW.out; omega)).mono ?_
                 rintro e w3 ⟨rfl, F3, G3, hu3, hF3, hG3, hc3⟩
                 have HR3 := hid (HR2.out.stepC hu3 hF3 hc3)))
          clear rfc hb2 hb2' hc3 hF3 hG3 hu3 hblk2 hg2 HR2
          go_wp2
          go_roundw
          case rel =>
            refine ⟨k + 1, by omega, by omega, by go_num, F3, G3, ?_⟩
            have hL := HR3.out
            rw [wl_succ, ← Hx.out, ← Hs.out, ← List.append_assoc]
            exact hL
          case measure => simp [intOf]; omega
        · have HR := hid hR
          have hk1 : (k : Int) ≤ 30 := by omega
          have HWk : Hid ((W ++ wl (fun i => sector 3 (i : Int)) bs k).length ≤ 60) := hid (by rw [List.length_append, wl_length]; have := HW.out; omega)
          clear hR
          by_cases hl2 : k < bs.length
          · have hk2 : 30 ≤ k := by omega
            clear hlt
            go_wp2
            go_meet
            exact ⟨_, F1, G1, HWk.out, HR.out⟩
          · clear hlt
            go_wp2
            go_meet
            exact ⟨_, F1, G1, HWk.out, HR.out⟩
    case rest =>
      obtain ⟨Wc, F6, G6, hWc, hL⟩ := hcut
      have HL6 := hid hL
      clear hL HA hWc
      go_wp2_with fail
      refine (fuse0 Dc F6 G6 _ _ _ HL6.out.c).mono ?_
      rintro e w7 ⟨rfl, hm7, hc7⟩
      have Hm7 := hid hm7
      have Hc7 := hid hc7
      clear hm7 hc7
      go_wp2_with fail
      refine (sync0 Dc F6 G6 _ Hm7.out).mono ?_
      rintro e w8 ⟨rfl, hm8, hc8⟩
      have HA8 : Hid (A4 w w8 D Dv Dc (List.replicate 8 zeros) W F2 G2 Fv F6 G6) := hid (by
        have hk : Chg F6 wc w8 := (Hc7.out.trans hc8).mono (by rintro i _ rfl; exact HL6.out.c.lt.2.2)
        have h6 := HL6.out
        exact ⟨h6.d.frame hk fun i hi => ⟨(h6.x1 i hi).1, (h6.x1 i hi).2.1⟩, h6.v.frame hk fun i hi => ⟨(h6.x1 i hi).2.2, (h6.x1 i hi).2.1⟩, hm8, h6.x2, ⟨h6.ge D (.inl h6.d.lt.2.2), h6.ge Dv (.inr (.inl h6.v.lt.2.2))⟩, h6.be.trans (hk.below h6.be.size fun i hi => h6.ge i (.inr (.inr hi)))⟩)
      clear hm8 hc8 Hm7 Hc7 HL6
      go_upto_block 4 with fail
      go_cut [11] (fun _ wx => A4 w wx D Dv Dc (List.replicate 8 zeros) W F2 G2 Fv F6 G6)
      case first =>
        go_wp2_with fail
        go_loopw [11] (fun i wr => ∃ s : Nat, s ≤ 8 ∧ i = .int .i64 s ∧ A4 w wr D Dv Dc (List.replicate 8 zeros) W F2 G2 Fv F6 G6) (fun i _ => 8 - (intOf i).toNat)
        case atStart => exact ⟨0, by omega, rfl, HA8.out⟩
        case round =>
          obtain ⟨s, hs8, rfl, hR⟩ := hrel
          have HR := hid hR
          clear hR
          by_cases hlt : s < 8
          · go_wp2_with fail
            refine (read_up D F2 G2 _ _ _ HR.out.d s (by simp; omega) (by have := HW.out; omega)).mono ?_
            rintro e w2 ⟨g, rfl, hg, hbg, hu2, hc2⟩
            have HR2 := hid (HR.out.stepD hu2 hc2)
            have Hbg := hid hbg
            have hgs := hbg.lt
            have hsz2 := hc2.size
            clear hbg hu2 hc2
            go_wp2_with fail
            refine (read_up Dv Fv G2 _ _ _ HR2.out.v s (by simp; omega) (by have := HW.out; omega)).mono ?_
            rintro e w3 ⟨g2, rfl, hg2, hbg2, hu3, hc3⟩
            have HR3 := hid (HR2.out.stepV hu3 hc3)
            have hdv := HR.out.v.lt.1 _ HR.out.v.lt.2.2
            obtain ⟨bt, hbt⟩ : ∃ bt, bt = getW ((List.replicate 8 zeros).getD s []) W s := ⟨_, rfl⟩
            have hb1 : Blk w3 g 5 (u8s bt).toArray := by rw [hbt]; exact Hbg.out.chg hc3 (by show ¬ g = Dv; omega)
            have hb2 : Blk w3 g2 5 (u8s bt).toArray := by rw [hbt]; exact hbg2
            have hl : bt.length = 128 := by
              rw [hbt]
              refine getW_length 128 _ _ (fun j e he => ?_) _ (by rw [List.getD_eq_getElem?_getD, List.getElem?_replicate, if_pos hlt]; simp [zeros])
              obtain ⟨m, hm, _, hmW, _⟩ := HR.out.d
              obtain ⟨lv, cv, ls, ws, _, hmm⟩ := hm.mem
              obtain ⟨_, v, _, hsn⟩ := hmm.sc j e (by rw [hmW]; exact he)
              exact hsn.1
            have hv1 := run_str w3 _ 128 128 bt (Rd.of_blk hb1 (by rw [length_u8s]; exact hl))
            have hv2 := run_str w3 _ 128 128 bt (Rd.of_blk hb2 (by rw [length_u8s]; exact hl))
            clear hbt hb1 hb2 hl hu3 hc3 hbg2 Hbg HR2 HR
            go_wp2
            go_roundw
            case rel => exact ⟨s + 1, by omega, by go_num, HR3.out⟩
            case measure => simp [intOf]; omega
          · have hs9 : 8 ≤ s := by omega
            clear hlt
            go_wp2
            go_meet
            exact HR.out
      case rest =>
        have HL9 := hid hcut
        clear hcut HA8
        obtain ⟨mc, hmc, hdc⟩ := HL9.out.c
        have Hmc := hid hmc
        have Hdc := hid hdc
        clear hmc hdc
        go_wp2_with fail
        refine (dead_any Dc F6 G6 mc _ Hmc.out).mono ?_
        rintro e w' ⟨rfl, rfl⟩
        rw [Hdc.out]
        go_wp2_with fail
        refine (dead_up D F2 G2 _ _ _ HL9.out.d).mono ?_
        rintro e w' ⟨rfl, rfl⟩
        go_wp2_with fail
        refine (pending_up D F2 G2 _ _ _ HL9.out.d).mono ?_
        rintro e w' ⟨rfl, rfl⟩
        go_wp2_with fail
        refine (pending_up Dv Fv G2 _ _ _ HL9.out.v).mono ?_
        rintro e w' ⟨rfl, rfl⟩
        go_wp2_with (go_at_call 18; refine (awake_any _).mono ?_; rintro e w9 ⟨rfl, hb9⟩)
        go_ret
        exact ⟨rfl, HL9.out.be.trans (hb9.mono HL9.out.be.size)⟩
end Go.Proofs.Ytjmcjbmnggecgaa
