/- DevLasts: the walk. -/
import Derived.Test.YtjmcjbmnggecgaaDevU
import Derived.Test.YtjmcjbmnggecgaaLaw
namespace Go.Proofs.Ytjmcjbmnggecgaa
open Go.RowKit
set_option maxRecDepth 100000
set_option linter.unusedSimpArgs false
attribute [local go_sem ↓] Go.wp_at_zero Go.wp_at_succ

/-- what is asked of the world may be made more -/
theorem wpAnyH_mono {P : Program} {md : Region.Mode} {ops : Array Oper} {Q : Exit → Act → World → Prop} {S S' : World → Prop} (hS : ∀ w, S' w → S w) : ∀ (fuel : Nat) (listed : Array Bool) (a : Act) (w : World),
    wpAnyH P md ops Q S' fuel listed a w → wpAnyH P md ops Q S fuel listed a w
  | 0, _, _, _, h => h
  | fuel + 1, _, _, _, h => ⟨h.1, fun i hi => wpOp_mono (fun a' w' h' => ⟨hS _ h'.1, wpAnyH_mono hS fuel _ a' w' h'.2⟩) (h.2 i hi)⟩


theorem arg_int {w : World} {A : Option Addr} {zs : List Int} {k : Nat} (h : Rd w 1 A zs.length (ints zs)) (hk : k < zs.length) : ∃ b o, A = some ⟨b, o, none⟩ ∧ b < w.heap.size ∧ w.cell? ⟨b, o + k, none⟩ = some (.int .i64 (zs.getD k 0)) := by
  obtain ⟨b, o, rfl, hb, hc⟩ := h.lit (by omega)
  exact ⟨b, o, rfl, hb, hc k _ (by simp [ints, hk])⟩
theorem arg_bool {w : World} {A : Option Addr} {ks : List Bool} {k : Nat} (h : Rd w 1 A ks.length (bls ks)) (hk : k < ks.length) : ∃ b o, A = some ⟨b, o, none⟩ ∧ b < w.heap.size ∧ w.cell? ⟨b, o + k, none⟩ = some (.bool (ks.getD k false)) := by
  obtain ⟨b, o, rfl, hb, hc⟩ := h.lit (by omega)
  exact ⟨b, o, rfl, hb, hc k _ (by simp [bls, hk])⟩

def lastArr (xs : List Int) (k : Nat) : Array Value := ((List.range 8).map fun s => Value.int .i64 (lastOf xs k s)).toArray
theorem lastArr_set (xs : List Int) (k : Nat) : (lastArr xs k).setIfInBounds (sidx (xs.getD k 0)) (.int .i64 ((k : Int) + 1)) = lastArr xs (k + 1) := by
  unfold lastArr
  rw [List.setIfInBounds_toArray]
  congr 1
  apply List.ext_getElem
  · simp
  · intro i h1 h2
    rw [List.getElem_set]
    simp only [List.getElem_map, List.getElem_range, lastOf]
    by_cases h : sidx (xs.getD k 0) = i
    · rw [if_pos h, if_pos h]
    · rw [if_neg h, if_neg h]
theorem lastArr_cell (xs : List Int) (k s : Nat) (hs : s < 8) : (lastArr xs k)[s]? = some (.int .i64 (lastOf xs k s)) := by
  simp [lastArr, hs]

structure L1 (w wr : World) (D Lb : Nat) (l : List (List UInt8)) (W : List (Nat × List UInt8)) (la : Array Value) (F G : Nat → Prop) : Prop where
  up : Up wr D F G l W
  ge : ∀ i, F i ∨ G i → w.heap.size ≤ i
  nf : ¬ F Lb
  ng : ¬ G Lb
  la : Blk wr Lb 28 la
  be : Below w.heap.size w wr

theorem L1.below {w wr w' : World} {D Lb : Nat} {l : List (List UInt8)} {W : List (Nat × List UInt8)} {la : Array Value} {F G : Nat → Prop} (h : L1 w wr D Lb l W la F G) (hb : Below wr.heap.size wr w') : L1 w w' D Lb l W la F G :=
  ⟨h.up.below hb, h.ge, h.nf, h.ng, h.la.below hb h.la.lt, h.be.trans (hb.mono h.be.size)⟩
/-- a step of the device -/
theorem L1.step {w wr w' : World} {D Lb : Nat} {l l' : List (List UInt8)} {W W' : List (Nat × List UInt8)} {la : Array Value} {F G F' G' : Nat → Prop} (h : L1 w wr D Lb l W la F G) (hu : Up w' D F' G' l' W')
    (hF : ∀ i, F' i → F i ∨ wr.heap.size ≤ i) (hG : ∀ i, G' i → G i ∨ wr.heap.size ≤ i) (hc : Chg F wr w') : L1 w w' D Lb l' W' la F' G' := by
  have hs := h.be.size
  have hl := h.la.lt
  exact ⟨hu, fun i hi => by
      rcases hi with hi | hi
      · rcases hF i hi with hi | hi
        · exact h.ge i (.inl hi)
        · omega
      · rcases hG i hi with hi | hi
        · exact h.ge i (.inr hi)
        · omega,
    fun hf => (hF _ hf).elim h.nf (by omega), fun hf => (hG _ hf).elim h.ng (by omega), h.la.chg hc h.nf, h.be.trans (hc.below hs (fun i hi => h.ge i (.inl hi)))⟩
theorem L1.setLast {w wr : World} {D Lb : Nat} {l : List (List UInt8)} {W : List (Nat × List UInt8)} {la : Array Value} {F G : Nat → Prop} (h : L1 w wr D Lb l W la F G) (hLb : w.heap.size ≤ Lb) (i : Nat) (v : Value) : L1 w (wr.setCell ⟨Lb, i, none⟩ v) D Lb l W (la.setIfInBounds i v) F G :=
  ⟨h.up.frame (S := (· = Lb)) (chg_set Lb i v) (by rintro i rfl; exact ⟨h.nf, h.ng⟩), h.ge, h.nf, h.ng, h.la.set_ i v, h.be.setCell (p := ⟨Lb, i, none⟩) hLb v⟩

theorem L1.drewN {w wr : World} {D Lb : Nat} {l : List (List UInt8)} {W : List (Nat × List UInt8)} {la : Array Value} {F G : Nat → Prop} (h : L1 w wr D Lb l W la F G) (n : Nat) : L1 w (wr.drewN n) D Lb l W la F G :=
  h.below ⟨rfl, rfl, rfl, Nat.le_refl _, fun _ _ => rfl⟩

def cnd (ts : List Int) (ks : List Bool) (s : Nat) (bs : List UInt8) (i : Nat) : Bool := (sidx (ts.getD i 0) == s) && ks.getD i false && (bs == sector 2 (i : Int))
def okk (b : Bool) (ts : List Int) (ks : List Bool) (s : Nat) (bs : List UInt8) (k : Nat) : Bool := b || (List.range k).any (cnd ts ks s bs)
theorem okk_succ (b : Bool) (ts : List Int) (ks : List Bool) (s : Nat) (bs : List UInt8) (k : Nat) : okk b ts ks s bs (k + 1) = (okk b ts ks s bs k || cnd ts ks s bs k) := by
  simp [okk, List.range_succ, Bool.or_assoc]

theorem cnd_no1 {ts : List Int} {ks : List Bool} {s : Nat} {bs : List UInt8} {i : Nat} (h : ks.getD i false = false) : cnd ts ks s bs i = false := by unfold cnd; rw [h]; simp
theorem cnd_no2 {ts : List Int} {ks : List Bool} {s : Nat} {bs : List UInt8} {i : Nat} (h : sidx (ts.getD i 0) ≠ s) : cnd ts ks s bs i = false := by unfold cnd; rw [beq_eq_false_iff_ne.2 h]; rfl
theorem cnd_yes {ts : List Int} {ks : List Bool} {s : Nat} {bs : List UInt8} {i : Nat} (h : sidx (ts.getD i 0) = s) (h2 : ks.getD i false = true) : cnd ts ks s bs i = (bs == sector 2 (i : Int)) := by unfold cnd; rw [beq_iff_eq.2 h, h2]; rfl

theorem Up.len {w : World} {D : Nat} {F G : Nat → Prop} {l : List (List UInt8)} {W : List (Nat × List UInt8)} (h : Up w D F G l W) (i : Nat) (bs : List UInt8) (hi : l[i]? = some bs) : bs.length = 128 := by
  obtain ⟨m, h, rfl, _⟩ := h
  obtain ⟨lv, cv, ls, ws, _, hm⟩ := h.mem
  obtain ⟨v, _, hs⟩ := hm.sl i bs hi
  rcases hs with ⟨_, rfl⟩ | hs
  · simp [zeros]
  · exact hs.1

theorem lasts_plain (fs ts : List Int) (ks : List Bool) (n n2 s : Nat) (hs : s < 8) (l1 l2 : List (List UInt8)) (bs : List UInt8) (z : Int) (h1 : l1 = applyW (List.replicate 8 zeros) (wl (fun i => sector 1 ((i : Int) + 1)) fs n))
    (h2 : l2 = applyK l1 (wl (fun i => sector 2 (i : Int)) ts n2) ks n2) (hb : bs = l2.getD s []) (hz : z = lastOf fs n s) : okk (bs == old z) ts ks s bs n2 = true := by
  have hl : s < l1.length := by rw [h1, applyW_length]; simpa using hs
  rcases crashed l1 ts ks (fun i => sector 2 (i : Int)) n2 s n2 (Nat.le_refl _) hl with h | ⟨i, hi, a, b, c⟩
  · have : bs = old z := by rw [hb, h2, h, h1, hz]; exact synced fs n s hs
    simp [okk, this]
  · rw [← h2, ← hb] at c
    have hc : cnd ts ks s bs i = true := by rw [cnd_yes a b, c]; simp
    unfold okk
    rw [Bool.or_eq_true]
    exact .inr (List.any_eq_true.2 ⟨i, by simpa using hi, hc⟩)

set_option maxHeartbeats 4000000 in
theorem lasts_any (FA TA KA : Option Addr) (fc tc kc : Nat) (fs ts : List Int) (ks : List Bool) (w : World) (h1 : Rd w 1 FA fs.length (ints fs)) (h2 : Rd w 1 TA ts.length (ints ts)) (h3 : Rd w 1 KA ks.length (bls ks))
    (b1 : fs.length ≤ 9223372036854775807) (b2 : ts.length ≤ 9223372036854775807) (b3 : ks.length ≤ 9223372036854775807) :
    Calls Try.prog 3 #[.slice FA fs.length fc, .slice TA ts.length tc, .slice KA ks.length kc] w fun e w' => e = .returned (.bool true) ∧ Below w.heap.size w w' := by
  have H1 := hid h1
  have H2 := hid h2
  have H3 := hid h3
  clear h1 h2 h3
  go_enter Try.func3, Try.ntmps3
  go_wp2_with fail
  refine (new_up 8 _ (by omega) (by omega)).mono ?_
  rintro e w1 ⟨D, F, G, rfl, hu, hF, hb1⟩
  have hs1 := hb1.size
  have HL : Hid (∃ F G, L1 w (w1.alloc (.cells (lastArr fs 0) 28)) D w1.heap.size (List.replicate 8 zeros) (wl (fun i => sector 1 ((i : Int) + 1)) fs 0) (lastArr fs 0) F G) := hid
    ⟨F, G, hu.below ((Below.refl _ _).alloc (Nat.le_refl _) _), hF, fun h => by have := hu.lt.1 _ h; omega, fun h => by have := hu.lt.2.1 _ h; omega, Blk.new _ _ _, hb1.alloc hs1 _⟩
  have eLb : Hid (lastArr fs 0 = #[.int .i64 0, .int .i64 0, .int .i64 0, .int .i64 0, .int .i64 0, .int .i64 0, .int .i64 0, .int .i64 0]) := hid rfl
  rw [eLb.out] at HL
  have HL2 : Hid (w.heap.size ≤ w1.heap.size) := hid hs1
  clear hu hF hb1
  go_upto_block 0 with fail
  go_cut [10] (fun _ wx => ∃ n F G, n ≤ 40 ∧ L1 w wx D w1.heap.size (List.replicate 8 zeros) (wl (fun i => sector 1 ((i : Int) + 1)) fs n) (lastArr fs n) F G)
  case first =>
   go_wp2_with fail
   go_loopw [10] (fun i wr => ∃ k : Nat, k ≤ fs.length ∧ k ≤ 40 ∧ i = .int .i64 k ∧ ∃ F G, L1 w wr D w1.heap.size (List.replicate 8 zeros) (wl (fun i => sector 1 ((i : Int) + 1)) fs k) (lastArr fs k) F G) (fun i _ => 40 - (intOf i).toNat)
   case atStart => exact ⟨0, by omega, by omega, rfl, HL.out⟩
   case round =>
     obtain ⟨k, hk, hk40, rfl, F1, G1, hR⟩ := hrel
     by_cases hlt : k < fs.length ∧ k < 40
     · obtain ⟨hlt, hlt40⟩ := hlt
       obtain ⟨fb, fo, rfl, hfb, hfc⟩ := arg_int H1.out hlt
       obtain ⟨x, hx⟩ : ∃ x, x = fs.getD k 0 := ⟨_, rfl⟩
       rw [← hx] at hfc
       have rfc : wr.cell? ⟨fb, fo + k, none⟩ = some (.int .i64 x) := (hR.be.cell (p := ⟨fb, fo + k, none⟩) hfb).trans hfc
       obtain ⟨s, hs⟩ : ∃ s, s = sidx x := ⟨_, rfl⟩
       have ha : bits .and .i64 x 7 = (s : Int) := by rw [and7, hs]; rfl
       have hs8 : s < 8 := by rw [hs]; exact sidx_lt x
       have hsw : IntKind.i64.wrap ((k : Int) + 1) = (k : Int) + 1 := IntWalk.i64_in _ (by omega)
       have hk0 : (0 : Int) ≤ (k : Int) := Int.natCast_nonneg _
       have hk1 : (k : Int) < (fs.length : Int) := by omega
       have hs0 : (0 : Int) ≤ (s : Int) := Int.natCast_nonneg _
       have hs1 : (s : Int) < 8 := by omega
       have Hx := hid hx
       have Hs := hid hs
       have HR := hid hR
       have hbr := hR.be.size
       clear hx hs hR hfc
       go_wp2_with fail
       go_region_held3 (fun w' => w'.cell? ⟨fb, fo + k, none⟩ = some (.int .i64 x))
         (first
           | go_keep
           | (exact (hb2.cell (p := ⟨fb, fo + k, none⟩) (by show fb < wr.heap.size; omega)).trans rfc)
           | (exact (hc3.cell (p := ⟨fb, fo + k, none⟩) (by show fb < w2.heap.size; omega) (fun h => by have := HR2.out.ge _ (.inl h); simp at this; omega)).trans ((hb2.cell (p := ⟨fb, fo + k, none⟩) (by show fb < wr.heap.size; omega)).trans rfc)))
         (first
           | (go_at_call 13
              refine (sector_any 1 ((k : Int) + 1) _).mono ?_
              rintro e w2 ⟨g2, rfl, hg2, hblk2, hb2'⟩
              have hb2 : Below wr.heap.size wr w2 := below_of_drew hb2'
              have hs2 := hb2.size
              have ng : ¬ g2 = D := fun e => by have := HR.out.up.lt.1 _ HR.out.up.lt.2.2; have hg2' : wr.heap.size ≤ g2 := hg2; omega
              have HR2 := hid (HR.out.below hb2))
           | (go_at_call 12
              refine (write_up D F1 G1 _ _ w2 HR2.out.up s _ _ (sector 1 ((k : Int) + 1)) (by simp; omega) (Rd.of_blk hblk2 (by simp [length_u8s, length_sector])) (by rintro ad h; injection h with h; subst h; exact ng) (by rw [wl_length]; omega)).mono ?_
              rintro e w3 ⟨rfl, F3, G3, hu3, hF3, hG3, hc3⟩
              have HR3 := hid (HR2.out.step hu3 hF3 hG3 hc3)))
       have rfc3 : w3.cell? ⟨fb, fo + k, none⟩ = some (.int .i64 x) := (HR3.out.be.cell (p := ⟨fb, fo + k, none⟩) hfb).trans ((HR.out.be.cell (p := ⟨fb, fo + k, none⟩) hfb).symm.trans rfc)
       have lc := HR3.out.la.cell_ s (lastArr_cell fs k s hs8)
       have lf := HR3.out.la.frozen s
       clear rfc hb2 hb2' hc3 hF3 hG3 hu3 hblk2 hg2 HR2
       go_wp2
       go_roundw
       case rel =>
         refine ⟨k + 1, by omega, by omega, by go_num, F3, G3, ?_⟩
         have hL := HR3.out.setLast HL2.out s (.int .i64 ((k : Int) + 1))
         rw [Hs.out, Hx.out] at hL
         rw [lastArr_set, wl_succ] at *
         rw [Hs.out, Hx.out]
         exact hL
       case measure => simp [intOf]; omega
     · have HR := hid hR
       have hk1 : (k : Int) ≤ 40 := by omega
       clear hR
       by_cases hl2 : k < fs.length
       · have hk2 : 40 ≤ k := by omega
         clear hlt
         go_wp2
         go_meet
         exact ⟨k, F1, G1, hk40, HR.out⟩
       · clear hlt
         go_wp2
         go_meet
         exact ⟨k, F1, G1, hk40, HR.out⟩
  case rest =>
    obtain ⟨n, F2, G2, hn, hL⟩ := hcut
    have HL3 := hid hL
    clear hL HL
    go_wp2_with fail
    refine (sync_up D F2 G2 _ _ _ HL3.out.up (by rw [wl_length]; omega)).mono ?_
    rintro e w5 ⟨rfl, hu5, hc5⟩
    have HL5 := hid (HL3.out.step hu5 (fun i h => .inl h) (fun i h => .inl h) hc5)
    obtain ⟨l1, hl1⟩ : ∃ l1, l1 = applyW (List.replicate 8 zeros) (wl (fun i => sector 1 ((i : Int) + 1)) fs n) := ⟨_, rfl⟩
    rw [← hl1] at HL5
    have Hl1 := hid hl1
    have hl8 : l1.length = 8 := by rw [hl1, applyW_length]; simp
    have Hl8 := hid hl8
    clear hu5 hc5 hl1 hl8 HL3
    go_upto_block 2 with fail
    go_cut [11] (fun _ wx => ∃ n2 F G, n2 ≤ 40 ∧ n2 ≤ ts.length ∧ (n2 = ts.length ∨ n2 = 40) ∧ L1 w wx D w1.heap.size l1 (wl (fun i => sector 2 (i : Int)) ts n2) (lastArr fs n) F G)
    case first =>
      go_wp2_with fail
      go_loopw [11] (fun i wr => ∃ k : Nat, k ≤ ts.length ∧ k ≤ 40 ∧ i = .int .i64 k ∧ ∃ F G, L1 w wr D w1.heap.size l1 (wl (fun i => sector 2 (i : Int)) ts k) (lastArr fs n) F G) (fun i _ => 40 - (intOf i).toNat)
      case atStart => exact ⟨0, by omega, by omega, rfl, _, _, HL5.out⟩
      case round =>
        obtain ⟨k, hk, hk40, rfl, F1, G1, hR⟩ := hrel
        by_cases hlt : k < ts.length ∧ k < 40
        · obtain ⟨hlt, hlt40⟩ := hlt
          obtain ⟨fb, fo, rfl, hfb, hfc⟩ := arg_int H2.out hlt
          obtain ⟨x, hx⟩ : ∃ x, x = ts.getD k 0 := ⟨_, rfl⟩
          rw [← hx] at hfc
          have rfc : wr.cell? ⟨fb, fo + k, none⟩ = some (.int .i64 x) := (hR.be.cell (p := ⟨fb, fo + k, none⟩) hfb).trans hfc
          obtain ⟨s, hs⟩ : ∃ s, s = sidx x := ⟨_, rfl⟩
          have ha : bits .and .i64 x 7 = (s : Int) := by rw [and7, hs]; rfl
          have hs8 : s < 8 := by rw [hs]; exact sidx_lt x
          have hk0 : (0 : Int) ≤ (k : Int) := Int.natCast_nonneg _
          have hk1 : (k : Int) < (ts.length : Int) := by omega
          have Hx := hid hx
          have Hs := hid hs
          have HR := hid hR
          have hbr := hR.be.size
          clear hx hs hR hfc
          go_wp2_with fail
          go_region_held3 (fun w' => w'.cell? ⟨fb, fo + k, none⟩ = some (.int .i64 x))
            (first
              | go_keep
              | (exact (hb2.cell (p := ⟨fb, fo + k, none⟩) (by show fb < wr.heap.size; omega)).trans rfc)
              | (exact (hc3.cell (p := ⟨fb, fo + k, none⟩) (by show fb < w2.heap.size; omega) (fun h => by have := HR2.out.ge _ (.inl h); simp at this; omega)).trans ((hb2.cell (p := ⟨fb, fo + k, none⟩) (by show fb < wr.heap.size; omega)).trans rfc)))
            (first
              | (go_at_call 13
                 refine (sector_any 2 (k : Int) _).mono ?_
                 rintro e w2 ⟨g2, rfl, hg2, hblk2, hb2'⟩
                 have hb2 : Below wr.heap.size wr w2 := below_of_drew hb2'
                 have hs2 := hb2.size
                 have ng : ¬ g2 = D := fun e => by have := HR.out.up.lt.1 _ HR.out.up.lt.2.2; have hg2' : wr.heap.size ≤ g2 := hg2; omega
                 have HR2 := hid (HR.out.below hb2))
              | (go_at_call 12
                 refine (write_up D F1 G1 _ _ w2 HR2.out.up s _ _ (sector 2 (k : Int)) (by rw [Hl8.out]; omega) (Rd.of_blk hblk2 (by simp [length_u8s, length_sector])) (by rintro ad h; injection h with h; subst h; exact ng) (by rw [wl_length]; omega)).mono ?_
                 rintro e w3 ⟨rfl, F3, G3, hu3, hF3, hG3, hc3⟩
                 have HR3 := hid (HR2.out.step hu3 hF3 hG3 hc3)))
          clear rfc hb2 hb2' hc3 hF3 hG3 hu3 hblk2 hg2 HR2
          go_wp2
          go_roundw
          case rel =>
            refine ⟨k + 1, by omega, by omega, by go_num, F3, G3, ?_⟩
            have hL := HR3.out
            rw [wl_succ, ← Hx.out, ← Hs.out]
            exact hL
          case measure => simp [intOf]; omega
        · have HR := hid hR
          have hk1 : (k : Int) ≤ 40 := by omega
          clear hR
          by_cases hl2 : k < ts.length
          · have hk2 : 40 ≤ k := by omega
            clear hlt
            go_wp2
            go_meet
            exact ⟨k, F1, G1, hk40, hk, .inr (by omega), HR.out⟩
          · clear hlt
            go_wp2
            go_meet
            exact ⟨k, F1, G1, hk40, hk, .inl (by omega), HR.out⟩
    case rest =>
      obtain ⟨n2, F6, G6, hn2, hn2t, hn2c, hL⟩ := hcut
      have HL6 := hid hL
      have Hn2c := hid hn2c
      clear hL HL5 hn2c
      go_wp2_with fail
      refine (crash_up D F6 G6 _ _ _ HL6.out.up (by rw [wl_length]; omega) KA kc ks (by exact H3.out.below HL6.out.be) (fun h0 ad e hf => by
        have := HL6.out.ge _ (.inl hf)
        obtain ⟨ad', e', hb, _⟩ := H3.out.2 h0
        rw [e] at e'; injection e' with e'; subst e'
        omega) b3).mono ?_
      rintro e w7 ⟨rfl, hu7, hc7⟩
      have HL7 := hid (HL6.out.step hu7 (fun i h => .inl h) (fun i h => .inl h) hc7)
      rw [wl_length] at HL7
      obtain ⟨l2, hl2⟩ : ∃ l2, l2 = applyK l1 (wl (fun i => sector 2 (i : Int)) ts n2) ks n2 := ⟨_, rfl⟩
      rw [← hl2] at HL7
      have Hl2 := hid hl2
      have Hl28 : Hid (l2.length = 8) := hid (by rw [hl2, applyK_length _ _ _ _ (by rw [wl_length]; omega)]; exact Hl8.out)
      clear hu7 hc7 hl2 HL6
      go_upto_block 4 with fail
      go_cut [12] (fun _ wx => ∃ F G, L1 w wx D w1.heap.size l2 [] (lastArr fs n) F G)
      case first =>
        go_wp2_with fail
        go_loopw [12] (fun i wr => ∃ s : Nat, s ≤ 8 ∧ i = .int .i64 s ∧ ∃ F G, L1 w wr D w1.heap.size l2 [] (lastArr fs n) F G) (fun i _ => 8 - (intOf i).toNat)
        case atStart => exact ⟨0, by omega, rfl, _, _, HL7.out⟩
        case round =>
          obtain ⟨s, hs8, rfl, F1, G1, hR⟩ := hrel
          have HR := hid hR
          clear hR
          by_cases hlt : s < 8
          · go_wp2_with fail
            refine (read_up D F1 G1 _ _ _ HR.out.up s (by rw [Hl28.out]; exact hlt) (by simp)).mono ?_
            rintro e w2 ⟨g, rfl, hg, hbg, hu2, hc2⟩
            have hge : ∀ i, i = D → F1 i := by rintro i rfl; exact HR.out.up.lt.2.2
            have HR2 := hid (HR.out.step hu2 (fun i h => .inl h) (fun i h => .inl h) (hc2.mono (fun i _ h => hge i h)))
            obtain ⟨bs, hbs⟩ : ∃ bs, bs = l2.getD s [] := ⟨_, rfl⟩
            have hbg' : Blk w2 g 5 (u8s bs).toArray := by rw [hbs]; exact hbg
            have Hbg := hid hbg'
            have Hbs := hid hbs
            have Hbl : Hid (bs.length = 128) := hid (HR2.out.up.len s _ (by rw [hbs, List.getD_eq_getElem?_getD, List.getElem?_eq_getElem (by rw [Hl28.out]; exact hlt)]; rfl))
            obtain ⟨z, hz⟩ : ∃ z, z = lastOf fs n s := ⟨_, rfl⟩
            have hlc : w2.cell? ⟨w1.heap.size, s, none⟩ = some (.int .i64 z) := by rw [hz]; exact HR2.out.la.cell_ s (lastArr_cell fs n s hlt)
            have hzb : 0 ≤ z ∧ z ≤ 40 := by have := lastOf_bd fs n s; omega
            have Hz := hid hz
            have hm128 := make128
            have lLb := HR2.out.la.lt
            have s0 : (0 : Int) ≤ (s : Int) := Int.natCast_nonneg _
            have s1 : (s : Int) < 8 := by omega
            obtain ⟨hz0, hz1⟩ := hzb
            clear hbg hbg' hbs hz hu2 hc2 hge HR hg
            go_upto_if 97 with fail
            go_cut [15] (fun v wx => ∃ go, v = .slice (some ⟨go, 0, none⟩) 128 128 ∧ Blk wx go 5 (u8s (old z)).toArray ∧ Blk wx g 5 (u8s bs).toArray ∧ L1 w wx D w1.heap.size l2 [] (lastArr fs n) F1 G1)
            case first =>
              by_cases hzp : 0 < z
              · go_wp2_with fail
                refine (sector_any 1 z _).mono ?_
                rintro e w3 ⟨g3, rfl, hg3, hb3, hbe3⟩
                have hbe : Below w2.heap.size w2 w3 := ((Below.refl _ w2).alloc (Nat.le_refl _) _).trans (hbe3.mono (by simp))
                have eo : old z = sector 1 z := by simp [old, hzp]
                have Heo := hid eo
                clear eo hlc
                go_wp2
                go_meet
                exact ⟨g3, rfl, by rw [Heo.out]; exact hb3, Hbg.out.below hbe Hbg.out.lt, HR2.out.below hbe⟩
              · have hzn : z ≤ 0 := by omega
                have eo : old z = zeros := by unfold old; rw [if_neg hzp]
                have Heo := hid eo
                clear eo
                have hbe : Below w2.heap.size w2 (w2.alloc (.cells (u8s zeros).toArray 5)) := (Below.refl _ w2).alloc (Nat.le_refl _) _
                go_wp2
                go_meet
                exact ⟨w2.heap.size, rfl, by rw [Heo.out]; exact Blk.new _ _ _, Hbg.out.below hbe Hbg.out.lt, HR2.out.below hbe⟩
            case rest =>
              obtain ⟨go, rfl, hgo, hgb, hL⟩ := hcut
              have HgB := hid hgb
              have HL := hid hL
              have Hlo : Hid ((old z).length = 128) := hid (by unfold old; split; exact length_sector _ _; simp [zeros])
              have hv1 := run_str wc _ 128 128 bs (Rd.of_blk hgb (by rw [length_u8s]; exact Hbl.out))
              have hv2 := run_str wc _ 128 128 (old z) (Rd.of_blk hgo (by rw [length_u8s]; exact Hlo.out))
              clear hgo hgb hL hlc HR2 Hbg
              go_upto_block 6 with fail
              go_cut [16, 17] (fun v16 _ wx => v16 = .bool true ∧ L1 w wx D w1.heap.size l2 [] (lastArr fs n) F1 G1)
              case first =>
                go_wp2_with fail
                go_loopw [16, 17] (fun v i wr => ∃ (k : Nat) (okb : Bool), k ≤ ts.length ∧ k ≤ 40 ∧ v = .bool okb ∧ i = .int .i64 k ∧ okb = okk (bs == old z) ts ks s bs k ∧ Blk wr g 5 (u8s bs).toArray ∧ L1 w wr D w1.heap.size l2 [] (lastArr fs n) F1 G1) (fun _ i _ => 40 - (intOf i).toNat)
                case atStart => exact ⟨0, _, by omega, by omega, rfl, rfl, by simp [okk], HgB.out, HL.out⟩
                case round =>
                  obtain ⟨k, okb, hk, hk40, rfl, rfl, hok, hgB, hR⟩ := hrel
                  have Hok := hid hok
                  have HgR := hid hgB
                  have HR := hid hR
                  have k0 : (0 : Int) ≤ (k : Int) := Int.natCast_nonneg _
                  clear hok hgB hR hv1 hv2
                  by_cases hlk : k < ts.length ∧ k < 40
                  · obtain ⟨hlk, hlk40⟩ := hlk
                    obtain ⟨fb, fo, rfl, hfb, hfc⟩ := arg_int H2.out hlk
                    obtain ⟨x, hx⟩ : ∃ x, x = ts.getD k 0 := ⟨_, rfl⟩
                    rw [← hx] at hfc
                    have rfc : wr.cell? ⟨fb, fo + k, none⟩ = some (.int .i64 x) := (HR.out.be.cell (p := ⟨fb, fo + k, none⟩) hfb).trans hfc
                    obtain ⟨sx, hsx⟩ : ∃ sx, sx = sidx x := ⟨_, rfl⟩
                    have ha : bits .and .i64 x 7 = (sx : Int) := by rw [and7, hsx]; rfl
                    have hk1 : (k : Int) < (ts.length : Int) := by omega
                    have Hx := hid hx
                    have Hsx := hid hsx
                    clear hx hsx hfc
                    cases okb
                    · by_cases hc1 : sx = s
                      · have hd1 : ((sx : Int) == (s : Int)) = true := by simp [hc1]
                        have Hc1 := hid hc1
                        clear hc1
                        by_cases hc2 : k < ks.length
                        · obtain ⟨kb, ko, rfl, hkb, hkc⟩ := arg_bool H3.out hc2
                          obtain ⟨b, hb⟩ : ∃ b, b = ks.getD k false := ⟨_, rfl⟩
                          rw [← hb] at hkc
                          have rkc : wr.cell? ⟨kb, ko + k, none⟩ = some (.bool b) := (HR.out.be.cell (p := ⟨kb, ko + k, none⟩) hkb).trans hkc
                          have Hb := hid hb
                          have hc2' : (k : Int) < (ks.length : Int) := by omega
                          clear hb hkc
                          cases b
                          · go_wp2_with fail
                            go_quiet (fail)
                            go_wp2
                            go_roundw
                            case rel => exact ⟨k + 1, false, by omega, by omega, rfl, by go_num, by rw [okk_succ, ← Hok.out, cnd_no1 Hb.out.symm]; rfl, HgR.out.drewN _, HR.out.drewN _⟩
                            case measure => simp [intOf]; omega
                          · have hsw : IntKind.i64.wrap ((k : Int) + 1) = (k : Int) + 1 := IntWalk.i64_in _ (by omega)
                            have rv1 := run_str wr _ 128 128 bs (Rd.of_blk HgR.out (by rw [length_u8s]; exact Hbl.out))
                            have hbr := HR.out.be.size
                            go_wp2_with fail
                            refine wp_region_held_drew (S := fun w' => w'.cell? ⟨fb, fo + k, none⟩ = some (.int .i64 x) ∧ w'.cell? ⟨kb, ko + k, none⟩ = some (.bool true) ∧ (convert 30 9 (.slice (some ⟨g, 0, none⟩) 128 128)).run Try.prog w' = .ok (.string ⟨bs.toArray⟩) w') (by kernel_rfl) ⟨rfc, rkc, run_str _ _ 128 128 bs (Rd.of_blk HgR.out.drew (by rw [length_u8s]; exact Hbl.out))⟩ (fun hHeld => ?_)
                            refine wpAnyH_take (i := 0) (oi := { dst := some 117, op := Op.move (Operand.tmp 16), type := 4, pos := _, after := #[], guard := none }) (v := ?_) rfl (by kernel_rfl) (by kernel_rfl) (by kernel_rfl) (fun _ _ _ h => h) (Or.inl ⟨by rfl, ?_⟩) (by assumption) ?_
                            rotate_left
                            · (intro w' hSw; (try dsimp only at hSw); go_simp; try with_reducible rfl)
                            try simp only [Act.put, List.setIfInBounds_toArray, List.set_cons_zero, List.set_cons_succ]
                            refine wpAnyH_take (i := 1) (oi := { dst := some 118, op := Op.move (Operand.tmp 117), type := 4, pos := _, after := #[{ on := 0, ground := Ground.data }], guard := none }) (v := ?_) rfl (by kernel_rfl) (by kernel_rfl) (by kernel_rfl) (fun _ _ _ h => h) (Or.inl ⟨by rfl, ?_⟩) (by assumption) ?_
                            rotate_left
                            · (intro w' hSw; (try dsimp only at hSw); go_simp; try with_reducible rfl)
                            try simp only [Act.put, List.setIfInBounds_toArray, List.set_cons_zero, List.set_cons_succ]
                            refine wpAnyH_take (i := 2) (oi := { dst := some 119, op := Op.move (Operand.tmp 1), type := 22, pos := _, after := #[{ on := 1, ground := Ground.guard }], guard := some (1, false) }) (v := ?_) rfl (by kernel_rfl) (by kernel_rfl) (by kernel_rfl) (fun _ _ _ h => h) (Or.inl ⟨by rfl, ?_⟩) (by assumption) ?_
                            rotate_left
                            · (intro w' hSw; (try dsimp only at hSw); go_simp; try with_reducible rfl)
                            try simp only [Act.put, List.setIfInBounds_toArray, List.set_cons_zero, List.set_cons_succ]
                            refine wpAnyH_take (i := 3) (oi := { dst := some 120, op := Op.move (Operand.tmp 17), type := 3, pos := _, after := #[{ on := 1, ground := Ground.guard }], guard := some (1, false) }) (v := ?_) rfl (by kernel_rfl) (by kernel_rfl) (by kernel_rfl) (fun _ _ _ h => h) (Or.inl ⟨by rfl, ?_⟩) (by assumption) ?_
                            rotate_left
                            · (intro w' hSw; (try dsimp only at hSw); go_simp; try with_reducible rfl)
                            try simp only [Act.put, List.setIfInBounds_toArray, List.set_cons_zero, List.set_cons_succ]
                            refine wpAnyH_take (i := 4) (oi := { dst := some 121, op := Op.indexAddr 22 (Operand.tmp 119) (Operand.tmp 120), type := 0, pos := _, after := #[{ on := 2, ground := Ground.data }, { on := 3, ground := Ground.data }, { on := 1, ground := Ground.guard }], guard := some (1, false) }) (v := ?_) rfl (by kernel_rfl) (by kernel_rfl) (by kernel_rfl) (fun _ _ _ h => h) (Or.inl ⟨by rfl, ?_⟩) (by assumption) ?_
                            rotate_left
                            · (intro w' hSw; (try dsimp only at hSw); go_simp; try with_reducible rfl)
                            try simp only [Act.put, List.setIfInBounds_toArray, List.set_cons_zero, List.set_cons_succ]
                            refine wpAnyH_take (i := 5) (oi := { dst := some 122, op := Op.load 3 (Operand.tmp 121), type := 3, pos := _, after := #[{ on := 4, ground := Ground.data }, { on := 1, ground := Ground.guard }], guard := some (1, false) }) (v := ?_) rfl (by kernel_rfl) (by kernel_rfl) (by kernel_rfl) (fun _ _ _ h => h) (Or.inl ⟨by rfl, ?_⟩) (by assumption) ?_
                            rotate_left
                            · (intro w' hSw; (try dsimp only at hSw); go_simp; try with_reducible rfl)
                            try simp only [Act.put, List.setIfInBounds_toArray, List.set_cons_zero, List.set_cons_succ]
                            refine wpAnyH_take (i := 6) (oi := { dst := some 123, op := Op.binOp BinOp.and 3 (Operand.tmp 122) (Operand.const (Value.int IntKind.i64 7)) 3, type := 3, pos := _, after := #[{ on := 5, ground := Ground.data }, { on := 1, ground := Ground.guard }], guard := some (1, false) }) (v := ?_) rfl (by kernel_rfl) (by kernel_rfl) (by kernel_rfl) (fun _ _ _ h => h) (Or.inl ⟨by rfl, ?_⟩) (by assumption) ?_
                            rotate_left
                            · (intro w' hSw; (try dsimp only at hSw); go_simp; try with_reducible rfl)
                            try simp only [Act.put, List.setIfInBounds_toArray, List.set_cons_zero, List.set_cons_succ]
                            refine wpAnyH_take (i := 7) (oi := { dst := some 124, op := Op.move (Operand.tmp 12), type := 3, pos := _, after := #[{ on := 1, ground := Ground.guard }], guard := some (1, false) }) (v := ?_) rfl (by kernel_rfl) (by kernel_rfl) (by kernel_rfl) (fun _ _ _ h => h) (Or.inl ⟨by rfl, ?_⟩) (by assumption) ?_
                            rotate_left
                            · (intro w' hSw; (try dsimp only at hSw); go_simp; try with_reducible rfl)
                            try simp only [Act.put, List.setIfInBounds_toArray, List.set_cons_zero, List.set_cons_succ]
                            refine wpAnyH_take (i := 8) (oi := { dst := some 125, op := Op.binOp BinOp.eql 3 (Operand.tmp 123) (Operand.tmp 124) 3, type := 4, pos := _, after := #[{ on := 6, ground := Ground.data }, { on := 7, ground := Ground.data }, { on := 1, ground := Ground.guard }], guard := some (1, false) }) (v := ?_) rfl (by kernel_rfl) (by kernel_rfl) (by kernel_rfl) (fun _ _ _ h => h) (Or.inl ⟨by rfl, ?_⟩) (by assumption) ?_
                            rotate_left
                            · (intro w' hSw; (try dsimp only at hSw); go_simp; try with_reducible rfl)
                            try simp only [Act.put, List.setIfInBounds_toArray, List.set_cons_zero, List.set_cons_succ]
                            refine wpAnyH_take (i := 9) (oi := { dst := some 126, op := Op.move (Operand.tmp 125), type := 4, pos := _, after := #[{ on := 8, ground := Ground.data }, { on := 1, ground := Ground.chain }, { on := 1, ground := Ground.guard }], guard := some (1, false) }) (v := ?_) rfl (by kernel_rfl) (by kernel_rfl) (by kernel_rfl) (fun _ _ _ h => h) (Or.inl ⟨by rfl, ?_⟩) (by assumption) ?_
                            rotate_left
                            · (intro w' hSw; (try dsimp only at hSw); go_simp; try with_reducible rfl)
                            try simp only [Act.put, List.setIfInBounds_toArray, List.set_cons_zero, List.set_cons_succ]
                            refine wpAnyH_take (i := 10) (oi := { dst := some 127, op := Op.move (Operand.tmp 17), type := 3, pos := _, after := #[{ on := 9, ground := Ground.guard }], guard := some (9, true) }) (v := ?_) rfl (by kernel_rfl) (by kernel_rfl) (by kernel_rfl) (fun _ _ _ h => h) (Or.inl ⟨by rfl, ?_⟩) (by assumption) ?_
                            rotate_left
                            · (intro w' hSw; (try dsimp only at hSw); go_simp; try with_reducible rfl)
                            try simp only [Act.put, List.setIfInBounds_toArray, List.set_cons_zero, List.set_cons_succ]
                            refine wpAnyH_take (i := 11) (oi := { dst := some 128, op := Op.move (Operand.tmp 2), type := 23, pos := _, after := #[{ on := 9, ground := Ground.guard }], guard := some (9, true) }) (v := ?_) rfl (by kernel_rfl) (by kernel_rfl) (by kernel_rfl) (fun _ _ _ h => h) (Or.inl ⟨by rfl, ?_⟩) (by assumption) ?_
                            rotate_left
                            · (intro w' hSw; (try dsimp only at hSw); go_simp; try with_reducible rfl)
                            try simp only [Act.put, List.setIfInBounds_toArray, List.set_cons_zero, List.set_cons_succ]
                            refine wpAnyH_take (i := 12) (oi := { dst := some 129, op := Op.call { callee := Callee.builtin Builtin.len, args := #[Operand.tmp 128], argTypes := #[23] }, type := 3, pos := _, after := #[{ on := 11, ground := Ground.data }, { on := 9, ground := Ground.guard }], guard := some (9, true) }) (v := ?_) rfl (by kernel_rfl) (by kernel_rfl) (by kernel_rfl) (fun _ _ _ h => h) (Or.inl ⟨by rfl, ?_⟩) (by assumption) ?_
                            rotate_left
                            · (intro w' hSw; (try dsimp only at hSw); go_simp; try with_reducible rfl)
                            try simp only [Act.put, List.setIfInBounds_toArray, List.set_cons_zero, List.set_cons_succ]
                            refine wpAnyH_take (i := 13) (oi := { dst := some 130, op := Op.binOp BinOp.lss 3 (Operand.tmp 127) (Operand.tmp 129) 3, type := 4, pos := _, after := #[{ on := 10, ground := Ground.data }, { on := 12, ground := Ground.data }, { on := 9, ground := Ground.guard }], guard := some (9, true) }) (v := ?_) rfl (by kernel_rfl) (by kernel_rfl) (by kernel_rfl) (fun _ _ _ h => h) (Or.inl ⟨by rfl, ?_⟩) (by assumption) ?_
                            rotate_left
                            · (intro w' hSw; (try dsimp only at hSw); go_simp; try with_reducible rfl)
                            try simp only [Act.put, List.setIfInBounds_toArray, List.set_cons_zero, List.set_cons_succ]
                            refine wpAnyH_take (i := 14) (oi := { dst := some 131, op := Op.pick (Operand.tmp 126) (Operand.tmp 130) (Operand.const (Value.bool false)), type := 4, pos := _, after := #[{ on := 9, ground := Ground.data }, { on := 13, ground := Ground.data }, { on := 1, ground := Ground.guard }], guard := some (1, false) }) (v := ?_) rfl (by kernel_rfl) (by kernel_rfl) (by kernel_rfl) (fun _ _ _ h => h) (Or.inl ⟨by rfl, ?_⟩) (by assumption) ?_
                            rotate_left
                            · (intro w' hSw; (try dsimp only at hSw); go_simp; try with_reducible rfl)
                            try simp only [Act.put, List.setIfInBounds_toArray, List.set_cons_zero, List.set_cons_succ]
                            refine wpAnyH_take (i := 15) (oi := { dst := some 132, op := Op.move (Operand.tmp 131), type := 4, pos := _, after := #[{ on := 14, ground := Ground.data }, { on := 9, ground := Ground.chain }, { on := 1, ground := Ground.guard }], guard := some (1, false) }) (v := ?_) rfl (by kernel_rfl) (by kernel_rfl) (by kernel_rfl) (fun _ _ _ h => h) (Or.inl ⟨by rfl, ?_⟩) (by assumption) ?_
                            rotate_left
                            · (intro w' hSw; (try dsimp only at hSw); go_simp; try with_reducible rfl)
                            try simp only [Act.put, List.setIfInBounds_toArray, List.set_cons_zero, List.set_cons_succ]
                            refine wpAnyH_take (i := 16) (oi := { dst := some 133, op := Op.move (Operand.tmp 2), type := 23, pos := _, after := #[{ on := 15, ground := Ground.guard }], guard := some (15, true) }) (v := ?_) rfl (by kernel_rfl) (by kernel_rfl) (by kernel_rfl) (fun _ _ _ h => h) (Or.inl ⟨by rfl, ?_⟩) (by assumption) ?_
                            rotate_left
                            · (intro w' hSw; (try dsimp only at hSw); go_simp; try with_reducible rfl)
                            try simp only [Act.put, List.setIfInBounds_toArray, List.set_cons_zero, List.set_cons_succ]
                            refine wpAnyH_take (i := 17) (oi := { dst := some 134, op := Op.move (Operand.tmp 17), type := 3, pos := _, after := #[{ on := 15, ground := Ground.guard }], guard := some (15, true) }) (v := ?_) rfl (by kernel_rfl) (by kernel_rfl) (by kernel_rfl) (fun _ _ _ h => h) (Or.inl ⟨by rfl, ?_⟩) (by assumption) ?_
                            rotate_left
                            · (intro w' hSw; (try dsimp only at hSw); go_simp; try with_reducible rfl)
                            try simp only [Act.put, List.setIfInBounds_toArray, List.set_cons_zero, List.set_cons_succ]
                            refine wpAnyH_take (i := 18) (oi := { dst := some 135, op := Op.indexAddr 23 (Operand.tmp 133) (Operand.tmp 134), type := 0, pos := _, after := #[{ on := 16, ground := Ground.data }, { on := 17, ground := Ground.data }, { on := 15, ground := Ground.guard }], guard := some (15, true) }) (v := ?_) rfl (by kernel_rfl) (by kernel_rfl) (by kernel_rfl) (fun _ _ _ h => h) (Or.inl ⟨by rfl, ?_⟩) (by assumption) ?_
                            rotate_left
                            · (intro w' hSw; (try dsimp only at hSw); go_simp; try with_reducible rfl)
                            try simp only [Act.put, List.setIfInBounds_toArray, List.set_cons_zero, List.set_cons_succ]
                            refine wpAnyH_take (i := 19) (oi := { dst := some 136, op := Op.load 4 (Operand.tmp 135), type := 4, pos := _, after := #[{ on := 18, ground := Ground.data }, { on := 15, ground := Ground.guard }], guard := some (15, true) }) (v := ?_) rfl (by kernel_rfl) (by kernel_rfl) (by kernel_rfl) (fun _ _ _ h => h) (Or.inl ⟨by rfl, ?_⟩) (by assumption) ?_
                            rotate_left
                            · (intro w' hSw; (try dsimp only at hSw); go_simp; try with_reducible rfl)
                            try simp only [Act.put, List.setIfInBounds_toArray, List.set_cons_zero, List.set_cons_succ]
                            refine wpAnyH_take (i := 20) (oi := { dst := some 137, op := Op.pick (Operand.tmp 132) (Operand.tmp 136) (Operand.const (Value.bool false)), type := 4, pos := _, after := #[{ on := 15, ground := Ground.data }, { on := 19, ground := Ground.data }, { on := 1, ground := Ground.guard }], guard := some (1, false) }) (v := ?_) rfl (by kernel_rfl) (by kernel_rfl) (by kernel_rfl) (fun _ _ _ h => h) (Or.inl ⟨by rfl, ?_⟩) (by assumption) ?_
                            rotate_left
                            · (intro w' hSw; (try dsimp only at hSw); go_simp; try with_reducible rfl)
                            try simp only [Act.put, List.setIfInBounds_toArray, List.set_cons_zero, List.set_cons_succ]
                            refine wpAnyH_take (i := 21) (oi := { dst := some 138, op := Op.move (Operand.tmp 137), type := 4, pos := _, after := #[{ on := 20, ground := Ground.data }, { on := 15, ground := Ground.chain }, { on := 1, ground := Ground.guard }], guard := some (1, false) }) (v := ?_) rfl (by kernel_rfl) (by kernel_rfl) (by kernel_rfl) (fun _ _ _ h => h) (Or.inl ⟨by rfl, ?_⟩) (by assumption) ?_
                            rotate_left
                            · (intro w' hSw; (try dsimp only at hSw); go_simp; try with_reducible rfl)
                            try simp only [Act.put, List.setIfInBounds_toArray, List.set_cons_zero, List.set_cons_succ]
                            refine wpAnyH_take (i := 22) (oi := { dst := some 139, op := Op.move (Operand.tmp 13), type := 30, pos := _, after := #[{ on := 21, ground := Ground.guard }], guard := some (21, true) }) (v := ?_) rfl (by kernel_rfl) (by kernel_rfl) (by kernel_rfl) (fun _ _ _ h => h) (Or.inl ⟨by rfl, ?_⟩) (by assumption) ?_
                            rotate_left
                            · (intro w' hSw; (try dsimp only at hSw); go_simp; try with_reducible rfl)
                            try simp only [Act.put, List.setIfInBounds_toArray, List.set_cons_zero, List.set_cons_succ]
                            refine wpAnyH_take (i := 23) (oi := { dst := some 140, op := Op.convert 30 9 (Operand.tmp 139), type := 9, pos := _, after := #[{ on := 22, ground := Ground.data }, { on := 21, ground := Ground.guard }], guard := some (21, true) }) (v := ?_) rfl (by kernel_rfl) (by kernel_rfl) (by kernel_rfl) (fun _ _ _ h => h) (Or.inl ⟨by rfl, ?_⟩) (by assumption) ?_
                            rotate_left
                            · (intro w' hSw; (try dsimp only at hSw); go_simp; try with_reducible rfl)
                            try simp only [Act.put, List.setIfInBounds_toArray, List.set_cons_zero, List.set_cons_succ]
                            refine wpAnyH_take (i := 24) (oi := { dst := some 141, op := Op.move (Operand.tmp 17), type := 3, pos := _, after := #[{ on := 21, ground := Ground.guard }], guard := some (21, true) }) (v := ?_) rfl (by kernel_rfl) (by kernel_rfl) (by kernel_rfl) (fun _ _ _ h => h) (Or.inl ⟨by rfl, ?_⟩) (by assumption) ?_
                            rotate_left
                            · (intro w' hSw; (try dsimp only at hSw); go_simp; try with_reducible rfl)
                            try simp only [Act.put, List.setIfInBounds_toArray, List.set_cons_zero, List.set_cons_succ]
                            refine wpAnyH_ready (rs := [25]) (by kernel_rfl) (by simp) ?_
                            refine AllReadyH.cons (o := { dst := some 142, op := Op.call { callee := Callee.value (Operand.func 13), args := #[Operand.const (Value.int IntKind.i64 2), Operand.tmp 141], argTypes := #[3, 3] }, type := 30, pos := _, after := #[{ on := 24, ground := Ground.data }, { on := 21, ground := Ground.chain }, { on := 21, ground := Ground.guard }], guard := some (21, true) }) rfl (fun K hK => ?_) AllReadyH.nil
                            go_simp
                            refine (sector_any 2 (k : Int) _).mono ?_
                            rintro e w4 ⟨g4, rfl, hg4, hblk4, hb4'⟩
                            have hb4 : Below wr.heap.size wr w4 := below_of_drew hb4'
                            have rv2 := run_str w4 _ 128 128 (sector 2 (k : Int)) (Rd.of_blk hblk4 (by rw [length_u8s]; exact length_sector _ _))
                            refine hK.out _ _ ⟨(hb4.cell (p := ⟨fb, fo + k, none⟩) (by show fb < wr.heap.size; omega)).trans rfc, (hb4.cell (p := ⟨kb, ko + k, none⟩) (by show kb < wr.heap.size; omega)).trans rkc, run_str _ _ 128 128 bs (Rd.of_blk (HgR.out.below hb4 HgR.out.lt) (by rw [length_u8s]; exact Hbl.out))⟩ (fun hHeld4 => ?_)
                            clear hHeld hK K rv1
                            refine wpAnyH_mono (S' := fun w' => (w'.cell? ⟨fb, fo + k, none⟩ = some (.int .i64 x) ∧ w'.cell? ⟨kb, ko + k, none⟩ = some (.bool true) ∧ (convert 30 9 (.slice (some ⟨g, 0, none⟩) 128 128)).run Try.prog w' = .ok (.string ⟨bs.toArray⟩) w') ∧ (convert 30 9 (.slice (some ⟨g4, 0, none⟩) 128 128)).run Try.prog w' = .ok (.string ⟨(sector 2 (k : Int)).toArray⟩) w') (fun w' h => h.1) _ _ _ _ ?_
                            have hHeld5 := And.intro hHeld4 rv2
                            try simp only [Act.put, List.setIfInBounds_toArray, List.set_cons_zero, List.set_cons_succ]
                            refine wpAnyH_take (i := 26) (oi := { dst := some 143, op := Op.convert 30 9 (Operand.tmp 142), type := 9, pos := _, after := #[{ on := 25, ground := Ground.data }, { on := 21, ground := Ground.guard }], guard := some (21, true) }) (v := ?_) rfl (by kernel_rfl) (by kernel_rfl) (by kernel_rfl) (fun _ _ _ h => h) (Or.inl ⟨by rfl, ?_⟩) (by assumption) ?_
                            rotate_left
                            · (intro w' hSw; (try dsimp only at hSw); go_simp; try with_reducible rfl)
                            try simp only [Act.put, List.setIfInBounds_toArray, List.set_cons_zero, List.set_cons_succ]
                            refine wpAnyH_take (i := 27) (oi := { dst := some 144, op := Op.binOp BinOp.eql 9 (Operand.tmp 140) (Operand.tmp 143) 9, type := 4, pos := _, after := #[{ on := 23, ground := Ground.data }, { on := 26, ground := Ground.data }, { on := 21, ground := Ground.guard }], guard := some (21, true) }) (v := ?_) rfl (by kernel_rfl) (by kernel_rfl) (by kernel_rfl) (fun _ _ _ h => h) (Or.inl ⟨by rfl, ?_⟩) (by assumption) ?_
                            rotate_left
                            · (intro w' hSw; (try dsimp only at hSw); go_simp; try with_reducible rfl)
                            try simp only [Act.put, List.setIfInBounds_toArray, List.set_cons_zero, List.set_cons_succ]
                            refine wpAnyH_take (i := 28) (oi := { dst := some 145, op := Op.pick (Operand.tmp 138) (Operand.tmp 144) (Operand.const (Value.bool false)), type := 4, pos := _, after := #[{ on := 21, ground := Ground.data }, { on := 27, ground := Ground.data }, { on := 1, ground := Ground.guard }], guard := some (1, false) }) (v := ?_) rfl (by kernel_rfl) (by kernel_rfl) (by kernel_rfl) (fun _ _ _ h => h) (Or.inl ⟨by rfl, ?_⟩) (by assumption) ?_
                            rotate_left
                            · (intro w' hSw; (try dsimp only at hSw); go_simp; try with_reducible rfl)
                            try simp only [Act.put, List.setIfInBounds_toArray, List.set_cons_zero, List.set_cons_succ]
                            refine wpAnyH_take (i := 29) (oi := { dst := some 146, op := Op.pick (Operand.tmp 118) (Operand.const (Value.bool true)) (Operand.tmp 145), type := 4, pos := _, after := #[{ on := 1, ground := Ground.data }, { on := 28, ground := Ground.data }], guard := none }) (v := ?_) rfl (by kernel_rfl) (by kernel_rfl) (by kernel_rfl) (fun _ _ _ h => h) (Or.inl ⟨by rfl, ?_⟩) (by assumption) ?_
                            rotate_left
                            · (intro w' hSw; (try dsimp only at hSw); go_simp; try with_reducible rfl)
                            try simp only [Act.put, List.setIfInBounds_toArray, List.set_cons_zero, List.set_cons_succ]
                            refine wpAnyH_take (i := 30) (oi := { dst := some 16, op := Op.assign (Operand.tmp 146), type := 4, pos := _, after := #[{ on := 29, ground := Ground.data }, { on := 25, ground := Ground.chain }, { on := 0, ground := Ground.phase }, { on := 1, ground := Ground.phase }, { on := 2, ground := Ground.phase }, { on := 3, ground := Ground.phase }, { on := 4, ground := Ground.phase }, { on := 5, ground := Ground.phase }, { on := 6, ground := Ground.phase }, { on := 7, ground := Ground.phase }, { on := 8, ground := Ground.phase }, { on := 9, ground := Ground.phase }, { on := 10, ground := Ground.phase }, { on := 11, ground := Ground.phase }, { on := 12, ground := Ground.phase }, { on := 13, ground := Ground.phase }, { on := 14, ground := Ground.phase }, { on := 15, ground := Ground.phase }, { on := 16, ground := Ground.phase }, { on := 17, ground := Ground.phase }, { on := 18, ground := Ground.phase }, { on := 19, ground := Ground.phase }, { on := 20, ground := Ground.phase }, { on := 21, ground := Ground.phase }, { on := 22, ground := Ground.phase }, { on := 23, ground := Ground.phase }, { on := 24, ground := Ground.phase }, { on := 25, ground := Ground.phase }, { on := 26, ground := Ground.phase }, { on := 27, ground := Ground.phase }, { on := 28, ground := Ground.phase }, { on := 29, ground := Ground.phase }], guard := none }) (v := ?_) rfl (by kernel_rfl) (by kernel_rfl) (by kernel_rfl) (fun _ _ _ h => h) (Or.inl ⟨by rfl, ?_⟩) (by assumption) ?_
                            rotate_left
                            · (intro w' hSw; (try dsimp only at hSw); go_simp; try with_reducible rfl)
                            try simp only [Act.put, List.setIfInBounds_toArray, List.set_cons_zero, List.set_cons_succ]
                            refine wpAnyH_done (by kernel_rfl) ?_ _
                            have hb4s := hb4.size
                            clear hHeld4 hHeld5 rv2 rfc rkc
                            go_wp2
                            go_roundw
                            case rel => exact ⟨k + 1, (bs == sector 2 (k : Int)), by omega, by omega, rfl, by go_num, by rw [okk_succ, ← Hok.out, cnd_yes (by rw [← Hx.out, ← Hsx.out]; exact Hc1.out) Hb.out.symm]; rfl, HgR.out.below hb4 HgR.out.lt, HR.out.below hb4⟩
                            case measure => simp [intOf]; omega
                        · have hc2' : decide (k < ks.length) = false := by simp; omega
                          have hno : ks.getD k false = false := by rw [List.getD_eq_getElem?_getD, List.getElem?_eq_none (by omega)]; rfl
                          have Hno := hid hno
                          clear hno
                          go_wp2_with fail
                          go_quiet (fail)
                          go_wp2
                          go_roundw
                          case rel => exact ⟨k + 1, false, by omega, by omega, rfl, by go_num, by rw [okk_succ, ← Hok.out, cnd_no1 Hno.out]; rfl, HgR.out.drewN _, HR.out.drewN _⟩
                          case measure => simp [intOf]; omega
                      · have hd1 : ((sx : Int) == (s : Int)) = false := by simp; omega
                        have Hc1 := hid hc1
                        clear hc1
                        go_wp2_with fail
                        go_quiet (fail)
                        go_wp2
                        go_roundw
                        case rel => exact ⟨k + 1, false, by omega, by omega, rfl, by go_num, by rw [okk_succ, ← Hok.out, cnd_no2 (by rw [← Hx.out, ← Hsx.out]; exact Hc1.out)]; rfl, HgR.out.drewN _, HR.out.drewN _⟩
                        case measure => simp [intOf]; omega
                    · go_wp2_with fail
                      go_quiet (fail)
                      go_wp2
                      go_roundw
                      case rel => exact ⟨k + 1, true, by omega, by omega, rfl, by go_num, by rw [okk_succ, ← Hok.out]; rfl, HgR.out.drewN _, HR.out.drewN _⟩
                      case measure => simp [intOf]; omega
                  · have hkn : k = n2 := by have := Hn2c.out; omega
                    have htr : okb = true := by rw [Hok.out, hkn]; exact lasts_plain fs ts ks n n2 s hlt l1 l2 bs z Hl1.out Hl2.out Hbs.out Hz.out
                    have Htr := hid htr
                    have hk4 : (k : Int) ≤ 40 := by omega
                    clear hkn htr
                    by_cases hl2 : k < ts.length
                    · have hk2 : 40 ≤ k := by omega
                      clear hlk
                      go_wp2
                      go_meet
                      exact ⟨by rw [Htr.out], HR.out⟩
                    · clear hlk
                      go_wp2
                      go_meet
                      exact ⟨by rw [Htr.out], HR.out⟩
              case rest =>
                obtain ⟨rfl, hL9⟩ := hcut
                have HL9 := hid hL9
                clear hL9
                go_wp2
                go_roundw
                case rel => exact ⟨s + 1, by omega, by go_num, F1, G1, HL9.out⟩
                case measure => simp [intOf]; omega
          · have hs9 : 8 ≤ s := by omega
            clear hlt
            go_wp2
            go_meet
            exact ⟨F1, G1, HR.out⟩
      case rest =>
        obtain ⟨F9, G9, hL9⟩ := hcut
        have HL9 := hid hL9
        clear hL9 HL7
        go_wp2_with (first | (go_at_call 17; refine (pending_up D F9 G9 _ _ _ HL9.out.up).mono ?_; rintro e w' ⟨rfl, rfl⟩) | (go_at_call 18; refine (awake_any _).mono ?_; rintro e w9 ⟨rfl, hb9⟩))
        go_ret
        exact ⟨rfl, HL9.out.be.trans (hb9.mono HL9.out.be.size)⟩
end Go.Proofs.Ytjmcjbmnggecgaa
