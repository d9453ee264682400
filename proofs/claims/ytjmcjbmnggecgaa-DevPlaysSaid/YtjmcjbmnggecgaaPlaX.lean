/- DevPlays: the walk, the great case. -/
import Derived.Test.YtjmcjbmnggecgaaPlaW
namespace Go.Proofs.Ytjmcjbmnggecgaa
open Go.RowKit
set_option maxRecDepth 100000
set_option linter.unusedSimpArgs false
set_option linter.unusedVariables false

/-- what holds at each round's head -/
def PInv (w wr : World) (n : Nat) (k : Nat) (d r : Value) : Prop :=
  ∃ D R m mr, d = .pointer (some ⟨D, 0, none⟩) ∧ r = .pointer (some ⟨R, 0, none⟩) ∧ Q0 w wr D R m mr (fun _ => False) ∧ Sim m mr ∧ m.l.length = n ∧ m.W.length ≤ k

theorem Q0.drew {w wr : World} {D R : Nat} {m mr : MDev} {X : Nat → Prop} (h : Q0 w wr D R m mr X) : Q0 w wr.drew D R m mr X := (h.fresh (w' := wr.drew) ⟨rfl, rfl, rfl, Nat.le_refl _, fun _ _ => rfl⟩).mono fun _ h => .inl h
theorem Q0.drewN {w wr : World} {D R : Nat} {m mr : MDev} {X : Nat → Prop} (h : Q0 w wr D R m mr X) (k : Nat) : Q0 w (wr.drewN k) D R m mr X := (h.fresh (w' := wr.drewN k) ⟨rfl, rfl, rfl, Nat.le_refl _, fun _ _ => rfl⟩).mono fun _ h => .inl h
section
variable {w wr : World} {D R : Nat} {m mr : MDev} {X : Nat → Prop} (h : Q0 w wr D R m mr X) (k : Nat)
include h
theorem qq_pending : Calls Try.prog 17 #[.pointer (some ⟨D, 0, none⟩)] (wr.drewN k) fun e w' => e = .returned (.int .i64 m.W.length) ∧ w' = wr.drewN k := (q_pending (h.drewN k)).mono fun _ _ h => ⟨h.1, h.2.symm⟩
theorem qq_size : Calls Try.prog 28 #[.pointer (some ⟨D, 0, none⟩)] (wr.drewN k) fun e w' => e = .returned (.int .i64 m.l.length) ∧ w' = wr.drewN k := (q_size (h.drewN k)).mono fun _ _ h => ⟨h.1, h.2.symm⟩
theorem qq_calls : Calls Try.prog 29 #[.pointer (some ⟨D, 0, none⟩)] (wr.drewN k) fun e w' => e = .returned (.int .i64 m.calls) ∧ w' = wr.drewN k := (q_calls (h.drewN k)).mono fun _ _ h => ⟨h.1, h.2.symm⟩
theorem qq_dead : Calls Try.prog 20 #[.pointer (some ⟨D, 0, none⟩)] (wr.drewN k) fun e w' => e = .returned (.bool m.dead) ∧ w' = wr.drewN k := (q_dead (h.drewN k)).mono fun _ _ h => ⟨h.1, h.2.symm⟩
end
theorem write_size (m : MDev) (i : Int) (b : List UInt8) : (m.write i b).2.l = m.l ∧ (m.write i b).2.W.length ≤ m.W.length + 1 := by
  unfold MDev.write
  split
  · exact ⟨rfl, Nat.le_succ _⟩
  · split
    · exact ⟨rfl, Nat.le_succ _⟩
    · split
      · exact ⟨rfl, Nat.le_succ _⟩
      · exact ⟨rfl, by simp⟩
theorem read_size (m : MDev) (i : Int) : (m.read i).2.2.l = m.l ∧ (m.read i).2.2.W = m.W := by
  unfold MDev.read
  split
  · exact ⟨rfl, rfl⟩
  · split
    · exact ⟨rfl, rfl⟩
    · exact ⟨rfl, rfl⟩
theorem sync_size (m : MDev) : m.sync.2.l.length = m.l.length ∧ m.sync.2.W.length ≤ m.W.length := by
  unfold MDev.sync
  split
  · exact ⟨rfl, Nat.le_refl _⟩
  · split
    · exact ⟨rfl, Nat.le_refl _⟩
    · exact ⟨applyW_length _ _, Nat.zero_le _⟩
theorem crash_size (m : MDev) (ks : List Bool) : (m.crash ks).l.length = m.l.length ∧ (m.crash ks).W.length ≤ m.W.length := ⟨applyK_length _ _ _ _ (Nat.le_refl _), Nat.zero_le _⟩
theorem setFuse_size (m : MDev) (k : Int) : (m.setFuse k).l = m.l ∧ (m.setFuse k).W = m.W := by
  unfold MDev.setFuse
  split <;> exact ⟨rfl, rfl⟩
theorem Rd.drew {w : World} {size n : Nat} {A : Option Addr} {xs : List Value} (h : Rd w size A n xs) : Rd w.drew size A n xs := h

theorem blk_u8s {w : World} {g : Nat} {t : TypeId} {cs : Array Value} {bs : List UInt8} (h : cs.toList = u8s bs) (hb : Blk w g t cs) : Blk w g t (u8s bs).toArray := by
  rw [← h]
  simpa using hb

set_option maxHeartbeats 1600000 in
theorem plays_ok (n : Nat) (SA : Option Addr) (sn sc : Nat) (w : World) (h1 : 1 ≤ n) (h2 : n ≤ 8192) (hS : Script w SA sn) (hsn : sn ≤ 9223372036854775807) :
    Calls Try.prog 5 #[.int .i64 n, .slice SA sn sc] w fun e w' => e = .returned (.bool true) ∧ Below w.heap.size w w' := by
  go_enter Try.func5, Try.ntmps5
  go_wp2_with fail
  refine (new_ok n _ h1 h2).mono ?_
  rintro e w1 ⟨D, F, G, rfl, hd, hF, hb1⟩
  have Hd := hid hd
  have Hb1 := hid hb1
  have HF := hid hF
  clear hd hb1 hF
  go_wp2_with fail
  refine (rnew_ok n _ h1 h2).mono ?_
  rintro e w2 ⟨R, Fr, rfl, hr, hFr, hb2⟩
  have HQ : Hid (Q0 w w2 D R (MDev.new n) (MDev.new n) (fun _ => False)) := hid (by
    have s1 := Hb1.out.size
    refine ⟨F, G, Fr, Hd.out.below hb2, hr, ?_, ?_, Hb1.out.trans (hb2.mono s1), fun i h => h.elim⟩
    · rintro i (h | h | h)
      · exact HF.out i (.inl h)
      · exact HF.out i (.inr h)
      · have := hFr i h; omega
    · intro i hi
      have := hFr i hi
      exact ⟨fun hf => by have := Hd.out.lt i hf; omega, fun hf => by have := Hd.out.lg i hf; omega⟩)
  clear hr hFr hb2
  go_wp2_with fail
  refine (awake_any _).mono ?_
  rintro e w3 ⟨rfl, hb3⟩
  have HQ3 : Hid (Q0 w w3 D R (MDev.new n) (MDev.new n) (fun _ => False)) := hid ((HQ.out.fresh hb3).none)
  clear hb3
  go_wp2_with fail
  go_loopw [5, 7, 9] (fun d r i wr => ∃ k : Nat, i = .int .i64 k ∧ k ≤ 80 ∧ PInv w wr n k d r) (fun _ _ i _ => 80 - (intOf i).toNat)
  case atStart => exact ⟨0, rfl, by omega, D, R, _, _, rfl, rfl, HQ3.out, Sim.refl _, by simp [MDev.new], by simp [MDev.new]⟩
  case round =>
    obtain ⟨k, rfl, hk, D1, R1, m, mr, rfl, rfl, hq, hsim, hl, hW⟩ := hrel
    have Hq := hid hq
    have Hsim := hid hsim
    clear hq hsim HQ HQ3 Hd Hb1 HF
    by_cases h0 : k < sn
    · have h0' : (k : Int) < (sn : Int) := by omega
      by_cases h8 : k < 80
      · have h8' : (k : Int) < 80 := by omega
        obtain ⟨b, o, kd, ii, aa, bb, sz, KA, kc, ks, rfl, hop⟩ := hS k h0
        have hbe := Hq.out.below
        have o0 := (hbe.cell (p := ⟨b, o + k * 6, none⟩) hop.lt).trans hop.c0
        have o1 := (hbe.cell (p := ⟨b, o + k * 6 + 1, none⟩) hop.lt).trans hop.c1
        have o2 := (hbe.cell (p := ⟨b, o + k * 6 + 2, none⟩) hop.lt).trans hop.c2
        have o3 := (hbe.cell (p := ⟨b, o + k * 6 + 3, none⟩) hop.lt).trans hop.c3
        have o4 := (hbe.cell (p := ⟨b, o + k * 6 + 4, none⟩) hop.lt).trans hop.c4
        have o5 := (hbe.cell (p := ⟨b, o + k * 6 + 5, none⟩) hop.lt).trans hop.c5
        have Hop := hid hop
        clear hbe hop
        go_upto_block 2 with fail
        go_cut [5, 7, 11] (fun d r ok wx => ok = .bool true ∧ PInv w wx n (k + 1) d r)
        case first =>
          have HqO : Hid (Q0 w _ D1 R1 m mr _) := hid (Hq.out.alloc (.cells #[.int .i64 kd, .int .i64 ii, .int .i64 aa, .int .i64 bb, .int .i64 sz, .slice KA ks.length kc] 46))
          have hO := Blk.new wr 46 #[.int .i64 kd, .int .i64 ii, .int .i64 aa, .int .i64 bb, .int .i64 sz, .slice KA ks.length kc]
          have HO := hid hO
          clear hO o0 o1 o2 o3 o4 o5
          by_cases k0 : kd = 0
          · as_aux_lemma =>
              subst k0
              go_wp2_with fail
              refine (sector_any aa bb _).mono ?_
              rintro e w4 ⟨g, rfl, hg, hblk, hb4⟩
              have ng : wr.heap.size < g := by simp at hg; omega
              have HqS : Hid (Q0 w w4 D1 R1 m mr (fun i => i = wr.heap.size ∨ i = g)) := hid ((HqO.out.fresh hb4).mono (by
                rintro i (rfl | rfl)
                · exact .inl (.inr rfl)
                · exact .inr ⟨hg, hblk.lt⟩))
              have c1 : w4.cell? ⟨wr.heap.size, 1, none⟩ = some (.int .i64 ii) := (HO.out.below hb4 (by simp)).cell_ 1 rfl
              have HRd : Hid (Rd w4 1 (some ⟨g, 0, none⟩) (sector aa bb).length (u8s (sector aa bb))) := hid (Rd.of_blk hblk (by simp [length_u8s]))
              have HB4 := hid hblk
              have hW6 : m.W.length ≤ 1000000 := by omega
              have hWr6 : Hid (mr.W.length ≤ 1000000) := hid (by rw [Hsim.out.W]; omega)
              have hls := length_sector aa bb
              clear hg hblk hb4
              go_wp2_with fail
              go_region_held3 (fun w' => w'.cell? ⟨wr.heap.size, 1, none⟩ = some (.int .i64 ii) ∧ (convert 30 9 (.slice (some ⟨g, 0, none⟩) 128 128)).run Try.prog w' = .ok (.string ⟨(sector aa bb).toArray⟩) w')
                (first
                  | (exact ⟨c1, run_str _ _ _ _ _ (by have := HRd.out; rw [hls] at this; exact this)⟩)
                  | (exact ⟨c1', run_str _ _ _ _ _ (by have := HRd5.out; rw [hls] at this; exact this)⟩)
                  | (exact ⟨c1'', run_str _ _ _ _ _ (by have := HRd6.out; rw [hls] at this; exact this)⟩)
                  | go_keep)
                (first
                  | (go_at_call 12
                     have hq := q_write HqS.out.drew ii (some ⟨g, 0, none⟩) 128 (sector aa bb) HRd.out.drew (by rintro ad h; injection h with h; subst h; exact .inr rfl) hW6
                     rw [hls] at hq
                     refine hq.mono ?_
                     rintro e w5 ⟨rfl, hq5, hs5⟩
                     have HQ5 := hid hq5
                     have HS5 := hid hs5
                     have c1' := (hs5.cell (p := ⟨wr.heap.size, 1, none⟩) (.inl rfl)).trans c1
                     have HRd5 := hid (hs5.rd HRd.out (by rintro ad h; injection h with h; subst h; exact .inr rfl)))
                  | (go_at_call 22
                     refine (q_rwrite HQ5.out ii (sector aa bb) hWr6.out).mono ?_
                     rintro e w6 ⟨rfl, hq6, hs6⟩
                     have HQ6 := hid hq6
                     have HS6 := hid hs6
                     have c1'' := (hs6.cell (p := ⟨wr.heap.size, 1, none⟩) (.inl rfl)).trans c1'
                     have HRd6 := hid (hs6.rd HRd5.out (by rintro ad h; injection h with h; subst h; exact .inr rfl))))
              obtain ⟨hw1, hw2⟩ := Hsim.out.write ii (sector aa bb)
              obtain ⟨hz1, hz2⟩ := write_size m ii (sector aa bb)
              have HB6 : Hid (Blk w6 g 5 (u8s (sector aa bb)).toArray) := hid (((HS5.out.trans HS6.out).block g (.inr rfl)).trans HB4.out)
              have HQ7 := hid (HQ6.out.mono (X' := (· = g)) (fun i h => .inr h))
              have Hw2 := hid hw2
              have Hz1 := hid hz1
              have Hz2 := hid hz2
              generalize (m.write ii (sector aa bb)) = M at *
              generalize (mr.write ii (sector aa bb)) = Mr at *
              rw [hw1]
              clear hw1 hw2 hz1 hz2 hq5 hs5 hq6 hs6 c1 c1' c1'' HS5 HS6 HQ5 HQ6 HqS HqO HRd HRd5 HRd6 HB4 hq
              go_wp2_with fail
              go_loopw [13] (fun i wx => ∃ j : Nat, j ≤ 128 ∧ i = .int .i64 j ∧ Q0 w wx D1 R1 M.2 Mr.2 (· = g) ∧ ∃ cs, Blk wx g 5 cs ∧ cs.size = 128) (fun i _ => 128 - (intOf i).toNat)
              case atStart => exact ⟨0, by omega, rfl, HQ7.out, _, HB6.out, by simp [length_u8s, hls]⟩
              case round =>
                obtain ⟨j, hj, rfl, hq7, cs, hcs, hsz⟩ := hrel
                have Hq7 := hid hq7
                have Hcs := hid hcs
                by_cases hlt : j < 128
                · have hc : _ = some (cs[j]'(by omega)) := (hcs.cell j).trans (Array.getElem?_eq_getElem (by omega))
                  have hf := hcs.frozen j
                  clear hq7 hcs
                  go_wp2
                  go_roundw
                  case rel => exact ⟨j + 1, by omega, by go_num, Hq7.out.setCell rfl _, _, Hcs.out.set_ j _, by simp [hsz]⟩
                  case measure => simp [intOf]; omega
                · clear hq7 hcs
                  go_wp2
                  go_meet
                  exact ⟨by first | rfl | simp, D1, R1, M.2, Mr.2, rfl, rfl, Hq7.out.none, Hw2.out, by rw [Hz1.out]; exact hl, by have := Hz2.out; omega⟩
          · have k0' : (kd == 0) = false := by simpa using k0
            clear k0
            have hW6 : m.W.length ≤ 1000000 := by omega
            have hWr6 : Hid (mr.W.length ≤ 1000000) := hid (by rw [Hsim.out.W]; omega)
            by_cases k1 : kd = 1
            · as_aux_lemma =>
                subst k1
                have c1 := HO.out.cell_ 1 rfl
                obtain ⟨r1, r2, r3⟩ := Hsim.out.read ii
                obtain ⟨z1, z2⟩ := read_size m ii
                have R3 := hid r3
                have Z1 := hid z1
                have Z2 := hid z2
                clear r3 z1 z2
                go_wp2_with fail
                refine (q_read HqO.out ii hW6).mono ?_
                rintro e w4 ⟨A, c, rfl, hq4, hs4, hA⟩
                have c1' := (hs4.cell (p := ⟨wr.heap.size, 1, none⟩) (.inr rfl)).trans c1
                have HQ4 := hid hq4
                have HA := hid hA
                have hgw : wr.heap.size + 1 = (wr.alloc (.cells #[.int .i64 1, .int .i64 ii, .int .i64 aa, .int .i64 bb, .int .i64 sz, .slice KA ks.length kc] 46)).heap.size := by simp
                have Hgw := hid hgw
                clear hq4 hA hs4 hgw
                go_wp2_with fail
                have hqr := q_rread HQ4.out ii hWr6.out
                rw [r1, r2] at hqr
                refine hqr.mono ?_
                rintro e w5 ⟨rfl, hq5, hs5⟩
                have HQ5 := hid hq5
                have HS5 := hid hs5
                clear hq5 hs5 hqr HQ4 r1 r2 c1 c1'
                generalize (m.read ii) = T at *
                generalize (mr.read ii) = Tr at *
                obtain ⟨bs, x, M⟩ := T
                rcases HA.out with ⟨rfl, hnil⟩ | ⟨g, rfl, hg, hblk, hbl⟩
                · have hnil' : bs = [] := hnil
                  subst hnil'
                  have hstr : (convert 30 9 (.slice none 0 c)).run Try.prog w5 = .ok (.string ⟨#[]⟩) w5 := run_str w5 none 0 c [] Rd.none_
                  go_wp2_with fail
                  go_loopw [18] (fun i wx => i = .int .i64 0 ∧ Q0 w wx D1 R1 M Tr.2.2 (fun _ => False)) (fun _ _ => 0)
                  case atStart => exact ⟨rfl, HQ5.out.none⟩
                  case round =>
                    obtain ⟨rfl, hq7⟩ := hrel
                    have Hq7 := hid hq7
                    clear hq7
                    go_wp2
                    go_meet
                    exact ⟨by first | rfl | simp, D1, R1, M, Tr.2.2, rfl, rfl, Hq7.out, R3.out, by rw [Z1.out]; exact hl, by rw [Z2.out]; omega⟩
                · have hgX : (False ∨ g = wr.heap.size) ∨ ((wr.alloc (.cells #[.int .i64 1, .int .i64 ii, .int .i64 aa, .int .i64 bb, .int .i64 sz, .slice KA ks.length kc] 46)).heap.size ≤ g ∧ ∃ ad, (some (⟨g, 0, none⟩ : Addr)) = some ad ∧ ad.block = g) := .inr ⟨hg, _, rfl, rfl⟩
                  have hbl' : bs.length = 128 := hbl
                  have hb5 : Blk w5 g 5 (u8s bs).toArray := (HS5.out.block g hgX).trans hblk
                  have HB5 := hid hb5
                  have HQ6 : Hid (Q0 w w5 D1 R1 M Tr.2.2 (· = g)) := hid (HQ5.out.mono (by rintro i rfl; exact hgX))
                  have hstr : (convert 30 9 (.slice (some ⟨g, 0, none⟩) 128 c)).run Try.prog w5 = .ok (.string ⟨bs.toArray⟩) w5 := by
                    have h := run_str w5 (some ⟨g, 0, none⟩) bs.length c bs (Rd.of_blk hb5 (by simp [length_u8s]))
                    rwa [hbl'] at h
                  clear hgX hb5 hblk hg
                  go_wp2_with fail
                  go_loopw [18] (fun i wx => ∃ j : Nat, j ≤ 128 ∧ i = .int .i64 j ∧ Q0 w wx D1 R1 M Tr.2.2 (· = g) ∧ ∃ cs, Blk wx g 5 cs ∧ cs.size = 128) (fun i _ => 128 - (intOf i).toNat)
                  case atStart => exact ⟨0, by omega, rfl, HQ6.out, _, HB5.out, by simp [length_u8s, hbl']⟩
                  case round =>
                    obtain ⟨j, hj, rfl, hq7, cs, hcs, hsz⟩ := hrel
                    have Hq7 := hid hq7
                    have Hcs := hid hcs
                    by_cases hlt : j < 128
                    · have hc : _ = some (cs[j]'(by omega)) := (hcs.cell j).trans (Array.getElem?_eq_getElem (by omega))
                      have hf := hcs.frozen j
                      clear hq7 hcs
                      go_wp2
                      go_roundw
                      case rel => exact ⟨j + 1, by omega, by go_num, Hq7.out.setCell rfl _, _, Hcs.out.set_ j _, by simp [hsz]⟩
                      case measure => simp [intOf]; omega
                    · have hlt' : decide ((j : Int) < 128) = false := by simp; omega
                      clear hq7 hcs
                      go_wp2
                      go_meet
                      exact ⟨by first | rfl | simp, D1, R1, M, Tr.2.2, rfl, rfl, Hq7.out.none, R3.out, by rw [Z1.out]; exact hl, by rw [Z2.out]; omega⟩
            · have k1' : (kd == 1) = false := by simpa using k1
              clear k1
              by_cases k2 : kd = 2
              · as_aux_lemma =>
                  subst k2
                  obtain ⟨r1, r2⟩ := Hsim.out.sync
                  obtain ⟨z1, z2⟩ := sync_size m
                  have R2 := hid r2
                  have Z1 := hid z1
                  have Z2 := hid z2
                  clear r2 z1 z2
                  go_wp2_with fail
                  refine (q_sync HqO.out hW6).mono ?_
                  rintro e w4 ⟨rfl, hq4, hs4⟩
                  have HQ4 := hid hq4
                  clear hq4 hs4
                  go_wp2_with fail
                  have hqr := q_rsync HQ4.out hWr6.out
                  rw [r1] at hqr
                  refine hqr.mono ?_
                  rintro e w5 ⟨rfl, hq5, hs5⟩
                  have HQ5 := hid hq5
                  clear hq5 hs5 hqr HQ4 r1
                  go_wp2
                  go_meet
                  exact ⟨by first | rfl | simp, D1, R1, _, _, rfl, rfl, HQ5.out.none, R2.out, by rw [Z1.out]; exact hl, by have := Z2.out; omega⟩
              · have k2' : (kd == 2) = false := by simpa using k2
                clear k2
                by_cases k3 : kd = 3
                · as_aux_lemma =>
                    subst k3
                    have c5 := HO.out.cell_ 5 rfl
                    have HR := hid Hop.out.rd
                    have hkl := Hop.out.len
                    go_wp2_with fail
                    refine (q_crash HqO.out hW6 KA kc ks HR.out hkl).mono ?_
                    rintro e w4 ⟨rfl, hq4, hs4⟩
                    have c5' := (hs4.cell (p := ⟨wr.heap.size, 5, none⟩) (.inr rfl)).trans c5
                    have HQ4 := hid hq4
                    clear hq4 hs4
                    go_wp2_with fail
                    refine (q_rcrash HQ4.out hWr6.out KA kc ks HR.out hkl).mono ?_
                    rintro e w5 ⟨rfl, hq5, hs5⟩
                    have HQ5 := hid hq5
                    clear hq5 hs5 HQ4
                    go_wp2
                    go_meet
                    exact ⟨rfl, D1, R1, _, _, rfl, rfl, HQ5.out.none, Hsim.out.crash ks, by rw [(crash_size m ks).1]; exact hl, by have := (crash_size m ks).2; omega⟩
                · have k3' : (kd == 3) = false := by simpa using k3
                  clear k3
                  by_cases k4 : kd = 4
                  · as_aux_lemma =>
                      subst k4
                      have c2 := HO.out.cell_ 2 rfl
                      have ha := Hop.out.wa
                      go_wp2_with fail
                      refine (q_fuse HqO.out aa ha).mono ?_
                      rintro e w4 ⟨rfl, hq4, hs4⟩
                      have c2' := (hs4.cell (p := ⟨wr.heap.size, 2, none⟩) (.inr rfl)).trans c2
                      obtain ⟨⟨v, hv⟩, hfz, hq5, hs5⟩ := q_rfuse hq4 aa ha
                      have HQ5 := hid hq5
                      have HQ5' : ∀ x : Int, x = max aa (-1) → Hid (Q0 w (w4.setCell ⟨R1, 2, none⟩ (.int .i64 x)) D1 R1 _ _ _) := fun x e => by subst e; exact HQ5
                      clear hq4 hs4 hq5 hs5 HQ5
                      go_wp2
                      all_goals go_meet
                      all_goals exact ⟨rfl, D1, R1, _, _, rfl, rfl, (HQ5' _ (by omega)).out.none, Hsim.out.setFuse aa, by rw [(setFuse_size m aa).1]; exact hl, by rw [(setFuse_size m aa).2]; omega⟩
                  · have k4' : (kd == 4) = false := by simpa using k4
                    clear k4
                    by_cases k5 : kd = 5
                    · as_aux_lemma =>
                        subst k5
                        go_wp2_with fail
                        refine (q_copy HqO.out hW6).mono ?_
                        rintro e w4 ⟨D4, rfl, hq4, hs4⟩
                        have HQ4 := hid hq4
                        clear hq4 hs4
                        go_wp2_with fail
                        refine (q_rcopy HQ4.out hWr6.out).mono ?_
                        rintro e w5 ⟨R5, rfl, hq5, hs5⟩
                        have HQ5 := hid hq5
                        clear hq5 hs5 HQ4
                        go_wp2
                        go_meet
                        exact ⟨rfl, D4, R5, m, mr, rfl, rfl, HQ5.out.none, Hsim.out, hl, by omega⟩
                    · have k5' : (kd == 5) = false := by simpa using k5
                      clear k5
                      by_cases k6 : kd = 6
                      · subst k6
                        have c4 := HO.out.cell_ 4 rfl
                        have c1 := HO.out.cell_ 1 rfl
                        have hnb : ∃ nb : Nat, nb < 300 ∧ (0 < sz → sz % 300 = (nb : Int)) ∧ (¬ 0 < sz → nb = 0) := by
                          by_cases h : 0 < sz
                          · exact ⟨(sz % 300).toNat, by omega, fun _ => by omega, fun h' => absurd h h'⟩
                          · exact ⟨0, by omega, fun h' => absurd h' h, fun _ => rfl⟩
                        obtain ⟨nb, hnb3, hnp, hn0⟩ := hnb
                        have hmk : ∀ W : World, (Instr.makeSlice 30 (.int .i64 (nb : Int)) (.int .i64 (nb : Int))).run Try.prog W = .ok (.slice (some ⟨W.heap.size, 0, none⟩) nb nb) (W.alloc (.cells (madeCells #[.int .u8 0] nb) 5)) := fun W =>
                          run_make_row' (P := Try.prog) 30 5 (.int .u8 0) 1 Try.underlying30 info5 rfl .i64 .i64 nb (by omega) (by omega) W
                        have hbs : (madeCells #[.int .u8 0] nb).toList = u8s (List.replicate nb 0) := by rw [toList_madeCells_one]; simp [u8s]
                        have hbl : (List.replicate nb (0 : UInt8)).length = nb := by simp
                        have hmk' : ∀ W : World, 0 < sz → (Instr.makeSlice 30 (.int .i64 (sz % 300)) (.int .i64 (sz % 300))).run Try.prog W = .ok (.slice (some ⟨W.heap.size, 0, none⟩) nb nb) (W.alloc (.cells (madeCells #[.int .u8 0] nb) 5)) := fun W h => by rw [hnp h]; exact hmk W
                        have hmk0 : ∀ W : World, ¬ 0 < sz → (Instr.makeSlice 30 (.int .i64 0) (.int .i64 0)).run Try.prog W = .ok (.slice (some ⟨W.heap.size, 0, none⟩) nb nb) (W.alloc (.cells (madeCells #[.int .u8 0] nb) 5)) := fun W h => by have := hmk W; rw [hn0 h] at this ⊢; exact this
                        have HW : ∀ w4, (wr.alloc (.cells #[.int .i64 6, .int .i64 ii, .int .i64 aa, .int .i64 bb, .int .i64 sz, .slice KA ks.length kc] 46)).alloc (.cells (madeCells #[.int .u8 0] nb) 5) = w4 →
                            Hid (Q0 w w4 D1 R1 m mr (fun i => i = wr.heap.size ∨ i = wr.heap.size + 1) ∧ w4.cell? ⟨wr.heap.size, 1, none⟩ = some (.int .i64 ii) ∧ Rd w4 1 (some ⟨wr.heap.size + 1, 0, none⟩) (List.replicate nb (0 : UInt8)).length (u8s (List.replicate nb 0))) := by
                          intro w4 e
                          subst e
                          have hsz1 : (wr.alloc (.cells #[.int .i64 6, .int .i64 ii, .int .i64 aa, .int .i64 bb, .int .i64 sz, .slice KA ks.length kc] 46)).heap.size = wr.heap.size + 1 := by simp
                          have hb := Blk.new (wr.alloc (.cells #[.int .i64 6, .int .i64 ii, .int .i64 aa, .int .i64 bb, .int .i64 sz, .slice KA ks.length kc] 46)) 5 (madeCells #[.int .u8 0] nb)
                          have hq := HqO.out.alloc (.cells (madeCells #[.int .u8 0] nb) 5)
                          rw [hsz1] at hb hq
                          have hb' := blk_u8s hbs hb
                          refine hid ⟨hq.mono (by rintro i (h | h); exact .inl (.inr h); exact .inr h), (HO.out.alloc _).cell_ 1 rfl, Rd.of_blk hb' ?_⟩
                          rw [hbl]
                          simp [length_u8s]
                        have hW6 : m.W.length ≤ 1000000 := by omega
                        have hWr6 : Hid (mr.W.length ≤ 1000000) := hid (by rw [Hsim.out.W]; omega)
                        clear hnp hn0 hmk hbs HqO HO
                        generalize (List.replicate nb (0 : UInt8)) = bs at *
                        by_cases hsz : 0 < sz
                        · as_aux_lemma =>
                            have hmk2 := fun W => hmk' W hsz
                            clear hmk' hmk0
                            go_wp2_with fail
                            generalize hw4 : World.alloc (World.alloc wr _) _ = w4
                            obtain ⟨hqs, c1n, hrd⟩ := (HW _ hw4).out
                            clear hw4 HW c1 c4 hmk2
                            have HqS := hid hqs
                            have HRd := hid hrd
                            clear hqs hrd
                            go_region_held3 (fun w' => w'.cell? ⟨wr.heap.size, 1, none⟩ = some (.int .i64 ii) ∧ (convert 30 9 (.slice (some ⟨wr.heap.size + 1, 0, none⟩) nb nb)).run Try.prog w' = .ok (.string ⟨bs.toArray⟩) w')
                              (first
                                | (exact ⟨c1n, run_str _ _ _ _ _ (by have := HRd.out; rw [hbl] at this; exact this)⟩)
                                | (exact ⟨c1', run_str _ _ _ _ _ (by have := HRd5.out; rw [hbl] at this; exact this)⟩)
                                | (exact ⟨c1'', run_str _ _ _ _ _ (by have := HRd6.out; rw [hbl] at this; exact this)⟩)
                                | go_keep)
                              (first
                                | (go_at_call 12
                                   have hq := q_write HqS.out.drew ii (some ⟨wr.heap.size + 1, 0, none⟩) nb bs HRd.out.drew (by rintro ad h; injection h with h; subst h; exact .inr rfl) hW6
                                   rw [hbl] at hq
                                   refine hq.mono ?_
                                   rintro e w5 ⟨rfl, hq5, hs5⟩
                                   have HQ5 := hid hq5
                                   have c1' := (hs5.cell (p := ⟨wr.heap.size, 1, none⟩) (.inl rfl)).trans c1n
                                   have HRd5 := hid (hs5.rd HRd.out (by rintro ad h; injection h with h; subst h; exact .inr rfl)))
                                | (go_at_call 22
                                   refine (q_rwrite HQ5.out ii bs hWr6.out).mono ?_
                                   rintro e w6 ⟨rfl, hq6, hs6⟩
                                   have HQ6 := hid hq6
                                   have c1'' := (hs6.cell (p := ⟨wr.heap.size, 1, none⟩) (.inl rfl)).trans c1'
                                   have HRd6 := hid (hs6.rd HRd5.out (by rintro ad h; injection h with h; subst h; exact .inr rfl))))
                            obtain ⟨hw1, hw2⟩ := Hsim.out.write ii bs
                            obtain ⟨hz1, hz2⟩ := write_size m ii bs
                            have HQ7 := hid (HQ6.out.none)
                            have Hw2 := hid hw2
                            have Hz1 := hid hz1
                            have Hz2 := hid hz2
                            generalize (m.write ii bs) = M at *
                            generalize (mr.write ii bs) = Mr at *
                            rw [hw1]
                            clear hw1 hw2 hz1 hz2 hq5 hs5 hq6 hs6 c1n c1' c1'' HQ5 HQ6 HqS HRd HRd5 HRd6 hq
                            go_wp2
                            go_meet
                            exact ⟨by first | rfl | simp, D1, R1, M.2, Mr.2, rfl, rfl, HQ7.out, Hw2.out, by rw [Hz1.out]; exact hl, by have := Hz2.out; omega⟩
                        · as_aux_lemma =>
                            have hmk2 := fun W => hmk0 W hsz
                            clear hmk' hmk0
                            go_wp2_with fail
                            generalize hw4 : World.alloc (World.alloc wr _) _ = w4
                            obtain ⟨hqs, c1n, hrd⟩ := (HW _ hw4).out
                            clear hw4 HW c1 c4 hmk2
                            have HqS := hid hqs
                            have HRd := hid hrd
                            clear hqs hrd
                            go_region_held3 (fun w' => w'.cell? ⟨wr.heap.size, 1, none⟩ = some (.int .i64 ii) ∧ (convert 30 9 (.slice (some ⟨wr.heap.size + 1, 0, none⟩) nb nb)).run Try.prog w' = .ok (.string ⟨bs.toArray⟩) w')
                              (first
                                | (exact ⟨c1n, run_str _ _ _ _ _ (by have := HRd.out; rw [hbl] at this; exact this)⟩)
                                | (exact ⟨c1', run_str _ _ _ _ _ (by have := HRd5.out; rw [hbl] at this; exact this)⟩)
                                | (exact ⟨c1'', run_str _ _ _ _ _ (by have := HRd6.out; rw [hbl] at this; exact this)⟩)
                                | go_keep)
                              (first
                                | (go_at_call 12
                                   have hq := q_write HqS.out.drew ii (some ⟨wr.heap.size + 1, 0, none⟩) nb bs HRd.out.drew (by rintro ad h; injection h with h; subst h; exact .inr rfl) hW6
                                   rw [hbl] at hq
                                   refine hq.mono ?_
                                   rintro e w5 ⟨rfl, hq5, hs5⟩
                                   have HQ5 := hid hq5
                                   have c1' := (hs5.cell (p := ⟨wr.heap.size, 1, none⟩) (.inl rfl)).trans c1n
                                   have HRd5 := hid (hs5.rd HRd.out (by rintro ad h; injection h with h; subst h; exact .inr rfl)))
                                | (go_at_call 22
                                   refine (q_rwrite HQ5.out ii bs hWr6.out).mono ?_
                                   rintro e w6 ⟨rfl, hq6, hs6⟩
                                   have HQ6 := hid hq6
                                   have c1'' := (hs6.cell (p := ⟨wr.heap.size, 1, none⟩) (.inl rfl)).trans c1'
                                   have HRd6 := hid (hs6.rd HRd5.out (by rintro ad h; injection h with h; subst h; exact .inr rfl))))
                            obtain ⟨hw1, hw2⟩ := Hsim.out.write ii bs
                            obtain ⟨hz1, hz2⟩ := write_size m ii bs
                            have HQ7 := hid (HQ6.out.none)
                            have Hw2 := hid hw2
                            have Hz1 := hid hz1
                            have Hz2 := hid hz2
                            generalize (m.write ii bs) = M at *
                            generalize (mr.write ii bs) = Mr at *
                            rw [hw1]
                            clear hw1 hw2 hz1 hz2 hq5 hs5 hq6 hs6 c1n c1' c1'' HQ5 HQ6 HqS HRd HRd5 HRd6 hq
                            go_wp2
                            go_meet
                            exact ⟨by first | rfl | simp, D1, R1, M.2, Mr.2, rfl, rfl, HQ7.out, Hw2.out, by rw [Hz1.out]; exact hl, by have := Hz2.out; omega⟩
                      · have k6' : (kd == 6) = false := by simpa using k6
                        clear k6
                        go_wp2
                        go_meet
                        exact ⟨rfl, D1, R1, m, mr, rfl, rfl, HqO.out.none, Hsim.out, hl, by omega⟩
        case rest =>
          obtain ⟨rfl, D2, R2, m2, mr2, rfl, rfl, hq2, hsim2, hl2, hW2⟩ := hcut
          obtain ⟨CA, cc, d1, d3, d4⟩ := q_cells hq2
          rw [hsim2.W] at d1
          rw [hsim2.dead] at d3
          rw [hsim2.calls] at d4
          have Hq2 := hid hq2
          have Hsim2 := hid hsim2
          have hln : ((m2.l.length : Int) != (n : Int)) = false := by simp [hl2]
          have hb1 : ((m2.W.length : Int) != (m2.W.length : Int)) = false := by simp
          have hb2 : (m2.dead != m2.dead) = false := by simp
          have hb3 : (m2.calls != m2.calls) = false := by simp
          clear hq2 hsim2 o0 o1 o2 o3 o4 o5
          go_wp2_with fail
          go_quiet (first
            | (go_at_call 17; exact Calls.quiet_of_same (qq_pending Hq2.out _))
            | (go_at_call 20; exact Calls.quiet_of_same (qq_dead Hq2.out _))
            | (go_at_call 28; exact Calls.quiet_of_same (qq_size Hq2.out _))
            | (go_at_call 29; exact Calls.quiet_of_same (qq_calls Hq2.out _)))
          go_wp2
          go_roundw
          case rel => exact ⟨k + 1, by go_num, by omega, D2, R2, m2, mr2, rfl, rfl, Hq2.out.drewN _, Hsim2.out, hl2, hW2⟩
          case measure => simp [intOf]; omega
      · have h8' : decide ((k : Int) < 80) = false := by simp; omega
        have Hbe := hid Hq.out.below
        go_wp2
        go_ret
        exact ⟨rfl, Hbe.out⟩
    · have h0' : decide ((k : Int) < (sn : Int)) = false := by simp; omega
      have Hbe := hid Hq.out.below
      go_wp2
      go_ret
      exact ⟨rfl, Hbe.out⟩
end Go.Proofs.Ytjmcjbmnggecgaa
