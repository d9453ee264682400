/- A page's bytes: the walk of (*page).bytes. Conditions: the records fit. -/
import Derived.Test.YtpdikmkhkiplbaaPge
import Derived.BigRegion
namespace Go.Proofs.Ytpdikmkhkiplbaa
open Go.RowKit
set_option maxRecDepth 100000
set_option linter.unusedVariables false
set_option linter.unusedSimpArgs false

def zeros504 : List UInt8 := List.replicate 504 0
theorem make504 (W : World) : (Instr.makeSlice 23 (.int .i64 504) (.int .i64 504)).run Try.prog W = .ok (.slice (some ⟨W.heap.size, 0, none⟩) 504 504) (W.alloc (.cells (u8s zeros504).toArray 5)) := by kernel_rfl
theorem size5 : (Try.prog.info? 5).map (·.size) = some 1 := by kernel_rfl

/-- a page that can be written -/
structure Good (q : MPage) : Prop where
  fits : Fits (trim q.l)
  n1 : 0 ≤ q.next
  n2 : q.next < 4294967296
  len : q.l.length ≤ 1000

theorem u8s_splice (L : List UInt8) (off : Nat) (x : List UInt8) : splice (u8s L) off (u8s x) = u8s (over L off x) := by
  simp [splice, over, u8s, List.map_take, List.map_drop]
theorem toNat_byte (n : Nat) : (byte n).toNat = n % 256 := by simp [byte]
theorem u8s_two (n : Nat) (a b : Int) (ha : a = ((n / 256 % 256 : Nat) : Int)) (hb : b = ((n % 256 : Nat) : Int)) : u8s (two n) = [.int .u8 a, .int .u8 b] := by
  subst ha; subst hb
  simp [u8s, two, toNat_byte]
theorem u8s_four (n : Nat) (a b c d : Int) (ha : a = ((n / 16777216 % 256 : Nat) : Int)) (hb : b = ((n / 65536 % 256 : Nat) : Int)) (hc : c = ((n / 256 % 256 : Nat) : Int)) (hd : d = ((n % 256 : Nat) : Int)) : u8s (four n) = [.int .u8 a, .int .u8 b, .int .u8 c, .int .u8 d] := by
  subst ha; subst hb; subst hc; subst hd
  simp [u8s, four, toNat_byte]
theorem page_zero (m n : Nat) (a b c d e f : Int) (h1 : u8s (two n) = [.int .u8 a, .int .u8 b]) (h2 : u8s (four m) = [.int .u8 c, .int .u8 d, .int .u8 e, .int .u8 f]) :
    ((((((u8s zeros504).toArray.setIfInBounds 0 (.int .u8 a)).setIfInBounds 1 (.int .u8 b)).setIfInBounds 2 (.int .u8 c)).setIfInBounds 3 (.int .u8 d)).setIfInBounds 4 (.int .u8 e)).setIfInBounds 5 (.int .u8 f) = (u8s (page m n (st ([] : Recs)))).toArray := by
  have e1 : u8s (page m n (st ([] : Recs))) = (u8s (two n) ++ u8s (four m)) ++ u8s (List.replicate 498 0) := by
    simp [page, st_nil, u8s_append]
  rw [e1, h1, h2]
  have e2 : u8s zeros504 = .int .u8 0 :: .int .u8 0 :: .int .u8 0 :: .int .u8 0 :: .int .u8 0 :: .int .u8 0 :: u8s (List.replicate 498 0) := by
    show u8s (List.replicate 504 0) = _
    rfl
  rw [e2]
  simp

/-- the page's bytes are cut -/
theorem sl_g {g : Nat} (k : Nat) (i : Int) (hi : i = (k : Int)) (hk : k ≤ 504) :
    ∃ A', (∀ W : World, (Instr.slice 23 (.slice (some ⟨g, 0, none⟩) 504 504) (some (.int .i64 i)) none none).run Try.prog W = .ok (.slice A' (504 - k) (504 - k)) W) ∧ (k < 504 → A' = some ⟨g, k, none⟩) := by
  subst hi
  obtain ⟨i0, hi, hz0, hz1, hz2⟩ := info_parts info5
  refine ⟨if 504 = k then some ⟨g, 0, none⟩ else some (Addr.add ⟨g, 0, none⟩ k), fun W => ?_, fun h => ?_⟩
  · have hk' : (k : Int) ≤ 504 := by omega
    simp [Instr.slice, Instr.sliceBounds, Instr.sliceBound, asIntOf, run_underlying Try.underlying23, sizeOf, typeInfo, hi, hz1, hk']
    intro hc'; omega
  · rw [if_neg (by omega)]
    simp [Addr.add]; omega

set_option maxHeartbeats 3200000 in
theorem bytes_any (B P : Nat) (q : MPage) (w : World) (h : PgAt B w P q) (hg : Good q) :
    Calls Try.prog 31 #[.pointer (some ⟨P, 0, none⟩)] w fun e w' => ∃ g, e = .returned (.slice (some ⟨g, 0, none⟩) 504 504) ∧ w.heap.size ≤ g ∧ Blk w' g 5 (u8s q.bytes).toArray ∧ PgAt B w' P ⟨q.next, trim q.l⟩ ∧ Chg (· = P) w w' := by
  have hm := make504
  have hlen := hg.len
  have HG := hid hg
  have HP := hid h
  clear hg h
  go_enter Try.func31, Try.ntmps31
  go_wp2_with fail
  go_at_call 43
  refine (trim_any B P q w (by exact HP.out) (by exact HG.out.len)).mono ?_
  rintro e w1 ⟨rfl, hp1, hc1⟩
  have HP1 := hid hp1
  have HC1 := hid hc1
  obtain ⟨lp, lv, hb1, hr1⟩ := hp1
  obtain ⟨A, c, rfl, hlc⟩ := hr1.form
  have hln : (trim q.l).length ≤ 124 := by have := HG.out.fits.1; omega
  have hb2 := hb1.alloc (.cells (u8s zeros504).toArray 5)
  have hgz : Blk (w1.alloc (.cells (u8s zeros504).toArray 5)) w1.heap.size 5 (u8s zeros504).toArray := Blk.new _ _ _
  have HB1 := hid hb1
  have HR1 := hid hr1
  have hlP := hb1.lt
  have hB12 : Below w1.heap.size w1 (w1.alloc (.cells (u8s zeros504).toArray 5)) := (Below.refl _ _).alloc (Nat.le_refl _) _
  clear hb1 hr1 hc1
  go_wp2_with fail
  generalize w1.alloc (.cells (u8s zeros504).toArray 5) = W2 at *
  generalize hgs : w1.heap.size = g at *
  have c0 : W2.cell? ⟨P, 0, none⟩ = some (.int .i64 q.next) := hb2.cell_ 0 rfl
  have c1 : W2.cell? ⟨P, 1, none⟩ = some (.slice A (trim q.l).length c) := hb2.cell_ 1 rfl
  have z0 : W2.cell? ⟨g, 0, none⟩ = some (.int .u8 0) := hgz.cell_ 0 (by kernel_rfl)
  have z1 : W2.cell? ⟨g, 1, none⟩ = some (.int .u8 0) := hgz.cell_ 1 (by kernel_rfl)
  have z2 : W2.cell? ⟨g, 2, none⟩ = some (.int .u8 0) := hgz.cell_ 2 (by kernel_rfl)
  have z3 : W2.cell? ⟨g, 3, none⟩ = some (.int .u8 0) := hgz.cell_ 3 (by kernel_rfl)
  have z4 : W2.cell? ⟨g, 4, none⟩ = some (.int .u8 0) := hgz.cell_ 4 (by kernel_rfl)
  have z5 : W2.cell? ⟨g, 5, none⟩ = some (.int .u8 0) := hgz.cell_ 5 (by kernel_rfl)
  have f0 := hgz.frozen 0
  have f1 := hgz.frozen 1
  have f2 := hgz.frozen 2
  have f3 := hgz.frozen 3
  have f4 := hgz.frozen 4
  have f5 := hgz.frozen 5
  have HGZ := hid hgz
  have HB2 := hid hb2
  have HB12 := hid hB12
  have hn1 := HG.out.n1
  have hn2 := HG.out.n2
  have hgP : g ≠ P := by omega
  clear hgz hb2 hB12
  generalize hNX : q.next = nx at *
  generalize hN : (trim q.l).length = n at *
  go_wp2_with fail
  go_region
  have hgz3 : Blk (((W2.setCell ⟨g, 0, none⟩ (.int .u8 (n / 256 : Int))).setCell ⟨g, 1, none⟩ (.int .u8 (n : Int))).drew) g 5 (((u8s zeros504).toArray.setIfInBounds 0 (.int .u8 (n / 256 : Int))).setIfInBounds 1 (.int .u8 (n : Int))) := ((HGZ.out.set_ 0 _).set_ 1 _).drew
  have hb3 : Blk (((W2.setCell ⟨g, 0, none⟩ (.int .u8 (n / 256 : Int))).setCell ⟨g, 1, none⟩ (.int .u8 (n : Int))).drew) P 55 #[.int .i64 nx, .slice A n c] := ((HB2.out.far (p := ⟨g, 0, none⟩) (by simpa using hgP.symm) _).far (p := ⟨g, 1, none⟩) (by simpa using hgP.symm) _).drew
  have hC3 : Chg (· = g) W2 (((W2.setCell ⟨g, 0, none⟩ (.int .u8 (n / 256 : Int))).setCell ⟨g, 1, none⟩ (.int .u8 (n : Int))).drew) := (chg_set2 g 0 1 _ _).drew
  go_wp2_with fail
  generalize (((W2.setCell ⟨g, 0, none⟩ (.int .u8 (n / 256 : Int))).setCell ⟨g, 1, none⟩ (.int .u8 (n : Int))).drew) = W3 at *
  have d0 : W3.cell? ⟨P, 0, none⟩ = some (.int .i64 nx) := hb3.cell_ 0 rfl
  have d1 : W3.cell? ⟨P, 1, none⟩ = some (.slice A n c) := hb3.cell_ 1 rfl
  have y2 : W3.cell? ⟨g, 2, none⟩ = some (.int .u8 0) := hgz3.cell_ 2 (by kernel_rfl)
  have y3 : W3.cell? ⟨g, 3, none⟩ = some (.int .u8 0) := hgz3.cell_ 3 (by kernel_rfl)
  have y4 : W3.cell? ⟨g, 4, none⟩ = some (.int .u8 0) := hgz3.cell_ 4 (by kernel_rfl)
  have y5 : W3.cell? ⟨g, 5, none⟩ = some (.int .u8 0) := hgz3.cell_ 5 (by kernel_rfl)
  have k2 := hgz3.frozen 2
  have k3 := hgz3.frozen 3
  have k4 := hgz3.frozen 4
  have k5 := hgz3.frozen 5
  clear c0 c1 z0 z1 z2 z3 z4 z5 f0 f1 f2 f3 f4 f5
  have HGZ3 := hid hgz3
  have HB3 := hid hb3
  have HC3 := hid hC3
  clear hgz3 hb3 hC3
  go_region
  obtain ⟨m, rfl⟩ : ∃ m : Nat, nx = m := ⟨nx.toNat, by omega⟩
  have hgz4 : Blk (((((W3.setCell ⟨g, 2, none⟩ (.int .u8 ((m : Int) / 16777216))).setCell ⟨g, 3, none⟩ (.int .u8 ((m : Int) / 65536 % 256))).setCell ⟨g, 4, none⟩ (.int .u8 ((m : Int) / 256 % 256))).setCell ⟨g, 5, none⟩ (.int .u8 ((m : Int) % 256))).drew) g 5 (u8s (page m n (st ((trim q.l).take 0)))).toArray := by
    have h0 := ((((HGZ3.out.set_ 2 (.int .u8 ((m : Int) / 16777216))).set_ 3 (.int .u8 ((m : Int) / 65536 % 256))).set_ 4 (.int .u8 ((m : Int) / 256 % 256))).set_ 5 (.int .u8 ((m : Int) % 256))).drew
    rw [page_zero m n _ _ _ _ _ _ (u8s_two n _ _ (by omega) (by omega)) (u8s_four m _ _ _ _ (by omega) (by omega) (by omega) (by omega))] at h0
    exact h0
  have hC4 : Chg (· = g) W3 (((((W3.setCell ⟨g, 2, none⟩ (.int .u8 ((m : Int) / 16777216))).setCell ⟨g, 3, none⟩ (.int .u8 ((m : Int) / 65536 % 256))).setCell ⟨g, 4, none⟩ (.int .u8 ((m : Int) / 256 % 256))).setCell ⟨g, 5, none⟩ (.int .u8 ((m : Int) % 256))).drew) := ((chg_set2 g 2 3 _ _).trans (chg_set2 g 4 5 _ _)).drew
  have HB4 := hid (HB3.out.chg hC4 (by exact hgP.symm))
  go_wp2_with fail
  generalize (((((W3.setCell ⟨g, 2, none⟩ (.int .u8 ((m : Int) / 16777216))).setCell ⟨g, 3, none⟩ (.int .u8 ((m : Int) / 65536 % 256))).setCell ⟨g, 4, none⟩ (.int .u8 ((m : Int) / 256 % 256))).setCell ⟨g, 5, none⟩ (.int .u8 ((m : Int) % 256))).drew) = W4 at *
  have HC4 := hid (((Chg.of_below (S := (· = g)) (by rw [hgs]; exact HB12.out)).trans HC3.out).trans hC4)
  have HGZ4 := hid hgz4
  have e1 : W4.cell? ⟨P, 1, none⟩ = some (.slice A n c) := HB4.out.cell_ 1 rfl
  clear hgz4 hC4 d0 d1 y2 y3 y4 y5 k2 k3 k4 k5
  have HF := hid HG.out.fits
  clear hm
  go_loopw [4, 63] (fun e i wr => ∃ k : Nat, k ≤ n ∧ i = .int .i64 k ∧ e = .int .i64 (504 - (sum ((trim q.l).take k) : Int)) ∧ Blk wr g 5 (u8s (page m n (st ((trim q.l).take k)))).toArray ∧ Chg (· = g) w1 wr) (fun _ i _ => n - (intOf i).toNat)
  case atStart => exact ⟨0, Nat.zero_le _, rfl, rfl, HGZ4.out, HC4.out⟩
  case round =>
    obtain ⟨k, hk, rfl, rfl, hgr, hcr⟩ := hrel
    have hRr : RowAt B wr (.slice A n c) (trim q.l) := HR1.out.chg hcr (fun g' e cs hk => by subst e; have := hk.lt; omega) (fun g' e => by
      obtain ⟨ls, ho, _⟩ := HR1.out
      obtain ⟨cs, hk⟩ := own_ty ho e
      have := hk.lt
      omega)
    have Hgr := hid hgr
    have Hcr := hid hcr
    have hlr := hgr.lt
    have hs1 := sum_take (trim q.l) k
    have hs2 : sum (trim q.l) ≤ 498 := by have := HF.out.1; omega
    clear hgr hcr
    by_cases hlt : k < n
    · have hkl : k < (trim q.l).length := by omega
      obtain ⟨ga, v, rfl, hga, hcell, hfz, he⟩ := hRr.cell k hkl
      have htk := hid (List.take_succ_eq_append_getElem hkl)
      have hst := hid (sum_le (trim q.l) k hkl)
      generalize hx : (trim q.l)[k] = x at *
      generalize hS : sum ((trim q.l).take k) = S at *
      cases x with
      | none =>
        have hv : v = .slice none 0 0 := he
        subst hv
        have heq : ∀ W : World, (binOp .eql 23 (.slice none 0 0) (.slice none 0 0)).run Try.prog W = .ok (.bool true) W := fun W => Lib.run_eql_slice_nil (P := Try.prog) W 23 5 none 0 0 0 0 Try.underlying23
        clear he hRr
        go_wp2
        go_roundw
        case rel =>
          refine ⟨k + 1, by omega, by go_num, ?_, ?_, Hcr.out⟩
          · rw [hst.out]; simp
          · rw [htk.out, page_none]
            · exact Hgr.out
            · rw [List.length_take, hS]; have := HF.out.1; omega
        case measure => simp [intOf]; omega
      | some r =>
        obtain ⟨g2, c2, rfl, hrc, hn2⟩ := he
        have heq : ∀ W : World, (binOp .eql 23 (.slice (some ⟨g2, 0, none⟩) r.length c2) (.slice none 0 0)).run Try.prog W = .ok (.bool false) W := fun W => Lib.run_eql_slice_nil (P := Try.prog) W 23 5 (some ⟨g2, 0, none⟩) r.length c2 0 0 Try.underlying23
        have hst' : sum ((trim q.l).take (k + 1)) = S + r.length := hst.out
        have hs3 := sum_take (trim q.l) (k + 1)
        have hfit : 4 * n + (S + r.length) ≤ 498 := by have := HF.out.1; omega
        obtain ⟨A1, hsl1, hA1⟩ := sl_g (g := g) (504 - (S + r.length)) ((504 - (S : Int)) - (r.length : Int)) (by omega) (by omega)
        obtain ⟨A2, hsl2, hA2⟩ := sl_g (g := g) (6 + 4 * k) (6 + 4 * (k : Int)) (by omega) (by omega)
        have hr2 := hid hn2.rd
        have Hst' := hid hst'
        clear hn2 hRr hs3 hst'
        have hnl : (trim q.l).take k = (trim q.l).take k := rfl
        have hpl : (u8s (page m n (st ((trim q.l).take k)))).length = 504 := by
          rw [length_u8s, length_page]
          rw [List.length_take, hS]; omega
        have Hn1 : Hid ((u8s r).length = Nat.min r.length (504 - (504 - (S + r.length)))) := hid (by rw [length_u8s]; exact (Nat.min_eq_left (by omega)).symm)
        have Hp1 : Hid (0 < (u8s r).length → A1 = some ⟨g, 504 - (S + r.length), none⟩ ∧ ∃ ad, (some ⟨g2, 0, none⟩ : Option Addr) = some ad ∧ ∀ j v, (u8s r)[j]? = some v → wr.cell? (ad.add j) = some v) := hid (fun hp => by
          rw [length_u8s] at hp
          obtain ⟨ad, e, _, hc⟩ := hr2.out.2 hp
          exact ⟨hA1 (by omega), ad, e, hc⟩)
        have Hf1 : Hid (504 - (S + r.length) + (u8s r).length ≤ (u8s (page m n (st ((trim q.l).take k)))).length) := hid (by rw [hpl, length_u8s]; omega)
        have Hpl := hid hpl
        clear hpl hnl
        go_wp2_with (refine wpList_copy_splice rfl (.tmp 76) (.tmp 77) 23 23 rfl 5 Try.underlying23 size5 _ _ _ _ _ _ rfl rfl g (504 - (S + r.length)) (u8s (page m n (st ((trim q.l).take k)))) 5 Hgr.out (u8s r) Hn1.out Hp1.out Hf1.out (u8s_one r) g wr (Below.refl _ _) (Nat.le_refl _) ?_)
        intro w5 hg5 hb5
        have hle5 := hb5.size
        have hg5' : Blk w5 g 5 (u8s (over (page m n (st ((trim q.l).take k))) (504 - (S + r.length)) r)).toArray := by
          have := hg5.out
          rw [u8s_splice] at this
          exact this
        have hlg5 := hg5'.lt
        have hol : (over (page m n (st ((trim q.l).take k))) (504 - (S + r.length)) r).length = 504 := by
          have h1 := Hpl.out
          rw [length_u8s] at h1
          simp only [over, List.length_append, List.length_take, List.length_drop, h1]
          omega
        have hbytes : u8s (two (504 - (S + r.length)) ++ two (r.length + 1)) = [.int .u8 ((504 - (S : Int) - (r.length : Int)) / 256), .int .u8 ((504 - (S : Int) - (r.length : Int)) % 256), .int .u8 (((r.length : Int) + 1) / 256), .int .u8 (((r.length : Int) + 1) % 256)] := by
          rw [u8s_append, u8s_two (504 - (S + r.length)) ((504 - (S : Int) - (r.length : Int)) / 256) ((504 - (S : Int) - (r.length : Int)) % 256) (by omega) (by omega), u8s_two (r.length + 1) (((r.length : Int) + 1) / 256) (((r.length : Int) + 1) % 256) (by omega) (by omega)]
          rfl
        have hnb : Blk (w5.alloc (.cells #[.int .u8 ((504 - (S : Int) - (r.length : Int)) / 256), .int .u8 ((504 - (S : Int) - (r.length : Int)) % 256), .int .u8 (((r.length : Int) + 1) / 256), .int .u8 (((r.length : Int) + 1) % 256)] 5)) w5.heap.size 5 (u8s (two (504 - (S + r.length)) ++ two (r.length + 1))).toArray := by
          rw [hbytes]
          exact Blk.new _ _ _
        have Hg6 := hid (hg5'.alloc (.cells #[.int .u8 ((504 - (S : Int) - (r.length : Int)) / 256), .int .u8 ((504 - (S : Int) - (r.length : Int)) % 256), .int .u8 (((r.length : Int) + 1) / 256), .int .u8 (((r.length : Int) + 1) % 256)] 5))
        have Hnb := hid hnb
        have Hol := hid hol
        have Hn6 : Hid ((u8s (two (504 - (S + r.length)) ++ two (r.length + 1))).length = Nat.min 4 (504 - (6 + 4 * k))) := hid (by
          have : (u8s (two (504 - (S + r.length)) ++ two (r.length + 1))).length = 4 := by rw [length_u8s]; rfl
          rw [this]; exact (Nat.min_eq_left (by omega)).symm)
        have Hp6 : Hid (0 < (u8s (two (504 - (S + r.length)) ++ two (r.length + 1))).length → A2 = some ⟨g, 6 + 4 * k, none⟩ ∧ ∃ ad, (some ⟨w5.heap.size, 0, none⟩ : Option Addr) = some ad ∧ ∀ j v, (u8s (two (504 - (S + r.length)) ++ two (r.length + 1)))[j]? = some v → (w5.alloc (.cells #[.int .u8 ((504 - (S : Int) - (r.length : Int)) / 256), .int .u8 ((504 - (S : Int) - (r.length : Int)) % 256), .int .u8 (((r.length : Int) + 1) / 256), .int .u8 (((r.length : Int) + 1) % 256)] 5)).cell? (ad.add j) = some v) := hid (fun hp => by
          obtain ⟨ad, e, _, hc⟩ := (Rd.of_blk Hnb.out rfl).2 (by rw [length_u8s] at hp ⊢; exact hp)
          exact ⟨hA2 (by omega), ad, e, hc⟩)
        have Hf6 : Hid (6 + 4 * k + (u8s (two (504 - (S + r.length)) ++ two (r.length + 1))).length ≤ (u8s (over (page m n (st ((trim q.l).take k))) (504 - (S + r.length)) r)).length) := hid (by
          have : (u8s (two (504 - (S + r.length)) ++ two (r.length + 1))).length = 4 := by rw [length_u8s]; rfl
          rw [this, length_u8s, Hol.out]; omega)
        have HB5 := hid hb5
        have hb6 : Below g w5 (w5.alloc (.cells #[.int .u8 ((504 - (S : Int) - (r.length : Int)) / 256), .int .u8 ((504 - (S : Int) - (r.length : Int)) % 256), .int .u8 (((r.length : Int) + 1) / 256), .int .u8 (((r.length : Int) + 1) % 256)] 5)) := (Below.refl _ _).alloc (by omega) _
        have HB6 := hid hb6
        clear hg5 hg5' hb5 hol hbytes hnb hb6
        go_wp2_with (refine wpList_copy_splice rfl (.tmp 83) (.tmp 98) 23 23 rfl 5 Try.underlying23 size5 _ _ _ _ _ _ rfl rfl g (6 + 4 * k) (u8s (over (page m n (st ((trim q.l).take k))) (504 - (S + r.length)) r)) 5 Hg6.out (u8s (two (504 - (S + r.length)) ++ two (r.length + 1))) Hn6.out Hp6.out Hf6.out (u8s_one _) g _ HB6.out (Nat.le_refl _) ?_)
        intro w7 hg7 hb7
        have HB7 := hid hb7
        clear hb7
        go_wp2
        go_roundw
        case rel =>
          refine ⟨k + 1, by omega, by go_num, ?_, ?_, ?_⟩
          · rw [Hst'.out]; congr 1; omega
          · have h1 := hg7.out
            have e0 : (trim q.l).take (k + 1) = (trim q.l).take k ++ [some r] := htk.out
            have e1 : S + r.length = sum ((trim q.l).take k ++ [some r]) := by rw [← e0, Hst'.out]
            have e2 : k = ((trim q.l).take k).length := by rw [List.length_take]; omega
            rw [u8s_splice, e1] at h1
            conv at h1 => 
              rw [show 6 + 4 * k = 6 + 4 * ((trim q.l).take k).length by rw [← e2]]
            rw [page_step _ _ _ _ (by rw [← e2, ← e1]; omega)] at h1
            rw [e0]
            exact h1
          · refine Hcr.out.trans' (S' := fun i => g ≤ i) ⟨?_, ?_, ?_, ?_, ?_⟩ (fun i hi hg => by omega)
            · exact HB7.out.os.trans HB5.out.os
            · exact HB7.out.tape.trans HB5.out.tape
            · exact HB7.out.output.trans HB5.out.output
            · exact Nat.le_trans HB5.out.size HB7.out.size
            · intro i hi hn; exact (HB7.out.block i (by omega)).trans (HB5.out.block i (by omega))
        case measure => simp [intOf]; omega
    · have hkn : k = n := by omega
      have e0 : (trim q.l).take k = trim q.l := by rw [hkn, ← hN, List.take_length]
      rw [e0] at Hgr
      have E0 := hid e0
      clear e0
      go_wp2
      go_ret
      refine ⟨g, rfl, ?_, ?_, ?_, ?_⟩
      · have := HC1.out.size; omega
      · have : q.bytes = page m n (st (trim q.l)) := by simp only [MPage.bytes, hNX, hN]; simp
        rw [this]
        exact Hgr.out
      · rw [hNX]
        exact ⟨lp, .slice A n c, HB1.out.chg Hcr.out (by exact hgP.symm), by exact hRr⟩
      · exact HC1.out.trans' Hcr.out (fun i hi e => by have := HC1.out.size; omega)
end Go.Proofs.Ytpdikmkhkiplbaa
