/- The walk of RingLent. Conditions: what a slice can be. -/
import Derived.Test.YtjmcjbmnggecgaaRgE0
namespace Go.Proofs.Ytjmcjbmnggecgaa
open Go.RowKit
set_option maxRecDepth 100000
set_option linter.unusedVariables false
set_option linter.unusedSimpArgs false

set_option maxHeartbeats 6400000 in
theorem rlent_any (A0 : Option Addr) (c0 : Nat) (a : List UInt8) (A1 : Option Addr) (c1 : Nat) (b : List UInt8) (w : World) (h0 : Rd w 1 A0 a.length (u8s a)) (h1 : Rd w 1 A1 b.length (u8s b)) (la : a.length ≤ 140737488351232) (lb : b.length ≤ 140737488351232) :
    Calls Try.prog 9 #[.slice A0 a.length c0, .slice A1 b.length c1] w fun e w' => e = .returned (.bool true) ∧ Below w.heap.size w w' := by
  have HA := hid h0
  have HB := hid h1
  have haw := hid rawake_any
  have hws : IntKind.i64.wrap ((a.length : Int) + (b.length : Int)) = (a.length : Int) + (b.length : Int) := by rw [IntKind.wrap_i64]; omega
  obtain ⟨n, hn⟩ : ∃ n, n = a.length := ⟨_, rfl⟩
  obtain ⟨m, hm⟩ : ∃ m, m = b.length := ⟨_, rfl⟩
  rw [← hn] at HA hws la ⊢
  rw [← hm] at HB hws lb ⊢
  have HN := hid hn
  have HM := hid hm
  clear h0 h1 hn hm
  obtain ⟨i5, hi5, hy0, hy1, hy2⟩ := info_parts info5
  by_cases hbig : 1500 < n + m
  · as_aux_lemma =>
    have hb' : 1500 < (n : Int) + (m : Int) := by omega
    clear hbig
    go_enter Try.func9, Try.ntmps9
    go_wp2_with fail
    refine (haw.out _).mono ?_
    rintro e w5 ⟨rfl, hb5⟩
    have HBE2 := hid hb5
    clear hb5
    go_wp2
    go_ret
    exact ⟨rfl, HBE2.out⟩
  · as_aux_lemma =>
    have hb' : ¬ (1500 < (n : Int) + (m : Int)) := by omega
    have hnm : n + m ≤ 1500 := by omega
    clear hbig la lb
    go_enter Try.func9, Try.ntmps9
    go_wp2_with fail
    refine (new_up 20 _ (by omega) (by omega)).mono ?_
    rintro e w1 ⟨D, F, G, rfl, hu, hge, hb1⟩
    have hop := hid (rl_open (w := w) hu hge hb1 0 20 0 (by omega) (by omega) (by simp) (by simp) [] (rinv_new 20 0 20 (by omega) (by omega)) (by omega))
    clear hu hge hb1
    go_wp2_with fail
    refine hop.out.mono ?_
    rintro e w2 ⟨R, B, rfl, hS, hB, hC⟩
    have HS := hid hS
    have HAr := hid (HA.out.below hS.be)
    have HL := hid (World.ownsRow_lit (base := w2.heap.size) (e := 5) (size := 1) w2 #[] 0 (Nat.le_refl _) (by omega) rfl)
    have HFL := hid (HAr.out.keep (w' := w2.alloc (.cells #[] 5)) (by simp) fun _ _ h => Below.heap_alloc _ _ _ h)
    clear hop hS hB hC
    go_wp2_with (at_builtin; refine wpList_append_any _ rfl (.tmp 40) (.tmp 41) 30 rfl w2.heap.size 5 i5 _ 1 1 Try.underlying30 hi5 hy0 hy1 hy2 rfl (by omega) _ 0 [] rfl HL.out A0 n c0 _ rfl HFL.out (u8s_one _) (by unfold maxLen; omega) (by omega) (by simp) ?_)
    intro v3 w3 hown3' hg3 hat3
    have hown3 : w3.ownsRow w2.heap.size 5 1 v3 n (u8s a) := by simpa using hown3'
    obtain ⟨b3, hb3⟩ : ∃ x, x = w2.heap.size := ⟨_, rfl⟩
    have hbe3 : Below w2.heap.size w2 w3 := ((Below.refl _ _).alloc (Nat.le_refl _) (.cells #[] 5)).grown hg3 (by simp) (fun k hk => by simp [Value.ownBlock] at hk; omega)
    have HO3 := hid (hown3.alloc (.cells #[.int .u8 77] 5))
    have HB3 := hid hbe3
    have hone := hid (Rd.of_blk (Blk.new w3 5 #[.int .u8 77]) (n := 1) (xs := u8s [77]) rfl)
    have h1c := hid (u8s_one [77])
    have hszb : w2.heap.size ≤ (w3.alloc (.cells #[.int .u8 77] 5)).heap.size := by have := hbe3.size; simp; omega
    clear hown3 hown3' hg3 hat3 hbe3 HL HFL hb3
    go_wp2_with (at_builtin; refine wpList_append_any _ rfl (.tmp 42) (.tmp 43) 30 rfl w2.heap.size 5 i5 _ 1 1 Try.underlying30 hi5 hy0 hy1 hy2 rfl (by omega) _ n _ rfl HO3.out _ 1 1 _ rfl hone.out h1c.out (by unfold maxLen; omega) (by omega) hszb ?_)
    intro v4 w4 hown4' hg4 hat4
    have hown4 : w4.ownsRow w2.heap.size 5 1 v4 (n + 1) (u8s (a ++ [77])) := by rw [u8s_append]; exact hown4'
    have hbe4 : Below w2.heap.size w2 w4 := (HB3.out.alloc HB3.out.size (.cells #[.int .u8 77] 5)).grown hg4 hszb (fun k hk => (HO3.out.lt k hk).1)
    obtain ⟨A4, c4, rfl, _⟩ := own_form hown4
    have hcap4 := own_cap hown4
    obtain ⟨g, cs, rfl, hga, hgb, hblk, hcs⟩ := own_cells hown4 (by omega)
    have hLt : LtS w w4 R D F G B ⟨0, 20, 0 / 118 * 118, ([] : List UInt8).drop (0 / 118 * 118), 0, ([] : List UInt8).length, false⟩ (List.replicate 20 zeros) g n := by
      have hlt := HS.out.up.lt
      have hlm := HS.out.mem.lt
      have hle := HN.out
      refine ⟨HS.out.below hbe4, ⟨fun h => by have := hlt.1 g h; omega, fun h => by have := hlt.2.1 g h; omega, fun h => by have := hlm g h; omega⟩, Nat.le_trans HS.out.be.size hga, cs, hblk, fun j hj => ?_, hcs n _ (by rw [hle]; simp [u8s])⟩
      exact ⟨_, hcs j _ (List.getElem?_eq_getElem (by rw [length_u8s, List.length_append, ← hle]; simp; omega))⟩
    have HLT := hid hLt
    have hrd4 := Rd.of_own hown4
    obtain ⟨hsl, hrs⟩ := sl_to hrd4 n n rfl (by omega) hcap4
    have e1 : (u8s (a ++ [77])).take n = u8s a := by
      rw [HN.out, u8s_append, List.take_append_of_le_length (by rw [length_u8s]; exact Nat.le_refl _), List.take_of_length_le (by rw [length_u8s]; exact Nat.le_refl _)]
    rw [e1] at hrs
    have hroom : MRing.room ⟨0, 20, 0 / 118 * 118, ([] : List UInt8).drop (0 / 118 * 118), 0, ([] : List UInt8).length, false⟩ = 2242 := rfl
    have hap := hid (lt_append hLt (some ⟨g, 0, none⟩) n c4 a hrs HN.out (by rw [hroom]; omega))
    clear hown4 hown4' hg4 hat4 hbe4 HO3 HB3 hone h1c hszb hblk hcs hLt hrd4 hrs e1 hga hgb HS HLT hroom hcap4
    go_wp2_with fail
    refine hap.out.mono ?_
    rintro e w5 ⟨rfl, B5, hL5⟩
    obtain ⟨q5, hq5⟩ : ∃ q5 : MRing, q5 = { (⟨0, 20, 0 / 118 * 118, ([] : List UInt8).drop (0 / 118 * 118), 0, ([] : List UInt8).length, false⟩ : MRing) with bytes := ([] : List UInt8).drop (0 / 118 * 118) ++ a } := ⟨_, rfl⟩
    rw [← hq5] at hL5
    have HQ5 := hid (show q5.start = 0 ∧ q5.base = 0 ∧ q5.bytes = a ∧ q5.n = 20 from by rw [hq5]; exact ⟨rfl, rfl, rfl, rfl⟩)
    have HL5 := hid hL5
    clear hap hL5 hq5
    go_upto_block 0 with fail
    go_cut [11] (fun _ wx => LtS w wx R D F G B5 q5 (List.replicate 20 zeros) g n)
    case first => as_aux_lemma =>
      go_wp2_with fail
      go_loopw [11] (fun i wr => ∃ k : Nat, k ≤ n ∧ i = .int .i64 k ∧ LtS w wr R D F G B5 q5 (List.replicate 20 zeros) g n) (fun i _ => n - (intOf i).toNat)
      case atStart => exact ⟨0, by omega, rfl, HL5.out⟩
      case round => as_aux_lemma =>
        obtain ⟨k, hk, rfl, hL⟩ := hrel
        have HL := hid hL
        by_cases hlt : k < n
        · as_aux_lemma =>
          have hlt' : (k : Int) < (n : Int) := by omega
          obtain ⟨u, hcell, hfz⟩ := hL.cell k hk
          have hn1 : (k : Int) < (n : Int) + 1 := by omega
          clear hL
          go_wp2
          go_roundw
          case rel => exact ⟨k + 1, by omega, by go_num, HL.out.set k hlt _⟩
          case measure => simp [intOf]; omega
        · as_aux_lemma =>
          have hlt' : ¬ ((k : Int) < (n : Int)) := by omega
          clear hL
          go_wp2
          go_meet
          exact HL.out
    case rest => as_aux_lemma =>
      have HL6 := hid hcut
      clear hcut HL5
      obtain ⟨hq0, hqb, hqx, hqn⟩ := HQ5.out
      have hle := HN.out
      have htl : q5.tail = n := by
        show q5.base + q5.bytes.length = n
        rw [hqb, hqx, ← hle]; omega
      have hrd := hid (lt_read HL6.out 0 n (by omega) (by omega))
      have hrr : ((q5.bytes.drop (0 - q5.base)).take n) = a := by
        rw [hqb, hqx, List.drop_zero, hle, List.take_of_length_le (Nat.le_refl _)]
      rw [hrr] at hrd
      have HT5 := hid htl
      have hL6s := HL6.out
      clear hq0 hqb hqx hqn hle htl hrr
      obtain ⟨b6, hb6⟩ : ∃ b6, b6 = wc.heap.size := ⟨_, rfl⟩
      rw [← hb6] at hrd
      have hnew : Hid (∀ i, b6 ≤ i → (¬ F i ∧ ¬ G i ∧ ¬ B5 i ∧ i ≠ g) ∧ w.heap.size ≤ i) := hid fun i hi => ⟨hL6s.new (by omega), by have := hL6s.rl.be.size; omega⟩
      clear hL6s hb6
      go_wp2_with fail
      refine hrd.out.mono ?_
      rintro e w7 ⟨A7, c7, rfl, hown7, hL7⟩
      have hx : Hid (0 < n → ∃ (gx : Nat) (cs : Array Value), A7 = some ⟨gx, 0, none⟩ ∧ b6 ≤ gx ∧ Blk w7 gx 5 cs ∧ ∀ j (hj : j < n), ∃ z : Int, cs[j]? = some (.int .u8 z)) := hid (by
        intro h0
        obtain ⟨gx, cs, e, h2, _, h3, h4⟩ := own_cells hown7 h0
        have hle := HN.out
        refine ⟨gx, cs, e, h2, h3, fun j hj => ⟨((a[j]'(by omega)).toNat : Int), h4 j _ (by simp [u8s, List.getElem?_eq_getElem (show j < a.length by omega)])⟩⟩)
      have HL7 := hid hL7
      clear hown7 hL7 hrd
      go_upto_block 2 with fail
      go_cut [14] (fun _ wx => LtS w wx R D F G B5 q5 (List.replicate 20 zeros) g n)
      case first => as_aux_lemma =>
        go_wp2_with fail
        go_loopw [14] (fun i wr => ∃ k : Nat, k ≤ n ∧ i = .int .i64 k ∧ LtS w wr R D F G B5 q5 (List.replicate 20 zeros) g n ∧ (0 < n → ∃ (gx : Nat) (cs : Array Value), A7 = some ⟨gx, 0, none⟩ ∧ b6 ≤ gx ∧ Blk wr gx 5 cs ∧ ∀ j (hj : j < n), ∃ z : Int, cs[j]? = some (.int .u8 z))) (fun i _ => n - (intOf i).toNat)
        case atStart => exact ⟨0, by omega, rfl, HL7.out, hx.out⟩
        case round => as_aux_lemma =>
          obtain ⟨k, hk, rfl, hL, hin⟩ := hrel
          have HL := hid hL
          clear hL
          by_cases hlt : k < n
          · as_aux_lemma =>
            have hlt' : (k : Int) < (n : Int) := by omega
            obtain ⟨gx, cs, rfl, hgx, hblk, hz⟩ := hin (by omega)
            obtain ⟨z, hzk⟩ := hz k hlt
            have hcell : wr.cell? ⟨gx, k, none⟩ = some (.int .u8 z) := hblk.cell_ k hzk
            have hfz := hblk.frozen k
            have HK := hid hblk
            have HZ := hid hz
            clear hin hblk hz hzk
            go_wp2
            go_roundw
            case rel =>
              refine ⟨k + 1, by omega, by go_num, HL.out.frame (S := (· = gx)) (chg_set gx k _) (by rintro i rfl; exact (hnew.out _ hgx).1) (by rintro i rfl; exact (hnew.out _ hgx).2), fun h0 => ⟨gx, _, rfl, hgx, HK.out.set_ k _, fun j hj => ?_⟩⟩
              by_cases hjk : k = j
              · subst hjk
                obtain ⟨z', hz'⟩ := HZ.out k hj
                exact ⟨_, Array.getElem?_setIfInBounds_self_of_lt (Array.getElem?_eq_some_iff.1 hz').1⟩
              · rw [Array.getElem?_setIfInBounds_ne hjk]
                exact HZ.out j hj
            case measure => simp [intOf]; omega
          · as_aux_lemma =>
            have hlt' : ¬ ((k : Int) < (n : Int)) := by omega
            clear hin
            go_wp2
            go_meet
            exact HL.out
      case rest => as_aux_lemma =>
        have HL8 := hid hcut
        have hroom : m ≤ q5.room := by
          obtain ⟨h1, h2, h3, h4⟩ := HQ5.out
          have h5 := HT5.out
          show m ≤ (q5.start / 118 + q5.n - 1) * 118 - q5.tail
          rw [h1, h4, h5]
          omega
        have hap := hid (lt_append HL8.out A1 m c1 b (HB.out.below HL8.out.rl.be) HM.out hroom)
        clear hcut hroom HL7 hx
        go_wp2_with fail
        refine hap.out.mono ?_
        rintro e w9 ⟨rfl, B9, hL9⟩
        obtain ⟨t, ht⟩ : ∃ t, t = n + m := ⟨_, rfl⟩
        have hlb : (a ++ b).length = t := by rw [List.length_append, ← HN.out, ← HM.out, ht]
        have hrd := lt_read hL9 0 t (by have := HQ5.out.1; show q5.start ≤ 0; omega) (by
          obtain ⟨h1, h2, h3, h4⟩ := HQ5.out
          show 0 + t ≤ q5.base + (q5.bytes ++ b).length
          rw [h2, h3, hlb]; omega)
        have hrr : (((q5.bytes ++ b).drop (0 - q5.base)).take t) = a ++ b := by
          obtain ⟨h1, h2, h3, h4⟩ := HQ5.out
          rw [h2, h3, List.drop_zero, ← hlb, List.take_of_length_le (Nat.le_refl _)]
        have hrd' : Calls Try.prog 38 #[.pointer (some ⟨R, 0, none⟩), .int .i64 (0 : Int), .int .i64 t] w9 fun e w' => ∃ A c, e = .returned (.tuple #[.slice A t c, .int .i64 0]) ∧ w'.ownsRow w9.heap.size 5 1 (.slice A t c) t (u8s (a ++ b)) ∧ LtS w w' R D F G B9 { q5 with bytes := q5.bytes ++ b } (List.replicate 20 zeros) g n := by
          rw [← hrr]; exact hrd
        have HRD := hid hrd'
        have hwt : IntKind.i64.wrap ((n : Int) + (m : Int)) = (t : Int) := by rw [IntKind.wrap_i64]; omega
        have hnt : (n : Int) + (m : Int) = (t : Int) := by omega
        have HTT := hid hlb
        clear hap hL9 hrd hrd' hrr hlb ht HL8
        go_wp2_with fail
        refine HRD.out.mono ?_
        rintro e w10 ⟨A10, c10, rfl, hown10, hL10⟩
        have s1 : (convert 30 9 (.slice A10 t c10)).run Try.prog w10 = .ok (.string ⟨(a ++ b).toArray⟩) w10 := run_str w10 A10 t c10 (a ++ b) (Rd.of_own hown10)
        have s2 : (convert 30 9 (.slice A0 n c0)).run Try.prog w10 = .ok (.string ⟨a.toArray⟩) w10 := run_str w10 A0 n c0 a (HA.out.below hL10.rl.be)
        have s3 : (convert 30 9 (.slice A1 m c1)).run Try.prog w10 = .ok (.string ⟨b.toArray⟩) w10 := run_str w10 A1 m c1 b (HB.out.below hL10.rl.be)
        have h77 := hL10.last
        have HBE := hid hL10.rl.be
        have hn1 : (n : Int) < (n : Int) + 1 := by omega
        clear hown10 hL10 HRD
        have haw2 := hid (haw.out w10)
        have hle : ¬ (9223372036854775807 < a.length + b.length) := by have := HN.out; have := HM.out; omega
        have heq := ByteArray.mk_append_mk a b
        go_wp2_with fail
        refine haw2.out.mono ?_
        rintro e w11 ⟨rfl, hb11⟩
        have HBE2 := hid (HBE.out.trans (hb11.mono HBE.out.size))
        clear hb11
        go_wp2
        go_ret
        exact ⟨by first | rfl | simp, HBE2.out⟩
end Go.Proofs.Ytjmcjbmnggecgaa
