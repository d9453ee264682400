/- The document's bytes of a number, and of numbers. Conditions: sizes. -/
import Derived.Test.YtkpopjpmjcgbfaaEncA
namespace Go.Proofs.Ytkpopjpmjcgbfaa
open Go.RowKit
set_option maxRecDepth 100000
set_option linter.unusedVariables false

theorem take8_succ' (n : Int) (j : Nat) (hj : j < 8) : (num8 n).take (8 - j) = (num8 n).take (7 - j) ++ [byteAt (max n 0) (7 - j)] := by
  have e : 8 - j = (7 - j) + 1 := by omega
  rw [e, take8_succ n (7 - j) (by omega)]
theorem byte_pos' (n : Int) (h : ¬ n < 0) (j : Nat) (hj : j < 8) : ((byteAt (max n 0) (7 - j)).toNat : Int) = n / 2 ^ (8 * j) % 256 := by
  rw [byte_pos n h (7 - j) (by omega)]
  have e : 56 - 8 * (7 - j) = 8 * j := by omega
  rw [e]

set_option maxHeartbeats 800000 in
theorem rnum_ok (n : Int) (w : World) : Calls Try.prog 26 #[.int .i64 n] w fun e w' => ∃ A N c, e = .returned (.slice A N c) ∧ Buf w w' A N c (num8 n) := by
  obtain ⟨i0, hi, hz0, hz1, hz2⟩ := info_parts info5
  by_cases hn : n < 0
  · have Hn := hid hn
    go_enter Try.func26, Try.ntmps26
    go_wp2
    go_loopw [3, 4] (fun v i wr => ∃ k : Nat, k ≤ 8 ∧ i = .int .i64 ((k : Int) - 1) ∧ ∃ A N c, v = .slice A N c ∧ Buf w wr A N c ((num8 n).take (8 - k))) (fun _ i _ => (intOf i + 1).toNat)
    case atStart => exact ⟨8, by omega, by go_num, none, 0, 0, rfl, Buf.nil (Below.refl _ _)⟩
    case round =>
      obtain ⟨k, hk, rfl, A, N, c, rfl, hb⟩ := hrel
      have H := hid hb
      clear hb
      rcases k with _ | j
      · have hz : ((0 : Nat) : Int) - 1 = -1 := by omega
        rw [hz]
        go_wp2
        go_ret
        have h := H.out
        have hl := h.len
        rw [List.take_of_length_le (by rw [length_num8]; omega)] at h hl
        rw [length_num8] at hl
        exact ⟨A, N, c, rfl, h⟩
      · have hz : ((j + 1 : Nat) : Int) - 1 = (j : Int) := by omega
        rw [hz]
        have H : Hid (Buf w wr A N c ((num8 n).take (7 - j))) := hid (by have h := H.out; rwa [show 8 - (j + 1) = 7 - j from by omega] at h)
        have hl : N ≤ 8 := by have := H.out.len; rw [this]; simp [length_num8]; omega
        have Ho1 := hid (H.out.alloc (.cells #[.int .u8 0] 5))
        have hnew : Rd (wr.alloc (.cells #[.int .u8 0] 5)) 1 (some ⟨wr.heap.size, 0, none⟩) 1 [.int .u8 0] := Rd.of_blk (Blk.new wr 5 _) rfl
        have h1c : Hid (∀ u ∈ [(.int .u8 0 : Value)], u.oneCell' = true) := hid (by simp [Value.oneCell'])
        have Hnew := hid hnew
        have hbk := hid (byte_zero n Hn.out (7 - j))
        have hsz := hid Ho1.out.be.size
        clear hnew
        go_wp2_with (at_builtin; refine wpList_append_any _ rfl (.tmp 11) (.tmp 17) 23 rfl w.heap.size 5 i0 _ 1 1 Try.underlying23 hi hz0 hz1 hz2 rfl (by omega) _ N _ rfl Ho1.out.own _ 1 1 _ rfl Hnew.out h1c.out (by unfold maxLen; omega) (by omega) hsz.out ?_)
        intro v' w' hown hgr hat
        have hb' : [(.int .u8 0 : Value)] = u8s [byteAt (max n 0) (7 - j)] := by have := hbk.out; simp [u8s, this]
        rw [hb'] at hown
        obtain ⟨A2, N2, c2, rfl, hb2, _⟩ := Ho1.out.append (ns := [byteAt (max n 0) (7 - j)]) (m := 1) rfl hown hgr (by simpa using hat)
        rw [← take8_succ' n j (by omega)] at hb2
        have H2 := hid hb2
        clear hown hgr hat hb2 hb'
        go_wp2
        go_roundw
        case rel => exact ⟨j, by omega, by go_num, A2, N2, c2, rfl, H2.out⟩
        case measure => simp [intOf]
  · have Hn := hid hn
    go_enter Try.func26, Try.ntmps26
    go_wp2
    go_loopw [3, 4] (fun v i wr => ∃ k : Nat, k ≤ 8 ∧ i = .int .i64 ((k : Int) - 1) ∧ ∃ A N c, v = .slice A N c ∧ Buf w wr A N c ((num8 n).take (8 - k))) (fun _ i _ => (intOf i + 1).toNat)
    case atStart => exact ⟨8, by omega, by go_num, none, 0, 0, rfl, Buf.nil (Below.refl _ _)⟩
    case round =>
      obtain ⟨k, hk, rfl, A, N, c, rfl, hb⟩ := hrel
      have H := hid hb
      clear hb
      rcases k with _ | j
      · have hz : ((0 : Nat) : Int) - 1 = -1 := by omega
        rw [hz]
        go_wp2
        go_ret
        have h := H.out
        have hl := h.len
        rw [List.take_of_length_le (by rw [length_num8]; omega)] at h hl
        rw [length_num8] at hl
        exact ⟨A, N, c, rfl, h⟩
      · have hz : ((j + 1 : Nat) : Int) - 1 = (j : Int) := by omega
        rw [hz]
        have H : Hid (Buf w wr A N c ((num8 n).take (7 - j))) := hid (by have h := H.out; rwa [show 8 - (j + 1) = 7 - j from by omega] at h)
        have hl : N ≤ 8 := by have := H.out.len; rw [this]; simp [length_num8]; omega
        have Ho1 := hid (H.out.alloc (.cells #[.int .u8 (n / 2 ^ (8 * j) % 256)] 5))
        have hnew : Rd (wr.alloc (.cells #[.int .u8 (n / 2 ^ (8 * j) % 256)] 5)) 1 (some ⟨wr.heap.size, 0, none⟩) 1 [.int .u8 (n / 2 ^ (8 * j) % 256)] := Rd.of_blk (Blk.new wr 5 _) rfl
        have h1c : Hid (∀ u ∈ [(.int .u8 (n / 2 ^ (8 * j) % 256) : Value)], u.oneCell' = true) := hid (by simp [Value.oneCell'])
        have Hnew := hid hnew
        have hbk := hid (byte_pos' n (by have := Hn.out; omega) j (by omega))
        have hsz := hid Ho1.out.be.size
        clear hnew
        go_wp2_with (at_builtin; refine wpList_append_any _ rfl (.tmp 11) (.tmp 17) 23 rfl w.heap.size 5 i0 _ 1 1 Try.underlying23 hi hz0 hz1 hz2 rfl (by omega) _ N _ rfl Ho1.out.own _ 1 1 _ rfl Hnew.out h1c.out (by unfold maxLen; omega) (by omega) hsz.out ?_)
        intro v' w' hown hgr hat
        have hb' : [(.int .u8 (n / 2 ^ (8 * j) % 256) : Value)] = u8s [byteAt (max n 0) (7 - j)] := by have := hbk.out; simp [u8s, this]
        rw [hb'] at hown
        obtain ⟨A2, N2, c2, rfl, hb2, _⟩ := Ho1.out.append (ns := [byteAt (max n 0) (7 - j)]) (m := 1) rfl hown hgr (by simpa using hat)
        rw [← take8_succ' n j (by omega)] at hb2
        have H2 := hid hb2
        clear hown hgr hat hb2 hb'
        go_wp2
        go_roundw
        case rel => exact ⟨j, by omega, by go_num, A2, N2, c2, rfl, H2.out⟩
        case measure => simp [intOf]

def ints (zs : List Int) : List Value := zs.map (Value.int .i64)

set_option maxHeartbeats 800000 in
theorem rall_ok (zs : List Int) (LA : Option Addr) (n lc : Nat) (w : World) (hr : Rd w 1 LA n (ints zs)) (hn : n = zs.length) (hs : zs.length ≤ 1000) :
    Calls Try.prog 25 #[.slice LA n lc] w fun e w' => ∃ A N c, e = .returned (.slice A N c) ∧ Buf w w' A N c (zs.flatMap num8) := by
  obtain ⟨i0, hi, hz0, hz1, hz2⟩ := info_parts info5
  have Hr := hid hr
  have Hn := hid hn
  have hn1 : n ≤ 1000 := by omega
  clear hr hn
  go_enter Try.func25, Try.ntmps25
  go_wp2
  go_loopw [3, 4] (fun v i wr => ∃ k : Nat, k ≤ n ∧ i = .int .i64 k ∧ ∃ A N c, v = .slice A N c ∧ Buf w wr A N c ((zs.take k).flatMap num8)) (fun _ i _ => n - (intOf i).toNat)
  case atStart => exact ⟨0, by omega, rfl, none, 0, 0, rfl, Buf.nil (Below.refl _ _)⟩
  case round =>
    obtain ⟨k, hk, rfl, A, N, c, rfl, hb⟩ := hrel
    have H := hid hb
    clear hb
    by_cases hlt : k < n
    · obtain ⟨b, o, rfl, hbl, hcs⟩ := Hr.out.lit (by omega)
      have hkz : k < zs.length := by have := Hn.out; omega
      have hc : wr.cell? ⟨b, o + k, none⟩ = some (.int .i64 zs[k]) := (H.out.be.cell (p := ⟨b, o + k, none⟩) hbl).trans (hcs k _ (by simp [ints, hkz]))
      have hN : N ≤ 8000 := by
        have h1 := H.out.len
        rw [length_flat _ 8 length_num8, List.length_take] at h1
        omega
      clear hcs
      go_wp2_with fail
      refine (rnum_ok _ _).mono ?_
      rintro e w1 ⟨A1, N1, c1, rfl, hb1⟩
      have H1 := hid hb1
      have Hb1 := hid (H.out.fresh hb1.be)
      have l1 := hb1.len
      rw [length_num8] at l1
      subst l1
      clear hb1
      go_wp2_with (at_builtin; refine wpList_append_any _ rfl (.tmp 11) (.tmp 16) 23 rfl w.heap.size 5 i0 _ 1 1 Try.underlying23 hi hz0 hz1 hz2 rfl (by omega) _ N _ rfl Hb1.out.own _ 8 c1 _ rfl H1.out.rd (u8s_one _) (by unfold maxLen; omega) (by omega) Hb1.out.be.size ?_)
      intro v' w' hown hgr hat
      obtain ⟨A2, N2, c2, rfl, hb2, _⟩ := Hb1.out.append (length_num8 _) hown hgr hat
      have H2 := hid hb2
      clear hown hgr hat hb2
      go_wp2
      go_roundw
      case rel =>
        refine ⟨k + 1, by omega, by go_num, A2, N2, c2, rfl, ?_⟩
        have := H2.out
        rw [List.take_succ_eq_append_getElem hkz, List.flatMap_append]
        simpa using this
      case measure => simp [intOf]; omega
    · have Hk : Hid (k = n) := hid (by omega)
      go_wp2
      go_ret
      refine ⟨A, N, c, rfl, ?_⟩
      have := H.out
      rwa [Hk.out, List.take_of_length_le (by have := Hn.out; omega)] at this
end Go.Proofs.Ytkpopjpmjcgbfaa
