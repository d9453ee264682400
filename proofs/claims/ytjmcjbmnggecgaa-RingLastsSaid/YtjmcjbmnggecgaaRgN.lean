/- ring.number: eight bytes of a number. Conditions: the number is below 2^62. -/
import Derived.Test.YtjmcjbmnggecgaaRgA
namespace Go.Proofs.Ytjmcjbmnggecgaa
open Go.RowKit
set_option maxRecDepth 100000
set_option linter.unusedVariables false
set_option linter.unusedSimpArgs false

theorem make8 (W : World) : (Instr.makeSlice 30 (.int .i64 8) (.int .i64 8)).run Try.prog W = .ok (.slice (some ⟨W.heap.size, 0, none⟩) 8 8) (W.alloc (.cells (u8s (List.replicate 8 0)).toArray 5)) := by kernel_rfl
def numP (n k : Nat) : List UInt8 := (num8 n).take k ++ List.replicate (8 - k) 0
theorem numP_len (n k : Nat) (hk : k ≤ 8) : (numP n k).length = 8 := by simp [numP, num8_length]; omega
theorem numP_set (n k : Nat) (hk : k < 8) (z : Int) (hz : z = (((num8 n).getD k 0).toNat : Int)) : (u8s (numP n k)).toArray.setIfInBounds k (.int .u8 z) = (u8s (numP n (k + 1))).toArray := by
  subst hz
  obtain rfl | rfl | rfl | rfl | rfl | rfl | rfl | rfl : k = 0 ∨ k = 1 ∨ k = 2 ∨ k = 3 ∨ k = 4 ∨ k = 5 ∨ k = 6 ∨ k = 7 := by omega
  all_goals rfl
theorem numP_blk {w : World} {g n k : Nat} (h : Blk w g 5 (u8s (numP n k)).toArray) (hk : k < 8) (z : Int) (hz : z = (((num8 n).getD k 0).toNat : Int)) : Blk (w.setCell ⟨g, k, none⟩ (.int .u8 z)) g 5 (u8s (numP n (k + 1))).toArray := by
  have := h.set_ k (.int .u8 z)
  rwa [numP_set n k hk z hz] at this
set_option maxHeartbeats 3200000 in
theorem number_any (n : Nat) (hn : n < 4611686018427387904) (w : World) : Calls Try.prog 48 #[.int .i64 n] w fun e w' => ∃ g, e = .returned (.slice (some ⟨g, 0, none⟩) 8 8) ∧ w.heap.size ≤ g ∧ Blk w' g 5 (u8s (num8 n)).toArray ∧ Below w.heap.size w w' := by
  have hm := make8 w
  have hb0 := hid (Blk.new w 5 (u8s (List.replicate 8 0)).toArray)
  have hbe := hid ((Below.refl w.heap.size w).alloc (Nat.le_refl _) (.cells (u8s (List.replicate 8 0)).toArray 5))
  go_enter Try.func48, Try.ntmps48
  go_wp2_with fail
  clear hm
  go_loopw [8] (fun i wr => ∃ k : Nat, k ≤ 8 ∧ i = .int .i64 k ∧ Blk wr w.heap.size 5 (u8s (numP n k)).toArray ∧ Below w.heap.size w wr) (fun i _ => 8 - (intOf i).toNat)
  case atStart => exact ⟨0, by omega, rfl, hb0.out, hbe.out⟩
  case round =>
    obtain ⟨k, hk, rfl, hb, hbr⟩ := hrel
    have HB := hid hb
    have HBR := hid hbr
    by_cases hlt : k < 8
    · have hsz : (u8s (numP n k)).toArray.size = 8 := by rw [List.size_toArray, length_u8s, numP_len n k hk]
      have hc : ∃ v, wr.cell? ⟨w.heap.size, k, none⟩ = some v := ⟨_, hb.cell_ k (Array.getElem?_eq_getElem (by omega))⟩
      clear hsz
      obtain ⟨v, hc⟩ := hc
      have hf := hb.frozen k
      clear hb hbr hb0 hbe
      obtain rfl | rfl | rfl | rfl | rfl | rfl | rfl | rfl : k = 0 ∨ k = 1 ∨ k = 2 ∨ k = 3 ∨ k = 4 ∨ k = 5 ∨ k = 6 ∨ k = 7 := by omega
      · go_wp2
        go_roundw
        case rel => exact ⟨1, by omega, by first | rfl | go_num, numP_blk HB.out (by omega) _ (by show _ = ((UInt8.ofNat (n / 72057594037927936)).toNat : Int); rw [UInt8.toNat_ofNat']; omega), HBR.out.trans ((chg_set w.heap.size 0 _).below HBR.out.size (fun i hi => by omega))⟩
        case measure => simp [intOf]
      · go_wp2
        go_roundw
        case rel => exact ⟨2, by omega, by first | rfl | go_num, numP_blk HB.out (by omega) _ (by show _ = ((UInt8.ofNat (n / 281474976710656)).toNat : Int); rw [UInt8.toNat_ofNat']; omega), HBR.out.trans ((chg_set w.heap.size 1 _).below HBR.out.size (fun i hi => by omega))⟩
        case measure => simp [intOf]
      · go_wp2
        go_roundw
        case rel => exact ⟨3, by omega, by first | rfl | go_num, numP_blk HB.out (by omega) _ (by show _ = ((UInt8.ofNat (n / 1099511627776)).toNat : Int); rw [UInt8.toNat_ofNat']; omega), HBR.out.trans ((chg_set w.heap.size 2 _).below HBR.out.size (fun i hi => by omega))⟩
        case measure => simp [intOf]
      · go_wp2
        go_roundw
        case rel => exact ⟨4, by omega, by first | rfl | go_num, numP_blk HB.out (by omega) _ (by show _ = ((UInt8.ofNat (n / 4294967296)).toNat : Int); rw [UInt8.toNat_ofNat']; omega), HBR.out.trans ((chg_set w.heap.size 3 _).below HBR.out.size (fun i hi => by omega))⟩
        case measure => simp [intOf]
      · go_wp2
        go_roundw
        case rel => exact ⟨5, by omega, by first | rfl | go_num, numP_blk HB.out (by omega) _ (by show _ = ((UInt8.ofNat (n / 16777216)).toNat : Int); rw [UInt8.toNat_ofNat']; omega), HBR.out.trans ((chg_set w.heap.size 4 _).below HBR.out.size (fun i hi => by omega))⟩
        case measure => simp [intOf]
      · go_wp2
        go_roundw
        case rel => exact ⟨6, by omega, by first | rfl | go_num, numP_blk HB.out (by omega) _ (by show _ = ((UInt8.ofNat (n / 65536)).toNat : Int); rw [UInt8.toNat_ofNat']; omega), HBR.out.trans ((chg_set w.heap.size 5 _).below HBR.out.size (fun i hi => by omega))⟩
        case measure => simp [intOf]
      · go_wp2
        go_roundw
        case rel => exact ⟨7, by omega, by first | rfl | go_num, numP_blk HB.out (by omega) _ (by show _ = ((UInt8.ofNat (n / 256)).toNat : Int); rw [UInt8.toNat_ofNat']; omega), HBR.out.trans ((chg_set w.heap.size 6 _).below HBR.out.size (fun i hi => by omega))⟩
        case measure => simp [intOf]
      · go_wp2
        go_roundw
        case rel => exact ⟨8, by omega, by first | rfl | go_num, numP_blk HB.out (by omega) _ (by show _ = ((UInt8.ofNat n).toNat : Int); rw [UInt8.toNat_ofNat']; omega), HBR.out.trans ((chg_set w.heap.size 7 _).below HBR.out.size (fun i hi => by omega))⟩
        case measure => simp [intOf]
    · have hk8 : k = 8 := by omega
      subst hk8
      go_wp2
      go_ret
      refine ⟨_, rfl, Nat.le_refl _, ?_, HBR.out⟩
      have := HB.out
      have e : numP n 8 = num8 n := rfl
      rw [e] at this
      exact this
end Go.Proofs.Ytjmcjbmnggecgaa
