/- The walk of the laws' awake, and calls of package slot on bytes of a call's own making. No conditions. -/
import Derived.Test.YtpdikmkhkiplbaaFn6
import Derived.Lib.SlBytesConst
namespace Go.Proofs.Ytpdikmkhkiplbaa
open Go.RowKit
set_option maxRecDepth 100000
set_option linter.unusedVariables false
set_option linter.unusedSimpArgs false

theorem Valid.is {q : MPage} (h : Valid q) : Is q.bytes q := ⟨h, rfl⟩
theorem Valid.pg {q : MPage} (h : Valid q) : pg q.bytes = some q := pg_some h.is
theorem Valid.pgD {q : MPage} (h : Valid q) : pgD q.bytes = q := pgD_some h.pg
theorem Good.trimmed {q : MPage} (h : Good q) : Valid ⟨q.next, trim q.l⟩ := ⟨trim_trim _, h.fits, h.n1, h.n2⟩
theorem trim_bytes (q : MPage) : MPage.bytes ⟨q.next, trim q.l⟩ = q.bytes := by unfold MPage.bytes; simp only [trim_trim]
theorem Good.pg {q : MPage} (h : Good q) : pg q.bytes = some ⟨q.next, trim q.l⟩ := by rw [← trim_bytes]; exact h.trimmed.pg

theorem OutB.split {B : Nat} {w : World} {v : Value} {bs : List UInt8} (h : OutB B w v bs) : ∃ A c, v = .slice A bs.length c ∧ Hid (OutB B w (.slice A bs.length c) bs) := by
  obtain ⟨A, c, rfl, hl, hn⟩ := h
  exact ⟨A, c, rfl, hid ⟨A, c, rfl, hl, hn⟩⟩
section
variable {B : Nat} {w : World} {v : Value} {bs : List UInt8}
theorem OutB.drew (h : OutB B w v bs) : OutB B w.drew v bs := h.below (Below.refl _ _).drew
theorem put_v (h : OutB B w v bs) {A2 : Option Addr} {n2 c2 : Nat} {d : List UInt8} (hr2 : Rd w 1 A2 n2 (u8s d)) (hn2 : n2 = d.length) :
    Calls Try.prog 9 #[v, .slice A2 n2 c2] w fun e w' => ∃ v', e = .returned (.tuple #[.int .i64 (putB bs d).2.1, v', .int .i64 (putB bs d).1]) ∧ OutB w.heap.size w' v' (obytes (putB bs d).2.2) ∧ Below w.heap.size w w' := by
  obtain ⟨A, c, rfl, hl, hn⟩ := h
  exact put_any A _ c bs A2 n2 c2 d w hn.rd rfl hl hr2 hn2
theorem get_v (h : OutB B w v bs) (i : Int) : Calls Try.prog 15 #[v, .int .i64 i] w fun e w' => ∃ v', e = .returned (.tuple #[v', .bool (getB bs i).isSome]) ∧ OutB w.heap.size w' v' ((getB bs i).getD []) ∧ Below w.heap.size w w' := by
  obtain ⟨A, c, rfl, hl, hn⟩ := h
  exact get_any A _ c bs i w hn.rd rfl hl
theorem del_v (h : OutB B w v bs) (i : Int) : Calls Try.prog 16 #[v, .int .i64 i] w fun e w' => ∃ v', e = .returned (.tuple #[v', .int .i64 (delE bs i)]) ∧ OutB w.heap.size w' v' (delO bs i) ∧ Below w.heap.size w w' := by
  obtain ⟨A, c, rfl, hl, hn⟩ := h
  exact del_any A _ c bs i w hn.rd rfl hl
theorem next_v (h : OutB B w v bs) : Calls Try.prog 11 #[v] w fun e w' => e = .returned (.int .i64 (pgD bs).next) ∧ Below w.heap.size w w' := by
  obtain ⟨A, c, rfl, hl, hn⟩ := h
  exact next_any A _ c bs w hn.rd rfl hl
theorem check_v (h : OutB B w v bs) : Calls Try.prog 12 #[v] w fun e w' => e = .returned (.bool (pg bs).isSome) ∧ Below w.heap.size w w' := by
  obtain ⟨A, c, rfl, hl, hn⟩ := h
  exact check_any A _ c bs w hn.rd rfl hl
theorem free_v (h : OutB B w v bs) : Calls Try.prog 13 #[v] w fun e w' => e = .returned (.int .i64 (freeB bs)) ∧ Below w.heap.size w w' := by
  obtain ⟨A, c, rfl, hl, hn⟩ := h
  exact free_any A _ c bs w hn.rd rfl hl
theorem slots_v (h : OutB B w v bs) : Calls Try.prog 14 #[v] w fun e w' => ∃ v', e = .returned v' ∧ OutI w.heap.size w' v' (slotsB bs) ∧ Below w.heap.size w w' := by
  obtain ⟨A, c, rfl, hl, hn⟩ := h
  exact slots_any A _ c bs w hn.rd rfl hl
theorem setNext_v (h : OutB B w v bs) (m : Int) (hs : bs.length ≤ 1000) : Calls Try.prog 10 #[v, .int .i64 m] w fun e w' => ∃ v', e = .returned v' ∧ OutB w.heap.size w' v' (setNextB bs m) ∧ Below w.heap.size w w' := by
  obtain ⟨A, c, rfl, hl, hn⟩ := h
  exact setNext_any A _ c bs m w hn.rd rfl hl (by omega)
theorem str_v (h : OutB B w v bs) : (convert 23 9 v).run Try.prog w = .ok (.string ⟨bs.toArray⟩) w := by
  obtain ⟨A, c, rfl, hl, hn⟩ := h
  exact run_str w A _ c bs hn.rd
end

def q0 : MPage := ⟨0, []⟩
def q1 : MPage := ⟨0, [some [97, 98]]⟩
theorem valid_q1 : Valid q1 := ⟨rfl, ⟨by simp [q1, sum], by simp [q1]⟩, by simp [q1], by simp [q1]⟩
theorem put_new : putB (MPage.bytes ⟨0, []⟩) [97, 98] = (0, 0, some q1) := by rw [putB, valid_new.pg]; rfl
theorem get_q1 : getB q1.bytes 0 = some [97, 98] := by rw [getB, valid_q1.pg, valid_q1.pgD]; rfl
theorem slots_q1 : slotsB q1.bytes = [0] := by rw [slotsB, valid_q1.pgD]; rfl
theorem free_new : freeB (MPage.bytes ⟨0, []⟩) = 480 := by rw [freeB, valid_new.pg]; rfl
theorem setNext_new : setNextB (MPage.bytes ⟨0, []⟩) 7 = MPage.bytes ⟨7, []⟩ := by rw [setNextB, valid_new.pg, valid_new.pgD]; rfl
theorem valid_7 : Valid ⟨7, []⟩ := ⟨rfl, ⟨by simp [sum], by simp⟩, by simp, by simp⟩

set_option maxHeartbeats 3200000 in
theorem awake_any (w : World) : Calls Try.prog 17 #[] w fun e w' => e = .returned (.bool true) ∧ Below w.heap.size w w' := by
  have hnew := hid (new_any w)
  go_enter Try.func17, Try.ntmps17
  go_wp2_with fail
  refine hnew.out.mono ?_
  rintro e w1 ⟨v1, rfl, ho1, hb1⟩
  obtain ⟨A1, c1, rfl, HO1⟩ := ho1.split
  have HB1 := hid hb1
  have hl1 : (MPage.bytes ⟨0, []⟩).length = 504 := valid_new.length
  rw [hl1] at HO1 ⊢
  have hb2 : Below w1.heap.size w1 (w1.alloc (.cells #[.int .u8 97, .int .u8 98] 5 (2, 3))) := (Below.refl _ _).alloc (Nat.le_refl _) _
  have HB2 := hid hb2
  have hab : Rd (w1.alloc (.cells #[.int .u8 97, .int .u8 98] 5 (2, 3))) 1 (some ⟨w1.heap.size, 0, none⟩) 2 (u8s [97, 98]) :=
    ⟨rfl, fun _ => ⟨_, rfl, by simp, fun j u hu => by
      rw [Addr.add_lit, Nat.zero_add, World.cell?_alloc_mark]
      simpa [u8s] using hu⟩⟩
  have hcv : (convert 23 23 (.slice (some ⟨w1.heap.size, 0, none⟩) 2 2)).run Try.prog (w1.alloc (.cells #[.int .u8 97, .int .u8 98] 5)) = .ok (.slice (some ⟨w1.heap.size, 0, none⟩) 2 2) (w1.alloc (.cells #[.int .u8 97, .int .u8 98] 5 (2, 3))) :=
    Lib.run_convert_bytes_const (P := Try.prog) w1 23 5 #[.int .u8 97, .int .u8 98] 2 2 Try.underlying23 Try.underlying5
  have hput := hid (put_v (c2 := 2) (HO1.out.below hb2) hab rfl)
  rw [put_new] at hput
  clear ho1 hb1 hnew hb2 hab
  go_wp2_with fail
  refine hput.out.mono ?_
  rintro e w2 ⟨v2, rfl, ho2, hb3⟩
  obtain ⟨A2, c2, rfl, HO2⟩ := ho2.split
  have HB3 := hid hb3
  have HO1' := hid ((HO1.out.below HB2.out).below hb3)
  have hget := hid (get_v (bs := q1.bytes) HO2.out 0)
  have e1 : obytes (some q1) = q1.bytes := rfl
  rw [get_q1] at hget
  rw [e1]
  have hll : q1.bytes.length = 504 := valid_q1.length
  have HO2' : Hid (OutB _ w2 (.slice A2 504 c2) q1.bytes) := hid (by have := HO2.out; rw [e1, hll] at this; exact this)
  rw [e1, hll] at hget
  rw [hll]
  clear ho2 hb3 hput HO2
  go_wp2_with fail
  refine hget.out.mono ?_
  rintro e w3 ⟨v3, rfl, ho3, hb4⟩
  obtain ⟨A3, c3, rfl, HO3⟩ := ho3.split
  have HB4 := hid hb4
  have hchk := hid (check_v (HO1'.out.below hb4))
  rw [valid_new.pg] at hchk
  clear ho3 hb4 hget
  simp only [Option.getD_some, Option.isSome_some] at *
  go_wp2_with fail
  refine hchk.out.mono ?_
  rintro e w4 ⟨rfl, hb5⟩
  have HB5 := hid hb5
  have hfr := hid (free_v ((HO1'.out.below HB4.out).below hb5))
  rw [free_new] at hfr
  clear hb5 hchk
  go_wp2_with fail
  refine hfr.out.mono ?_
  rintro e w5 ⟨rfl, hb6⟩
  have HB6 := hid hb6
  have hs5 : (convert 23 9 (.slice A3 2 c3)).run Try.prog w5 = .ok (.string ⟨#[97, 98]⟩) w5 := str_v ((HO3.out.below HB5.out).below hb6)
  have hsl := hid (slots_v (((HO2'.out.below HB4.out).below HB5.out).below hb6))
  rw [slots_q1] at hsl
  clear hb6 hfr
  go_wp2_with fail
  refine hsl.out.mono ?_
  rintro e w6 ⟨v6, rfl, ⟨A6, c6, rfl, _, _⟩, hb7⟩
  have HB7 := hid hb7
  have hsn := hid (setNext_v ((((HO1'.out.below HB4.out).below HB5.out).below HB6.out).below hb7) 7 (by omega))
  rw [setNext_new] at hsn
  clear hb7 hsl hs5
  go_wp2_with fail
  refine hsn.out.mono ?_
  rintro e w7 ⟨v7, rfl, ho7, hb8⟩
  have HB8 := hid hb8
  obtain ⟨A7, c7, rfl, HO7⟩ := ho7.split
  have hnx := hid (next_v HO7.out)
  rw [valid_7.pgD] at hnx
  clear hb8 hsn ho7
  go_wp2_with fail
  refine hnx.out.mono ?_
  rintro e w8 ⟨rfl, hb9⟩
  have HBE := hid ((HB1.out.trans ((HB2.out.trans (HB3.out.mono HB2.out.size)).mono HB1.out.size)))
  have HBE2 := hid (HB4.out.trans ((HB5.out.trans ((HB6.out.trans ((HB7.out.trans ((HB8.out.trans (hb9.mono HB8.out.size)).mono HB7.out.size)).mono HB6.out.size)).mono HB5.out.size)).mono HB4.out.size))
  have HBE3 := hid (HBE.out.trans (HBE2.out.mono HBE.out.size))
  clear hb9 hnx
  go_wp2
  go_ret
  exact ⟨rfl, HBE3.out⟩
end Go.Proofs.Ytpdikmkhkiplbaa
