/- What package slot's Slots, Put, Set answer. Conditions: none but what a slice is. -/
import Derived.Test.YtpdikmkhkiplbaaFn3
namespace Go.Proofs.Ytpdikmkhkiplbaa
open Go.RowKit
set_option maxRecDepth 100000
set_option linter.unusedVariables false
set_option linter.unusedSimpArgs false

def idx (l : Recs) : Nat → List Nat
  | 0 => []
  | k + 1 => idx l k ++ (if (l.getD k none).isSome then [k] else [])
noncomputable def slotsB (bs : List UInt8) : List Nat := idx (pgD bs).l (pgD bs).l.length
def ints (xs : List Nat) : List Value := xs.map fun (n : Nat) => .int .i64 (n : Int)
theorem length_idx (l : Recs) (k : Nat) : (idx l k).length ≤ k := by
  induction k with
  | zero => simp [idx]
  | succ k ih => simp only [idx, List.length_append]; split <;> simp <;> omega
theorem ints_one (xs : List Nat) : ∀ u ∈ ints xs, u.oneCell' = true := by
  intro u hu
  obtain ⟨_, _, rfl⟩ := List.mem_map.1 hu
  rfl
/-- ints of a call's own making -/
def OutI (base : Nat) (w : World) (v : Value) (xs : List Nat) : Prop := ∃ A c, v = .slice A xs.length c ∧ xs.length ≤ c ∧ NewRow base w 3 1 A xs.length (ints xs)
theorem OutI.below {base : Nat} {w w' : World} {v : Value} {xs : List Nat} (h : OutI base w v xs) (hb : Below w.heap.size w w') : OutI base w' v xs := by
  obtain ⟨A, c, rfl, hl, hn⟩ := h
  exact ⟨A, c, rfl, hl, hn.below hb⟩
theorem RowAt.below {B : Nat} {w w' : World} {lv : Value} {l : Recs} (h : RowAt B w lv l) (hb : Below w.heap.size w w') : RowAt B w' lv l := h.chg (S := fun _ => False) (Chg.of_below hb) (fun _ h => h.elim) (fun _ _ h => h)

set_option maxHeartbeats 1600000 in
theorem slots_any (A : Option Addr) (n c : Nat) (bs : List UInt8) (w : World) (hr : Rd w 1 A n (u8s bs)) (hn : n = bs.length) (hc : n ≤ c) :
    Calls Try.prog 14 #[.slice A n c] w fun e w' => ∃ v, e = .returned v ∧ OutI w.heap.size w' v (slotsB bs) ∧ Below w.heap.size w w' := by
  have H := hid (read_pg A n c bs w hr hn hc)
  obtain ⟨i3, hi3, hy0, hy1, hy2⟩ := info_parts info31
  clear hr hn
  go_enter Try.func14, Try.ntmps14
  go_wp2_with fail
  refine H.out.mono ?_
  rintro e w1 ⟨A1, c1, rfl, hr1, hb1⟩
  have hpi := hid (page_in hr1 hb1.size)
  have HB1 := hid hb1
  have hbe := hid (HB1.out.trans (hpi.out.2.mono HB1.out.size))
  have hv := pgD_valid bs
  have hle := hv.len
  have HR := hid (hr1.below hpi.out.2)
  have hsB : Hid (slotsB bs = idx (pgD bs).l (pgD bs).l.length) := hid rfl
  clear hr1 hb1 H hv
  have pc1 := blk2b (Blk.new w1 55 #[.int .i64 (pgD bs).next, .slice A1 (pgD bs).l.length c1])
  generalize hw2 : w1.alloc (.cells #[.int .i64 (pgD bs).next, .slice A1 (pgD bs).l.length c1] 55) = w2
  rw [hw2] at hpi hbe HR pc1
  have hle2 : (pgD bs).l.length ≤ 124 := hle
  go_wp2_with fail
  clear hw2 hpi pc1
  go_loopw [5, 16] (fun o i wr => ∃ k : Nat, k ≤ (pgD bs).l.length ∧ i = .int .i64 k ∧ wr.ownsRow w.heap.size 3 1 o (idx (pgD bs).l k).length (ints (idx (pgD bs).l k)) ∧ RowAt w.heap.size wr (.slice A1 (pgD bs).l.length c1) (pgD bs).l ∧ Below w.heap.size w wr) (fun _ i _ => (pgD bs).l.length - (intOf i).toNat)
  case atStart => exact ⟨0, by omega, rfl, World.ownsRow_nil _ _ _ _, HR.out, hbe.out⟩
  case round =>
    obtain ⟨k, hk, rfl, ho, hrr, hbr⟩ := hrel
    have HO := hid ho
    have HRR := hid hrr
    have HBR := hid hbr
    have hlk := length_idx (pgD bs).l k
    obtain ⟨A2, c2, rfl, _⟩ := own_form ho
    clear ho hbr
    by_cases hlt : k < (pgD bs).l.length
    · obtain ⟨x, hx⟩ : ∃ x, (pgD bs).l[k]? = some x := ⟨_, List.getElem?_eq_getElem hlt⟩
      obtain ⟨g, A3, c3, rfl, hg, hcell, hfz, hAN, _⟩ := hrr.cell_ hx
      have hlt' : (k : Int) < ((pgD bs).l.length : Int) := by omega
      have hsx : Hid (idx (pgD bs).l (k + 1) = idx (pgD bs).l k ++ (if x.isSome then [k] else [])) := hid (by
        show idx (pgD bs).l k ++ _ = _
        rw [List.getD_eq_getElem?_getD, hx]
        rfl)
      clear hrr hx
      cases x with
      | none =>
        have heq : ∀ W : World, (binOp .neq 23 (.slice A3 0 c3) (.slice none 0 0)).run Try.prog W = .ok (.bool false) W := fun W => by
          have := run_neq_slice_nil_any (P := Try.prog) W 23 5 A3 0 c3 0 0 Try.underlying23
          rw [hAN] at this
          exact this
        clear hAN
        go_wp2
        go_roundw
        case rel => exact ⟨k + 1, by omega, by go_num, by rw [hsx.out]; simpa using HO.out, HRR.out, HBR.out⟩
        case measure => simp [intOf]; omega
      | some r =>
        have heq : ∀ W : World, (binOp .neq 23 (.slice A3 r.length c3) (.slice none 0 0)).run Try.prog W = .ok (.bool true) W := fun W => by
          have := run_neq_slice_nil_any (P := Try.prog) W 23 5 A3 r.length c3 0 0 Try.underlying23
          rw [hAN] at this
          exact this
        clear hAN
        have hHO := hid (own_chg HO.out (Chg.of_below ((Below.refl _ wr).alloc (Nat.le_refl _) (.cells #[.int .i64 k] 3))) (fun _ _ h => h))
        have hsz : w.heap.size ≤ (wr.alloc (.cells #[.int .i64 k] 3)).heap.size := by have := HBR.out.size; simp; omega
        go_wp2_with (at_builtin; refine wpList_append_any _ rfl (.tmp 23) (.tmp 25) 31 rfl w.heap.size 3 i3 _ 1 8 Try.underlying31 hi3 hy0 hy1 hy2 rfl (by omega) _ (idx (pgD bs).l k).length _ rfl hHO.out _ 1 1 _ rfl (rd_one1 _ _ _) (by simp [Value.oneCell']) (by unfold maxLen; omega) (by omega) hsz ?_)
        intro v5 w5 hown5 hg5 hat5
        have HO5 : Hid (w5.ownsRow w.heap.size 3 1 v5 (idx (pgD bs).l (k + 1)).length (ints (idx (pgD bs).l (k + 1)))) := hid (by
          rw [hsx.out]
          simpa [ints] using hown5)
        have hc5 : Chg (fun g => Value.ownBlock (.slice A2 (idx (pgD bs).l k).length c2) = some g) wr w5 := ((Chg.refl _ wr).alloc _).grown hg5 (fun k hk _ => hk)
        have HR5 := hid (HRR.out.chg hc5 (fun g hg cs hk => by
            obtain ⟨cs', hk'⟩ := own_ty HO.out hg
            exact hk.ne_ hk' (by decide) rfl) (fun g' e hg => by
            obtain ⟨ls, ho, _⟩ := HRR.out
            obtain ⟨cs', hk'⟩ := own_ty ho e
            obtain ⟨cs2, hk2⟩ := own_ty HO.out hg
            exact hk'.ne_ hk2 (by decide) rfl))
        have HB5 := hid (HBR.out.trans (hc5.below HBR.out.size (fun g hg => by
            rcases HO.out.2 with ⟨h', _⟩ | ⟨g3, cap, cur, h', hb3, _⟩
            · rw [h'] at hg; simp [Value.ownBlock] at hg
            · rw [h'] at hg; simp [Value.ownBlock] at hg; omega)))
        clear hown5 hg5 hat5 hc5
        go_wp2
        go_roundw
        case rel => exact ⟨k + 1, by omega, by go_num, HO5.out, HR5.out, HB5.out⟩
        case measure => simp [intOf]; omega
    · have hkl : k = (pgD bs).l.length := by omega
      subst hkl
      have hcap : (idx (pgD bs).l (pgD bs).l.length).length ≤ c2 := by
        rcases HO.out.2 with ⟨h', h0⟩ | ⟨g, cap, cur, h', _, _, hle, _⟩
        · omega
        · injection h' with _ _ h'; omega
      have hcl := hid (clipi_any A2 (idx (pgD bs).l (pgD bs).l.length).length c2 wr hcap)
      clear hrr
      go_wp2_with fail
      refine hcl.out.mono ?_
      rintro e w9 ⟨rfl, rfl⟩
      go_wp2
      go_ret
      rw [hsB.out]
      exact ⟨_, rfl, ⟨_, _, rfl, Nat.le_refl _, NewRow.of_own HO.out⟩, HBR.out⟩
end Go.Proofs.Ytpdikmkhkiplbaa
