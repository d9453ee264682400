/- The walk of the laws' bad: is a number of a record below 0, or above 2^62? Conditions: sizes. -/
import Derived.Test.YtkpopjpmjcgbfaaEncC
namespace Go.Proofs.Ytkpopjpmjcgbfaa
open Go.RowKit
set_option maxRecDepth 100000
set_option linter.unusedVariables false
set_option linter.unusedSimpArgs false

def tx3 (t : Int × Int × Int) : List Int := [t.1, t.2.1, t.2.2]
def di2 (t : Int × Int) : List Int := [t.1, t.2]
def nums7 (r : MRec) : List Int := [r.kind, r.txn, r.prev, r.next, r.page, r.off, r.count]
def numsT (r : MRec) (k : Nat) : List Int := nums7 r ++ (r.txns.take k).flatMap tx3
def numsD (r : MRec) (k : Nat) : List Int := numsT r r.txns.length ++ (r.dirty.take k).flatMap di2
def nums (r : MRec) : List Int := numsD r r.dirty.length
def badN (n : Int) : Bool := decide (n < 0) || decide (4611686018427387904 < n)
def badR (r : MRec) : Bool := (nums r).any badN

theorem length_flat3 (l : List (Int × Int × Int)) : (l.flatMap tx3).length = 3 * l.length := by
  induction l with
  | nil => simp
  | cons a l ih => rw [List.flatMap_cons, List.length_append, ih]; simp [tx3]; omega
theorem length_flat2 (l : List (Int × Int)) : (l.flatMap di2).length = 2 * l.length := by
  induction l with
  | nil => simp
  | cons a l ih => rw [List.flatMap_cons, List.length_append, ih]; simp [di2]; omega
theorem length_numsT (r : MRec) (k : Nat) (hk : k ≤ r.txns.length) : (numsT r k).length = 7 + 3 * k := by
  rw [numsT, List.length_append, length_flat3, List.length_take, Nat.min_eq_left hk]; simp [nums7]
theorem length_numsD (r : MRec) (k : Nat) (hk : k ≤ r.dirty.length) : (numsD r k).length = 7 + 3 * r.txns.length + 2 * k := by
  rw [numsD, List.length_append, length_numsT r _ (Nat.le_refl _), length_flat2, List.length_take, Nat.min_eq_left hk]
theorem numsT_succ (r : MRec) (k : Nat) (hk : k < r.txns.length) : numsT r (k + 1) = numsT r k ++ [r.txns[k].1, r.txns[k].2.1, r.txns[k].2.2] := by
  rw [numsT, numsT, List.take_succ_eq_append_getElem hk, List.flatMap_append]
  simp [tx3]
theorem numsD_succ (r : MRec) (k : Nat) (hk : k < r.dirty.length) : numsD r (k + 1) = numsD r k ++ [r.dirty[k].1, r.dirty[k].2] := by
  rw [numsD, numsD, List.take_succ_eq_append_getElem hk, List.flatMap_append]
  simp [di2]
theorem numsT_zero (r : MRec) : numsT r 0 = nums7 r := by simp [numsT]
theorem numsD_zero (r : MRec) : numsD r 0 = numsT r r.txns.length := by simp [numsD]
theorem ints_append (a b : List Int) : ints (a ++ b) = ints a ++ ints b := by simp [ints]

theorem good_of_bad (r : MRec) (h : badR r = false) (hs : r.size ≤ 4611686018427387904) : r.Good := by
  have hall : ∀ n ∈ nums r, Ok n := by
    intro n hn
    have : badN n = false := by
      unfold badR at h
      rw [List.any_eq_false] at h
      simpa using h n hn
    unfold badN at this
    simp at this
    exact ⟨by omega, by omega⟩
  have hn : nums r = nums7 r ++ (r.txns.flatMap tx3 ++ r.dirty.flatMap di2) := by simp [nums, numsD, numsT]
  rw [hn] at hall
  refine ⟨fun n h => ?_, hall _ (by simp [nums7]), fun t ht => ⟨hall _ ?_, hall _ ?_, hall _ ?_⟩, fun t ht => ⟨hall _ ?_, hall _ ?_⟩, hs⟩
  · refine hall n (List.mem_append_left _ ?_)
    simp only [six, nums7, List.mem_cons, List.not_mem_nil, or_false] at h ⊢
    rcases h with h | h | h | h | h | h <;> simp [h]
  · exact List.mem_append_right _ (List.mem_append_left _ (List.mem_flatMap.2 ⟨t, ht, by simp [tx3]⟩))
  · exact List.mem_append_right _ (List.mem_append_left _ (List.mem_flatMap.2 ⟨t, ht, by simp [tx3]⟩))
  · exact List.mem_append_right _ (List.mem_append_left _ (List.mem_flatMap.2 ⟨t, ht, by simp [tx3]⟩))
  · exact List.mem_append_right _ (List.mem_append_right _ (List.mem_flatMap.2 ⟨t, ht, by simp [di2]⟩))
  · exact List.mem_append_right _ (List.mem_append_right _ (List.mem_flatMap.2 ⟨t, ht, by simp [di2]⟩))

theorem info3 : (Try.prog.info? 3).map (fun i => (i.zero, i.size, i.bytes)) = some (some (.int .i64 0), 1, 8) := by kernel_rfl
theorem ints_one (l : List Int) : ∀ u ∈ ints l, u.oneCell' = true := by
  intro u hu
  obtain ⟨_, _, rfl⟩ := List.mem_map.1 hu
  rfl

/-- bad's state: its list of numbers, and the record's own box -/
structure BadS (w wr : World) (cs : Array Value) (A : Option Addr) (N c : Nat) (l : List Int) : Prop where
  be : Below w.heap.size w wr
  box : Blk wr w.heap.size 28 cs
  own : wr.ownsRow w.heap.size 3 1 (.slice A N c) N (ints l)
section
variable {w wr w' : World} {cs : Array Value} {A : Option Addr} {N c m : Nat} {l l' : List Int} {v : Value}
theorem BadS.alloc (h : BadS w wr cs A N c l) (o : Obj) : BadS w (wr.alloc o) cs A N c l := ⟨h.be.alloc h.be.size o, h.box.alloc o, h.own.alloc o⟩
theorem BadS.drew (h : BadS w wr cs A N c l) : BadS w wr.drew cs A N c l := ⟨h.be.drew, h.box, h.own⟩
theorem BadS.append (h : BadS w wr cs A N c l) (hown : w'.ownsRow w.heap.size 3 1 v (N + m) (ints l ++ ints l')) (hg : wr.grownBy w' (Value.slice A N c).ownBlock) : ∃ A' c', v = .slice A' (N + m) c' ∧ BadS w w' cs A' (N + m) c' (l ++ l') := by
  obtain ⟨A', c', rfl, _⟩ := own_form hown
  refine ⟨A', c', rfl, h.be.grown hg h.be.size fun k hk => (h.own.lt k hk).1, h.box.grown hg fun e => ?_, by rw [ints_append]; exact hown⟩
  obtain ⟨cs', hk⟩ := own_ty h.own e.symm
  exact hk.ne_ h.box (by decide) rfl
end

set_option maxHeartbeats 3200000 in
theorem bad_any (r : MRec) (BA : Option Addr) (bc : Nat) (AA : Option Addr) (ac : Nat) (TA : Option Addr) (tc : Nat) (DA : Option Addr) (dc : Nat) (w : World) (h : RecMem w r BA AA TA DA) (hs : r.size ≤ 50000000) :
    Calls Try.prog 8 #[recVal r BA bc AA ac TA tc DA dc] w fun e w' => e = .returned (.bool (badR r)) ∧ Below w.heap.size w w' := by
  obtain ⟨i0, hi, hz0, hz1, hz2⟩ := info_parts info3
  have H := hid h
  clear h
  have hnt : r.txns.length ≤ 5000000 := by unfold MRec.size at hs; omega
  have hnd : r.dirty.length ≤ 5000000 := by unfold MRec.size at hs; omega
  have hS0 : BadS w ((w.alloc (.cells #[.int .i64 r.kind, .int .i64 r.txn, .int .i64 r.prev, .int .i64 r.next, .int .i64 r.page, .int .i64 r.off, .slice BA r.before.length bc, .slice AA r.after.length ac, .slice TA r.txns.length tc, .slice DA r.dirty.length dc, .int .i64 r.count] 28)).alloc (.cells #[.int .i64 r.kind, .int .i64 r.txn, .int .i64 r.prev, .int .i64 r.next, .int .i64 r.page, .int .i64 r.off, .int .i64 r.count] 3)) #[.int .i64 r.kind, .int .i64 r.txn, .int .i64 r.prev, .int .i64 r.next, .int .i64 r.page, .int .i64 r.off, .slice BA r.before.length bc, .slice AA r.after.length ac, .slice TA r.txns.length tc, .slice DA r.dirty.length dc, .int .i64 r.count] (some ⟨w.heap.size + 1, 0, none⟩) 7 7 (nums7 r) := by
    have hsz1 : (w.alloc (.cells #[.int .i64 r.kind, .int .i64 r.txn, .int .i64 r.prev, .int .i64 r.next, .int .i64 r.page, .int .i64 r.off, .slice BA r.before.length bc, .slice AA r.after.length ac, .slice TA r.txns.length tc, .slice DA r.dirty.length dc, .int .i64 r.count] 28)).heap.size = w.heap.size + 1 := by simp
    have ho := World.ownsRow_lit (base := w.heap.size) (e := 3) (size := 1) (w.alloc (.cells #[.int .i64 r.kind, .int .i64 r.txn, .int .i64 r.prev, .int .i64 r.next, .int .i64 r.page, .int .i64 r.off, .slice BA r.before.length bc, .slice AA r.after.length ac, .slice TA r.txns.length tc, .slice DA r.dirty.length dc, .int .i64 r.count] 28)) #[.int .i64 r.kind, .int .i64 r.txn, .int .i64 r.prev, .int .i64 r.next, .int .i64 r.page, .int .i64 r.off, .int .i64 r.count] 7 (by simp) (by unfold maxLen; omega) rfl
    rw [hsz1] at ho
    exact ⟨((Below.refl _ w).alloc (Nat.le_refl _) _).alloc (by simp) _, (Blk.new w 28 _).alloc _, ho⟩
  have HS0 := hid hS0
  clear hS0
  unfold recVal
  go_enter Try.func8, Try.ntmps8
  go_wp2_with fail
  go_loopw [3, 4] (fun v i wr => ∃ k : Nat, k ≤ r.txns.length ∧ i = .int .i64 k ∧ ∃ A N c, v = .slice A N c ∧ N = 7 + 3 * k ∧ BadS w wr #[.int .i64 r.kind, .int .i64 r.txn, .int .i64 r.prev, .int .i64 r.next, .int .i64 r.page, .int .i64 r.off, .slice BA r.before.length bc, .slice AA r.after.length ac, .slice TA r.txns.length tc, .slice DA r.dirty.length dc, .int .i64 r.count] A N c (numsT r k)) (fun _ i _ => r.txns.length - (intOf i).toNat)
  case atStart => exact ⟨0, by omega, rfl, _, 7, 7, rfl, rfl, by rw [numsT_zero]; exact HS0.out⟩
  case round =>
    obtain ⟨k, hk, rfl, A1, N1, c1, rfl, hN1, hS1⟩ := hrel
    have HS1 := hid hS1
    have hb1 := HS1.out.box
    obtain ⟨e8, e9⟩ := And.intro (hb1.cell_ 8 rfl) (hb1.cell_ 9 rfl)
    clear hS1 HS0 hb1
    have HN1 := hid hN1
    have lN1 : N1 ≤ 20000000 := by omega
    clear hN1
    by_cases hlt : k < r.txns.length
    · obtain ⟨tb, tf, rfl, htb, t0, t1, t2⟩ := H.out.txn k hlt
      have d0 := (HS1.out.be.cell (p := ⟨tb, tf + k * 3, none⟩) htb).trans t0
      have d1 := (HS1.out.be.cell (p := ⟨tb, tf + k * 3 + 1, none⟩) htb).trans t1
      have d2 := (HS1.out.be.cell (p := ⟨tb, tf + k * 3 + 2, none⟩) htb).trans t2
      have hlt' : (k : Int) < (r.txns.length : Int) := by omega
      have T0 := hid t0
      have T1 := hid t1
      have T2 := hid t2
      clear t0 t1 t2
      generalize h1 : r.txns[k].1 = x1 at *
      generalize h2 : r.txns[k].2.1 = x2 at *
      generalize h3 : r.txns[k].2.2 = x3 at *
      have E1 := hid h1
      have E2 := hid h2
      have E3 := hid h3
      clear h1 h2 h3
      have HX := hid (HS1.out.alloc (.cells #[.int .i64 x1, .int .i64 x2, .int .i64 x3] 3))
      have hR := Rd.of_blk (Blk.new wr 3 #[.int .i64 x1, .int .i64 x2, .int .i64 x3]) (n := 3) rfl
      have HR : Hid (Rd _ 1 _ 3 (ints [x1, x2, x3])) := hid hR
      clear hR
      go_wp2_with fail
      go_region_held3 (fun w' => w'.cell? ⟨w.heap.size, 8, none⟩ = some (.slice (some ⟨tb, tf, none⟩) r.txns.length tc) ∧ w'.cell? ⟨tb, tf + k * 3, none⟩ = some (.int .i64 x1) ∧ w'.cell? ⟨tb, tf + k * 3 + 1, none⟩ = some (.int .i64 x2) ∧ w'.cell? ⟨tb, tf + k * 3 + 2, none⟩ = some (.int .i64 x3))
        (first
          | (exact ⟨hS8.box.cell_ 8 rfl, (hS8.be.cell (p := ⟨tb, tf + k * 3, none⟩) htb).trans T0.out, (hS8.be.cell (p := ⟨tb, tf + k * 3 + 1, none⟩) htb).trans T1.out, (hS8.be.cell (p := ⟨tb, tf + k * 3 + 2, none⟩) htb).trans T2.out⟩)
          | (exact ⟨e8, d0, d1, d2⟩)
          | (exact ⟨HX.out.box.cell_ 8 rfl, (HX.out.be.cell (p := ⟨tb, tf + k * 3, none⟩) htb).trans T0.out, (HX.out.be.cell (p := ⟨tb, tf + k * 3 + 1, none⟩) htb).trans T1.out, (HX.out.be.cell (p := ⟨tb, tf + k * 3 + 2, none⟩) htb).trans T2.out⟩)
          | go_keep)
        (first
          | ((refine step_append_any _ (by rfl) _ _ _ (by rfl) w.heap.size 3 i0 _ 1 8 Try.underlying46 hi hz0 hz1 hz2 rfl (by omega) _ N1 _ (by rfl) HX.out.own _ 3 3 _ (by rfl) HR.out (ints_one _) (by unfold maxLen; omega) (by omega) HX.out.be.size ?_); intro v8 w8 hown8 hgr8 hat8; obtain ⟨A8, c8, rfl, hS8⟩ := HX.out.drew.append hown8 hgr8))
      have HS8 : Hid (BadS w w8 _ A8 (N1 + 3) c8 (numsT r (k + 1))) := hid (by
        rw [numsT_succ r k hlt, E1.out, E2.out, E3.out]
        exact hS8)
      clear hS8 hown8 hgr8 hat8 HX HR e8 e9 d0 d1 d2
      go_wp2
      go_roundw
      case rel => exact ⟨k + 1, by omega, by go_num, A8, _, c8, rfl, by have := HN1.out; omega, HS8.out⟩
      case measure => simp [intOf]; omega
    · have hk' : Hid (k = r.txns.length) := hid (by omega)
      have hlt' : decide ((k : Int) < (r.txns.length : Int)) = false := by simp; omega
      go_wp2_with fail
      go_loopw [3, 5] (fun v i wr => ∃ k : Nat, k ≤ r.dirty.length ∧ i = .int .i64 k ∧ ∃ A N c, v = .slice A N c ∧ N = 7 + 3 * r.txns.length + 2 * k ∧ BadS w wr #[.int .i64 r.kind, .int .i64 r.txn, .int .i64 r.prev, .int .i64 r.next, .int .i64 r.page, .int .i64 r.off, .slice BA r.before.length bc, .slice AA r.after.length ac, .slice TA r.txns.length tc, .slice DA r.dirty.length dc, .int .i64 r.count] A N c (numsD r k)) (fun _ i _ => r.dirty.length - (intOf i).toNat)
      case atStart => exact ⟨0, by omega, rfl, A1, N1, c1, rfl, by have := HN1.out; have := hk'.out; omega, by have h := HS1.out; rw [hk'.out] at h; rw [numsD_zero]; exact h⟩
      case round =>
        obtain ⟨k2, hk2, rfl, A2, N2, c2, rfl, hN2, hS2⟩ := hrel
        have HS2 := hid hS2
        have hb2 := HS2.out.box
        clear e8 e9
        obtain ⟨e8, e9⟩ := And.intro (hb2.cell_ 8 rfl) (hb2.cell_ 9 rfl)
        clear hS2 HS1 hb2 lN1
        have HN2 := hid hN2
        have lN2 : N2 ≤ 30000000 := by omega
        clear hN2
        by_cases hlt2 : k2 < r.dirty.length
        · obtain ⟨tb, tf, rfl, htb, t0, t1⟩ := H.out.dir k2 hlt2
          have d0 := (HS2.out.be.cell (p := ⟨tb, tf + k2 * 2, none⟩) htb).trans t0
          have d1 := (HS2.out.be.cell (p := ⟨tb, tf + k2 * 2 + 1, none⟩) htb).trans t1
          have hlt2' : (k2 : Int) < (r.dirty.length : Int) := by omega
          have T0 := hid t0
          have T1 := hid t1
          clear t0 t1
          generalize h1 : r.dirty[k2].1 = x1 at *
          generalize h2 : r.dirty[k2].2 = x2 at *
          have E1 := hid h1
          have E2 := hid h2
          clear h1 h2
          have HX := hid (HS2.out.alloc (.cells #[.int .i64 x1, .int .i64 x2] 3))
          have hR := Rd.of_blk (Blk.new wr 3 #[.int .i64 x1, .int .i64 x2]) (n := 2) rfl
          have HR : Hid (Rd _ 1 _ 2 (ints [x1, x2])) := hid hR
          clear hR
          go_wp2_with fail
          go_region_held3 (fun w' => w'.cell? ⟨w.heap.size, 9, none⟩ = some (.slice (some ⟨tb, tf, none⟩) r.dirty.length dc) ∧ w'.cell? ⟨tb, tf + k2 * 2, none⟩ = some (.int .i64 x1) ∧ w'.cell? ⟨tb, tf + k2 * 2 + 1, none⟩ = some (.int .i64 x2))
            (first
              | (exact ⟨hS8.box.cell_ 9 rfl, (hS8.be.cell (p := ⟨tb, tf + k2 * 2, none⟩) htb).trans T0.out, (hS8.be.cell (p := ⟨tb, tf + k2 * 2 + 1, none⟩) htb).trans T1.out⟩)
              | (exact ⟨e9, d0, d1⟩)
              | (exact ⟨HX.out.box.cell_ 9 rfl, (HX.out.be.cell (p := ⟨tb, tf + k2 * 2, none⟩) htb).trans T0.out, (HX.out.be.cell (p := ⟨tb, tf + k2 * 2 + 1, none⟩) htb).trans T1.out⟩)
              | go_keep)
            (first
              | ((refine step_append_any _ (by rfl) _ _ _ (by rfl) w.heap.size 3 i0 _ 1 8 Try.underlying46 hi hz0 hz1 hz2 rfl (by omega) _ N2 _ (by rfl) HX.out.own _ 2 2 _ (by rfl) HR.out (ints_one _) (by unfold maxLen; omega) (by omega) HX.out.be.size ?_); intro v8 w8 hown8 hgr8 hat8; obtain ⟨A8, c8, rfl, hS8⟩ := HX.out.drew.append hown8 hgr8))
          have HS8 : Hid (BadS w w8 _ A8 (N2 + 2) c8 (numsD r (k2 + 1))) := hid (by
            rw [numsD_succ r k2 hlt2, E1.out, E2.out]
            exact hS8)
          clear hS8 hown8 hgr8 hat8 HX HR e8 e9 d0 d1
          go_wp2
          go_roundw
          case rel => exact ⟨k2 + 1, by omega, by go_num, A8, _, c8, rfl, by have := HN2.out; omega, HS8.out⟩
          case measure => simp [intOf]; omega
        · have hk2' : Hid (k2 = r.dirty.length) := hid (by omega)
          have hlt2' : decide ((k2 : Int) < (r.dirty.length : Int)) = false := by simp; omega
          have hown := HS2.out.own
          rw [hk2'.out] at hown
          have hRd : Hid (Rd wr 1 A2 N2 (ints (nums r))) := hid (Rd.of_own hown)
          have hbe := hid HS2.out.be
          have hlen : Hid (N2 = (nums r).length) := hid (by rw [nums, length_numsD r _ (Nat.le_refl _)]; have := HN2.out; have := hk2'.out; omega)
          clear hown HS2 H
          go_wp2_with fail
          go_loopw [6] (fun i wx => wx = wr ∧ ∃ k : Nat, k ≤ N2 ∧ i = .int .i64 k ∧ ∀ j (hj : j < (nums r).length), j < k → badN (nums r)[j] = false) (fun i _ => N2 - (intOf i).toNat)
          case atStart => exact ⟨rfl, 0, by omega, rfl, fun j _ h => absurd h (by omega)⟩
          case round =>
            obtain ⟨rfl, k3, hk3, rfl, hall⟩ := hrel
            have Hall := hid hall
            clear hall
            by_cases hlt3 : k3 < N2
            · have hl3 : k3 < (nums r).length := by have := hlen.out; omega
              obtain ⟨b, o, rfl, hbl, hcs⟩ := hRd.out.lit (by omega)
              have hc := hcs k3 (.int .i64 ((nums r)[k3]'hl3)) (by simp [ints, List.getElem?_eq_getElem hl3])
              clear hcs
              have hany := hid (show badN ((nums r)[k3]'hl3) = true → badR r = true from fun h => by
                unfold badR
                rw [List.any_eq_true]
                exact ⟨_, List.getElem_mem hl3, h⟩)
              have hstep := hid (show badN ((nums r)[k3]'hl3) = false → ∀ j (hj : j < (nums r).length), j < k3 + 1 → badN (nums r)[j] = false from fun h j hj hjk => by
                rcases Nat.lt_or_ge j k3 with h1 | h1
                · exact Hall.out j hj h1
                · have : j = k3 := by omega
                  subst this; exact h)
              generalize (nums r)[k3]'hl3 = x at *
              by_cases hx0 : x < 0
              · have hx0' := hid (hany.out (by simp [badN, hx0]))
                go_wp2
                go_ret
                rw [hx0'.out]
                exact ⟨rfl, hbe.out⟩
              · have hx0' : decide (x < 0) = false := by simpa using hx0
                by_cases hx1 : 4611686018427387904 < x
                · have hx1' := hid (hany.out (by simp [badN, hx1]))
                  go_wp2
                  go_ret
                  rw [hx1'.out]
                  exact ⟨rfl, hbe.out⟩
                · have hx1' := hid (hstep.out (by simp [badN]; omega))
                  go_wp2
                  go_roundw
                  case rel => exact ⟨by first | rfl | trivial, k3 + 1, by omega, by go_num, hx1'.out⟩
                  case measure => simp [intOf]; omega
            · have hfin : Hid (badR r = false) := hid (by
                unfold badR
                rw [List.any_eq_false]
                intro x hx
                obtain ⟨j, hj, rfl⟩ := List.mem_iff_getElem.1 hx
                have := Hall.out j hj (by have := hlen.out; omega)
                simp [this])
              go_wp2
              go_ret
              rw [hfin.out]
              exact ⟨rfl, hbe.out⟩
end Go.Proofs.Ytkpopjpmjcgbfaa
