/- New, Sector, Pending, Fuse, Dead, Size, Calls, Copy of the device. -/
import Derived.Test.YtjmcjbmnggecgaaDevR
namespace Go.Proofs.Ytjmcjbmnggecgaa
open Go.RowKit
set_option maxRecDepth 100000

section
variable (D : Nat) (F G : Nat → Prop) (m : MDev) (w : World) (h : DevAt w D F G m)
include h

theorem pending_any : Calls Try.prog 17 #[.pointer (some ⟨D, 0, none⟩)] w fun e w' => e = .returned (.int .i64 m.W.length) ∧ w = w' := by
  obtain ⟨lv, cv, ls, ws, hb, hm⟩ := h.mem
  obtain ⟨CA, cc, rfl, _⟩ := own_form hm.oc
  obtain ⟨_, c1, _, _, _⟩ := blk5 hb
  clear hb hm h
  go_enter Try.func17, Try.ntmps17
  go_wp2
  go_ret
  exact ⟨rfl, rfl⟩
theorem size_any : Calls Try.prog 28 #[.pointer (some ⟨D, 0, none⟩)] w fun e w' => e = .returned (.int .i64 m.l.length) ∧ w = w' := by
  obtain ⟨lv, cv, ls, ws, hb, hm⟩ := h.mem
  obtain ⟨CA, cc, rfl, _⟩ := own_form hm.ol
  obtain ⟨c0, _, _, _, _⟩ := blk5 hb
  clear hb hm h
  go_enter Try.func28, Try.ntmps28
  go_wp2
  go_ret
  exact ⟨rfl, rfl⟩
theorem calls_any : Calls Try.prog 29 #[.pointer (some ⟨D, 0, none⟩)] w fun e w' => e = .returned (.int .i64 m.calls) ∧ w = w' := by
  obtain ⟨lv, cv, ls, ws, hb, hm⟩ := h.mem
  obtain ⟨_, _, _, _, c4⟩ := blk5 hb
  clear hb hm h
  go_enter Try.func29, Try.ntmps29
  go_wp2
  go_ret
  exact ⟨rfl, rfl⟩
theorem dead_any : Calls Try.prog 20 #[.pointer (some ⟨D, 0, none⟩)] w fun e w' => e = .returned (.bool m.dead) ∧ w = w' := by
  obtain ⟨lv, cv, ls, ws, hb, hm⟩ := h.mem
  obtain ⟨_, _, _, c3, _⟩ := blk5 hb
  clear hb hm h
  go_enter Try.func20, Try.ntmps20
  go_wp2
  go_ret
  exact ⟨rfl, rfl⟩

def MDev.setFuse (m : MDev) (k : Int) : MDev := if m.dead then m else { m with fuse := max k (-1) }
theorem fuse_any (k : Int) (hk : k ≤ 9223372036854775807) : Calls Try.prog 19 #[.pointer (some ⟨D, 0, none⟩), .int .i64 k] w fun e w' => e = .returned (.tuple #[]) ∧ DevAt w' D F G (m.setFuse k) ∧ Chg (· = D) w w' := by
  obtain ⟨lv, cv, ls, ws, hb, hm⟩ := h.mem
  obtain ⟨_, _, c2, c3, _⟩ := blk5 hb
  have f2 := hb.frozen 2
  have Hb := hid hb
  cases hd : m.dead
  · rw [hd] at c3
    have HD := hid hd
    have H := hid h
    clear hb hd h
    by_cases hk1 : -1 < k
    · have hmx : Hid (max k (-1) = k) := hid (by omega)
      go_enter Try.func19, Try.ntmps19
      go_wp2
      go_end0
      have := H.out.fields hm Hb.out (chg_set D 2 (.int .i64 k)) (f := k) (c := m.calls) (d := m.dead) (Hb.out.set_ 2 _) (by omega) hk
      refine ⟨rfl, ?_, chg_set _ _ _⟩
      have e : m.setFuse k = { m with fuse := k, dead := m.dead, calls := m.calls } := by simp [MDev.setFuse, HD.out]; exact hmx.out
      rw [e]; exact this
    · have hmx : Hid (max k (-1) = -1) := hid (by omega)
      by_cases hk2 : k < -1
      · go_enter Try.func19, Try.ntmps19
        go_wp2
        go_end0
        have := H.out.fields hm Hb.out (chg_set D 2 (.int .i64 (-1))) (f := -1) (c := m.calls) (d := m.dead) (Hb.out.set_ 2 _) (by omega) (by omega)
        refine ⟨rfl, ?_, chg_set _ _ _⟩
        have e : m.setFuse k = { m with fuse := -1, dead := m.dead, calls := m.calls } := by simp [MDev.setFuse, HD.out]; exact hmx.out
        rw [e]; exact this
      · obtain rfl : k = -1 := by omega
        go_enter Try.func19, Try.ntmps19
        go_wp2
        go_end0
        have := H.out.fields hm Hb.out (chg_set D 2 (.int .i64 (-1))) (f := -1) (c := m.calls) (d := m.dead) (Hb.out.set_ 2 _) (by omega) (by omega)
        refine ⟨rfl, ?_, chg_set _ _ _⟩
        have e : m.setFuse (-1) = { m with fuse := -1, dead := m.dead, calls := m.calls } := by simp [MDev.setFuse, HD.out]
        rw [e]; exact this
  · rw [hd] at c3
    have HD := hid hd
    have H := hid h
    clear hb hd h
    go_enter Try.func19, Try.ntmps19
    go_wp2
    go_end0
    refine ⟨rfl, ?_, Chg.refl _ _⟩
    have e : m.setFuse k = m := by simp [MDev.setFuse, HD.out]
    rw [e]; exact H.out
end

/-- the bytes of a test's sector -/
def secB (a b : Int) (i : Nat) : UInt8 := UInt8.ofNat ((a * i + b) % 256).toNat
def sector (a b : Int) : List UInt8 := (List.range 128).map (secB a b)
def secP (a b : Int) (k : Nat) : List UInt8 := (sector a b).take k ++ zeros.drop k

theorem length_sector (a b : Int) : (sector a b).length = 128 := by simp [sector]
theorem length_secP (a b : Int) (k : Nat) (hk : k ≤ 128) : (secP a b k).length = 128 := by simp [secP, length_sector, zeros]; omega
theorem secP_zero (a b : Int) : secP a b 0 = zeros := by simp [secP]
theorem secP_all (a b : Int) : secP a b 128 = sector a b := by
  have h1 : (sector a b).take 128 = sector a b := List.take_of_length_le (by rw [length_sector]; exact Nat.le_refl _)
  have h2 : zeros.drop 128 = [] := List.drop_eq_nil_of_le (by simp [zeros])
  rw [secP, h1, h2, List.append_nil]
theorem secP_set (a b : Int) (k : Nat) (hk : k < 128) : (secP a b k).set k (secB a b k) = secP a b (k + 1) := by
  apply List.ext_getElem
  · simp [length_secP a b k (by omega), length_secP a b (k + 1) (by omega)]
  · intro i h1 h2
    have hi : i < 128 := by rw [length_secP a b (k + 1) (by omega)] at h2; exact h2
    rw [List.getElem_set]
    have hs : ∀ j, j ≤ 128 → ∀ h, (secP a b j)[i]'h = if i < j then secB a b i else 0 := by
      intro j hj h
      simp only [secP]
      rw [List.getElem_append]
      simp only [List.length_take, length_sector]
      split
      · rename_i hlt
        rw [List.getElem_take, if_pos (by omega)]
        simp [sector]
      · rw [if_neg (by omega)]
        simp only [zeros, List.getElem_drop, List.getElem_replicate]
    rw [hs k (by omega), hs (k + 1) (by omega)]
    by_cases hik : k = i
    · subst hik; simp
    · rw [if_neg hik]
      by_cases h3 : i < k
      · rw [if_pos h3, if_pos (by omega)]
      · rw [if_neg h3, if_neg (by omega)]
theorem secB_val (a b : Int) (k : Nat) : wrap64 (wrap64 (a * k) + b) % 256 = ((secB a b k).toNat : Int) := by
  have h : wrap64 (wrap64 (a * k) + b) % 256 = (a * k + b) % 256 := by
    generalize a * (k : Int) = x
    unfold wrap64
    omega
  rw [h]
  unfold secB
  generalize a * (k : Int) + b = x
  have h1 : (x % 256).toNat < 256 := by omega
  rw [UInt8.toNat_ofNat_of_lt' (by exact h1)]
  omega
theorem u8s_set (bs : List UInt8) (k : Nat) (x : UInt8) : (u8s bs).toArray.setIfInBounds k (.int .u8 (x.toNat : Int)) = (u8s (bs.set k x)).toArray := by
  simp [u8s, List.map_set]

set_option maxHeartbeats 800000 in
theorem sector_any (a b : Int) (w : World) : Calls Try.prog 13 #[.int .i64 a, .int .i64 b] w fun e w' => ∃ g, e = .returned (.slice (some ⟨g, 0, none⟩) 128 128) ∧ w.heap.size ≤ g ∧ Blk w' g 5 (u8s (sector a b)).toArray ∧ Below w.heap.size w w' := by
  have hm128 := make128
  go_enter Try.func13, Try.ntmps13
  go_wp2_with fail
  go_loopw [6] (fun i wr => ∃ k : Nat, k ≤ 128 ∧ i = .int .i64 k ∧ Blk wr w.heap.size 5 (u8s (secP a b k)).toArray ∧ Below w.heap.size w wr) (fun i _ => 128 - (intOf i).toNat)
  case atStart => exact ⟨0, by omega, rfl, Blk.new w 5 _, (Below.refl _ _).alloc (Nat.le_refl _) _⟩
  case round =>
    obtain ⟨k, hk, rfl, hg, hb⟩ := hrel
    have Hg := hid hg
    have Hb := hid hb
    by_cases hlt : k < 128
    · have hc : ∃ v, wr.cell? ⟨w.heap.size, k, none⟩ = some v := by
        rw [hg.cell]
        have hl := length_secP a b k hk
        exact ⟨_, Array.getElem?_eq_getElem (by simp [length_u8s, hl, hlt])⟩
      obtain ⟨v, hc⟩ := hc
      have hf := hg.frozen k
      clear hg hb
      go_wp2
      go_roundw
      case rel =>
        refine ⟨k + 1, by omega, by go_num, ?_, Hb.out.setCell (p := ⟨w.heap.size, k, none⟩) (Nat.le_refl _) _⟩
        have := Hg.out.set_ k (.int .u8 (wrap64 (wrap64 (a * k) + b) % 256))
        rw [secB_val, u8s_set, secP_set a b k hlt] at this
        rw [secB_val]
        exact this
      case measure => simp [intOf]; omega
    · have Hk : Hid (k = 128) := hid (by omega)
      clear hg hb
      go_wp2
      go_ret
      refine ⟨_, rfl, Nat.le_refl _, ?_, Hb.out⟩
      have := Hg.out
      rw [Hk.out, secP_all] at this
      exact this

/-! ### New, Copy -/
theorem make_rows (n : Nat) (hn : n ≤ 8192) (W : World) : (Instr.makeSlice 58 (.int .i64 (n : Int)) (.int .i64 (n : Int))).run Try.prog W = .ok (.slice (some ⟨W.heap.size, 0, none⟩) n n) (W.alloc (.cells (madeCells #[.slice none 0 0] n) 30)) :=
  run_make_row' (P := Try.prog) 58 30 (.slice none 0 0) 24 Try.underlying58 info30 rfl .i64 .i64 n (by omega) (by omega) W

theorem new_arg (n : Int) (w : World) (hn : n < 1 ∨ 8192 < n) : Calls Try.prog 11 #[.int .i64 n] w fun e w' => e = .returned (.tuple #[.pointer none, .int .i64 1]) ∧ w = w' := by
  by_cases h1 : n < 1
  · clear hn
    go_enter Try.func11, Try.ntmps11
    go_wp2
    go_ret2
    exact ⟨rfl, rfl⟩
  · have h2 : 8192 < n := by omega
    clear hn
    go_enter Try.func11, Try.ntmps11
    go_wp2
    go_ret2
    exact ⟨rfl, rfl⟩

set_option maxHeartbeats 800000 in
theorem new_ok (n : Nat) (w : World) (h1 : 1 ≤ n) (h2 : n ≤ 8192) : Calls Try.prog 11 #[.int .i64 n] w fun e w' => ∃ D F G, e = .returned (.tuple #[.pointer (some ⟨D, 0, none⟩), .int .i64 0]) ∧ DevAt w' D F G (MDev.new n) ∧ (∀ i, F i ∨ G i → w.heap.size ≤ i) ∧ Below w.heap.size w w' := by
  have hmk := make_rows n h2
  go_enter Try.func11, Try.ntmps11
  go_wp2
  go_ret2
  have hb := Blk.new (w.alloc (.cells (madeCells #[.slice none 0 0] n) 30)) 70 #[.slice (some ⟨w.heap.size, 0, none⟩) n n, .slice none 0 0, .int .i64 (-1), .bool false, .int .i64 0]
  have hl : (MDev.new n).l.length = n := by simp [MDev.new]
  have hbl : Below w.heap.size w ((w.alloc (.cells (madeCells #[.slice none 0 0] n) 30)).alloc (.cells #[.slice (some ⟨w.heap.size, 0, none⟩) n n, .slice none 0 0, .int .i64 (-1), .bool false, .int .i64 0] 70)) :=
    ((Below.refl _ _).alloc (Nat.le_refl _) _).alloc (by simp) _
  have hs1 : (w.alloc (.cells (madeCells #[.slice none 0 0] n) 30)).heap.size = w.heap.size + 1 := by simp
  rw [hs1] at hb
  refine ⟨w.heap.size + 1, fun i => i = w.heap.size ∨ i = w.heap.size + 1, fun _ => False, rfl, ⟨.inr rfl, fun i hi => by simp; omega, fun i hi => hi.elim, by rw [hl]; exact h1, by rw [hl]; exact h2, by simp [MDev.new], by simp [MDev.new], fun i e he => by simp [MDev.new] at he,
    .slice (some ⟨w.heap.size, 0, none⟩) n n, .slice none 0 0, List.replicate n (.slice none 0 0), [], hb, ?_⟩, fun i hi => by rcases hi with hi | hi; omega; exact hi.elim, hbl⟩
  have ho := (World.ownsRow_lit (base := 0) (e := 30) (size := 1) w (madeCells #[.slice none 0 0] n) n (Nat.zero_le _) (by unfold maxLen; omega) (by simp [size_madeCells])).alloc (.cells #[.slice (some ⟨w.heap.size, 0, none⟩) n n, .slice none 0 0, .int .i64 (-1), .bool false, .int .i64 0] 70)
  rw [toList_madeCells_one] at ho
  refine ⟨by rw [hl]; exact ho, fun g hg => ?_, World.ownsRow_nil _ _ _ _, fun g hg => by simp [Value.ownBlock] at hg, fun i bs hb => ?_, fun i e he => by simp [MDev.new] at he⟩
  · simp [Value.ownBlock] at hg; exact .inl hg.symm
  · simp [MDev.new, List.getElem?_replicate] at hb
    exact ⟨.slice none 0 0, by simp [List.getElem?_replicate]; exact hb.1, .inl ⟨rfl, hb.2.symm⟩⟩

/-- slices.Clone of a row of slices -/
theorem clone_rows (A : Option Addr) (n c : Nat) (xs : List Value) (w : World) (hn : 0 < n) (hb : n ≤ 1000000) (hr : Rd w 1 A n xs) (h1 : ∀ u ∈ xs, u.oneCell' = true) :
    Calls Try.prog 43 #[.slice A n c] w fun e w' => ∃ g cap, e = .returned (.slice (some ⟨g, 0, none⟩) n cap) ∧ w'.ownsRow w.heap.size 30 1 (.slice (some ⟨g, 0, none⟩) n cap) n xs ∧ Below w.heap.size w w' := by
  obtain ⟨i0, hi, hz0, hz1, hz2⟩ := info_parts info30
  obtain ⟨ad, hA, hlt, hc⟩ := hr.2 hn
  subst hA
  have hl := hid hr.1
  have hr' := hid hr
  clear hr hc
  have heq := fun W : World => Lib.run_eql_slice_nil (P := Try.prog) W 58 30 (some ad) n c 0 0 Try.underlying58
  go_enter Try.func43, Try.ntmps43
  go_wp2_with (at_builtin; refine wpList_append_any _ rfl (.tmp 5) (.tmp 6) 58 rfl w.heap.size 30 i0 _ 1 24 Try.underlying58 hi hz0 hz1 hz2 rfl (by omega) _ 0 [] rfl (World.ownsRow_lit _ #[] 0 (Nat.le_refl _) (by omega) rfl) (some ad) n c xs rfl ?c1 h1 (by unfold maxLen; omega) (by omega) (by simp) ?_)
  case c1 => exact hr'.out.keep (by simp) fun _ _ h => Below.heap_alloc _ _ _ h
  intro v' w' hown hg hat
  have hf : ∃ g cap, v' = .slice (some ⟨g, 0, none⟩) n cap := by
    obtain ⟨g, cap, hv, _⟩ := hown.form (by omega)
    exact ⟨g, cap, by simpa using hv⟩
  obtain ⟨g, cap, hv⟩ := hf
  subst hv
  go_wp2
  go_ret
  refine ⟨g, cap, rfl, by simpa using hown, ?_⟩
  refine ((Below.refl _ _).alloc (Nat.le_refl _) _).grown hg (by simp) ?_
  intro k hk; simp [Value.ownBlock] at hk; omega

/-- slices.Clone of the writes that wait -/
theorem clone_cache_nil (w : World) : Calls Try.prog 44 #[.slice none 0 0] w fun e w' => e = .returned (.slice none 0 0) ∧ w = w' := by
  have heq := fun W : World => Lib.run_eql_slice_nil (P := Try.prog) W 68 73 none 0 0 0 0 Try.underlying68
  go_enter Try.func44, Try.ntmps44
  go_wp2
  go_ret
  exact ⟨rfl, rfl⟩

theorem clone_cache (A : Option Addr) (n c : Nat) (xs : List Value) (w : World) (hn : n ≤ 1000000) (ho : w.ownsRow 0 73 2 (.slice A n c) n xs) (h1 : ∀ u ∈ xs, u.oneCell' = true) :
    Calls Try.prog 44 #[.slice A n c] w fun e w' => ∃ A' c', e = .returned (.slice A' n c') ∧ w'.ownsRow w.heap.size 73 2 (.slice A' n c') n xs ∧ Below w.heap.size w w' := by
  cases A with
  | none =>
    have hz : n = 0 ∧ c = 0 ∧ xs = [] := by
      rcases ho.2 with ⟨h, rfl⟩ | ⟨g, cap, cur, h, _⟩
      · injection h with _ _ h
        exact ⟨rfl, h, List.eq_nil_of_length_eq_zero (by have := ho.1; omega)⟩
      · cases h
    obtain ⟨rfl, rfl, rfl⟩ := hz
    refine (clone_cache_nil w).mono ?_
    rintro e w' ⟨rfl, rfl⟩
    exact ⟨none, 0, rfl, World.ownsRow_nil _ _ _ _, Below.refl _ _⟩
  | some ad =>
    have hr : Rd w 2 (some ad) n xs := Rd.of_own ho
    obtain ⟨i0, hi, hz0, hz1, hz2⟩ := info_parts info73
    have hr' := hid hr
    clear hr ho
    have heq := fun W : World => Lib.run_eql_slice_nil (P := Try.prog) W 68 73 (some ad) n c 0 0 Try.underlying68
    go_enter Try.func44, Try.ntmps44
    go_wp2_with (at_builtin; refine wpList_append_any _ rfl (.tmp 5) (.tmp 6) 68 rfl w.heap.size 73 i0 _ 2 32 Try.underlying68 hi hz0 hz1 hz2 rfl (by omega) _ 0 [] rfl (World.ownsRow_lit _ #[] 0 (Nat.le_refl _) (by omega) rfl) (some ad) n c xs rfl ?c1 h1 (by unfold maxLen; omega) (by omega) (by simp) ?_)
    case c1 => exact hr'.out.keep (by simp) fun _ _ h => Below.heap_alloc _ _ _ h
    intro v' w' hown hg hat
    obtain ⟨A', c', hv, _⟩ := own_form hown
    have hv2 : v' = .slice A' n c' := by simpa using hv
    clear hv
    subst hv2
    go_wp2
    go_ret
    refine ⟨A', c', rfl, by simpa using hown, ?_⟩
    refine ((Below.refl _ _).alloc (Nat.le_refl _) _).grown hg (by simp) ?_
    intro k hk; simp [Value.ownBlock] at hk; omega
end Go.Proofs.Ytjmcjbmnggecgaa
