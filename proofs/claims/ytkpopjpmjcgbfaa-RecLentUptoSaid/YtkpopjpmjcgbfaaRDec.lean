/- Reading with the document's Reader: the walks of take, number, bytes. Conditions: none but sizes. -/
import Derived.Test.YtkpopjpmjcgbfaaDat
namespace Go.Proofs.Ytkpopjpmjcgbfaa
open Go.RowKit
set_option maxRecDepth 100000
set_option linter.unusedVariables false
set_option linter.unusedSimpArgs false

set_option maxHeartbeats 1600000 in
theorem rtake_bad (B P : Nat) (s : RS) (w : World) (h : RdAt B w 57 P s) (k : Nat) (hk : k ≤ 4611686018427387904) (hb : s.bad = true ∨ s.b.length < k) :
    Calls Try.prog 23 #[.pointer (some ⟨P, 0, none⟩), .int .i64 k] w fun e w' => e = .returned (.slice none 0 0) ∧ (∀ b, RdAt B w' 57 P ⟨b, true⟩) ∧ Chg (· = P) w w' := by
  obtain ⟨A, n, c, h⟩ := h
  have H := hid h
  have c0 : w.cell? ⟨P, 0, none⟩ = some (.slice A n c) := h.box.cell_ 0 rfl
  have c1 : w.cell? ⟨P, 1, none⟩ = some (.bool s.bad) := h.box.cell_ 1 rfl
  have f0 := h.box.frozen 0
  have f1 := h.box.frozen 1
  clear h
  by_cases hbad : s.bad = true
  · rw [hbad] at c1
    clear hb hbad
    go_enter Try.func23, Try.ntmps23
    go_wp2
    go_ret
    exact ⟨rfl, fun b => H.out.spoil b, chg_set P 1 _⟩
  · have hb' : s.bad = false := by simpa using hbad
    rw [hb'] at c1
    have hn := H.out.len hb'
    have hlt : n < k := by rcases hb with h | h; exact absurd h hbad; omega
    have Hn := hid hn
    clear hb hbad hb' hn
    go_enter Try.func23, Try.ntmps23
    go_wp2
    go_ret
    exact ⟨rfl, fun b => H.out.spoil b, chg_set P 1 _⟩

set_option maxHeartbeats 1600000 in
theorem rtake_ok (B P : Nat) (s : RS) (w : World) (h : RdAt B w 57 P s) (k : Nat) (hk : k ≤ 4611686018427387904) (hb : s.bad = false) (hl : k ≤ s.b.length) :
    Calls Try.prog 23 #[.pointer (some ⟨P, 0, none⟩), .int .i64 k] w fun e w' => ∃ A c, e = .returned (.slice A k c) ∧ Rd w' 1 A k (u8s (s.b.take k)) ∧ (∀ ad, A = some ad → ad.block < B) ∧ k ≤ c ∧ RdAt B w' 57 P ⟨s.b.drop k, false⟩ ∧ Chg (· = P) w w' := by
  obtain ⟨A, n, c, h⟩ := h
  have H := hid h
  have c0 : w.cell? ⟨P, 0, none⟩ = some (.slice A n c) := h.box.cell_ 0 rfl
  have c1 : w.cell? ⟨P, 1, none⟩ = some (.bool s.bad) := h.box.cell_ 1 rfl
  have f0 := h.box.frozen 0
  have f1 := h.box.frozen 1
  rw [hb] at c1
  have hn := h.len hb
  have hcap := h.cap
  have hr := h.rd hb
  have hlt : k ≤ n := by omega
  obtain ⟨hsl1, hr1⟩ := sl_to hr k k rfl (by omega) hcap
  obtain ⟨A2, hsl2, hf2, hr2⟩ := sl_from hr H.out.far k k rfl (by omega) hcap
  have e1 : (u8s s.b).take k = u8s (s.b.take k) := by simp [u8s, List.map_take]
  have e2 : (u8s s.b).drop k = u8s (s.b.drop k) := by simp [u8s, List.map_drop]
  rw [e1] at hr1
  rw [e2] at hr2
  have Hr1 := hid hr1
  have Hr2 := hid hr2
  have Hf2 := hid hf2
  have Hn := hid hn
  have Hb := hid hb
  clear h hr hr1 hr2 hf2 e1 e2 hn hb hl
  go_enter Try.func23, Try.ntmps23
  go_wp2
  go_ret
  refine ⟨A, c, rfl, Hr1.out.chg (chg_set P 0 _) (fun ad e hp => ?_), H.out.far, by omega, H.out.turn Hb.out Hf2.out (by omega) (by have := Hn.out; simp; omega) Hr2.out, chg_set P 0 _⟩
  have := H.out.far ad e
  have := H.out.le
  omega

set_option maxHeartbeats 1600000 in
theorem rr_num (B P : Nat) (s : RS) (w : World) (h : RdAt B w 57 P s) :
    Calls Try.prog 22 #[.pointer (some ⟨P, 0, none⟩)] w fun e w' => e = .returned (.int .i64 s.num.1) ∧ (s.num.2.bad = true → ∀ b, RdAt B w' 57 P ⟨b, true⟩) ∧ RdAt B w' 57 P s.num.2 ∧ Chg (· = P) w w' := by
  have Hs := hid h
  by_cases hbad : s.bad = true ∨ s.b.length < 8
  · have hnb := num_bad s (by rcases hbad with h | h; exact .inl h; exact .inr (.inl h))
    have Hnb := hid hnb
    have Hb := hid hbad
    clear h hnb hbad
    go_enter Try.func22, Try.ntmps22
    go_wp2_with fail
    refine (rtake_bad B P s _ Hs.out 8 (by omega) Hb.out).mono ?_
    rintro e w1 ⟨rfl, hr1, hc1⟩
    have H1 := hid hr1
    have HC1 := hid hc1
    clear hr1 hc1
    go_wp2_with fail
    go_loopw [4, 5] (fun v i wr => wr = w1 ∧ v = .int .u64 0 ∧ i = .int .i64 0) (fun _ _ _ => 0)
    case atStart => exact ⟨rfl, rfl, rfl⟩
    case round =>
      obtain ⟨rfl, rfl, rfl⟩ := hrel
      go_wp2
      go_ret
      rw [Hnb.out]
      exact ⟨rfl, fun _ b => H1.out b, H1.out _, HC1.out⟩
  · have hb : s.bad = false := by cases h : s.bad <;> simp_all
    have hl : 8 ≤ s.b.length := by simp only [not_or] at hbad; omega
    have hng := hid (num_good s hb hl)
    have hnb := hid (fun h => num_bad s (.inr (.inr h)))
    have Hb := hid hb
    have Hl := hid hl
    clear h hb hbad hl
    go_enter Try.func22, Try.ntmps22
    go_wp2_with fail
    refine (rtake_ok B P s _ Hs.out 8 (by omega) Hb.out Hl.out).mono ?_
    rintro e w1 ⟨A, c, rfl, hrd, hf, hc, hr1, hc1⟩
    obtain ⟨b, o, rfl, hbl, hcs⟩ := hrd.lit (by omega)
    have Hcs := hid hcs
    have H1 := hid hr1
    have HC1 := hid hc1
    clear hrd hcs hr1 hc1 hf
    go_wp2_with fail
    go_loopw [4, 5] (fun v i wr => wr = w1 ∧ ∃ j : Nat, j ≤ 8 ∧ i = .int .i64 j ∧ v = .int .u64 (be (s.b.take j)) ∧ be (s.b.take j) < 256 ^ j) (fun _ i _ => 8 - (intOf i).toNat)
    case atStart => exact ⟨rfl, 0, by omega, rfl, by simp [be], by simp [be]⟩
    case round =>
      obtain ⟨rfl, j, hj, rfl, rfl, hbe⟩ := hrel
      by_cases hlt : j < 8
      · have hlj : j < s.b.length := by have := Hl.out; omega
        have hcj := Hcs.out j (.int .u8 ((s.b[j]'hlj).toNat : Int)) (by simp [u8s, List.getElem?_take, hlt, List.getElem?_eq_getElem hlj])
        have hs := hid (be_take_succ s.b j hlj)
        have hnx := be_lt s.b (j + 1) (by omega)
        rw [hs.out] at hnx
        have hb8 := (s.b[j]'hlj).toNat_lt
        generalize (s.b[j]'hlj).toNat = x at *
        generalize hm : be (List.take j s.b) = m at *
        have Hm := hid hm
        have hnx' : 256 * m + x < 18446744073709551616 := Nat.lt_of_lt_of_le hnx (by
          have := Nat.pow_le_pow_right (show 0 < 256 by omega) (show j + 1 ≤ 8 by omega)
          exact this)
        have Hnx := hid hnx
        clear hm hbe hnx
        go_wp2
        go_roundw
        case rel =>
          refine ⟨trivial, j + 1, by omega, by go_num, ?_, ?_⟩
          · rw [hs.out]; congr 1
          · rw [hs.out]; exact Hnx.out
        case measure => simp [intOf]; omega
      · have hj8 : j = 8 := by omega
        subst hj8
        generalize hm : be (List.take 8 s.b) = m at *
        have Hm := hid hm
        have hm64 : m < 18446744073709551616 := hbe
        clear hm hbe
        by_cases hbig : 4611686018427387904 < m
        · have Hbig := hid hbig
          obtain ⟨A1, n1, q1, h1⟩ := H1.out
          have d1 : wr.cell? ⟨P, 1, none⟩ = some (.bool false) := h1.box.cell_ 1 rfl
          have f1 := h1.box.frozen 1
          have HX := hid h1
          clear h1
          go_wp2
          go_ret
          rw [hnb.out Hbig.out]
          exact ⟨rfl, fun _ b => HX.out.spoil b, HX.out.spoil _, HC1.out.trans (chg_set P 1 _)⟩
        · have Hbig := hid (show m ≤ 4611686018427387904 by omega)
          go_wp2
          go_ret
          rw [hng.out Hbig.out]
          exact ⟨rfl, fun h => (by cases h), H1.out, HC1.out⟩

set_option maxHeartbeats 1600000 in
theorem rr_data (B P : Nat) (s : RS) (w : World) (h : RdAt B w 57 P s) (hB : B ≤ w.heap.size) (hs : s.b.length ≤ 1000000000) :
    Calls Try.prog 24 #[.pointer (some ⟨P, 0, none⟩)] w fun e w' => ∃ A n c, e = .returned (.slice A n c) ∧ n = s.data.1.length ∧ NewRow B w' 5 1 A n (u8s s.data.1) ∧ RdAt B w' 57 P s.data.2 ∧ Chg (· = P) w w' := by
  obtain ⟨i0, hi, hz0, hz1, hz2⟩ := info_parts info5
  have Hs := hid h
  have Hlen := hid hs
  have hle := hid (num_le s)
  have hnl := hid (num_len s)
  have hdb := hid (data_bad s)
  have hdg := hid (data_good s)
  clear h hs
  go_enter Try.func24, Try.ntmps24
  go_wp2_with fail
  refine (rr_num B P s _ Hs.out).mono ?_
  rintro e w1 ⟨rfl, hbk, hr1, hc1⟩
  generalize hk : s.num = N at *
  obtain ⟨k, s1⟩ := N
  simp only [] at *
  have H1 := hid hr1
  have HC1 := hid hc1
  have Hbk := hid hbk
  have hkl := hle.out
  clear hbk hr1 hc1 hk
  by_cases hbad : s1.bad = true ∨ s1.b.length < k
  · have Hbad := hid hbad
    clear hbad
    go_wp2_with fail
    refine (rtake_bad B P s1 _ H1.out k hkl Hbad.out).mono ?_
    rintro e w2 ⟨rfl, hr2, hc2⟩
    have H2 := hid hr2
    have HC2 := hid hc2
    clear hr2 hc2
    go_wp2_with (at_builtin; refine wpList_append_any _ rfl (.tmp 4) (.tmp 8) 23 rfl w2.heap.size 5 i0 _ 1 1 Try.underlying23 hi hz0 hz1 hz2 rfl (by omega) _ 0 [] rfl (World.ownsRow_nil _ _ _ _) none 0 0 [] rfl Rd.none_ (by simp) (by unfold maxLen; omega) (by omega) (Nat.le_refl _) ?_)
    intro v3 w3 hown3 hg3 hat3
    have hown : w3.ownsRow w2.heap.size 5 1 v3 0 (u8s []) := by simpa [u8s] using hown3
    have hb3 : Below w2.heap.size w2 w3 := (Below.refl _ _).grown hg3 (Nat.le_refl _) (by simp [Value.ownBlock])
    obtain ⟨A3, c3, rfl, _⟩ := own_form hown
    have Hown := hid hown
    have HB3 := hid hb3
    clear hown hown3 hb3 hg3 hat3
    go_wp2
    go_ret
    rw [hdb.out Hbad.out]
    refine ⟨A3, 0, c3, rfl, rfl, (NewRow.of_own Hown.out).mono (Nat.le_trans hB (Nat.le_trans HC1.out.size HC2.out.size)), (H2.out _).chg (Chg.of_below (S := fun _ => False) HB3.out) (fun _ h => h.elim), (HC1.out.trans HC2.out).trans ((Chg.of_below (S := fun _ => False) HB3.out).mono (fun i _ h => h.elim))⟩
  · have hb : s1.bad = false := by cases h : s1.bad <;> simp_all
    have hl : k ≤ s1.b.length := by simp only [not_or] at hbad; omega
    have Hb := hid hb
    have Hl := hid hl
    have hk8 : k ≤ 1000000000 := by have h2 := (hnl.out Hb.out).2.1; have h3 := Hlen.out; omega
    clear hb hl hbad
    go_wp2_with fail
    refine (rtake_ok B P s1 _ H1.out k hkl Hb.out Hl.out).mono ?_
    rintro e w2 ⟨A2, c2, rfl, hrd, hf, hc, hr2, hc2⟩
    have Hrd := hid hrd
    have H2 := hid hr2
    have HC2 := hid hc2
    clear hrd hr2 hc2 hf
    go_wp2_with (at_builtin; refine wpList_append_any _ rfl (.tmp 4) (.tmp 8) 23 rfl w2.heap.size 5 i0 _ 1 1 Try.underlying23 hi hz0 hz1 hz2 rfl (by omega) _ 0 [] rfl (World.ownsRow_nil _ _ _ _) A2 k c2 _ rfl Hrd.out (u8s_one _) (by unfold maxLen; omega) (by omega) (Nat.le_refl _) ?_)
    intro v3 w3 hown3 hg3 hat3
    have hown : w3.ownsRow w2.heap.size 5 1 v3 k (u8s (s1.b.take k)) := by simpa using hown3
    have hb3 : Below w2.heap.size w2 w3 := (Below.refl _ _).grown hg3 (Nat.le_refl _) (by simp [Value.ownBlock])
    obtain ⟨A3, c3, rfl, _⟩ := own_form hown
    have Hown := hid hown
    have HB3 := hid hb3
    clear hown hown3 hb3 hg3 hat3
    go_wp2
    go_ret
    rw [hdg.out Hb.out Hl.out]
    refine ⟨A3, k, c3, rfl, ?_, (NewRow.of_own Hown.out).mono (Nat.le_trans hB (Nat.le_trans HC1.out.size HC2.out.size)), H2.out.chg (Chg.of_below (S := fun _ => False) HB3.out) (fun _ h => h.elim), (HC1.out.trans HC2.out).trans ((Chg.of_below (S := fun _ => False) HB3.out).mono (fun i _ h => h.elim))⟩
    have := Hl.out; simp; omega
end Go.Proofs.Ytkpopjpmjcgbfaa
