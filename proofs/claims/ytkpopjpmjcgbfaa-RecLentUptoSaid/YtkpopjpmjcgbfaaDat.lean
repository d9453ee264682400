/- Reading bytes: the walk of reader.data of package rec; what a call hands out new. Conditions: none but sizes. -/
import Derived.Test.YtkpopjpmjcgbfaaAwa
namespace Go.Proofs.Ytkpopjpmjcgbfaa
open Go.RowKit
set_option maxRecDepth 100000
set_option linter.unusedVariables false
set_option linter.unusedSimpArgs false

/-- a row of a call's own making, from the first cell of a block on -/
structure NewRow (base : Nat) (w : World) (t : TypeId) (size : Nat) (A : Option Addr) (n : Nat) (xs : List Value) : Prop where
  rd : Rd w size A n xs
  at_ : ∀ ad, A = some ad → ∃ g cs, ad = ⟨g, 0, none⟩ ∧ base ≤ g ∧ Blk w g t cs

section
variable {base size n c : Nat} {w w' : World} {t : TypeId} {A : Option Addr} {xs : List Value} {S : Nat → Prop}
theorem NewRow.of_own (h : w.ownsRow base t size (.slice A n c) n xs) : NewRow base w t size A n xs := by
  refine ⟨Rd.of_own h, fun ad e => ?_⟩
  rcases h.2 with ⟨h', _⟩ | ⟨g, cap, cur, h', hb, hh, _⟩
  · injection h' with h'; subst h'; cases e
  · injection h' with h'
    subst h'
    injection e with e
    subst e
    exact ⟨g, cur, rfl, hb, hh⟩
theorem NewRow.chg (h : NewRow base w t size A n xs) (hc : Chg S w w') (hA : ∀ ad, A = some ad → ¬ S ad.block) : NewRow base w' t size A n xs :=
  ⟨h.rd.chg hc hA, fun ad e => by obtain ⟨g, cs, rfl, hb, hk⟩ := h.at_ ad e; exact ⟨g, cs, rfl, hb, hk.chg hc (hA _ e)⟩⟩
theorem NewRow.below (h : NewRow base w t size A n xs) (hb : Below w.heap.size w w') : NewRow base w' t size A n xs := h.chg (S := fun _ => False) (Chg.of_below hb) (fun _ _ h => h)
/-- another block's type tells it apart -/
theorem NewRow.chg_ty (h : NewRow base w t size A n xs) (hc : Chg S w w') (hS : ∀ g, S g → ∀ cs, ¬ Blk w g t cs) : NewRow base w' t size A n xs :=
  h.chg hc fun ad e hs => by obtain ⟨g, cs, rfl, _, hk⟩ := h.at_ ad e; exact hS g hs cs hk
theorem NewRow.mono {base' : Nat} (h : NewRow base w t size A n xs) (hb : base' ≤ base) : NewRow base' w t size A n xs :=
  ⟨h.rd, fun ad e => by obtain ⟨g, cs, rfl, hg, hk⟩ := h.at_ ad e; exact ⟨g, cs, rfl, by omega, hk⟩⟩
theorem sl_full {t e : TypeId} {i : TypeInfo} (ht : Try.prog.underlying t = some (.slice e)) (hi : Try.prog.info? e = some i) (A : Option Addr) (k c : Nat) (hk : k ≤ c) (W : World) :
    (Instr.slice t (.slice A k c) none (some (.int .i64 (k : Int))) (some (.int .i64 (k : Int)))).run Try.prog W = .ok (.slice A k k) W := by
  have hk' : (k : Int) ≤ (c : Int) := by omega
  have e : (A.map fun x => x.add 0) = A := by cases A with
    | none => rfl
    | some a => simp [Addr.add]
  simp [Instr.slice, Instr.sliceBounds, Instr.sliceBound, asIntOf, run_underlying ht, sizeOf, typeInfo, hi, hk', e]
  intro hc'; omega
theorem NewRow.nil : NewRow base w t size none 0 [] := ⟨⟨by simp, fun h => absurd h (by omega)⟩, fun _ e => by cases e⟩
end

theorem num_len (s : RS) (h : s.num.2.bad = false) : s.bad = false ∧ s.num.2.b.length + 8 = s.b.length ∧ s.num.1 ≤ 4611686018427387904 := by
  unfold RS.num at *
  split at h
  · cases h
  · rename_i hn
    rw [if_neg hn]
    simp only [not_or] at hn
    obtain ⟨h1, h2, h3⟩ := hn
    refine ⟨by simpa using h1, ?_, by omega⟩
    simp
    omega
theorem num_le (s : RS) : s.num.1 ≤ 4611686018427387904 := by
  unfold RS.num
  split
  · exact Nat.zero_le _
  · rename_i hn
    simp only [not_or] at hn
    omega
theorem data_bad (s : RS) (h : s.num.2.bad = true ∨ s.num.2.b.length < s.num.1) : s.data = ([], ⟨s.num.2.b, true⟩) := by
  unfold RS.data
  rw [if_pos h]
theorem data_good (s : RS) (h1 : s.num.2.bad = false) (h2 : s.num.1 ≤ s.num.2.b.length) : s.data = (s.num.2.b.take s.num.1, ⟨s.num.2.b.drop s.num.1, false⟩) := by
  unfold RS.data
  rw [if_neg (by rw [h1]; simp; omega)]

set_option maxHeartbeats 1600000 in
theorem rd_data (B : Nat) (P : Nat) (s : RS) (w : World) (h : RdAt B w 52 P s) (hB : B ≤ w.heap.size) (hs : s.b.length ≤ 1000000000) :
    Calls Try.prog 21 #[.pointer (some ⟨P, 0, none⟩)] w fun e w' => ∃ A n c, e = .returned (.slice A n c) ∧ n = s.data.1.length ∧ NewRow B w' 5 1 A n (u8s s.data.1) ∧ RdAt B w' 52 P s.data.2 ∧ Chg (· = P) w w' := by
  obtain ⟨i0, hi, hz0, hz1, hz2⟩ := info_parts info5
  have Hs := hid h
  have Hlen := hid hs
  have hle := hid (num_le s)
  have hnl := hid (num_len s)
  clear h hs
  go_enter Try.func21, Try.ntmps21
  go_wp2_with fail
  refine (rd_num B P s _ Hs.out).mono ?_
  rintro e w1 ⟨rfl, hr1, hc1⟩
  have hdb := hid (data_bad s)
  have hdg := hid (data_good s)
  generalize hk : s.num = N at *
  obtain ⟨k, s1⟩ := N
  obtain ⟨A, n, c, h1⟩ := hr1
  have H1 := hid h1
  have HC1 := hid hc1
  have c0 : w1.cell? ⟨P, 0, none⟩ = some (.slice A n c) := h1.box.cell_ 0 rfl
  have c1 : w1.cell? ⟨P, 1, none⟩ = some (.bool s1.bad) := h1.box.cell_ 1 rfl
  have f0 := h1.box.frozen 0
  have f1 := h1.box.frozen 1
  have hcap := h1.cap
  clear h1 hc1 hk
  simp only [] at *
  by_cases hbad : s1.bad = true
  · rw [hbad] at c1
    have Hb := hid hbad
    clear hbad
    go_wp2
    go_ret
    rw [hdb.out (.inl Hb.out)]
    exact ⟨none, 0, 0, rfl, rfl, NewRow.nil, H1.out.spoil _, HC1.out.trans (chg_set P 1 _)⟩
  · have hb : s1.bad = false := by simpa using hbad
    rw [hb] at c1
    have Hb := hid hb
    have hn := hid (H1.out.len hb)
    clear hbad hb
    have hkl := hle.out
    by_cases hlt : n < k
    · go_wp2
      go_ret
      rw [hdb.out (.inr (by have := hn.out; omega))]
      exact ⟨none, 0, 0, rfl, rfl, NewRow.nil, H1.out.spoil _, HC1.out.trans (chg_set P 1 _)⟩
    · have hr := H1.out.rd Hb.out
      obtain ⟨hsl1, hr1⟩ := sl_to hr k k rfl (by omega) hcap
      obtain ⟨A2, hsl2, hf2, hr2⟩ := sl_from hr H1.out.far k k rfl (by omega) hcap
      have e1 : (u8s s1.b).take k = u8s (s1.b.take k) := by simp [u8s, List.map_take]
      have e2 : (u8s s1.b).drop k = u8s (s1.b.drop k) := by simp [u8s, List.map_drop]
      rw [e1] at hr1
      rw [e2] at hr2
      have Hr1 := hid hr1
      have Hr2 := hid hr2
      have Hf2 := hid hf2
      have hn8 : n ≤ 1000000000 := by have h1 := hn.out; have h2 := (hnl.out Hb.out).2.1; have h3 := Hlen.out; omega
      clear hr hr1 hr2 hf2 e1 e2
      go_wp2_with (at_builtin; refine wpList_append_any _ rfl (.const (.slice none 0 0)) (.tmp 28) 23 rfl w1.heap.size 5 i0 _ 1 1 Try.underlying23 hi hz0 hz1 hz2 rfl (by omega) _ 0 [] rfl (World.ownsRow_nil _ _ _ _) A k c _ rfl Hr1.out (u8s_one _) (by unfold maxLen; omega) (by omega) (Nat.le_refl _) ?_)
      intro v3 w3 hown3 hg3 hat3
      have hown : w3.ownsRow w1.heap.size 5 1 v3 k (u8s (s1.b.take k)) := by simpa using hown3
      have hb3 : Below w1.heap.size w1 w3 := (Below.refl _ _).grown hg3 (Nat.le_refl _) (by simp [Value.ownBlock])
      obtain ⟨A3, c3, rfl, _⟩ := own_form hown
      have hc3 : k ≤ c3 := by
        rcases hown.2 with ⟨h', h0⟩ | ⟨g, cap, cur, h', _, _, hle, _⟩
        · omega
        · injection h' with _ _ h'; omega
      have hsl3 := sl_full Try.underlying23 hi A3 k c3 hc3
      have hP : P < w1.heap.size := H1.out.box.lt
      have H3 := hid (H1.out.below hb3 hP)
      have d0 : w3.cell? ⟨P, 0, none⟩ = some (.slice A n c) := H3.out.box.cell_ 0 rfl
      have g0 := H3.out.box.frozen 0
      have Hown := hid hown
      have HB3 := hid hb3
      clear hown hown3 hb3 hg3 hat3
      go_wp2
      go_ret
      rw [hdg.out Hb.out (by have := hn.out; omega)]
      refine ⟨A3, k, k, rfl, ?_, ?_, ?_, ?_⟩
      · have := hn.out; simp; omega
      · refine ((NewRow.of_own Hown.out).mono (Nat.le_trans hB HC1.out.size)).chg_ty (chg_set P 0 _) ?_
        rintro g rfl cs hk
        exact hk.ne_ H3.out.box (by decide) rfl
      · exact H3.out.turn Hb.out Hf2.out (by omega) (by have := hn.out; simp; omega) (Hr2.out.below HB3.out)
      · exact (HC1.out.trans ((Chg.of_below (S := fun _ => False) HB3.out).mono (fun i _ h => h.elim))).trans (chg_set P 0 _)
end Go.Proofs.Ytkpopjpmjcgbfaa
