/- Reading a number: the walk of reader.num of package rec. Conditions: none but what memory says. -/
import Derived.Test.YtkpopjpmjcgbfaaEncC
import Derived.ScopeJumps
import Derived.WalkMore
namespace Go.Proofs.Ytkpopjpmjcgbfaa
open Go.RowKit
set_option maxRecDepth 100000
set_option linter.unusedVariables false
set_option linter.unusedSimpArgs false

/-- a reader: its box at P of type t, its bytes in a block below B -/
structure RAt (B : Nat) (w : World) (t : TypeId) (P : Nat) (s : RS) (A : Option Addr) (n c : Nat) : Prop where
  box : Blk w P t #[.slice A n c, .bool s.bad]
  le : B ≤ P
  far : ∀ ad, A = some ad → ad.block < B
  cap : n ≤ c
  len : s.bad = false → n = s.b.length
  rd : s.bad = false → Rd w 1 A n (u8s s.b)
/-- the reader at P reads s -/
def RdAt (B : Nat) (w : World) (t : TypeId) (P : Nat) (s : RS) : Prop := ∃ A n c, RAt B w t P s A n c

section
variable {B : Nat} {w w' : World} {t : TypeId} {P : Nat} {s : RS} {A : Option Addr} {n c : Nat}
theorem RAt.below {B' : Nat} (h : RAt B w t P s A n c) (hb : Below B' w w') (hB : P < B') : RAt B w' t P s A n c :=
  ⟨h.box.below hb hB, h.le, h.far, h.cap, h.len, fun hs => (h.rd hs).keep hb.size fun ad e _ => hb.block _ (by have := h.far ad e; have := h.le; omega)⟩
theorem RAt.chg {S : Nat → Prop} (h : RAt B w t P s A n c) (hc : Chg S w w') (hS : ∀ i, S i → B ≤ i ∧ i ≠ P) : RAt B w' t P s A n c :=
  ⟨h.box.chg hc fun hs => (hS _ hs).2 rfl, h.le, h.far, h.cap, h.len, fun hs => (h.rd hs).keep hc.size fun ad e hl => hc.block _ hl fun hs' => by have := h.far ad e; have := (hS _ hs').1; omega⟩
theorem RdAt.chg {S : Nat → Prop} (h : RdAt B w t P s) (hc : Chg S w w') (hS : ∀ i, S i → B ≤ i ∧ i ≠ P) : RdAt B w' t P s := by
  obtain ⟨A, n, c, h⟩ := h; exact ⟨A, n, c, h.chg hc hS⟩
theorem RAt.drew (h : RAt B w t P s A n c) : RAt B w.drew t P s A n c := ⟨h.box, h.le, h.far, h.cap, h.len, h.rd⟩
theorem RdAt.drew (h : RdAt B w t P s) : RdAt B w.drew t P s := by obtain ⟨A, n, c, h⟩ := h; exact ⟨A, n, c, h.drew⟩

theorem sl_from {xs : List Value} (hr : Rd w 1 A n xs) (hf : ∀ ad, A = some ad → ad.block < B) (k : Nat) (i : Int) (hi : i = (k : Int)) (hk : k ≤ n) (hc : n ≤ c) :
    ∃ A', (∀ W : World, (Instr.slice 23 (.slice A n c) (some (.int .i64 i)) none none).run Try.prog W = .ok (.slice A' (n - k) (c - k)) W) ∧ (∀ ad, A' = some ad → ad.block < B) ∧ Rd w 1 A' (n - k) (xs.drop k) := by
  subst hi
  obtain ⟨i0, hi, hz0, hz1, hz2⟩ := info_parts info5
  have hl := hr.1
  refine ⟨if c = k then A else A.map (·.add k), fun W => ?_, fun ad e => ?_, ?_, fun hn => ?_⟩
  · have hk' : (k : Int) ≤ (n : Int) := by omega
    simp [Instr.slice, Instr.sliceBounds, Instr.sliceBound, asIntOf, run_underlying Try.underlying23, sizeOf, typeInfo, hi, hz1, hk']
    intro hc'; omega
  · split at e
    · exact hf ad e
    · cases A with
      | none => simp at e
      | some a => simp at e; subst e; rw [block_of_add]; exact hf a rfl
  · simp; omega
  · obtain ⟨ad, rfl, hlt, hcs⟩ := hr.2 (by omega)
    rw [if_neg (by omega)]
    refine ⟨ad.add k, rfl, by rw [block_of_add]; exact hlt, fun j u hu => ?_⟩
    rw [add_of_add]
    exact hcs _ u (by simpa using hu)
theorem sl_to {xs : List Value} (hr : Rd w 1 A n xs) (k : Nat) (i : Int) (hi : i = (k : Int)) (hk : k ≤ n) (hc : n ≤ c) :
    (∀ W : World, (Instr.slice 23 (.slice A n c) none (some (.int .i64 i)) none).run Try.prog W = .ok (.slice A k c) W) ∧ Rd w 1 A k (xs.take k) := by
  subst hi
  obtain ⟨i0, hi, hz0, hz1, hz2⟩ := info_parts info5
  have hl := hr.1
  refine ⟨fun W => ?_, ?_, fun hn => ?_⟩
  · have hk' : (k : Int) ≤ (c : Int) := by omega
    have e : (A.map fun x => x.add 0) = A := by cases A with
      | none => rfl
      | some a => simp [Addr.add]
    simp [Instr.slice, Instr.sliceBounds, Instr.sliceBound, asIntOf, run_underlying Try.underlying23, sizeOf, typeInfo, hi, hz1, hk', e]
    intro hc'; omega
  · simp; omega
  · obtain ⟨ad, rfl, hlt, hcs⟩ := hr.2 (by omega)
    refine ⟨ad, rfl, hlt, fun j u hu => hcs j u ?_⟩
    rw [List.getElem?_take] at hu
    split at hu
    · exact hu
    · cases hu
end

/-! ### a scope whose jumps all go forward to one label: the code behind the label is walked on where the jump is made -/
theorem wp_scope_forward {P : Program} {a : Act} {w : World} {Q : Exit → Act → World → Prop} {c rest : Code} (l : Nat) (hf : findLabel c l = some rest)
    (first : c.wp P (Exit.jump l (fun a w => rest.wp P (Exit.noGoto Q) a w) Q) a w) : (Code.scope c).wp P Q a w :=
  wp_scope_jumps l (fun a w => rest.wp P (Exit.noGoto Q) a w) (fun _ _ => 0) hf first fun a w hJ => Code.wp_mono (fun e a w h => by
    cases e with
    | goto l' => exact h.elim
    | normal => exact h
    | exit id => exact h
    | ret => exact h
    | panic ch => exact h
    | outgrown => exact h) hJ
theorem jump_ret {l : Nat} {J : Act → World → Prop} {Q : Exit → Act → World → Prop} {a : Act} {w : World} : Exit.jump l J Q .ret a w = Q .ret a w := rfl

theorem num_bad (s : RS) (h : s.bad = true ∨ s.b.length < 8 ∨ 4611686018427387904 < be (s.b.take 8)) : s.num = (0, ⟨s.b, true⟩) := by
  unfold RS.num
  rw [if_pos h]
theorem num_good (s : RS) (h1 : s.bad = false) (h2 : 8 ≤ s.b.length) (h3 : be (s.b.take 8) ≤ 4611686018427387904) : s.num = (be (s.b.take 8), ⟨s.b.drop 8, false⟩) := by
  unfold RS.num
  rw [if_neg (by rw [h1]; simp; omega)]

section
variable {B : Nat} {w w' : World} {t : TypeId} {P : Nat} {s : RS} {A : Option Addr} {n c : Nat}
/-- the reader is bad from now on -/
theorem RAt.spoil (h : RAt B w t P s A n c) (b : List UInt8) : RdAt B (w.setCell ⟨P, 1, none⟩ (.bool true)) t P ⟨b, true⟩ :=
  ⟨A, n, c, by have := h.box.set_ 1 (.bool true); exact this, h.le, h.far, h.cap, fun h => (by cases h), fun h => (by cases h)⟩
/-- the reader's bytes are others from now on -/
theorem RAt.turn (h : RAt B w t P s A n c) {A' : Option Addr} {n' c' : Nat} {bs : List UInt8} (hb : s.bad = false) (hf : ∀ ad, A' = some ad → ad.block < B) (hc : n' ≤ c') (hn : n' = bs.length) (hr : Rd w 1 A' n' (u8s bs)) :
    RdAt B (w.setCell ⟨P, 0, none⟩ (.slice A' n' c')) t P ⟨bs, false⟩ :=
  ⟨A', n', c', by have := h.box.set_ 0 (.slice A' n' c'); rw [hb] at this; exact this, h.le, hf, hc, fun _ => hn, fun _ => hr.chg (chg_set P 0 _) fun ad e hp => by have := hf ad e; have := h.le; omega⟩
end
theorem or_byte (m b : Nat) (hm : m ≤ 18014398509481984) (hb : b < 256) : bits .or .i64 ((m : Int) * 256) (b : Int) = ((256 * m + b : Nat) : Int) := by
  have e : (m : Int) * 256 = ((m * 256 : Nat) : Int) := by omega
  have h1 : (BitVec.ofInt 64 ((m * 256 : Nat) : Int)).toNat = m * 256 := by rw [BitVec.ofInt_natCast, BitVec.toNat_ofNat]; exact Nat.mod_eq_of_lt (by omega)
  have h2 : (BitVec.ofInt 64 (b : Int)).toNat = b := by rw [BitVec.ofInt_natCast, BitVec.toNat_ofNat]; exact Nat.mod_eq_of_lt (by omega)
  have h3 : m * 256 ||| b = m * 256 + b := nat_join 8 (m * 256) b (by omega) (by omega)
  rw [e]
  show IntKind.i64.wrap ((BitVec.ofInt 64 ((m * 256 : Nat) : Int) ||| BitVec.ofInt 64 (b : Int)).toNat : Int) = _
  rw [BitVec.toNat_or, h1, h2, h3, IntKind.wrap_i64]
  omega

set_option maxHeartbeats 1600000 in
theorem rd_num (B : Nat) (P : Nat) (s : RS) (w : World) (h : RdAt B w 52 P s) :
    Calls Try.prog 20 #[.pointer (some ⟨P, 0, none⟩)] w fun e w' => e = .returned (.int .i64 s.num.1) ∧ RdAt B w' 52 P s.num.2 ∧ Chg (· = P) w w' := by
  obtain ⟨A, n, c, h⟩ := h
  have H := hid h
  have c0 : w.cell? ⟨P, 0, none⟩ = some (.slice A n c) := h.box.cell_ 0 rfl
  have c1 : w.cell? ⟨P, 1, none⟩ = some (.bool s.bad) := h.box.cell_ 1 rfl
  have f0 := h.box.frozen 0
  have f1 := h.box.frozen 1
  clear h
  by_cases hbad : s.bad = true
  · rw [hbad] at c1
    rw [num_bad s (.inl hbad)]
    go_enter Try.func20, Try.ntmps20
    go_wp2
    refine wp_scope_forward 0 rfl ?_
    go_wp2
    go_step3
    refine And.intro rfl ?_
    show Code.wp _ _ _ _ _
    go_wp2
    rw [Exit.noGoto_ret]
    go_ret
    exact ⟨rfl, H.out.spoil _, chg_set P 1 _⟩
  · have hb : s.bad = false := by simpa using hbad
    rw [hb] at c1
    have hn := hid (H.out.len hb)
    have Hb := hid hb
    clear hb hbad
    by_cases h8 : n < 8
    · rw [num_bad s (.inr (.inl (by have := hn.out; omega)))]
      go_enter Try.func20, Try.ntmps20
      go_wp2
      refine wp_scope_forward 0 rfl ?_
      go_wp2
      go_step3
      refine And.intro rfl ?_
      show Code.wp _ _ _ _ _
      go_wp2
      rw [Exit.noGoto_ret]
      go_ret
      exact ⟨rfl, H.out.spoil _, chg_set P 1 _⟩
    · have hr := H.out.rd Hb.out
      have hcap := H.out.cap
      obtain ⟨hsl1, hr1⟩ := sl_to hr 8 8 rfl (by omega) hcap
      obtain ⟨A2, hsl2, hf2, hr2⟩ := sl_from hr H.out.far 8 8 rfl (by omega) hcap
      obtain ⟨b, o, rfl, hbl, hcs⟩ := hr.lit (by omega)
      have Hr2 := hid hr2
      have Hf2 := hid hf2
      have Hcs := hid hcs
      clear hr hr1 hr2 hf2 hcs
      go_enter Try.func20, Try.ntmps20
      go_wp2
      refine wp_scope_forward 0 rfl ?_
      go_wp2_with fail
      go_loopw [3, 24] (fun v i wr => wr = w ∧ ∃ j : Nat, j ≤ 8 ∧ i = .int .i64 j ∧ v = .int .i64 (be (s.b.take j)) ∧ be (s.b.take j) ≤ 4611686018427388159) (fun _ i _ => 8 - (intOf i).toNat)
      case atStart => exact ⟨rfl, 0, by omega, rfl, by simp [be], by simp [be]⟩
      case round =>
        obtain ⟨rfl, j, hj, rfl, rfl, hbe⟩ := hrel
        by_cases hlt : j < 8
        · have hlj : j < s.b.length := by have := hn.out; omega
          have hc := Hcs.out j (.int .u8 ((s.b[j]'hlj).toNat : Int)) (by simp [u8s, List.getElem?_eq_getElem hlj])
          have hs := hid (be_take_succ s.b j hlj)
          have hb8 := (s.b[j]'hlj).toNat_lt
          have hfar := hid (be_far s.b j hlt (by have := hn.out; omega))
          generalize (s.b[j]'hlj).toNat = x at *
          generalize hm : be (List.take j s.b) = m at *
          have Hm := hid hm
          clear hm
          by_cases hbig : 18014398509481984 < m
          · have Hb3 := hid (hfar.out hbig)
            go_wp2
            go_step3
            refine And.intro rfl ?_
            show Code.wp _ _ _ _ _
            go_wp2
            rw [Exit.noGoto_ret]
            go_ret
            rw [num_bad s (.inr (.inr Hb3.out))]
            exact ⟨rfl, H.out.spoil _, chg_set P 1 _⟩
          · have hor := or_byte m x (by omega) hb8
            go_wp2
            go_roundw
            case rel =>
              refine ⟨trivial, j + 1, by omega, by go_num, ?_, ?_⟩
              · rw [hs.out]; congr 1
              · rw [hs.out]; omega
            case measure => simp [intOf]; omega
        · have hj8 : Hid (j = 8) := hid (by omega)
          rw [hj8.out] at hbe
          have Hr2' : Hid (Rd wr 1 A2 (n - 8) (u8s (s.b.drop 8))) := hid (by
            have h := Hr2.out
            have e : (u8s s.b).drop 8 = u8s (s.b.drop 8) := by simp [u8s, List.map_drop]
            rwa [e] at h)
          have e8 : List.take j s.b = List.take 8 s.b := by rw [hj8.out]
          generalize hm : be (List.take j s.b) = m at *
          have Hm : Hid (be (s.b.take 8) = m) := hid (by rw [← hm, e8])
          clear hm e8
          by_cases hbig : 4611686018427387904 < m
          · have Hb3 : Hid (4611686018427387904 < be (s.b.take 8)) := hid (by rw [Hm.out]; exact hbig)
            go_wp2
            go_step3
            refine And.intro rfl ?_
            show Code.wp _ _ _ _ _
            go_wp2
            rw [Exit.noGoto_ret]
            go_ret
            rw [num_bad s (.inr (.inr Hb3.out))]
            exact ⟨rfl, H.out.spoil _, chg_set P 1 _⟩
          · have Hb3 : Hid (be (s.b.take 8) ≤ 4611686018427387904) := hid (by rw [Hm.out]; omega)
            go_wp2
            rw [jump_ret]
            go_ret
            rw [num_good s Hb.out (by have := hn.out; omega) Hb3.out]
            refine ⟨?_, H.out.turn Hb.out Hf2.out (by omega) (by have := hn.out; simp; omega) Hr2'.out, chg_set P 0 _⟩
            rw [Hm.out]
            rfl
end Go.Proofs.Ytkpopjpmjcgbfaa
