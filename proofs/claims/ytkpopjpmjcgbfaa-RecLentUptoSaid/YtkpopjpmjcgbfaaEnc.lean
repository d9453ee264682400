/- The bytes of a record: the walks of num, data and Size of package rec. Conditions: sizes. -/
import Derived.Test.YtkpopjpmjcgbfaaMem
import Derived.Test.YtkpopjpmjcgbfaaCod
namespace Go.Proofs.Ytkpopjpmjcgbfaa
open Go.RowKit
set_option maxRecDepth 100000
set_option linter.unusedVariables false

theorem info5 : (Try.prog.info? 5).map (fun i => (i.zero, i.size, i.bytes)) = some (some (.int .u8 0), 1, 1) := by kernel_rfl

/-- bytes were laid behind a slice's own; only its own block and new ones have changed -/
structure Grew (w w' : World) (base : Nat) (v v' : Value) (bs ns : List UInt8) : Prop where
  own : w'.ownsRow base 5 1 v' (bs ++ ns).length (u8s (bs ++ ns))
  chg : Chg (fun i => v.ownBlock = some i) w w'
  at_ : v'.ownBlock = v.ownBlock ∨ ∃ g, v'.ownBlock = some g ∧ w.heap.size ≤ g

section
variable {w w' w'' : World} {o : Obj} {base : Nat} {v v' v'' : Value} {bs ns ms : List UInt8}
theorem Grew.refl (h : w.ownsRow base 5 1 v bs.length (u8s bs)) : Grew w w base v v bs [] := ⟨by simpa using h, Chg.refl _ _, .inl rfl⟩
theorem Grew.trans (h : Grew w w' base v v' bs ns) (k : Grew w' w'' base v' v'' (bs ++ ns) ms) : Grew w w'' base v v'' bs (ns ++ ms) := by
  refine ⟨by simpa using k.own, h.chg.trans' k.chg fun i hi hv => ?_, ?_⟩
  · rcases h.at_ with e | ⟨g, e, hg⟩
    · exact e.symm.trans hv
    · have : g = i := Option.some.inj (e.symm.trans hv)
      omega
  · rcases k.at_ with e | ⟨g, e, hg⟩
    · rcases h.at_ with e' | ⟨g, e', hg⟩
      · exact .inl (e.trans e')
      · exact .inr ⟨g, e.trans e', hg⟩
    · exact .inr ⟨g, e, Nat.le_trans h.chg.size hg⟩
/-- one append of bytes -/
theorem Grew.of_append (hown : w'.ownsRow base 5 1 v' (bs.length + ns.length) (u8s bs ++ u8s ns)) (hg : w.grownBy w' v.ownBlock) (hat : v'.ownBlock = v.ownBlock ∨ v'.ownBlock = some w.heap.size) : Grew w w' base v v' bs ns := by
  refine ⟨by rw [List.length_append, u8s_append]; exact hown, (Chg.refl _ _).grown hg fun k hk _ => hk, hat.imp id fun e => ⟨_, e, Nat.le_refl _⟩⟩
theorem Grew.alloc (h : Grew (w.alloc o) w' base v v' bs ns) (hv : ∀ g, v.ownBlock = some g → g < w.heap.size) : Grew w w' base v v' bs ns := by
  refine ⟨h.own, ((Chg.refl _ _).alloc o).trans h.chg, h.at_.imp id fun ⟨g, e, hg⟩ => ⟨g, e, by simp at hg; omega⟩⟩
theorem Grew.below (h : Grew w w' base v v' bs ns) {B : Nat} (hB : B ≤ w.heap.size) (hv : ∀ g, v.ownBlock = some g → B ≤ g) : Below B w w' := h.chg.below hB fun i hi => hv i hi
end

structure NumRel (w wr : World) (base : Nat) (v vr : Value) (bs ns : List UInt8) : Prop where
  g : Grew w wr base v vr bs ns

theorem length_take8 (bs : List UInt8) (n : Int) (k : Nat) (hk : k ≤ 8) : (bs ++ (num8 n).take k).length = bs.length + k := by simp [length_num8]; omega
theorem take8_succ (n : Int) (k : Nat) (hk : k < 8) : (num8 n).take (k + 1) = (num8 n).take k ++ [byteAt (max n 0) k] := by
  rw [List.take_succ_eq_append_getElem (by rw [length_num8]; exact hk)]
  simp [num8]
theorem byte_zero (n : Int) (h : n < 0) (k : Nat) : ((byteAt (max n 0) k).toNat : Int) = 0 := by
  have : max n 0 = 0 := by omega
  rw [this, toNat_byteAt]
  simp
theorem byte_pos (n : Int) (h : ¬ n < 0) (k : Nat) (hk : k < 8) : ((byteAt (max n 0) k).toNat : Int) = n / 2 ^ (56 - 8 * k) % 256 := by
  have e : max n 0 = n := by omega
  rw [e, toNat_byteAt]
  have := Int.emod_nonneg (n / 2 ^ (56 - 8 * k)) (show (256 : Int) ≠ 0 by decide)
  omega

set_option maxHeartbeats 800000 in
theorem num_ok (n : Int) (v : Value) (bs : List UInt8) (base : Nat) (w : World) (ho : w.ownsRow base 5 1 v bs.length (u8s bs)) (hb : base ≤ w.heap.size) (hs : bs.length ≤ 1000000000) :
    Calls Try.prog 18 #[v, .int .i64 n] w fun e w' => ∃ v', e = .returned v' ∧ Grew w w' base v v' bs (num8 n) := by
  obtain ⟨i0, hi, hz0, hz1, hz2⟩ := info_parts info5
  obtain ⟨A, c, rfl, _⟩ := own_form ho
  have Ho := hid ho
  clear ho
  by_cases hn : n < 0
  · have Hn := hid hn
    go_enter Try.func18, Try.ntmps18
    go_wp2
    go_loopw [0, 8] (fun v i wr => ∃ k : Nat, k ≤ 8 ∧ i = .int .i64 k ∧ Grew w wr base (.slice A bs.length c) v bs ((num8 n).take k)) (fun _ i _ => 8 - (intOf i).toNat)
    case atStart => exact ⟨0, by omega, rfl, Grew.refl Ho.out⟩
    case round =>
      obtain ⟨k, hk, rfl, hg⟩ := hrel
      have hl := length_take8 bs n k hk
      have ho := hg.own
      rw [hl] at ho
      obtain ⟨A1, c1, rfl, _⟩ := own_form ho
      by_cases hlt : k < 8
      · have Hg := hid hg
        have Ho1 := hid (ho.alloc (.cells #[.int .u8 0] 5))
        have hnew : Rd (wr.alloc (.cells #[.int .u8 0] 5)) 1 (some ⟨wr.heap.size, 0, none⟩) 1 [.int .u8 0] := Rd.of_blk (Blk.new wr 5 _) rfl
        have h1c : Hid (∀ u ∈ [Value.int .u8 0], u.oneCell' = true) := hid (by simp [Value.oneCell'])
        have hsz : base ≤ (wr.alloc (.cells #[.int .u8 0] 5)).heap.size := by have := hg.chg.size; simp; omega
        have Hnew := hid hnew
        have hbk := hid (byte_zero n Hn.out k)
        clear hg ho hl hnew
        go_wp2_with (at_builtin; refine wpList_append_any _ rfl (.tmp 11) (.tmp 18) 23 rfl base 5 i0 _ 1 1 Try.underlying23 hi hz0 hz1 hz2 rfl (by omega) _ (bs.length + k) _ rfl Ho1.out _ 1 1 _ rfl Hnew.out h1c.out (by unfold maxLen; omega) (by omega) hsz ?_)
        intro v' w' hown hgr hat
        obtain ⟨A2, c2, rfl, _⟩ := own_form hown
        have Hg' : Hid (Grew w w' base (.slice A bs.length c) (.slice A2 (bs.length + k + 1) c2) bs ((num8 n).take (k + 1))) := hid (by
          have hb' := hbk.out
          rw [take8_succ n k hlt]
          refine Hg.out.trans (Grew.alloc (o := .cells #[.int .u8 0] 5) (Grew.of_append ?_ hgr (by simpa using hat)) ?_)
          · have e : u8s [byteAt (max n 0) k] = [.int .u8 0] := by simp [u8s, hb']
            rw [e, length_take8 bs n k hk]
            exact hown
          · intro g hg'
            exact ((Hg.out.own).lt g hg').2)
        clear hown hgr hat
        go_wp2
        go_roundw
        case rel => exact ⟨k + 1, by omega, by go_num, Hg'.out⟩
        case measure => simp [intOf]; omega
      · have Hk : Hid (k = 8) := hid (by omega)
        have Hg := hid hg
        clear hg ho hl
        go_wp2
        go_ret
        refine ⟨_, rfl, ?_⟩
        have := Hg.out
        rw [Hk.out, List.take_of_length_le (by rw [length_num8]; exact Nat.le_refl _)] at this
        rwa [Hk.out]
  · have Hn := hid hn
    go_enter Try.func18, Try.ntmps18
    go_wp2
    go_loopw [0, 8] (fun v i wr => ∃ k : Nat, k ≤ 8 ∧ i = .int .i64 k ∧ Grew w wr base (.slice A bs.length c) v bs ((num8 n).take k)) (fun _ i _ => 8 - (intOf i).toNat)
    case atStart => exact ⟨0, by omega, rfl, Grew.refl Ho.out⟩
    case round =>
      obtain ⟨k, hk, rfl, hg⟩ := hrel
      have hl := length_take8 bs n k hk
      have ho := hg.own
      rw [hl] at ho
      obtain ⟨A1, c1, rfl, _⟩ := own_form ho
      by_cases hlt : k < 8
      · have Hg := hid hg
        have Ho1 := hid (ho.alloc (.cells #[.int .u8 (n / 2 ^ (56 - 8 * k) % 256)] 5))
        have hnew : Rd (wr.alloc (.cells #[.int .u8 (n / 2 ^ (56 - 8 * k) % 256)] 5)) 1 (some ⟨wr.heap.size, 0, none⟩) 1 [.int .u8 (n / 2 ^ (56 - 8 * k) % 256)] := Rd.of_blk (Blk.new wr 5 _) rfl
        have h1c : Hid (∀ u ∈ [Value.int .u8 (n / 2 ^ (56 - 8 * k) % 256)], u.oneCell' = true) := hid (by simp [Value.oneCell'])
        have hsz : base ≤ (wr.alloc (.cells #[.int .u8 (n / 2 ^ (56 - 8 * k) % 256)] 5)).heap.size := by have := hg.chg.size; simp; omega
        have Hnew := hid hnew
        have hbk := hid (byte_pos n (by have := Hn.out; omega) k hlt)
        clear hg ho hl hnew
        go_wp2_with (at_builtin; refine wpList_append_any _ rfl (.tmp 11) (.tmp 18) 23 rfl base 5 i0 _ 1 1 Try.underlying23 hi hz0 hz1 hz2 rfl (by omega) _ (bs.length + k) _ rfl Ho1.out _ 1 1 _ rfl Hnew.out h1c.out (by unfold maxLen; omega) (by omega) hsz ?_)
        intro v' w' hown hgr hat
        obtain ⟨A2, c2, rfl, _⟩ := own_form hown
        have Hg' : Hid (Grew w w' base (.slice A bs.length c) (.slice A2 (bs.length + k + 1) c2) bs ((num8 n).take (k + 1))) := hid (by
          have hb' := hbk.out
          rw [take8_succ n k hlt]
          refine Hg.out.trans (Grew.alloc (o := .cells #[.int .u8 (n / 2 ^ (56 - 8 * k) % 256)] 5) (Grew.of_append ?_ hgr (by simpa using hat)) ?_)
          · have e : u8s [byteAt (max n 0) k] = [.int .u8 (n / 2 ^ (56 - 8 * k) % 256)] := by simp [u8s, hb']
            rw [e, length_take8 bs n k hk]
            exact hown
          · intro g hg'
            exact ((Hg.out.own).lt g hg').2)
        clear hown hgr hat
        go_wp2
        go_roundw
        case rel => exact ⟨k + 1, by omega, by go_num, Hg'.out⟩
        case measure => simp [intOf]; omega
      · have Hk : Hid (k = 8) := hid (by omega)
        have Hg := hid hg
        clear hg ho hl
        go_wp2
        go_ret
        refine ⟨_, rfl, ?_⟩
        have := Hg.out
        rw [Hk.out, List.take_of_length_le (by rw [length_num8]; exact Nat.le_refl _)] at this
        rwa [Hk.out]
end Go.Proofs.Ytkpopjpmjcgbfaa
