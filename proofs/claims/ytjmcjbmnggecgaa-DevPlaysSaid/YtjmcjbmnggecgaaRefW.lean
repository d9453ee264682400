/- New, Write of the document's own device. -/
import Derived.Test.YtjmcjbmnggecgaaRef
namespace Go.Proofs.Ytjmcjbmnggecgaa
open Go.RowKit
set_option maxRecDepth 100000
attribute [local go_sem ↓] Go.wp_at_zero Go.wp_at_succ

structure RNewRel (w wr : World) (R : Nat) (k : Nat) : Prop where
  bel : Below w.heap.size w wr
  le : w.heap.size ≤ R
  mem : ∃ lv, Blk wr R 53 #[lv, .slice none 0 0, .int .i64 (-1), .bool false, .int .i64 0] ∧ wr.ownsRow w.heap.size 9 1 lv k (strs (List.replicate k zeros))

set_option maxHeartbeats 1600000 in
theorem rnew_ok (n : Nat) (w : World) (h1 : 1 ≤ n) (h2 : n ≤ 8192) : Calls Try.prog 21 #[.int .i64 n] w fun e w' => ∃ R F, e = .returned (.tuple #[.pointer (some ⟨R, 0, none⟩), .int .i64 0]) ∧ RefAt w' R F (MDev.new n) ∧ (∀ i, F i → w.heap.size ≤ i) ∧ Below w.heap.size w w' := by
  obtain ⟨i0, hi, hz0, hz1, hz2⟩ := info_parts info9
  go_enter Try.func21, Try.ntmps21
  go_wp2_with fail
  refine (blank_any _).mono ?_
  rintro e w1 ⟨rfl, hb1'⟩
  have hb1 : Below (w.heap.size + 1) (w.alloc (.cells #[.slice none 0 0, .slice none 0 0, .int .i64 (-1), .bool false, .int .i64 0] 53)) w1 := by simpa using hb1'
  have hB1 : Below w.heap.size w w1 := ((Below.refl _ w).alloc (Nat.le_refl _) _).trans (hb1.mono (by omega))
  have hR1 : Blk w1 w.heap.size 53 _ := (Blk.new w 53 #[.slice none 0 0, .slice none 0 0, .int .i64 (-1), .bool false, .int .i64 0]).below hb1 (by omega)
  have HB1 := hid hB1
  have HR1 := hid hR1
  clear hb1 hb1' hB1 hR1
  go_wp2_with fail
  go_loopw [6] (fun i wr => ∃ k : Nat, k ≤ n ∧ i = .int .i64 k ∧ RNewRel w wr w.heap.size k) (fun i _ => n - (intOf i).toNat)
  case atStart => exact ⟨0, Nat.zero_le _, rfl, HB1.out, Nat.le_refl _, _, HR1.out, World.ownsRow_nil _ _ _ _⟩
  case round =>
    obtain ⟨k, hk, rfl, hR⟩ := hrel
    obtain ⟨lv, hb, ho⟩ := hR.mem
    by_cases hlt : k < n
    · obtain ⟨c0, _, _, _, _⟩ := blk5 hb
      have f0 := hb.frozen 0
      have lb := hb.lt
      have HR := hid hR
      have Hb := hid hb
      have Ho := hid (ho.alloc (.cells #[strV zeros] 9))
      have Hnew : Hid (Rd (wr.alloc (.cells #[strV zeros] 9)) 1 (some ⟨wr.heap.size, 0, none⟩) 1 [strV zeros]) := hid (Rd.of_blk (Blk.new wr 9 _) rfl)
      have h1c : Hid (∀ u ∈ [strV zeros], u.oneCell' = true) := hid (by simp [strV, Value.oneCell'])
      have hsz : w.heap.size ≤ (wr.alloc (.cells #[strV zeros] 9)).heap.size := by have := hR.bel.size; simp; omega
      clear hb ho hR
      go_wp2_with (at_builtin; refine wpList_append_any _ rfl (.tmp 25) (.tmp 27) 50 rfl w.heap.size 9 i0 _ 1 16 Try.underlying50 hi hz0 hz1 hz2 rfl (by omega) _ k _ rfl Ho.out _ 1 1 _ rfl Hnew.out h1c.out (by unfold maxLen; omega) (by omega) hsz ?_)
      intro v' w' hown hg hat
      obtain ⟨A', c', rfl, _⟩ := own_form hown
      have nR : Hid (lv.ownBlock ≠ some w.heap.size) := hid fun e => by
        obtain ⟨cs, hcs⟩ := own_ty Ho.out e
        exact hcs.ne_ (Hb.out.alloc _) (by decide) rfl
      have hb' : Blk w' w.heap.size 53 _ := (Hb.out.alloc _).grown hg (Ne.symm nR.out)
      obtain ⟨c0', _, _, _, _⟩ := blk5 hb'
      have f0' := hb'.frozen 0
      have Hb' := hid hb'
      have Hown := hid hown
      have Hg := hid hg
      have Hat := hid hat
      clear hb' hown hg hat
      go_wp2
      go_roundw
      case rel =>
        refine ⟨k + 1, by omega, by go_num, ⟨?_, Nat.le_refl _, .slice A' (k + 1) c', Hb'.out.set_ 0 _, ?_⟩⟩
        · exact (((HR.out.bel.alloc HR.out.bel.size _).grown Hg.out hsz (fun g hg => (Ho.out.lt g hg).1)).setCell (p := ⟨w.heap.size, 0, none⟩) (Nat.le_refl _) _)
        · have e : strs (List.replicate (k + 1) zeros) = strs (List.replicate k zeros) ++ [strV zeros] := by simp [strs, List.replicate_succ']
          rw [e]
          refine own_chg Hown.out (chg_set w.heap.size 0 _) ?_
          rintro g hg rfl
          obtain ⟨cs', hcs'⟩ := own_ty Hown.out hg
          exact hcs'.ne_ Hb'.out (by decide) rfl
      case measure => simp [intOf]; omega
    · have Hk : Hid (k = n) := hid (by omega)
      have HR := hid hR
      have Hb := hid hb
      have Ho := hid ho
      clear hb ho hR
      go_wp2
      go_ret2
      have hl : (MDev.new n).l.length = n := by simp [MDev.new]
      refine ⟨w.heap.size, fun i => w.heap.size ≤ i ∧ i < wr.heap.size, rfl, ⟨⟨Nat.le_refl _, Hb.out.lt⟩, fun i hi => hi.2, by rw [hl]; exact h1, by rw [hl]; exact h2, by simp [MDev.new], by simp [MDev.new], fun i e he => by simp [MDev.new] at he, lv, .slice none 0 0, Hb.out, ?_⟩, fun i hi => hi.1, HR.out.bel⟩
      have ho := Ho.out
      rw [Hk.out] at ho
      refine ⟨?_, fun g hg => ?_, World.ownsRow_nil _ _ _ _, fun g hg => by simp [Value.ownBlock] at hg⟩
      · rw [hl]
        exact ⟨ho.1, ho.2.imp id fun ⟨g, cap, cur, a, _, b⟩ => ⟨g, cap, cur, a, Nat.zero_le _, b⟩⟩
      · have := ho.lt g hg
        exact this

theorem rwrite_dead (R : Nat) (F : Nat → Prop) (m : MDev) (w : World) (h : RefAt w R F m) (i : Int) (v : Value) (hd : m.dead = true) :
    Calls Try.prog 22 #[.pointer (some ⟨R, 0, none⟩), .int .i64 i, v] w fun e w' => e = .returned (.int .i64 50) ∧ w = w' := by
  obtain ⟨lv, cv, hb, hm⟩ := h.mem
  obtain ⟨_, _, _, c3, _⟩ := blk5 hb
  rw [hd] at c3
  clear hb hd
  go_enter Try.func22, Try.ntmps22
  go_wp2
  go_ret
  exact ⟨rfl, rfl⟩

set_option maxHeartbeats 800000 in
theorem rwrite_arg (R : Nat) (F : Nat → Prop) (m : MDev) (w : World) (h : RefAt w R F m) (i : Int) (bs : List UInt8) (hd : m.dead = false) (hi : i < 0 ∨ (m.l.length : Int) ≤ i ∨ bs.length ≠ 128) :
    Calls Try.prog 22 #[.pointer (some ⟨R, 0, none⟩), .int .i64 i, .string ⟨bs.toArray⟩] w fun e w' => e = .returned (.int .i64 1) ∧ w = w' := by
  obtain ⟨lv, cv, hb, hm⟩ := h.mem
  obtain ⟨LA, lc, rfl, _⟩ := own_form hm.ol
  obtain ⟨c0, _, _, c3, _⟩ := blk5 hb
  rw [hd] at c3
  clear hb hd
  have hn := h.n2
  by_cases h1 : i < 0
  · clear hi
    have hz : decide (i < 0) = true := by simpa using h1
    go_enter Try.func22, Try.ntmps22
    go_wp2
    go_ret
    exact ⟨rfl, rfl⟩
  · by_cases h2 : (m.l.length : Int) ≤ i
    · clear hi
      go_enter Try.func22, Try.ntmps22
      go_wp2
      go_ret
      exact ⟨rfl, rfl⟩
    · have h3 : ((bs.length : Int) != 128) = true := by rw [bne_iff_ne]; omega
      clear hi
      go_enter Try.func22, Try.ntmps22
      go_wp2
      go_ret
      exact ⟨rfl, rfl⟩

set_option maxHeartbeats 800000 in
theorem rwrite_fuse (R : Nat) (F : Nat → Prop) (m : MDev) (w : World) (h : RefAt w R F m) (i : Int) (bs : List UInt8) (hl : bs.length = 128) (hd : m.dead = false) (h0 : 0 ≤ i) (h1 : i < m.l.length) (hf : m.fuse = 0) :
    Calls Try.prog 22 #[.pointer (some ⟨R, 0, none⟩), .int .i64 i, .string ⟨bs.toArray⟩] w fun e w' => e = .returned (.int .i64 50) ∧ RefAt w' R F { m with dead := true } ∧ Chg (· = R) w w' := by
  obtain ⟨lv, cv, hb, hm⟩ := h.mem
  obtain ⟨LA, lc, rfl, _⟩ := own_form hm.ol
  obtain ⟨c0, _, _, c3, _⟩ := blk5 hb
  rw [hd] at c3
  have hn := h.n2
  have Hf := hid hf
  clear hb hd hf
  go_enter Try.func22, Try.ntmps22
  go_wp2_with fail
  refine (rburn_no R F m w h Hf.out).mono ?_
  rintro e w1 ⟨rfl, hq1, hq2⟩
  have H1 := hid hq1
  have H2 := hid hq2
  clear hq1 hq2
  go_wp2
  go_ret
  exact ⟨rfl, H1.out, H2.out⟩

theorem lit_fz (m : MDev) : m.lit = { m.fz with calls := wrap64 (m.calls + 1) } := rfl

theorem rwrite_close {w w1 w2 : World} {R : Nat} {F : Nat → Prop} {m1 : MDev} {lv : Value} {CA A' : Option Addr} {cc c' : Nat} {i : Nat} {bs : List UInt8} {o : Obj}
    (H1 : RefAt w1 R F m1) (H2 : Chg (· = R) w w1) (Hm : RefMem w1 F m1.l m1.W lv (.slice CA m1.W.length cc)) (Hb : Blk w1 R 53 #[lv, .slice CA m1.W.length cc, .int .i64 m1.fuse, .bool m1.dead, .int .i64 m1.calls]) (hi : i < m1.l.length)
    (hown : w2.ownsRow 0 76 2 (.slice A' (m1.W.length + 1) c') (m1.W.length + 1) (wrs m1.W ++ [.int .i64 (i : Int), .string ⟨bs.toArray⟩])) (hg : (w1.alloc o).grownBy w2 (Value.slice CA m1.W.length cc).ownBlock)
    (hat : (Value.slice A' (m1.W.length + 1) c').ownBlock = (Value.slice CA m1.W.length cc).ownBlock ∨ (Value.slice A' (m1.W.length + 1) c').ownBlock = some (w1.alloc o).heap.size) :
    ∃ F', RefAt ((w2.setCell ⟨R, 1, none⟩ (.slice A' (m1.W.length + 1) c')).setCell ⟨R, 4, none⟩ (.int .i64 (wrap64 (m1.calls + 1)))) R F' { m1 with W := m1.W ++ [(i, bs)], calls := wrap64 (m1.calls + 1) } ∧ (∀ i, F' i → F i ∨ w.heap.size ≤ i) ∧
      Chg F w ((w2.setCell ⟨R, 1, none⟩ (.slice A' (m1.W.length + 1) c')).setCell ⟨R, 4, none⟩ (.int .i64 (wrap64 (m1.calls + 1)))) := by
  generalize hcv : Value.slice CA m1.W.length cc = cv at *
  generalize hav : Value.slice A' (m1.W.length + 1) c' = av at *
  have nR : cv.ownBlock ≠ some R := fun e => by
    obtain ⟨cs, hcs⟩ := own_ty Hm.oc e
    exact hcs.ne_ Hb (by decide) rfl
  have k0 : Chg (fun k => cv.ownBlock = some k) w1 w2 := ((Chg.refl _ w1).alloc o).grown hg (fun k hk _ => hk)
  have b2 : Blk w2 R 53 _ := Hb.chg k0 nR
  have b3 := (b2.set_ 1 av).set_ 4 (.int .i64 (wrap64 (m1.calls + 1)))
  have k1 : Chg (· = R) w2 ((w2.setCell ⟨R, 1, none⟩ av).setCell ⟨R, 4, none⟩ (.int .i64 (wrap64 (m1.calls + 1)))) := chg_set2 R 1 4 _ _
  have hs0 := k0.size
  have hs1 := k1.size
  have hs2 := H2.size
  have hlt := hown.lt
  refine ⟨fun k => (F k ∨ w.heap.size ≤ k) ∧ k < ((w2.setCell ⟨R, 1, none⟩ av).setCell ⟨R, 4, none⟩ (.int .i64 (wrap64 (m1.calls + 1)))).heap.size, ⟨⟨.inl H1.own, b3.lt⟩, fun k hk => hk.2, H1.n1, H1.n2, H1.f1, H1.f2, ?_, lv, av, b3, ?_⟩, fun k hk => hk.1, ?_⟩
  · intro j e he
    rw [List.getElem?_append] at he
    split at he
    · exact H1.wi j e he
    · simp [List.getElem?_singleton] at he
      obtain ⟨_, rfl⟩ := he
      exact hi
  · refine ⟨own_chg (own_chg Hm.ol k0 ?_) k1 ?_, fun g hg => ⟨.inl (Hm.fl g hg), ?_⟩, ?_, fun g hg => ⟨?_, ?_⟩⟩
    · intro g hg hk
      obtain ⟨c1, hc1⟩ := own_ty Hm.ol hg
      obtain ⟨c2, hc2⟩ := own_ty Hm.oc hk
      exact hc1.ne_ hc2 (by decide) rfl
    · rintro g hg rfl
      obtain ⟨c1, hc1⟩ := own_ty Hm.ol hg
      exact hc1.ne_ Hb (by decide) rfl
    · have := H1.lt g (Hm.fl g hg); omega
    · rw [wrs_snoc, List.length_append, List.length_singleton]
      refine own_chg hown k1 ?_
      rintro g hg rfl
      obtain ⟨c1, hc1⟩ := own_ty hown hg
      exact hc1.ne_ b2 (by decide) rfl
    · rcases hat with h | h
      · exact .inl (Hm.fc g (h ▸ hg))
      · rw [hg] at h; injection h with h; right; simp at h; omega
    · have := (hlt g hg).2; omega
  · refine ((H2.mono (S' := F) (by rintro k _ rfl; exact H1.own)).trans (k0.mono (S' := F) (fun k _ hk => Hm.fc k hk))).trans (k1.mono (S' := F) (by rintro k _ rfl; exact H1.own))

set_option maxHeartbeats 1600000 in
theorem rwrite_ok (R : Nat) (F : Nat → Prop) (m : MDev) (w : World) (h : RefAt w R F m) (i : Nat) (bs : List UInt8) (hl : bs.length = 128) (hd : m.dead = false) (h1 : i < m.l.length) (hf : m.fuse ≠ 0) (hW : m.W.length ≤ 1000000) :
    Calls Try.prog 22 #[.pointer (some ⟨R, 0, none⟩), .int .i64 i, .string ⟨bs.toArray⟩] w fun e w' => e = .returned (.int .i64 0) ∧ ∃ F', RefAt w' R F' { m.lit with W := m.W ++ [(i, bs)] } ∧ (∀ i, F' i → F i ∨ w.heap.size ≤ i) ∧ Chg F w w' := by
  obtain ⟨i0, hi, hz0, hz1, hz2⟩ := info_parts info76
  obtain ⟨lv, cv, hb, hm⟩ := h.mem
  obtain ⟨LA, lc, rfl, _⟩ := own_form hm.ol
  obtain ⟨c0, _, _, c3, _⟩ := blk5 hb
  rw [hd] at c3
  have hn := h.n2
  have Hf := hid hf
  clear hb hd hf
  go_enter Try.func22, Try.ntmps22
  go_wp2_with fail
  refine (rburn_yes R F m w h Hf.out).mono ?_
  rintro e w1 ⟨rfl, hq1, hq2⟩
  obtain ⟨lv1, cv1, hb1, hm1⟩ := hq1.mem
  obtain ⟨CA, cc, rfl, _⟩ := own_form hm1.oc
  obtain ⟨_, d1, _, _, d4⟩ := blk5 hb1
  have f1 := hb1.frozen 1
  have f4 := hb1.frozen 4
  have lR := hb1.lt
  have H1 := hid hq1
  have H2 := hid hq2
  have Hm := hid hm1
  have Hb := hid hb1
  have Ho := hid (hm1.oc.alloc (.cells #[.int .i64 (i : Int), .string ⟨bs.toArray⟩] 76))
  have Hnew : Hid (Rd (w1.alloc (.cells #[.int .i64 (i : Int), .string ⟨bs.toArray⟩] 76)) 2 (some ⟨w1.heap.size, 0, none⟩) 1 [.int .i64 (i : Int), .string ⟨bs.toArray⟩]) := hid (by
    have hbn := Blk.new w1 76 #[.int .i64 (i : Int), .string ⟨bs.toArray⟩]
    exact ⟨rfl, fun _ => ⟨_, rfl, hbn.lt, fun j u hu => by rw [Addr.add_lit, Nat.zero_add, hbn.cell]; simpa using hu⟩⟩)
  have h1c : Hid (∀ u ∈ [Value.int .i64 (i : Int), .string ⟨bs.toArray⟩], u.oneCell' = true) := hid (by simp [Value.oneCell'])
  have hWl : m.fz.W.length ≤ 1000000 := hW
  clear hq1 hq2 hm1 hb1 c0 c3
  go_wp2_with (at_builtin; refine wpList_append_any _ rfl (.tmp 37) (.tmp 41) 51 rfl 0 76 i0 _ 2 24 Try.underlying51 hi hz0 hz1 hz2 rfl (by omega) _ m.fz.W.length _ rfl Ho.out _ 1 1 _ rfl Hnew.out h1c.out (by unfold maxLen; omega) (by omega) (Nat.zero_le _) ?_)
  intro v' w' hown hg hat
  obtain ⟨A', c', rfl, _⟩ := own_form hown
  have nR : Hid ((Value.slice CA m.fz.W.length cc).ownBlock ≠ some R) := hid fun e => by
    obtain ⟨cs, hcs⟩ := own_ty Hm.out.oc e
    exact hcs.ne_ Hb.out (by decide) rfl
  have hb' : Blk w' R 53 _ := (Hb.out.alloc _).grown hg (Ne.symm nR.out)
  obtain ⟨_, e1, _, _, e4⟩ := blk5 hb'
  have g1 := hb'.frozen 1
  have g4 := hb'.frozen 4
  have Hown := hid hown
  have Hg := hid hg
  have Hat := hid hat
  clear hb' hown hg hat d1 d4 f1 f4
  go_wp2
  go_ret
  exact ⟨rfl, rwrite_close H1.out H2.out Hm.out Hb.out h1 Hown.out Hg.out (Hat.out.imp id fun h => h.trans (by simp))⟩
end Go.Proofs.Ytjmcjbmnggecgaa
