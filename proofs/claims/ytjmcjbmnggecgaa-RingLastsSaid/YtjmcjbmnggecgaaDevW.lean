/- The walks of the device's methods. -/
import Derived.Test.YtjmcjbmnggecgaaDev
namespace Go.Proofs.Ytjmcjbmnggecgaa
open Go.RowKit
set_option maxRecDepth 100000
attribute [local go_sem ↓] Go.wp_at_zero Go.wp_at_succ

/-- the fields of the device's own block turn -/
theorem DevAt.fields {w w' : World} {D : Nat} {F G : Nat → Prop} {m : MDev} {lv cv : Value} {ls ws : List Value} {f c : Int} {d : Bool} (h : DevAt w D F G m)
    (hm : DevMem w F G m.l m.W lv cv ls ws) (hb : Blk w D 70 #[lv, cv, .int .i64 m.fuse, .bool m.dead, .int .i64 m.calls]) (hc : Chg (· = D) w w') (hb' : Blk w' D 70 #[lv, cv, .int .i64 f, .bool d, .int .i64 c]) (h1 : -1 ≤ f) (h2 : f ≤ 9223372036854775807) :
    DevAt w' D F G { m with fuse := f, dead := d, calls := c } :=
  ⟨h.own, fun i hi => Nat.lt_of_lt_of_le (h.lt i hi) hc.size, fun i hi => Nat.lt_of_lt_of_le (h.lg i hi) hc.size, h.n1, h.n2, h1, h2, h.wi, lv, cv, ls, ws, hb', hm.chg hc fun i _ hs => by subst hs; exact ⟨70, _, by decide, by decide, by decide, hb⟩⟩

theorem chg_set {w : World} (D i : Nat) (v : Value) : Chg (· = D) w (w.setCell ⟨D, i, none⟩ v) := (Chg.refl (· = D) w).setCell (p := ⟨D, i, none⟩) (fun _ => rfl) v
theorem chg_set2 {w : World} (D i j : Nat) (v u : Value) : Chg (· = D) w ((w.setCell ⟨D, i, none⟩ v).setCell ⟨D, j, none⟩ u) := (chg_set D i v).setCell (p := ⟨D, j, none⟩) (fun _ => rfl) u
theorem blk5 {w : World} {D : Nat} {t : TypeId} {a b c d e : Value} (h : Blk w D t #[a, b, c, d, e]) : w.cell? ⟨D, 0, none⟩ = some a ∧ w.cell? ⟨D, 1, none⟩ = some b ∧ w.cell? ⟨D, 2, none⟩ = some c ∧ w.cell? ⟨D, 3, none⟩ = some d ∧ w.cell? ⟨D, 4, none⟩ = some e :=
  ⟨h.cell_ 0 rfl, h.cell_ 1 rfl, h.cell_ 2 rfl, h.cell_ 3 rfl, h.cell_ 4 rfl⟩

set_option maxHeartbeats 400000 in
theorem burn_no (D : Nat) (F G : Nat → Prop) (m : MDev) (w : World) (h : DevAt w D F G m) (hf : m.fuse = 0) :
    Calls Try.prog 39 #[.pointer (some ⟨D, 0, none⟩)] w fun e w' => e = .returned (.int .i64 50) ∧ DevAt w' D F G { m with dead := true } ∧ Chg (· = D) w w' := by
  obtain ⟨lv, cv, ls, ws, hb, hm⟩ := h.mem
  have c2 : w.cell? ⟨D, 2, none⟩ = some (.int .i64 0) := hb.cell_ 2 (by simp [hf])
  have c3 : w.cell? ⟨D, 3, none⟩ = some (.bool m.dead) := hb.cell_ 3 rfl
  have f3 := hb.frozen 3
  have Hb := hid hb
  have Hf := hid hf
  clear hb hf
  go_enter Try.func39, Try.ntmps39
  go_wp2
  go_ret
  refine ⟨rfl, ?_, chg_set _ _ _⟩
  have := h.fields hm Hb.out (chg_set D 3 (.bool true)) (Hb.out.set_ 3 (.bool true)) h.f1 h.f2
  exact this

set_option maxHeartbeats 400000 in
theorem burn_yes (D : Nat) (F G : Nat → Prop) (m : MDev) (w : World) (h : DevAt w D F G m) (hf : m.fuse ≠ 0) :
    Calls Try.prog 39 #[.pointer (some ⟨D, 0, none⟩)] w fun e w' => e = .returned (.int .i64 0) ∧ DevAt w' D F G m.lit ∧ Chg (· = D) w w' := by
  obtain ⟨lv, cv, ls, ws, hb, hm⟩ := h.mem
  obtain ⟨_, _, c2, _, c4⟩ := blk5 hb
  have f2 := hb.frozen 2
  have f4 := hb.frozen 4
  have Hb := hid hb
  have hz : (m.fuse == 0) = false := beq_eq_false_iff_ne.2 hf
  have hlo := h.f1
  have hhi := h.f2
  clear hb hf
  by_cases hp : 0 < m.fuse
  · go_enter Try.func39, Try.ntmps39
    go_wp2
    go_ret
    refine ⟨rfl, ?_, chg_set2 _ _ _ _ _⟩
    have := h.fields hm Hb.out (chg_set2 D 2 4 (.int .i64 (m.fuse - 1)) (.int .i64 (wrap64 (m.calls + 1)))) (f := m.fuse - 1) (c := wrap64 (m.calls + 1)) (d := m.dead) ((Hb.out.set_ 2 _).set_ 4 _) (by omega) (by omega)
    have e : m.lit = { m with fuse := m.fuse - 1, dead := m.dead, calls := wrap64 (m.calls + 1) } := by simp [MDev.lit, hp]
    rw [e]; exact this
  · go_enter Try.func39, Try.ntmps39
    go_wp2
    go_ret
    refine ⟨rfl, ?_, chg_set _ _ _⟩
    have := h.fields hm Hb.out (chg_set D 4 (.int .i64 (wrap64 (m.calls + 1)))) (f := m.fuse) (c := wrap64 (m.calls + 1)) (d := m.dead) (Hb.out.set_ 4 _) h.f1 h.f2
    have e : m.lit = { m with fuse := m.fuse, dead := m.dead, calls := wrap64 (m.calls + 1) } := by simp [MDev.lit]; omega
    rw [e]; exact this


/-- a slice's value written out -/
theorem own_form {w : World} {base : Nat} {e : TypeId} {size n : Nat} {v : Value} {xs : List Value} (h : w.ownsRow base e size v n xs) : ∃ A c, v = .slice A n c ∧ Rd w size A n xs := by
  obtain ⟨h1, h2⟩ := h
  rcases h2 with ⟨rfl, rfl⟩ | ⟨g, cap, cur, rfl, hg, hh, r⟩
  · exact ⟨none, 0, rfl, h1, fun h => absurd h (by omega)⟩
  · refine ⟨_, _, rfl, Rd.of_own (base := base) (e := e) (c := cap) ⟨h1, .inr ⟨g, cap, cur, rfl, hg, hh, r⟩⟩⟩

set_option maxHeartbeats 800000 in
theorem write_dead (D : Nat) (F G : Nat → Prop) (m : MDev) (w : World) (h : DevAt w D F G m) (i : Int) (v : Value) (hd : m.dead = true) :
    Calls Try.prog 12 #[.pointer (some ⟨D, 0, none⟩), .int .i64 i, v] w fun e w' => e = .returned (.int .i64 50) ∧ w = w' := by
  obtain ⟨lv, cv, ls, ws, hb, hm⟩ := h.mem
  obtain ⟨_, _, _, c3, _⟩ := blk5 hb
  rw [hd] at c3
  clear hb hd
  go_enter Try.func12, Try.ntmps12
  go_wp2
  go_ret
  exact ⟨rfl, rfl⟩

set_option maxHeartbeats 800000 in
theorem write_arg (D : Nat) (F G : Nat → Prop) (m : MDev) (w : World) (h : DevAt w D F G m) (i : Int) (A : Option Addr) (n c : Nat) (hd : m.dead = false) (hi : i < 0 ∨ (m.l.length : Int) ≤ i ∨ n ≠ 128) :
    Calls Try.prog 12 #[.pointer (some ⟨D, 0, none⟩), .int .i64 i, .slice A n c] w fun e w' => e = .returned (.int .i64 1) ∧ w = w' := by
  obtain ⟨lv, cv, ls, ws, hb, hm⟩ := h.mem
  obtain ⟨LA, lc, rfl, _⟩ := own_form hm.ol
  obtain ⟨c0, _, _, c3, _⟩ := blk5 hb
  rw [hd] at c3
  clear hb hd
  have hn := h.n2
  by_cases h1 : i < 0
  · clear hi
    have hz : decide (i < 0) = true := by simpa using h1
    go_enter Try.func12, Try.ntmps12
    go_wp2
    go_ret
    exact ⟨rfl, rfl⟩
  · by_cases h2 : (m.l.length : Int) ≤ i
    · clear hi
      go_enter Try.func12, Try.ntmps12
      go_wp2
      go_ret
      exact ⟨rfl, rfl⟩
    · have h3 : ((n : Int) != 128) = true := by rw [bne_iff_ne]; omega
      clear hi
      go_enter Try.func12, Try.ntmps12
      go_wp2
      go_ret
      exact ⟨rfl, rfl⟩

theorem own_blk {w : World} {base : Nat} {e : TypeId} {size n g cap : Nat} {xs : List Value} (h : w.ownsRow base e size (.slice (some ⟨g, 0, none⟩) n cap) n xs) : base ≤ g ∧ ∃ cs, Blk w g e cs ∧ cs.toList.take (n * size) = xs := by
  rcases h.2 with ⟨h, _⟩ | ⟨g', cap', cur, h, hg, hh, _, _, _, ht⟩
  · cases h
  · injection h with h _ _
    injection h with h
    injection h with h
    subst h
    exact ⟨hg, cur, hh, ht⟩

theorem write_close {w w1 w2 w3 : World} {D : Nat} {F G : Nat → Prop} {m1 : MDev} {lv1 : Value} {CA : Option Addr} {cc : Nat} {ls1 ws1 : List Value} {i : Nat} {bs : List UInt8} {g2 cap2 gg cap : Nat}
    (H1 : DevAt w1 D F G m1) (H2 : Chg (· = D) w w1) (Hm : DevMem w1 F G m1.l m1.W lv1 (.slice CA m1.W.length cc) ls1 ws1)
    (Hb : Blk w1 D 70 #[lv1, .slice CA m1.W.length cc, .int .i64 m1.fuse, .bool m1.dead, .int .i64 m1.calls]) (hi : i < m1.l.length) (hbs : bs.length = 128)
    (hown2 : w2.ownsRow w1.heap.size 5 1 (.slice (some ⟨g2, 0, none⟩) 128 cap2) 128 (u8s bs)) (hbel2 : Below w1.heap.size w1 w2)
    (hown3 : w3.ownsRow 0 73 2 (.slice (some ⟨gg, 0, none⟩) (m1.W.length + 1) cap) (m1.W.length + 1) (ws1 ++ [.int .i64 i, .slice (some ⟨g2, 0, none⟩) 128 cap2]))
    (hgrow : (w2.alloc (.cells #[.int .i64 i, .slice (some ⟨g2, 0, none⟩) 128 cap2] 73)).grownBy w3 (Value.slice CA m1.W.length cc).ownBlock)
    (hat : (Value.slice CA m1.W.length cc).ownBlock = some gg ∨ gg = w2.heap.size + 1) (hlt : gg < w3.heap.size) :
    ∃ F' G', DevAt (w3.setCell ⟨D, 1, none⟩ (.slice (some ⟨gg, 0, none⟩) (m1.W.length + 1) cap)) D F' G' { m1 with W := m1.W ++ [(i, bs)] } ∧ (∀ i, F' i → F i ∨ w.heap.size ≤ i) ∧ (∀ i, G' i → G i ∨ w.heap.size ≤ i) ∧
      Chg F w (w3.setCell ⟨D, 1, none⟩ (.slice (some ⟨gg, 0, none⟩) (m1.W.length + 1) cap)) := by
  generalize hcv : Value.slice CA m1.W.length cc = cv at *
  have hs1 := H2.size
  have hs2 := hbel2.size
  have lD := Hb.lt
  -- what has changed since w2, since w1
  have k0 : Chg (fun k => k = D ∨ cv.ownBlock = some k) w2 w3 := ((Chg.refl _ _).alloc _).grown hgrow (fun k hk _ => .inr hk)
  have k2 : Chg (fun k => k = D ∨ cv.ownBlock = some k) w2 (w3.setCell ⟨D, 1, none⟩ (.slice (some ⟨gg, 0, none⟩) (m1.W.length + 1) cap)) := k0.setCell (p := ⟨D, 1, none⟩) (fun _ => .inl rfl) _
  have k1 : Chg (fun k => k = D ∨ cv.ownBlock = some k) w1 (w3.setCell ⟨D, 1, none⟩ (.slice (some ⟨gg, 0, none⟩) (m1.W.length + 1) cap)) := (Chg.of_below hbel2).trans k2
  have hty : ∀ k, (k = D ∨ cv.ownBlock = some k) → ∃ t cs, t ≠ 5 ∧ t ≠ 30 ∧ Blk w1 k t cs := by
    rintro k (rfl | hk)
    · exact ⟨70, _, by decide, by decide, Hb⟩
    · obtain ⟨cs, hcs⟩ := own_ty Hm.oc hk
      exact ⟨73, _, by decide, by decide, hcs⟩
  have hty5 : ∀ k, G k → (k = D ∨ cv.ownBlock = some k) → ∃ t cs, t ≠ 5 ∧ Blk w1 k t cs := fun k _ hk => by obtain ⟨t, cs, a, _, b⟩ := hty k hk; exact ⟨t, cs, a, b⟩
  obtain ⟨hg2, cs2, hb2, ht2⟩ := own_blk hown2
  -- the device's block
  have b3 : Blk w3 D 70 #[lv1, cv, .int .i64 m1.fuse, .bool m1.dead, .int .i64 m1.calls] := by
    refine ((Hb.below hbel2 lD).alloc _).grown hgrow ?_
    intro e
    obtain ⟨cs, hcs⟩ := own_ty Hm.oc e.symm
    exact hcs.ne_ Hb (by decide) rfl
  have b4 := b3.set_ 1 (.slice (some ⟨gg, 0, none⟩) (m1.W.length + 1) cap)
  have hwl : ws1.length = m1.W.length * 2 := Hm.oc.1
  refine ⟨fun k => (F k ∨ w.heap.size ≤ k) ∧ k < w3.heap.size, fun k => (G k ∨ w.heap.size ≤ k) ∧ k < w3.heap.size, ⟨⟨.inl H1.own, b3.lt⟩, fun k hk => by simpa [World.setCell] using hk.2, fun k hk => by simpa [World.setCell] using hk.2, H1.n1, H1.n2, H1.f1, H1.f2, ?_, lv1, .slice (some ⟨gg, 0, none⟩) (m1.W.length + 1) cap, ls1, ws1 ++ [.int .i64 i, .slice (some ⟨g2, 0, none⟩) 128 cap2], b4, ?_⟩, fun k hk => hk.1, fun k hk => hk.1, ?_⟩
  · intro j e he
    rw [List.getElem?_append] at he
    split at he
    · exact H1.wi j e he
    · simp [List.getElem?_singleton] at he
      obtain ⟨_, rfl⟩ := he
      exact hi
  · have hF : ∀ k, F k → (F k ∨ w.heap.size ≤ k) ∧ k < w3.heap.size := fun k hk => ⟨.inl hk, Nat.lt_of_lt_of_le (H1.lt k hk) (Nat.le_trans hs2 k0.size)⟩
    have hG : ∀ k, G k → (G k ∨ w.heap.size ≤ k) ∧ k < w3.heap.size := fun k hk => ⟨.inl hk, Nat.lt_of_lt_of_le (H1.lg k hk) (Nat.le_trans hs2 k0.size)⟩
    refine ⟨own_chg Hm.ol k1 ?_, fun g hg => hF g (Hm.fl g hg), ?_, ?_, ?_, ?_⟩
    · intro g hg hk
      obtain ⟨t, cs, _, ht, hcs⟩ := hty g hk
      obtain ⟨cs', hcs'⟩ := own_ty Hm.ol hg
      exact hcs.ne_ hcs' ht rfl
    · rw [List.length_append, List.length_singleton]
      refine own_chg hown3 (chg_set D 1 _) ?_
      intro g hg hk
      subst hk
      obtain ⟨cs', hcs'⟩ := own_ty hown3 hg
      exact hcs'.ne_ b3 (by decide) rfl
    · intro g hg
      have hg' : gg = g := by simpa [Value.ownBlock] using hg
      subst hg'
      refine ⟨?_, hlt⟩
      rcases hat with h | h
      · exact .inl (Hm.fc _ h)
      · exact .inr (by omega)
    · intro j b hj
      obtain ⟨v, hv, hs⟩ := Hm.sl j b hj
      exact ⟨v, hv, (hs.chg k1 hty5).mono hG⟩
    · intro j e he
      have he' : (m1.W ++ [(i, bs)])[j]? = some e := he
      rw [List.getElem?_append] at he'
      split at he'
      · rename_i hj
        obtain ⟨h1, v, hv, hs⟩ := Hm.sc j e he'
        refine ⟨?_, v, ?_, (hs.chg k1 hty5).mono hG⟩
        · rw [List.getElem?_append_left (by omega)]; exact h1
        · rw [List.getElem?_append_left (by omega)]; exact hv
      · rename_i hj
        simp [List.getElem?_singleton] at he'
        obtain ⟨h0, rfl⟩ := he'
        have hj' : j = m1.W.length := by omega
        subst hj'
        refine ⟨?_, .slice (some ⟨g2, 0, none⟩) 128 cap2, ?_, ?_⟩
        · rw [List.getElem?_append_right (by omega), show m1.W.length * 2 - ws1.length = 0 by omega]; rfl
        · rw [List.getElem?_append_right (by omega), show m1.W.length * 2 + 1 - ws1.length = 1 by omega]; rfl
        · refine ⟨hbs, g2, cap2, cs2, rfl, ⟨.inr (by omega), Nat.lt_of_lt_of_le hb2.lt k0.size⟩, hb2.chg k2 ?_, by simpa using ht2⟩
          intro hk
          obtain ⟨t, cs, ht, _, hcs⟩ := hty g2 hk
          have := hcs.lt
          omega
  · refine (H2.mono (fun k _ hk => ?_)).trans' k1 ?_
    · subst hk; exact H1.own
    · rintro k _ (rfl | hk)
      · exact H1.own
      · exact Hm.fc _ hk

theorem below_of_drew {B : Nat} {w w' : World} (h : Below B w.drew w') : Below B w w' := ⟨h.os, h.tape, h.output, h.size, h.block⟩

set_option maxHeartbeats 1600000 in
theorem write_fuse (D : Nat) (F G : Nat → Prop) (m : MDev) (w : World) (h : DevAt w D F G m) (i : Int) (A : Option Addr) (c : Nat) (hd : m.dead = false) (h0 : 0 ≤ i) (h1 : i < m.l.length) (hf : m.fuse = 0) :
    Calls Try.prog 12 #[.pointer (some ⟨D, 0, none⟩), .int .i64 i, .slice A 128 c] w fun e w' => e = .returned (.int .i64 50) ∧ DevAt w' D F G { m with dead := true } ∧ Chg (· = D) w w' := by
  obtain ⟨lv, cv, ls, ws, hb, hm⟩ := h.mem
  obtain ⟨LA, lc, rfl, _⟩ := own_form hm.ol
  obtain ⟨c0, _, _, c3, _⟩ := blk5 hb
  rw [hd] at c3
  have hn := h.n2
  have Hf := hid hf
  clear hb hd hf
  go_enter Try.func12, Try.ntmps12
  go_wp2_with fail
  refine (burn_no D F G m w h Hf.out).mono ?_
  rintro e w1 ⟨rfl, hq1, hq2⟩
  have H1 := hid hq1
  have H2 := hid hq2
  clear hq1 hq2
  go_wp2
  go_ret
  exact ⟨rfl, H1.out, H2.out⟩

set_option maxHeartbeats 1600000 in
theorem write_ok (D : Nat) (F G : Nat → Prop) (m : MDev) (w : World) (h : DevAt w D F G m) (i : Nat) (A : Option Addr) (c : Nat) (bs : List UInt8) (hd : m.dead = false) (h1 : i < m.l.length) (hf : m.fuse ≠ 0) (hr : Rd w 1 A 128 (u8s bs)) (hA : ∀ ad, A = some ad → ¬ ad.block = D) (hW : m.W.length ≤ 1000000) :
    Calls Try.prog 12 #[.pointer (some ⟨D, 0, none⟩), .int .i64 i, .slice A 128 c] w fun e w' => e = .returned (.int .i64 0) ∧ ∃ F' G', DevAt w' D F' G' { m.lit with W := m.W ++ [(i, bs)] } ∧ (∀ i, F' i → F i ∨ w.heap.size ≤ i) ∧ (∀ i, G' i → G i ∨ w.heap.size ≤ i) ∧ Chg F w w' := by
  obtain ⟨lv, cv, ls, ws, hb, hm⟩ := h.mem
  obtain ⟨LA, lc, rfl, _⟩ := own_form hm.ol
  obtain ⟨c0, _, _, c3, _⟩ := blk5 hb
  rw [hd] at c3
  have hn := h.n2
  have Hf := hid hf
  have Hr := hid hr
  clear hb hd hf hm hr
  obtain ⟨i0, hi, hz0, hz1, hz2⟩ := info_parts info73
  go_enter Try.func12, Try.ntmps12
  go_wp2_with fail
  refine (burn_yes D F G m w h Hf.out).mono ?_
  rintro e w1 ⟨rfl, hq1, hq2⟩
  obtain ⟨lv1, cv1, ls1, ws1, hb1, hm1⟩ := hq1.mem
  obtain ⟨CA, cc, rfl, _⟩ := own_form hm1.oc
  obtain ⟨_, d1, _, _, _⟩ := blk5 hb1
  have H1 := hid hq1
  have H2 := hid hq2
  have Hm := hid hm1
  have Hb := hid hb1
  have Hr1 : Hid (Rd w1 1 A 128 (u8s bs)) := hid (Hr.out.chg hq2 hA)
  have lD := hb1.lt
  have fD1 := hb1.frozen 1
  clear hq1 hq2 hm1 hb1
  have nD : (Value.slice CA m.lit.W.length cc).ownBlock ≠ some D := fun e => by
    obtain ⟨cs, hcs⟩ := own_ty Hm.out.oc e
    exact hcs.ne_ Hb.out (by decide) rfl
  have nD' := hid nD
  clear nD
  have hWl : m.lit.W.length ≤ 1000000 := hW
  clear c0 c3
  go_wp2_with fail
  go_region_law
    (first
      | ((refine step_append_lies _ (by rfl) _ _ _ (by rfl) 0 73 i0 _ 2 32 Try.underlying68 hi hz0 hz1 hz2 rfl (by omega) _ m.lit.W.length ws1 (by rfl) (hown1.alloc _) ⟨w2.heap.size, 0, none⟩ 1 1 [.int .i64 i, .slice (some ⟨g2, 0, none⟩) 128 cap2] (by rfl) (by rfl) (World.news_of_block (cs := #[.int .i64 i, .slice (some ⟨g2, 0, none⟩) 128 cap2]) (t := 73) (fr := (0, 0)) (heap_alloc_new w2 _)) (by simp [Value.oneCell']) (by omega) (by unfold maxLen; omega) (by omega) (by simp) (w2.heap.size + 1) (by simp) ?_); intro gg cap w3 hown3 hgrow hat hlt; have fD3 : w3.frozen? ⟨D, 1, none⟩ = false := (by rw [hgrow.frozen_far _ (by simp; omega) (Ne.symm nD'.out), World.frozen?_alloc_past _ _ _ lD2, hbel2.frozen (by exact lD)]; exact fD1); have cD3 : w3.cell? ⟨D, 1, none⟩ = some (.slice CA m.lit.W.length cc) := (by rw [hgrow.cell_far _ (by simp; omega) (Ne.symm nD'.out), World.cell?_alloc_past _ _ _ lD2, hbel2.cell (by exact lD)]; exact d1))
      | (go_simp; go_at_call 40
         refine (clone_u8 A 128 c (u8s bs) _ (by omega) (by omega) (by exact Hr1.out) (u8s_one bs)).mono ?_
         rintro e w2 ⟨g2, cap2, rfl, hown2, hbel2'⟩
         have hbel2 : Below w1.heap.size w1 w2 := below_of_drew hbel2'
         have hown1 : w2.ownsRow 0 73 2 (.slice CA m.lit.W.length cc) m.lit.W.length ws1 := own_chg Hm.out.oc (Chg.of_below hbel2) (S := fun _ => False) (fun _ _ h => h)
         have hsz2 : w1.heap.size ≤ w2.heap.size := hbel2.size
         have lD2 : D < w2.heap.size := Nat.lt_of_lt_of_le lD hsz2
         have d2 : w2.cell? ⟨D, 1, none⟩ = some (.slice CA m.lit.W.length cc) := (hbel2.cell (p := ⟨D, 1, none⟩) (by exact lD)).trans d1))
  all_goals go_wp2
  all_goals go_ret
  all_goals exact ⟨rfl, write_close H1.out H2.out Hm.out Hb.out h1 (by simpa [length_u8s] using Hr.out.1) hown2 hbel2 hown3 hgrow hat hlt⟩

end Go.Proofs.Ytjmcjbmnggecgaa
