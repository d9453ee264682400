/- Sync, Crash of the document's own device. -/
import Derived.Test.YtjmcjbmnggecgaaRefS
namespace Go.Proofs.Ytjmcjbmnggecgaa
open Go.RowKit
set_option maxRecDepth 100000
attribute [local go_sem ↓] Go.wp_at_zero Go.wp_at_succ

structure RSync (w1 wr : World) (R : Nat) (F : Nat → Prop) (l' : List (List UInt8)) (n : Nat) (W : List (Nat × List UInt8)) (L lc : Nat) (CA : Option Addr) (cc : Nat) : Prop where
  ne : L ≠ R
  len : l'.length = n
  mem : RefMem wr F l' W (.slice (some ⟨L, 0, none⟩) n lc) (.slice CA W.length cc)
  chg : Chg (fun x => x = L) w1 wr

theorem RSync.facts {w1 wr : World} {R : Nat} {F : Nat → Prop} {l' : List (List UInt8)} {n : Nat} {W : List (Nat × List UInt8)} {L lc C cc k : Nat} (h : RSync w1 wr R F l' n W L lc (some ⟨C, 0, none⟩) cc)
    {bd : Array Value} (hb : Blk w1 R 53 bd) (hk : k < W.length) (hwi : ∀ (i : Nat) e, W[i]? = some e → e.1 < n) :
    ∃ e1 eb, W[k]? = some (e1, eb) ∧ e1 < n ∧ Blk wr R 53 bd ∧ wr.cell? ⟨C, k * 2, none⟩ = some (.int .i64 (e1 : Int)) ∧ wr.cell? ⟨C, k * 2 + 1, none⟩ = some (.string ⟨eb.toArray⟩) ∧
      (∃ v, wr.cell? ⟨L, e1, none⟩ = some v) ∧ wr.frozen? ⟨L, e1, none⟩ = false ∧ L < wr.heap.size := by
  have hm := h.mem
  have he : W[k]? = some W[k] := List.getElem?_eq_getElem hk
  obtain ⟨q1, q2⟩ := wrs_at _ _ _ he
  have hi := hwi k _ he
  have hol := hm.ol
  rw [h.len] at hol
  have hls := hol.1
  obtain ⟨_, curL, hcurL, _⟩ := own_blk hol
  refine ⟨W[k].1, W[k].2, he, hi, hb.chg h.chg (fun e => h.ne e.symm), ?_, ?_, ⟨(strs l')[W[k].1]'(by omega), ?_⟩, hcurL.frozen _, hcurL.lt⟩
  · rw [hm.oc.cellAt _ (by omega)]; exact q1
  · rw [hm.oc.cellAt _ (by omega)]; exact q2
  · rw [hol.cellAt _ (by omega)]; exact List.getElem?_eq_getElem _

theorem RSync.step {w1 wr w' : World} {R : Nat} {F : Nat → Prop} {l' : List (List UInt8)} {n : Nat} {W : List (Nat × List UInt8)} {L lc : Nat} {CA : Option Addr} {cc : Nat} {e1 : Nat} {eb : List UInt8} (h : RSync w1 wr R F l' n W L lc CA cc)
    (hw : w' = (wr.setCell ⟨L, e1, none⟩ (.string ⟨eb.toArray⟩)).drew) : RSync w1 w' R F (l'.set e1 eb) n W L lc CA cc := by
  subst hw
  have hm := h.mem
  have hol := hm.ol
  rw [h.len] at hol
  have hk : Chg (fun x => x = L) wr ((wr.setCell ⟨L, e1, none⟩ (.string ⟨eb.toArray⟩)).drew) := ((Chg.refl (fun x => x = L) wr).setCell (p := ⟨L, e1, none⟩) (fun _ => rfl) _).drew
  obtain ⟨csL, hcsL⟩ := own_ty hol rfl
  refine ⟨h.ne, by simp [h.len], ⟨?_, hm.fl, own_chg hm.oc hk ?_, hm.fc⟩, h.chg.trans hk⟩
  · have := (hol.stored e1 (.string ⟨eb.toArray⟩)).1.drew
    have e : strs (l'.set e1 eb) = (strs l').set e1 (.string ⟨eb.toArray⟩) := by simp [strs, strV, List.map_set]
    rw [e]
    simpa [h.len] using this
  · rintro g hg rfl
    obtain ⟨cs', hcs'⟩ := own_ty hm.oc hg
    exact hcs'.ne_ hcsL (by decide) rfl

theorem RSync.close {w w1 wr : World} {R : Nat} {F : Nat → Prop} {m1 : MDev} {l' : List (List UInt8)} {L lc : Nat} {CA : Option Addr} {cc : Nat} (h : RSync w1 wr R F l' m1.l.length m1.W L lc CA cc)
    (H1 : RefAt w1 R F m1) (H2 : Chg F w w1) {cv : Value} (Hb : Blk w1 R 53 #[.slice (some ⟨L, 0, none⟩) m1.l.length lc, cv, .int .i64 m1.fuse, .bool m1.dead, .int .i64 m1.calls]) :
    RefAt (wr.setCell ⟨R, 1, none⟩ (.slice none 0 0)) R F { m1 with l := l', W := [] } ∧ Chg F w (wr.setCell ⟨R, 1, none⟩ (.slice none 0 0)) ∧ RefMem (wr.setCell ⟨R, 1, none⟩ (.slice none 0 0)) F l' [] (.slice (some ⟨L, 0, none⟩) m1.l.length lc) (.slice none 0 0) := by
  have hm := h.mem
  have hFL : F L := hm.fl L rfl
  have hbr := Hb.chg h.chg (fun e => h.ne e.symm)
  have hk : Chg (fun x => x = R) wr (wr.setCell ⟨R, 1, none⟩ (.slice none 0 0)) := chg_set R 1 _
  have hc1 : Chg F w1 (wr.setCell ⟨R, 1, none⟩ (.slice none 0 0)) :=
    (h.chg.mono (S' := F) (by rintro i _ rfl; exact hFL)).trans (hk.mono (by rintro i _ rfl; exact H1.own))
  have hmm : RefMem (wr.setCell ⟨R, 1, none⟩ (.slice none 0 0)) F l' [] (.slice (some ⟨L, 0, none⟩) m1.l.length lc) (.slice none 0 0) := by
    refine ⟨own_chg hm.ol hk ?_, hm.fl, World.ownsRow_nil _ _ _ _, fun g hg => by simp [Value.ownBlock] at hg⟩
    intro g hg hgd
    have : L = g := by simpa [Value.ownBlock] using hg
    exact h.ne (this.trans hgd)
  exact ⟨⟨H1.own, fun i hi => Nat.lt_of_lt_of_le (H1.lt i hi) hc1.size, by rw [h.len]; exact H1.n1, by rw [h.len]; exact H1.n2, H1.f1, H1.f2, fun i e he => by simp at he, .slice (some ⟨L, 0, none⟩) m1.l.length lc, .slice none 0 0, hbr.set_ 1 _, hmm⟩, H2.trans hc1, hmm⟩

theorem rsync_dead (R : Nat) (F : Nat → Prop) (m : MDev) (w : World) (h : RefAt w R F m) (hd : m.dead = true) :
    Calls Try.prog 24 #[.pointer (some ⟨R, 0, none⟩)] w fun e w' => e = .returned (.int .i64 50) ∧ w = w' := by
  obtain ⟨lv, cv, hb, hm⟩ := h.mem
  obtain ⟨_, _, _, c3, _⟩ := blk5 hb
  rw [hd] at c3
  clear hb hd
  go_enter Try.func24, Try.ntmps24
  go_wp2
  go_ret
  exact ⟨rfl, rfl⟩

theorem rsync_fuse (R : Nat) (F : Nat → Prop) (m : MDev) (w : World) (h : RefAt w R F m) (hd : m.dead = false) (hf : m.fuse = 0) :
    Calls Try.prog 24 #[.pointer (some ⟨R, 0, none⟩)] w fun e w' => e = .returned (.int .i64 50) ∧ RefAt w' R F { m with dead := true } ∧ Chg (· = R) w w' := by
  obtain ⟨lv, cv, hb, hm⟩ := h.mem
  obtain ⟨_, _, _, c3, _⟩ := blk5 hb
  rw [hd] at c3
  have Hf := hid hf
  clear hb hd hf
  go_enter Try.func24, Try.ntmps24
  go_wp2_with fail
  refine (rburn_no R F m w h Hf.out).mono ?_
  rintro e w1 ⟨rfl, hq1, hq2⟩
  have H1 := hid hq1
  have H2 := hid hq2
  clear hq1 hq2
  go_wp2
  go_ret
  exact ⟨rfl, H1.out, H2.out⟩

set_option maxHeartbeats 1600000 in
theorem rsync_ok (R : Nat) (F : Nat → Prop) (m : MDev) (w : World) (h : RefAt w R F m) (hd : m.dead = false) (hf : m.fuse ≠ 0) (hW : m.W.length ≤ 1000000) :
    Calls Try.prog 24 #[.pointer (some ⟨R, 0, none⟩)] w fun e w' => e = .returned (.int .i64 0) ∧ RefAt w' R F { m.lit with l := applyW m.l m.W, W := [] } ∧ Chg F w w' := by
  obtain ⟨lv, cv, hb, hm⟩ := h.mem
  obtain ⟨c0, _, _, c3, _⟩ := blk5 hb
  rw [hd] at c3
  have Hf := hid hf
  clear hb hd hf hm
  go_enter Try.func24, Try.ntmps24
  go_wp2_with fail
  refine (rburn_yes R F m w h Hf.out).mono ?_
  rintro e w1 ⟨rfl, hq1, hq2⟩
  obtain ⟨lv1, cv1, hb1, hm1⟩ := hq1.mem
  obtain ⟨LA, lc, rfl, _⟩ := own_form hm1.ol
  obtain ⟨CA, cc, rfl, _⟩ := own_form hm1.oc
  have nl := hq1.n1
  obtain ⟨L, rfl⟩ : ∃ L, LA = some ⟨L, 0, none⟩ := by
    obtain ⟨g, cap, hv, _⟩ := hm1.ol.form (by omega)
    injection hv with hv _ _
    exact ⟨g, hv⟩
  obtain ⟨d0, d1, _, _, d4⟩ := blk5 hb1
  have H1 := hid hq1
  have H2 := hid hq2
  have Hm := hid hm1
  have Hb := hid hb1
  have lD := hb1.lt
  have hWl : m.fz.W.length ≤ 1000000 := hW
  have nD : Hid (L ≠ R) := hid (by
    obtain ⟨cs, hcs⟩ := own_ty hm1.ol rfl
    exact hcs.ne_ hb1 (by decide))
  have hnl := hq1.n2
  clear hq1 hq2 hm1 hb1 c0 c3
  go_wp2_with fail
  go_loopw [4] (fun i wr => ∃ k : Nat, k ≤ m.fz.W.length ∧ i = .int .i64 k ∧ RSync w1 wr R F (applyW m.fz.l (m.fz.W.take k)) m.fz.l.length m.fz.W L lc CA cc) (fun i _ => m.fz.W.length - (intOf i).toNat)
  case atStart => exact ⟨0, Nat.zero_le _, rfl, nD.out, rfl, Hm.out, Chg.refl _ _⟩
  case round =>
    obtain ⟨k, hk, rfl, hR⟩ := hrel
    by_cases hlt : k < m.fz.W.length
    · obtain ⟨C, rfl⟩ : ∃ C, CA = some ⟨C, 0, none⟩ := by
        obtain ⟨g, cap, hv, _⟩ := Hm.out.oc.form (by omega)
        injection hv with hv _ _
        exact ⟨g, hv⟩
      obtain ⟨e1, eb, he, hi, hbr, r0, r1, ⟨vo, r2⟩, r3, r4⟩ := hR.facts Hb.out hlt H1.out.wi
      have He := hid he
      have Hbr := hid hbr
      have HR := hid hR
      obtain ⟨rd0, rd1, _, _, _⟩ := blk5 hbr
      have hi1 : (0 : Int) ≤ (e1 : Int) := Int.natCast_nonneg _
      have hi2 : (e1 : Int) < (m.fz.l.length : Int) := by omega
      have lDr := hbr.lt
      clear he hbr hR d0 d1 d4
      go_wp2
      go_region
      go_wp2
      go_roundw
      case rel =>
        refine ⟨k + 1, by omega, by go_num, ?_⟩
        rw [take_snoc' _ _ _ He.out, applyW_snoc]
        exact HR.out.step rfl
      case measure => simp [intOf]; omega
    · have hk' : k = m.fz.W.length := by omega
      have Hk := hid hk'
      have hbr := Hb.out.chg hR.chg (fun e => hR.ne e.symm)
      obtain ⟨_, rd1, _, _, rd4⟩ := blk5 hbr
      have rf1 := hbr.frozen 1
      have rf4 := hbr.frozen 4
      have HR := hid hR
      have Hbr := hid hbr
      clear hk' hbr hR d0 d1 d4
      go_wp2
      go_ret
      have hR := HR.out
      rw [Hk.out, List.take_length] at hR
      obtain ⟨a, b, c⟩ := hR.close H1.out (H2.out.mono (by rintro i _ rfl; exact H1.out.own)) Hb.out
      have hb1 := Hbr.out.set_ 1 (.slice none 0 0)
      exact ⟨rfl, a.fields c hb1 (chg_set R 4 _) (hb1.set_ 4 _) (f := m.fz.fuse) (d := m.dead) (c := wrap64 (m.calls + 1)) a.f1 a.f2, b.trans ((chg_set R 4 _).mono (by rintro i _ rfl; exact h.own))⟩

set_option maxHeartbeats 1600000 in
theorem rcrash_any (R : Nat) (F : Nat → Prop) (m : MDev) (w : World) (h : RefAt w R F m) (hW : m.W.length ≤ 1000000) (KA : Option Addr) (kc : Nat) (ks : List Bool) (hr : Rd w 1 KA ks.length (bls ks)) (hA : 0 < ks.length → ∀ ad, KA = some ad → ¬ F ad.block) (hks : ks.length ≤ 9223372036854775807) :
    Calls Try.prog 25 #[.pointer (some ⟨R, 0, none⟩), .slice KA ks.length kc] w fun e w' => e = .returned (.tuple #[]) ∧ RefAt w' R F { m with l := applyK m.l m.W ks m.W.length, W := [], dead := false, fuse := -1 } ∧ Chg F w w' := by
  obtain ⟨lv1, cv1, hb1, hm1⟩ := h.mem
  obtain ⟨LA, lc, rfl, _⟩ := own_form hm1.ol
  obtain ⟨CA, cc, rfl, _⟩ := own_form hm1.oc
  have nl := h.n1
  obtain ⟨L, rfl⟩ : ∃ L, LA = some ⟨L, 0, none⟩ := by
    obtain ⟨g, cap, hv, _⟩ := hm1.ol.form (by omega)
    injection hv with hv _ _
    exact ⟨g, hv⟩
  obtain ⟨d0, d1, _, _, _⟩ := blk5 hb1
  have Hm := hid hm1
  have Hb := hid hb1
  have Hr := hid hr
  have lD := hb1.lt
  have nD : Hid (L ≠ R) := hid (by
    obtain ⟨cs, hcs⟩ := own_ty hm1.ol rfl
    exact hcs.ne_ hb1 (by decide))
  have hnl := h.n2
  clear hm1 hb1 hr
  go_enter Try.func25, Try.ntmps25
  go_wp2_with fail
  go_loopw [4] (fun i wr => ∃ k : Nat, k ≤ m.W.length ∧ i = .int .i64 k ∧ RSync w wr R F (applyK m.l m.W ks k) m.l.length m.W L lc CA cc) (fun i _ => m.W.length - (intOf i).toNat)
  case atStart => exact ⟨0, Nat.zero_le _, rfl, nD.out, rfl, Hm.out, Chg.refl _ _⟩
  case round =>
    obtain ⟨k, hk, rfl, hR⟩ := hrel
    by_cases hlt : k < m.W.length
    · obtain ⟨C, rfl⟩ : ∃ C, CA = some ⟨C, 0, none⟩ := by
        obtain ⟨g, cap, hv, _⟩ := Hm.out.oc.form (by omega)
        injection hv with hv _ _
        exact ⟨g, hv⟩
      obtain ⟨e1, eb, he, hi, hbr, r0, r1, ⟨vo, r2⟩, r3, r4⟩ := hR.facts Hb.out hlt h.wi
      have He := hid he
      have Hbr := hid hbr
      have HR := hid hR
      obtain ⟨rd0, rd1, _, _, _⟩ := blk5 hbr
      have hi1 : (0 : Int) ≤ (e1 : Int) := Int.natCast_nonneg _
      have hi2 : (e1 : Int) < (m.l.length : Int) := by omega
      have lDr := hbr.lt
      clear he hbr hR d0 d1
      by_cases hkk : k < ks.length
      · obtain ⟨kb, ko, rfl, hkb, hkc⟩ := Hr.out.lit (by omega)
        have q0 : (bls ks)[k]? = some (.bool (ks.getD k false)) := by simp [bls, hkk]
        have q1 : wr.cell? ⟨kb, ko + k, none⟩ = some (.bool (ks.getD k false)) := by
          rw [HR.out.chg.cell (p := ⟨kb, ko + k, none⟩) hkb (fun e => hA (by omega) _ rfl (by have := Hm.out.fl L rfl; rw [show kb = L from e]; exact this))]
          exact hkc k _ q0
        have hkb' := Nat.lt_of_lt_of_le hkb HR.out.chg.size
        have hk1 : (0 : Int) ≤ (k : Int) := Int.natCast_nonneg _
        have hk2 : (k : Int) < (ks.length : Int) := by omega
        clear q0 hkc
        obtain ⟨b, hb⟩ : ∃ b, b = ks.getD k false := ⟨_, rfl⟩
        rw [← hb] at q1
        have HB := hid hb
        clear hb
        cases b
        · go_wp2
          go_roundw
          case rel =>
            refine ⟨k + 1, by omega, by go_num, ?_⟩
            rw [applyK_no _ _ _ _ HB.out.symm]
            exact HR.out
          case measure => simp [intOf]; omega
        · go_wp2
          go_region
          go_wp2
          go_roundw
          case rel =>
            refine ⟨k + 1, by omega, by go_num, ?_⟩
            rw [applyK_yes _ _ _ _ _ He.out HB.out.symm]
            exact HR.out.step rfl
          case measure => simp [intOf]; omega
      · have hno : ks.getD k false = false := by rw [List.getD_eq_getElem?_getD, List.getElem?_eq_none (by omega)]; rfl
        have Hno := hid hno
        clear hno
        have hz : decide (k < ks.length) = false := by simp; omega
        go_wp2
        go_roundw
        case rel =>
          refine ⟨k + 1, by omega, by go_num, ?_⟩
          rw [applyK_no _ _ _ _ Hno.out]
          exact HR.out
        case measure => simp [intOf]; omega
    · have hk' : k = m.W.length := by omega
      have Hk := hid hk'
      have hbr := Hb.out.chg hR.chg (fun e => hR.ne e.symm)
      obtain ⟨_, rd1, rd2, rd3, _⟩ := blk5 hbr
      have rf1 := hbr.frozen 1
      have rf2 := hbr.frozen 2
      have rf3 := hbr.frozen 3
      have HR := hid hR
      have Hbr := hid hbr
      clear hk' hbr hR d0 d1
      go_wp2
      go_end0
      have hR := HR.out
      rw [Hk.out] at hR
      obtain ⟨a, b, c⟩ := hR.close h (Chg.refl F w) Hb.out
      have hb1 := Hbr.out.set_ 1 (.slice none 0 0)
      exact ⟨rfl, a.fields c hb1 (chg_set2 R 3 2 _ _) ((hb1.set_ 3 _).set_ 2 _) (by decide) (by decide), b.trans ((chg_set2 R 3 2 _ _).mono (by rintro i _ rfl; exact h.own))⟩
end Go.Proofs.Ytjmcjbmnggecgaa
