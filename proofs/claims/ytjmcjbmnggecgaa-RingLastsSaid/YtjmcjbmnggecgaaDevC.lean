/- Crash of the device. -/
import Derived.Test.YtjmcjbmnggecgaaDevS
import Derived.Test.YtjmcjbmnggecgaaLaw
namespace Go.Proofs.Ytjmcjbmnggecgaa
open Go.RowKit
set_option maxRecDepth 100000

theorem Rd.lit {w : World} {A : Option Addr} {n : Nat} {xs : List Value} (h : Rd w 1 A n xs) (hn : 0 < n) : ∃ b o, A = some ⟨b, o, none⟩ ∧ b < w.heap.size ∧ ∀ j u, xs[j]? = some u → w.cell? ⟨b, o + j, none⟩ = some u := by
  obtain ⟨ad, u, rfl, hlt, hu, hc⟩ := h.at_ hn
  obtain ⟨b, o, s⟩ := ad
  have hs : s = none := by
    cases s with
    | none => rfl
    | some s =>
      simp only [Addr.add, if_pos] at hc
      unfold World.cell? at hc
      split at hc
      · simp at hc
      · cases hc
  subst hs
  refine ⟨b, o, rfl, hlt, fun j u hu => ?_⟩
  have := (h.2 hn)
  obtain ⟨ad, e, _, hc⟩ := this
  injection e with e; subst e
  have := hc j u hu
  rwa [Addr.add_lit] at this

/-- of the writes that wait those that are told to be kept, up to the k-th -/
def applyK (l : List (List UInt8)) (W : List (Nat × List UInt8)) (ks : List Bool) (k : Nat) : List (List UInt8) :=
  (List.range k).foldl (fun l i => if ks.getD i false then (match W[i]? with | some e => l.set e.1 e.2 | none => l) else l) l
theorem applyK_zero (l : List (List UInt8)) (W : List (Nat × List UInt8)) (ks : List Bool) : applyK l W ks 0 = l := rfl
theorem applyK_yes (l : List (List UInt8)) (W : List (Nat × List UInt8)) (ks : List Bool) (k : Nat) (e : Nat × List UInt8) (he : W[k]? = some e) (hk : ks.getD k false = true) : applyK l W ks (k + 1) = (applyK l W ks k).set e.1 e.2 := by
  simp [applyK, List.range_succ, he] at *
  simp [hk]
theorem applyK_no (l : List (List UInt8)) (W : List (Nat × List UInt8)) (ks : List Bool) (k : Nat) (hk : ks.getD k false = false) : applyK l W ks (k + 1) = applyK l W ks k := by
  simp [applyK, List.range_succ] at *
  simp [hk]

/-- nothing but a new block -/
theorem SyncRel.same {w1 wr : World} {D : Nat} {F G : Nat → Prop} {l' : List (List UInt8)} {n : Nat} {W : List (Nat × List UInt8)} {L lc : Nat} {CA : Option Addr} {cc : Nat} {ws : List Value} (h : SyncRel w1 wr D F G l' n W L lc CA cc ws)
    (o : Obj) : SyncRel w1 (wr.alloc o) D F G l' n W L lc CA cc ws := by
  obtain ⟨ls, hm⟩ := h.mem
  have hk : Chg (fun _ => False) wr (wr.alloc o) := (Chg.refl _ wr).alloc o
  exact ⟨h.ne, h.len, ⟨ls, hm.chg hk fun _ _ h => h.elim⟩, h.chg.alloc o⟩

/-- all goes but what lasts -/
theorem SyncRel.crash {w wr : World} {D : Nat} {F G : Nat → Prop} {m1 : MDev} {l' : List (List UInt8)} {L lc : Nat} {CA : Option Addr} {cc : Nat} {ws : List Value} (h : SyncRel w wr D F G l' m1.l.length m1.W L lc CA cc ws)
    (H1 : DevAt w D F G m1) {cv : Value} (Hb : Blk w D 70 #[.slice (some ⟨L, 0, none⟩) m1.l.length lc, cv, .int .i64 m1.fuse, .bool m1.dead, .int .i64 m1.calls]) :
    DevAt (((wr.setCell ⟨D, 1, none⟩ (.slice none 0 0)).setCell ⟨D, 3, none⟩ (.bool false)).setCell ⟨D, 2, none⟩ (.int .i64 (-1))) D F G { m1 with l := l', W := [], dead := false, fuse := -1 } ∧ Chg F w (((wr.setCell ⟨D, 1, none⟩ (.slice none 0 0)).setCell ⟨D, 3, none⟩ (.bool false)).setCell ⟨D, 2, none⟩ (.int .i64 (-1))) := by
  obtain ⟨h1, h2⟩ := h.close H1 (Chg.refl F w) Hb
  have hbr := Hb.chg h.chg (fun e => h.ne e.symm)
  have hb1 := hbr.set_ 1 (.slice none 0 0)
  have hk : Chg (fun x => x = D) (wr.setCell ⟨D, 1, none⟩ (.slice none 0 0)) (((wr.setCell ⟨D, 1, none⟩ (.slice none 0 0)).setCell ⟨D, 3, none⟩ (.bool false)).setCell ⟨D, 2, none⟩ (.int .i64 (-1))) := chg_set2 D 3 2 _ _
  obtain ⟨lv, cv', ls, ws', hb', hm'⟩ := h1.mem
  have e := Blk.eq hb' hb1
  have e' := congrArg Array.toList e
  simp at e'
  obtain ⟨rfl, rfl⟩ := e'
  exact ⟨h1.fields hm' hb' hk ((hb'.set_ 3 _).set_ 2 _) (by decide) (by decide), h2.trans (hk.mono (by rintro i _ rfl; exact H1.own))⟩

set_option maxHeartbeats 1600000 in
theorem crash_any (D : Nat) (F G : Nat → Prop) (m : MDev) (w : World) (h : DevAt w D F G m) (hW : m.W.length ≤ 1000000) (KA : Option Addr) (kc : Nat) (ks : List Bool) (hr : Rd w 1 KA ks.length (bls ks)) (hA : 0 < ks.length → ∀ ad, KA = some ad → ¬ F ad.block) (hks : ks.length ≤ 9223372036854775807) :
    Calls Try.prog 15 #[.pointer (some ⟨D, 0, none⟩), .slice KA ks.length kc] w fun e w' => e = .returned (.tuple #[]) ∧ DevAt w' D F G { m with l := applyK m.l m.W ks m.W.length, W := [], dead := false, fuse := -1 } ∧ Chg F w w' := by
  obtain ⟨lv1, cv1, ls1, ws1, hb1, hm1⟩ := h.mem
  obtain ⟨LA, lc, rfl, _⟩ := own_form hm1.ol
  obtain ⟨CA, cc, rfl, _⟩ := own_form hm1.oc
  have nl := h.n1
  obtain ⟨L, rfl⟩ : ∃ L, LA = some ⟨L, 0, none⟩ := by
    obtain ⟨g, cap, hv, _⟩ := hm1.ol.form (by omega)
    injection hv with hv _ _
    exact ⟨g, hv⟩
  obtain ⟨d0, d1, _, _, _⟩ := blk5 hb1
  have Hm := hid hm1
  have Hb := hid hb1
  have Hr := hid hr
  have lD := hb1.lt
  have fD1 := hb1.frozen 1
  have nD : Hid (L ≠ D) := hid (by
    obtain ⟨cs, hcs⟩ := own_ty hm1.ol rfl
    exact hcs.ne_ hb1 (by decide))
  have hnl := h.n2
  clear hm1 hb1 hr
  go_enter Try.func15, Try.ntmps15
  go_wp2_with fail
  go_loopw [11] (fun i wr => ∃ k : Nat, k ≤ m.W.length ∧ i = .int .i64 k ∧ SyncRel w wr D F G (applyK m.l m.W ks k) m.l.length m.W L lc CA cc ws1) (fun i _ => m.W.length - (intOf i).toNat)
  case atStart => exact ⟨0, Nat.zero_le _, rfl, nD.out, rfl, ⟨ls1, Hm.out⟩, Chg.refl _ _⟩
  case round =>
    obtain ⟨k, hk, rfl, hR⟩ := hrel
    by_cases hlt : k < m.W.length
    · obtain ⟨C, rfl⟩ : ∃ C, CA = some ⟨C, 0, none⟩ := by
        obtain ⟨g, cap, hv, _⟩ := Hm.out.oc.form (by omega)
        injection hv with hv _ _
        exact ⟨g, hv⟩
      obtain ⟨e1, eb, g, c, he, hi, hbr, r0, r1, hs, ⟨vo, r2⟩, r3, r4⟩ := hR.facts Hb.out hlt h.wi
      have He := hid he
      have Hs := hid hs
      have Hbr := hid hbr
      have HR := hid hR
      obtain ⟨rd0, _, _, _, _⟩ := blk5 hbr
      have hi1 : (0 : Int) ≤ (e1 : Int) := Int.natCast_nonneg _
      have hi2 : (e1 : Int) < (m.l.length : Int) := by omega
      have lDr := hbr.lt
      clear he hs hbr hR d0 d1
      by_cases hkk : k < ks.length
      · obtain ⟨kb, ko, rfl, hkb, hkc⟩ := Hr.out.lit (by omega)
        have q0 : (bls ks)[k]? = some (.bool (ks.getD k false)) := by simp [bls, hkk]
        have q1 : wr.cell? ⟨kb, ko + k, none⟩ = some (.bool (ks.getD k false)) := by
          rw [HR.out.chg.cell (p := ⟨kb, ko + k, none⟩) hkb (fun e => hA (by omega) _ rfl (by have := Hm.out.fl L rfl; rw [show kb = L from e]; exact this))]
          exact hkc k _ q0
        have hkb' := Nat.lt_of_lt_of_le hkb HR.out.chg.size
        have hk1 : (0 : Int) ≤ (k : Int) := Int.natCast_nonneg _
        have hk2 : (k : Int) < (ks.length : Int) := by omega
        clear q0 hkc
        obtain ⟨b, hb⟩ : ∃ b, b = ks.getD k false := ⟨_, rfl⟩
        rw [← hb] at q1
        have HB := hid hb
        clear hb
        cases b
        · go_wp2
          go_roundw
          case rel =>
            refine ⟨k + 1, by omega, by go_num, ?_⟩
            rw [applyK_no _ _ _ _ HB.out.symm]
            exact HR.out.same _
          case measure => simp [intOf]; omega
        · go_wp2
          go_region
          go_wp2
          go_roundw
          case rel =>
            refine ⟨k + 1, by omega, by go_num, ?_⟩
            rw [applyK_yes _ _ _ _ _ He.out HB.out.symm]
            exact HR.out.step hi Hs.out _
          case measure => simp [intOf]; omega
      · have hno : ks.getD k false = false := by rw [List.getD_eq_getElem?_getD, List.getElem?_eq_none (by omega)]; rfl
        have Hno := hid hno
        clear hno
        have hz : decide (k < ks.length) = false := by simp; omega
        go_wp2
        go_roundw
        case rel =>
          refine ⟨k + 1, by omega, by go_num, ?_⟩
          rw [applyK_no _ _ _ _ Hno.out]
          exact HR.out.same _
        case measure => simp [intOf]; omega
    · have hk' : k = m.W.length := by omega
      have Hk := hid hk'
      have hbr := Hb.out.chg hR.chg (fun e => hR.ne e.symm)
      obtain ⟨_, rd1, rd2, rd3, _⟩ := blk5 hbr
      have rf1 := hbr.frozen 1
      have rf2 := hbr.frozen 2
      have rf3 := hbr.frozen 3
      have HR := hid hR
      clear hk' hbr hR d0 d1
      go_wp2
      go_end0
      have hR := HR.out
      rw [Hk.out] at hR
      exact ⟨rfl, hR.crash h Hb.out⟩
end Go.Proofs.Ytjmcjbmnggecgaa
