/- Read of the device. -/
import Derived.Test.YtjmcjbmnggecgaaDevC
namespace Go.Proofs.Ytjmcjbmnggecgaa
open Go.RowKit
set_option maxRecDepth 100000

theorem size5 : (Try.prog.info? 5).map (·.size) = some 1 := by kernel_rfl
theorem make128 (W : World) : (Instr.makeSlice 30 (.int .i64 128) (.int .i64 128)).run Try.prog W = .ok (.slice (some ⟨W.heap.size, 0, none⟩) 128 128) (W.alloc (.cells (u8s zeros).toArray 5)) := by kernel_rfl

/-- a sector's bytes as they are read: the last write that waits, else what lasts -/
def getW (s : List UInt8) (W : List (Nat × List UInt8)) (i : Nat) : List UInt8 := W.foldl (fun s e => if e.1 = i then e.2 else s) s
theorem getW_snoc (s : List UInt8) (W : List (Nat × List UInt8)) (i : Nat) (e : Nat × List UInt8) : getW s (W ++ [e]) i = if e.1 = i then e.2 else getW s W i := by simp [getW]
def MDev.get (m : MDev) (i : Nat) : List UInt8 := getW (m.l.getD i []) m.W i

theorem splice_all {α : Type} (L cs : List α) (h : L.length ≤ cs.length) : splice L 0 cs = cs := by
  simp [splice, List.drop_eq_nil_of_le h]
theorem splice_none {α : Type} (L : List α) : splice L 0 [] = L := by simp [splice]

theorem SecV.src {w : World} {F : Nat → Prop} {v : Value} {bs : List UInt8} (h : SecV w F v bs) :
    ∃ sA sn sc cs, v = .slice sA sn sc ∧ Rd w 1 sA sn cs ∧ sn ≤ 128 ∧ splice (u8s zeros) 0 cs = u8s bs ∧ (∀ u ∈ cs, u.oneCell' = true) ∧ bs.length = 128 ∧ (∀ ad, sA = some ad → F ad.block ∧ ∃ cs', Blk w ad.block 5 cs') := by
  rcases h with ⟨rfl, rfl⟩ | h
  · exact ⟨none, 0, 0, [], rfl, Rd.none_, by omega, splice_none _, by simp, by simp [zeros], fun ad h => by cases h⟩
  · obtain ⟨g, c, rfl, hF, hr⟩ := h.rd
    obtain ⟨hl, g', c', cs', hv, _, hb, _⟩ := h
    injection hv with hv _ _
    injection hv with hv
    injection hv with hv
    subst hv
    exact ⟨_, _, _, u8s bs, rfl, hr, Nat.le_refl _, splice_all _ _ (by simp [length_u8s, zeros, hl]), u8s_one bs, hl, fun ad e => by injection e with e; subst e; exact ⟨hF, cs', hb⟩⟩

set_option maxHeartbeats 800000 in
theorem read_dead (D : Nat) (F G : Nat → Prop) (m : MDev) (w : World) (h : DevAt w D F G m) (i : Int) (hd : m.dead = true) :
    Calls Try.prog 16 #[.pointer (some ⟨D, 0, none⟩), .int .i64 i] w fun e w' => e = .returned (.tuple #[.slice none 0 0, .int .i64 50]) ∧ w = w' := by
  obtain ⟨lv, cv, ls, ws, hb, hm⟩ := h.mem
  obtain ⟨_, _, _, c3, _⟩ := blk5 hb
  rw [hd] at c3
  clear hb hd
  go_enter Try.func16, Try.ntmps16
  go_wp2
  go_ret2
  exact ⟨rfl, rfl⟩

set_option maxHeartbeats 800000 in
theorem read_arg (D : Nat) (F G : Nat → Prop) (m : MDev) (w : World) (h : DevAt w D F G m) (i : Int) (hd : m.dead = false) (hi : i < 0 ∨ (m.l.length : Int) ≤ i) :
    Calls Try.prog 16 #[.pointer (some ⟨D, 0, none⟩), .int .i64 i] w fun e w' => e = .returned (.tuple #[.slice none 0 0, .int .i64 1]) ∧ w = w' := by
  obtain ⟨lv, cv, ls, ws, hb, hm⟩ := h.mem
  obtain ⟨LA, lc, rfl, _⟩ := own_form hm.ol
  obtain ⟨c0, _, _, c3, _⟩ := blk5 hb
  rw [hd] at c3
  clear hb hd
  have hn := h.n2
  by_cases h1 : i < 0
  · clear hi
    have hz : decide (i < 0) = true := by simpa using h1
    go_enter Try.func16, Try.ntmps16
    go_wp2
    go_ret2
    exact ⟨rfl, rfl⟩
  · have h2 : (m.l.length : Int) ≤ i := by omega
    clear hi
    go_enter Try.func16, Try.ntmps16
    go_wp2
    go_ret2
    exact ⟨rfl, rfl⟩

theorem Chg.of_below' {B : Nat} {w w' : World} (h : Below B w w') : Chg (fun i => B ≤ i) w w' := ⟨h.os, h.tape, h.output, h.size, fun i _ hn => h.block i (by omega)⟩
theorem getW_length (n : Nat) (W : List (Nat × List UInt8)) (i : Nat) (hW : ∀ (j : Nat) e, W[j]? = some e → e.2.length = n) : ∀ s : List UInt8, s.length = n → (getW s W i).length = n := by
  induction W with
  | nil => intro s h; exact h
  | cons e W ih =>
    intro s h
    simp only [getW, List.foldl_cons]
    refine ih (fun j e' he => hW (j + 1) e' he) _ ?_
    split
    · exact hW 0 e rfl
    · exact h

set_option maxHeartbeats 1600000 in
theorem read_ok (D : Nat) (F G : Nat → Prop) (m : MDev) (w : World) (h : DevAt w D F G m) (i : Nat) (hd : m.dead = false) (hi : i < m.l.length) (hW : m.W.length ≤ 1000000) :
    Calls Try.prog 16 #[.pointer (some ⟨D, 0, none⟩), .int .i64 i] w fun e w' => ∃ g, e = .returned (.tuple #[.slice (some ⟨g, 0, none⟩) 128 128, .int .i64 0]) ∧ w.heap.size ≤ g ∧ Blk w' g 5 (u8s (m.get i)).toArray ∧ DevAt w' D F G { m with calls := wrap64 (m.calls + 1) } ∧ Chg (· = D) w w' := by
  obtain ⟨lv, cv, ls, ws, hb, hm⟩ := h.mem
  obtain ⟨LA, lc, rfl, _⟩ := own_form hm.ol
  obtain ⟨CA, cc, rfl, _⟩ := own_form hm.oc
  have nl := h.n1
  obtain ⟨L, rfl⟩ : ∃ L, LA = some ⟨L, 0, none⟩ := by
    obtain ⟨g, cap, hv, _⟩ := hm.ol.form (by omega)
    injection hv with hv _ _
    exact ⟨g, hv⟩
  obtain ⟨c0, c1, _, c3, c4⟩ := blk5 hb
  rw [hd] at c3
  have f4 := hb.frozen 4
  obtain ⟨sv, hsv, hsec⟩ := hm.sl i _ (List.getElem?_eq_getElem hi)
  obtain ⟨sA, sn, sc, cs, rfl, hsr, hsn, hspl, hs1, hsl, hsb⟩ := hsec.src
  have cL : w.cell? ⟨L, i, none⟩ = some (.slice sA sn sc) := by rw [hm.ol.cellAt _ (by omega)]; exact hsv
  have nD : L ≠ D := by
    obtain ⟨cs, hcs⟩ := own_ty hm.ol rfl
    exact hcs.ne_ hb (by decide)
  have lD := hb.lt
  have lL := World.block_lt_of_cell? w _ cL
  have hnl := h.n2
  have Hb := hid hb
  have Hm := hid hm
  have Hspl := hid hspl
  have Hsr := hid hsr
  have Hsb := hid hsb
  have hm128 := make128
  have hi1 : (0 : Int) ≤ (i : Int) := Int.natCast_nonneg _
  have hi2 : (i : Int) < (m.l.length : Int) := by omega
  clear hb hm hd hspl hsec hsv hsr hsb
  have hk1 : Chg (· = D) w (w.setCell ⟨D, 4, none⟩ (.int .i64 (wrap64 (m.calls + 1)))) := chg_set D 4 _
  have Hk1 := hid hk1
  have hz1 : (w.setCell ⟨D, 4, none⟩ (.int .i64 (wrap64 (m.calls + 1)))).heap.size = w.heap.size := by simp [World.setCell]
  have Hz1 := hid hz1
  have nsA : Hid (∀ ad, sA = some ad → ad.block ≠ D) := hid fun ad e => by
    obtain ⟨_, cs', hb'⟩ := Hsb.out ad e
    exact hb'.ne_ Hb.out (by decide)
  have Hsr1 : Hid (Rd (w.setCell ⟨D, 4, none⟩ (.int .i64 (wrap64 (m.calls + 1)))) 1 sA sn cs) := hid (Hsr.out.chg hk1 nsA.out)
  have Hsr2 : Hid (Rd ((w.setCell ⟨D, 4, none⟩ (.int .i64 (wrap64 (m.calls + 1)))).alloc (.cells (u8s zeros).toArray 5)) 1 sA sn cs) := hid (Hsr1.out.keep (by simp) fun _ _ h => Below.heap_alloc _ _ _ h)
  have hcl := Hsr.out.1
  have Hg0 : Hid (((w.setCell ⟨D, 4, none⟩ (.int .i64 (wrap64 (m.calls + 1)))).alloc (.cells (u8s zeros).toArray 5)).heap[w.heap.size]? = some (.cells (u8s zeros).toArray 5 (0, 0))) := hid (by
    have := Blk.new (w.setCell ⟨D, 4, none⟩ (.int .i64 (wrap64 (m.calls + 1)))) 5 (u8s zeros).toArray
    rw [hz1] at this; exact this)
  have Hn0 : Hid (cs.length = Nat.min sn 128) := hid (by rw [hcl, Nat.mul_one]; exact (Nat.min_eq_left hsn).symm)
  have Hf0 : Hid (0 + cs.length ≤ (u8s zeros).length) := hid (by rw [hcl, length_u8s]; simp [zeros]; omega)
  have Hb0 : Hid (Below w.heap.size (w.setCell ⟨D, 4, none⟩ (.int .i64 (wrap64 (m.calls + 1)))) ((w.setCell ⟨D, 4, none⟩ (.int .i64 (wrap64 (m.calls + 1)))).alloc (.cells (u8s zeros).toArray 5))) := hid ((Below.refl _ _).alloc (by rw [hz1]; exact Nat.le_refl _) _)
  have Hp0 : Hid (0 < cs.length → (some (⟨w.heap.size, 0, none⟩ : Addr) = some ⟨w.heap.size, 0, none⟩) ∧ ∃ ad, sA = some ad ∧ ∀ j v, cs[j]? = some v → ((w.setCell ⟨D, 4, none⟩ (.int .i64 (wrap64 (m.calls + 1)))).alloc (.cells (u8s zeros).toArray 5)).cell? (ad.add j) = some v) := hid (fun hp => by
    obtain ⟨ad, e, _, hc⟩ := Hsr2.out.2 (by omega)
    exact ⟨rfl, ad, e, hc⟩)
  clear hk1 hz1 hcl
  go_enter Try.func16, Try.ntmps16
  go_wp2_with (refine wpList_copy_splice rfl (.tmp 32) (.tmp 39) 30 30 rfl 5 Try.underlying30 size5 _ _ 128 128 sn sc rfl rfl w.heap.size 0 (u8s zeros) 5 Hg0.out cs Hn0.out Hp0.out Hf0.out hs1 w.heap.size _ Hb0.out (Nat.le_refl _) ?_)
  intro w2 hg2 hb2
  have hA2 : DevAt w2 D F G { m with calls := wrap64 (m.calls + 1) } := by
    have h1 := h.fields Hm.out Hb.out Hk1.out (f := m.fuse) (d := m.dead) (c := wrap64 (m.calls + 1)) (Hb.out.set_ 4 _) h.f1 h.f2
    exact h1.below (by rw [Hz1.out]; exact hb2)
  have hk2 : Chg (· = D) w w2 := Hk1.out.trans ((Chg.of_below (by rw [Hz1.out]; exact hb2)))
  have hgl : Blk w2 w.heap.size 5 (u8s (getW (m.l.getD i []) (m.W.take 0) i)).toArray := by
    have e : getW (m.l.getD i []) (m.W.take 0) i = m.l[i] := by simp [getW, hi]
    have := hg2.out
    rw [Hspl.out] at this
    rw [e]
    exact this
  obtain ⟨lv2, cv2, ls2, ws2, hbb2, hmm2⟩ := hA2.mem
  obtain ⟨CA2, cc2, rfl, _⟩ := own_form hmm2.oc
  obtain ⟨_, e1, _, _, _⟩ := blk5 hbb2
  have HA2 := hid hA2
  have HK2 := hid hk2
  have HB2 := hid hbb2
  have HM2 := hid hmm2
  have HG2 := hid hgl
  have lw2 := hgl.lt
  clear hg2 hA2 hk2 hbb2 hmm2 hgl hb2 c0 c1 c3 c4 cL
  go_wp2_with fail
  go_loopw [46] (fun j wr => ∃ k : Nat, k ≤ m.W.length ∧ j = .int .i64 k ∧ Blk wr w.heap.size 5 (u8s (getW (m.l.getD i []) (m.W.take k) i)).toArray ∧ Below w.heap.size w2 wr) (fun j _ => m.W.length - (intOf j).toNat)
  case atStart => exact ⟨0, Nat.zero_le _, rfl, HG2.out, Below.refl _ _⟩
  case round =>
    obtain ⟨k, hk, rfl, hgr, hbr⟩ := hrel
    have Hgr := hid hgr
    have Hbr := hid hbr
    have hsz := hbr.size
    clear hgr hbr
    by_cases hlt : k < m.W.length
    · have hAr : DevAt wr D F G { m with calls := wrap64 (m.calls + 1) } := HA2.out.from_ (Chg.of_below' Hbr.out) (fun i hF => hF.elim (h.lt i) (h.lg i))
      obtain ⟨lvr, cvr, lsr, wsr, hbbr, hmmr⟩ := hAr.mem
      have hbbr' := HB2.out.chg (Chg.of_below' Hbr.out) (by simp; exact lD)
      have e' := congrArg Array.toList (hbbr.eq hbbr')
      simp at e'
      obtain ⟨_, rfl⟩ := e'
      obtain ⟨C, rfl⟩ : ∃ C, CA2 = some ⟨C, 0, none⟩ := by
        obtain ⟨g, cap, hv, _⟩ := hmmr.oc.form (Nat.lt_of_le_of_lt (Nat.zero_le _) hlt)
        injection hv with hv _ _
        exact ⟨g, hv⟩
      obtain ⟨n1, eb, hWk⟩ : ∃ n1 eb, m.W[k]? = some (n1, eb) := ⟨_, _, List.getElem?_eq_getElem hlt⟩
      obtain ⟨q1, ev, q2, q3⟩ := hmmr.sc k _ hWk
      obtain ⟨g3, c3, rfl, hF3, hr3⟩ := q3.rd
      have r0 : wr.cell? ⟨C, k * 2, none⟩ = some (.int .i64 (n1 : Int)) := by rw [hmmr.oc.cellAt _ (by have : k < m.W.length := hlt; show k * 2 < m.W.length * 2; omega)]; exact q1
      have r1 : wr.cell? ⟨C, k * 2 + 1, none⟩ = some (.slice (some ⟨g3, 0, none⟩) 128 c3) := by rw [hmmr.oc.cellAt _ (by have : k < m.W.length := hlt; show k * 2 + 1 < m.W.length * 2; omega)]; exact q2
      have HWk := hid hWk
      have Hr3 := hid hr3
      have hlb : eb.length = 128 := q3.1
      have lg3 := h.lg g3 hF3
      clear q1 q2 q3 hAr hmmr hbbr hbbr' hWk hr3 e1
      by_cases hni : n1 = i
      · have hz : ((n1 : Int) == (i : Int)) = true := by simp [hni]
        have Hni := hid hni
        clear hni
        have Hcur : Hid ((getW (m.l.getD i []) (m.W.take k) i).length = 128) := hid (getW_length 128 _ _ (fun j e he => by
            have : m.W[j]? = some e := by rw [List.getElem?_take] at he; split at he; exact he; cases he
            obtain ⟨_, v, _, hs⟩ := Hm.out.sc j e this
            exact hs.1) _ (by simp [hi, hsl]))
        have Hg1 : Hid ((wr.alloc (.cells #[.int .i64 (n1 : Int), .slice (some ⟨g3, 0, none⟩) 128 c3] 73)).heap[w.heap.size]? = some (.cells (u8s (getW (m.l.getD i []) (m.W.take k) i)).toArray 5 (0, 0))) := hid (Hgr.out.alloc _)
        have Hn1 : Hid ((u8s eb).length = Nat.min 128 128) := hid (by rw [length_u8s, hlb]; rfl)
        have Hp1 : Hid (0 < (u8s eb).length → (some (⟨w.heap.size, 0, none⟩ : Addr) = some ⟨w.heap.size, 0, none⟩) ∧ ∃ ad, (some (⟨g3, 0, none⟩ : Addr)) = some ad ∧ ∀ j v, (u8s eb)[j]? = some v → (wr.alloc (.cells #[.int .i64 (n1 : Int), .slice (some ⟨g3, 0, none⟩) 128 c3] 73)).cell? (ad.add j) = some v) := hid (fun _ => by
          obtain ⟨ad, e, _, hc⟩ := (Hr3.out.keep (w' := wr.alloc (.cells #[.int .i64 (n1 : Int), .slice (some ⟨g3, 0, none⟩) 128 c3] 73)) (by simp) fun _ _ h => Below.heap_alloc _ _ _ h).2 (by omega)
          exact ⟨rfl, ad, e, hc⟩)
        have Hf1 : Hid (0 + (u8s eb).length ≤ (u8s (getW (m.l.getD i []) (m.W.take k) i)).length) := hid (by rw [length_u8s, length_u8s, Hcur.out, hlb]; omega)
        go_wp2_with (refine wpList_copy_splice rfl (.tmp 54) (.tmp 56) 30 30 rfl 5 Try.underlying30 size5 _ _ 128 128 128 c3 rfl rfl w.heap.size 0 (u8s (getW (m.l.getD i []) (m.W.take k) i)) 5 Hg1.out (u8s eb) Hn1.out Hp1.out Hf1.out (u8s_one eb) w.heap.size _ (Below.refl _ _) (Nat.le_refl _) ?_)
        intro w4 hg4 hb4
        go_wp2
        go_roundw
        case rel =>
          refine ⟨k + 1, by omega, by go_num, ?_, ?_⟩
          · have := hg4.out
            have hcu := Hcur.out
            rw [List.getD_eq_getElem?_getD, List.getElem?_eq_getElem hi, Option.getD_some] at hcu
            rw [splice_all _ _ (by rw [length_u8s, length_u8s, hlb]; omega)] at this
            rw [take_snoc' _ _ _ HWk.out, getW_snoc, if_pos Hni.out]
            exact this
          · exact (Hbr.out.alloc (by omega) _).trans hb4
        case measure => simp [intOf]; omega
      · have hz : ((n1 : Int) == (i : Int)) = false := by simp; omega
        have Hni := hid hni
        clear hni
        go_wp2
        go_roundw
        case rel =>
          refine ⟨k + 1, by omega, by go_num, ?_, ?_⟩
          · rw [take_snoc' _ _ _ HWk.out, getW_snoc, if_neg Hni.out]
            exact Hgr.out.alloc _
          · exact Hbr.out.alloc (by omega) _
        case measure => simp [intOf]; omega
    · have Hk : Hid (k = m.W.length) := hid (by omega)
      go_wp2
      go_ret2
      refine ⟨_, rfl, Nat.le_refl _, ?_, ?_, ?_⟩
      · have := Hgr.out
        rw [Hk.out, List.take_length] at this
        exact this
      · exact HA2.out.from_ (Chg.of_below' Hbr.out) (fun i hF => hF.elim (h.lt i) (h.lg i))
      · exact HK2.out.trans' (Chg.of_below' Hbr.out) (fun i hi hF => by omega)
end Go.Proofs.Ytjmcjbmnggecgaa
