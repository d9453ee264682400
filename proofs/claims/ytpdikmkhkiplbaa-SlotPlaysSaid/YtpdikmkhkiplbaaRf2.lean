/- The walk of the document's Bytes. Conditions: the records fit. -/
import Derived.Test.YtpdikmkhkiplbaaRf1
import Derived.Lib.AppendStr
namespace Go.Proofs.Ytpdikmkhkiplbaa
open Go.RowKit
set_option maxRecDepth 100000
set_option linter.unusedVariables false
set_option linter.unusedSimpArgs false

theorem own_of_blk {w : World} {g : Nat} {xs : List Value} {base n : Nat} (hb : Blk w g 5 xs.toArray) (hg : base ≤ g) (hn : xs.length = n) (hm : n ≤ 1000) : w.ownsRow base 5 1 (.slice (some ⟨g, 0, none⟩) n n) n xs :=
  ⟨by omega, .inr ⟨g, n, xs.toArray, rfl, hg, hb, Nat.le_refl _, by unfold maxLen; omega, by simp; omega, by rw [Nat.mul_one]; exact List.take_of_length_le (by simp; omega)⟩⟩
theorem own_cap {w : World} {base : Nat} {e : TypeId} {size n c : Nat} {A : Option Addr} {xs : List Value} (h : w.ownsRow base e size (.slice A n c) n xs) : n ≤ c := by
  rcases h.2 with ⟨h', h0⟩ | ⟨g, cap, cur, h', _, _, hle, _⟩
  · omega
  · injection h' with _ _ h'; omega
theorem own_block {w : World} {base : Nat} {e : TypeId} {size n g : Nat} {v : Value} {xs : List Value} (h : w.ownsRow base e size v n xs) (hg : v.ownBlock = some g) : base ≤ g ∧ g < w.heap.size := by
  obtain ⟨cs, hk⟩ := own_ty h hg
  refine ⟨?_, hk.lt⟩
  rcases h.2 with ⟨rfl, _⟩ | ⟨g', cap, cur, rfl, hb, _⟩
  · simp [Value.ownBlock] at hg
  · have : g' = g := by simpa [Value.ownBlock] using hg
    omega
theorem own_mono {w : World} {base base' : Nat} {e : TypeId} {size n : Nat} {v : Value} {xs : List Value} (h : w.ownsRow base e size v n xs) (hb : base' ≤ base) : w.ownsRow base' e size v n xs :=
  ⟨h.1, h.2.imp id fun ⟨g, cap, cur, e, hg, r⟩ => ⟨g, cap, cur, e, by omega, r⟩⟩

/-- two rows of bytes of the call's own making, and a page's box -/
structure ByS (w wr : World) (lv : Value) (next : Int) (o b : Value) (os bs : List UInt8) : Prop where
  be : Below w.heap.size w wr
  box : Blk wr w.heap.size 66 #[.int .i64 next, lv]
  out : wr.ownsRow (w.heap.size + 1) 5 1 o os.length (u8s os)
  body : wr.ownsRow (w.heap.size + 1) 5 1 b bs.length (u8s bs)
  ne : ∀ g, o.ownBlock = some g → b.ownBlock ≠ some g
section
variable {w wr wr' wx : World} {lv o b o' b' : Value} {next : Int} {os bs xs : List UInt8}
theorem ByS.below (h : ByS w wr lv next o b os bs) (hb : Below wr.heap.size wr wr') : ByS w wr' lv next o b os bs :=
  ⟨h.be.trans (hb.mono h.be.size), h.box.below hb h.box.lt, own_chg h.out (Chg.of_below hb) (fun _ _ h => h), own_chg h.body (Chg.of_below hb) (fun _ _ h => h), h.ne⟩
theorem ByS.app (h : ByS w wr lv next o b os bs) (hg : wr.grownBy wx o.ownBlock) (ho : wx.ownsRow (w.heap.size + 1) 5 1 o' (os.length + xs.length) (u8s os ++ u8s xs)) (hat : o'.ownBlock = o.ownBlock ∨ ∃ j, wr.heap.size ≤ j ∧ o'.ownBlock = some j) : ByS w wx lv next o' b (os ++ xs) bs := by
  have hB : ∀ g, o.ownBlock = some g → w.heap.size + 1 ≤ g := fun g hg => (own_block h.out hg).1
  refine ⟨h.be.trans ⟨hg.os, hg.tape, hg.output, hg.size, fun k hk => hg.block k (by have := h.be.size; omega) (fun e => by have := hB k e.symm; omega)⟩, h.box.grown hg (fun e => by have := hB _ e.symm; omega), ?_, own_chg h.body ((Chg.refl (fun g => o.ownBlock = some g) wr).grown hg (fun k hk _ => hk)) (fun g hb ho => h.ne g ho hb), fun g hg' hb => ?_⟩
  · rw [List.length_append, u8s_append]
    exact ho
  · rcases hat with hat | ⟨j, hj, hat⟩
    · exact h.ne g (hat ▸ hg') hb
    · rw [hat] at hg'
      injection hg' with e
      have := (own_block h.body hb).2
      omega
theorem ByS.other (h : ByS w wr lv next o b os bs) {g : Nat} {cs : Array Value} (hb : Blk wr g 70 cs) (hg : wr.grownBy wx o.ownBlock) : Blk wx g 70 cs :=
  hb.grown hg (fun e => by
    obtain ⟨cs', hk⟩ := own_ty h.out e.symm
    exact hb.ne_ hk (by decide) rfl)
/-- the body is laid anew, behind new bytes -/
theorem ByS.pre (h : ByS w wr lv next o b os bs) (hb : Below wr.heap.size wr wx) (ho : wx.ownsRow wr.heap.size 5 1 b' (xs.length + bs.length) (u8s xs ++ u8s bs)) : ByS w wx lv next o b' os (xs ++ bs) := by
  have h' := h.below hb
  refine ⟨h'.be, h'.box, h'.out, ?_, fun g hg hb' => ?_⟩
  · rw [List.length_append, u8s_append]
    exact own_mono ho (by have := h.box.lt; omega)
  · have h1 := (own_block h.out hg).2
    have h2 := (own_block ho hb').1
    omega
end
theorem str_size (r : List UInt8) : ByteArray.size ⟨r.toArray⟩ = r.length := by
  show r.toArray.size = _
  simp
theorem str_own {w : World} {base : Nat} {v : Value} {r : List UInt8} (h : w.ownsRow base 5 1 v r.length (Lib.strCells ⟨r.toArray⟩)) : w.ownsRow base 5 1 v r.length (u8s r) := by
  have e2 : Lib.strCells ⟨r.toArray⟩ = u8s r := by simp [Lib.strCells, u8s]
  rw [e2] at h
  exact h
theorem zeros4_rd (w : World) (g : Nat) (hg : g = w.heap.size) : Rd (w.alloc (.cells #[.int .u8 0, .int .u8 0, .int .u8 0, .int .u8 0] 5)) 1 (some ⟨g, 0, none⟩) 4 (u8s (List.replicate 4 0)) := by
  subst hg
  exact Rd.of_blk (xs := u8s (List.replicate 4 0)) (Blk.new w 5 _) (by simp [u8s])
theorem zeros1_rd (w : World) (g : Nat) (hg : g = w.heap.size) : Rd (w.alloc (.cells #[.int .u8 0] 5)) 1 (some ⟨g, 0, none⟩) 1 (u8s (List.replicate 1 0)) := by
  subst hg
  exact Rd.of_blk (xs := u8s (List.replicate 1 0)) (Blk.new w 5 _) (by simp [u8s])
theorem zeros_rd (w : World) (n : Nat) (h : n ≤ 4) : Rd (w.alloc (.cells (u8s (List.replicate n 0)).toArray 5)) 1 (some ⟨w.heap.size, 0, none⟩) n (u8s (List.replicate n 0)) :=
  Rd.of_blk (Blk.new w 5 _) (by simp [u8s])

set_option maxHeartbeats 6400000 in
theorem rbytes_any (A : Option Addr) (c : Nat) (m : Nat) (l : Recs) (w : World) (h : SRd w A l) (hm : m < 4294967296) (hf : 4 * l.length + sum l ≤ 498) :
    Calls Try.prog 35 #[.agg #[.int .i64 m, .slice A l.length c]] w fun e w' => ∃ v, e = .returned v ∧ OutB w.heap.size w' v (page m l.length (st l)) ∧ Below w.heap.size w w' := by
  obtain ⟨i5, hi5, hy0, hy1, hy2⟩ := info_parts info5
  have hbe0 : Below w.heap.size w (w.alloc (.cells #[.int .i64 m, .slice A l.length c] 66)) := (Below.refl _ _).alloc (Nat.le_refl _) _
  have HB0 := hid (Blk.new w 66 #[.int .i64 m, .slice A l.length c])
  have HBE0 := hid hbe0
  have HSR := hid h
  have hl124 : l.length ≤ 124 := by omega
  have htw := hid (two_any l.length (by omega))
  have hfo := hid (four_any m hm)
  clear h hbe0
  go_enter Try.func35, Try.ntmps35
  go_wp2_with fail
  generalize hw0 : w.alloc (.cells #[.int .i64 m, .slice A l.length c] 66) = w0
  rw [hw0] at HB0 HBE0
  obtain ⟨pc0, pc1, _⟩ := blk2 HB0.out
  clear hw0
  go_upto_region 1 with fail
  go_cut [3] (fun o wx => ByS w wx (.slice A l.length c) m o (.slice none 0 0) (two l.length ++ four m) [])
  case first => as_aux_lemma =>
    go_wp2_with fail
    go_region_held3 (fun w' => w'.cell? ⟨w.heap.size, 0, none⟩ = some (.int .i64 m) ∧ w'.cell? ⟨w.heap.size, 1, none⟩ = some (.slice A l.length c))
      (first
        | (exact ⟨pc0, pc1⟩)
        | (exact ⟨blk2a hb3, blk2b hb3⟩)
        | (exact ⟨blk2a hb2, blk2b hb2⟩)
        | (exact ⟨blk2a hb1, blk2b hb1⟩)
        | go_keep)
      (first
        | (go_simp; go_at_call 45; refine (hfo.out _).mono ?_; rintro e w2 ⟨rfl, hk2, hbe2⟩; have hb2 := hb1.below hbe2 hb1.lt)
        | (go_simp; go_at_call 44; refine (htw.out _).mono ?_; rintro e w1 ⟨rfl, hk1, hbe1⟩; have hb1 := HB0.out.below ⟨hbe1.os, hbe1.tape, hbe1.output, hbe1.size, hbe1.block⟩ HB0.out.lt)
        | ((refine step_append_any _ (by rfl) _ _ _ (by rfl) (w.heap.size + 1) 5 i5 _ 1 1 Try.underlying23 hi5 hy0 hy1 hy2 rfl (by omega) _ 2 (u8s (two l.length)) (by rfl) (own_of_blk (hk1.below hbe2 hk1.lt) (by have := HB0.out.lt; show w.heap.size + 1 ≤ w0.heap.size; omega) rfl (by omega)) _ 4 4 _ (by rfl) (Rd.of_blk hk2 rfl) (u8s_one _) (by unfold maxLen; omega) (by omega) (by have := HB0.out.lt; have := hbe1.size; have := hbe2.size; simp at *; omega) ?_); intro v3 w3 hown3 hg3 hat3; have hb3 := hb2.grown hg3 (by simp [Value.ownBlock]; have := HB0.out.lt; omega)))
    have hB2 : Below w.heap.size w w2 := (HBE0.out.drew.trans (hbe1.mono HBE0.out.size)).trans (hbe2.mono (Nat.le_trans HBE0.out.size hbe1.size))
    have hS2 : ByS w w2 (.slice A l.length c) m (.slice (some ⟨w0.drew.heap.size, 0, none⟩) 2 2) (.slice none 0 0) (two l.length) [] := ⟨hB2, hb2, own_of_blk (hk1.below hbe2 hk1.lt) (by have := HB0.out.lt; show w.heap.size + 1 ≤ w0.heap.size; omega) rfl (by omega), World.ownsRow_nil _ _ _ _, fun g _ h => by simp [Value.ownBlock] at h⟩
    have HS3 := hid (hS2.app (xs := four m) hg3 hown3 (hat3.imp id fun h => ⟨_, Nat.le_refl _, h⟩))
    clear hS2 hB2 hk1 hk2 hown3 hg3 hat3 hb1 hb2 hb3 hbe1 hbe2
    go_wp2
    go_meet
    exact HS3.out
  case rest => as_aux_lemma =>
    have HS0 := hid hcut
    clear HB0 HBE0 pc0 pc1 hcut hfo
    go_upto_block 0 with fail
    go_cut [3, 5] (fun o b wx => ∃ os bs, Hid (os = (two l.length ++ four m) ++ (st l).1 ∧ bs = (st l).2) ∧ ByS w wx (.slice A l.length c) m o b os bs)
    case first => as_aux_lemma =>
      go_wp2_with fail
      go_loopw [3, 4, 5, 6] (fun o a b i wr => ∃ (k : Nat) (os bs : List UInt8), k ≤ l.length ∧ i = .int .i64 k ∧ a = .int .i64 (504 - (sum (l.take k) : Int)) ∧ Hid (os = (two l.length ++ four m) ++ (st (l.take k)).1 ∧ bs = (st (l.take k)).2) ∧ ByS w wr (.slice A l.length c) m o b os bs) (fun _ _ _ i _ => l.length - (intOf i).toNat)
      case atStart => exact ⟨0, _, _, by omega, rfl, by simp [sum], hid ⟨by simp [st_nil], rfl⟩, HS0.out⟩
      case round => as_aux_lemma =>
        obtain ⟨k, os, bs, hk, rfl, rfl, HE, hS⟩ := hrel
        have HS := hid hS
        obtain ⟨pc0, pc1, _⟩ := blk2 hS.box
        obtain ⟨Ao, co, rfl, _⟩ := own_form hS.out
        obtain ⟨Ab, cb, rfl, _⟩ := own_form hS.body
        have HST := hid (length_st (l.take k))
        have hsm := sum_take l k
        have hsum : sum l ≤ 498 := by omega
        have hlo : os.length ≤ 600 := by rw [HE.out.1, List.length_append, HST.out.1, List.length_take]; simp only [List.length_append, two, four, List.length_cons, List.length_nil]; omega
        have hlb : bs.length ≤ 500 := by rw [HE.out.2, HST.out.2]; omega
        clear hS HS0
        by_cases hlt : k < l.length
        · obtain ⟨x, hx⟩ : ∃ x, l[k]? = some x := ⟨_, List.getElem?_eq_getElem hlt⟩
          obtain ⟨b, o, rfl, hb, h1, h2⟩ := (HSR.out.below HS.out.be) k x hx
          have hlt' : (k : Int) < (l.length : Int) := by omega
          have htk : Hid (l.take (k + 1) = l.take k ++ [x]) := hid (by
            have h2 : l[k] = x := by rw [List.getElem?_eq_getElem hlt] at hx; injection hx
            rw [List.take_succ_eq_append_getElem hlt, h2])
          clear hx
          cases x with
          | none => as_aux_lemma =>
            simp only [Option.isSome_none, Option.getD_none] at h1 h2
            have hst : Hid ((st (l.take (k + 1))).1 = (st (l.take k)).1 ++ List.replicate 4 0 ∧ (st (l.take (k + 1))).2 = (st (l.take k)).2 ∧ sum (l.take (k + 1)) = sum (l.take k)) := hid (by
              rw [htk.out, st_snoc, sum_none]
              exact ⟨rfl, rfl, rfl⟩)
            have HS1 := hid (HS.out.below ((Below.refl _ wr).alloc (Nat.le_refl _) (.cells #[.bool false, .string ⟨#[]⟩] 70)))
            have HS2 := hid (HS1.out.below ((Below.refl _ _).alloc (Nat.le_refl _) (.cells #[.int .u8 0, .int .u8 0, .int .u8 0, .int .u8 0] 5)))
            have hrd := hid (zeros4_rd (wr.alloc (.cells #[.bool false, .string ⟨#[]⟩] 70)) (wr.heap.size + 1) (by simp))
            have hsz := HS2.out.box.lt
            go_wp2_with (at_builtin; refine wpList_append_any _ rfl (.tmp 32) (.tmp 33) 23 rfl (w.heap.size + 1) 5 i5 _ 1 1 Try.underlying23 hi5 hy0 hy1 hy2 rfl (by omega) _ os.length (u8s os) rfl HS2.out.out _ 4 4 _ rfl hrd.out (u8s_one _) (by unfold maxLen; omega) (by omega) hsz ?_)
            intro v5 w5 hown5 hg5 hat5
            have HS5 := hid (HS2.out.app (xs := List.replicate 4 0) hg5 hown5 (hat5.imp id fun h => ⟨_, by simp, h⟩))
            obtain ⟨A5, c5, rfl, _⟩ := own_form hown5
            clear hown5 hg5 hat5
            go_wp2
            go_roundw
            case rel => exact ⟨k + 1, _, _, by omega, by go_num, by rw [hst.out.2.2], hid ⟨by rw [hst.out.1, HE.out.1, List.append_assoc], by rw [hst.out.2.1, HE.out.2]⟩, HS5.out⟩
            case measure => simp [intOf]; omega
          | some r => as_aux_lemma =>
            simp only [Option.isSome_some, Option.getD_some] at h1 h2
            have hsr : Hid (sum (l.take (k + 1)) = sum (l.take k) + r.length) := hid (by rw [htk.out, sum_snoc]; rfl)
            have hs1 := sum_take l (k + 1)
            have hrl : r.length ≤ 498 := by have := hsr.out; omega
            have hst : Hid ((st (l.take (k + 1))).1 = (st (l.take k)).1 ++ (two (504 - sum (l.take (k + 1))) ++ two (r.length + 1)) ∧ (st (l.take (k + 1))).2 = r ++ (st (l.take k)).2) := hid (by
              have e : (r ++ (st (l.take k)).2).length = sum (l.take (k + 1)) := by rw [List.length_append, HST.out.2, hsr.out]; omega
              rw [htk.out, st_snoc, ← htk.out]
              refine ⟨?_, rfl⟩
              simp only [step, slotB, Option.getD_some, e])
            have HS1 := hid (HS.out.below ((Below.refl _ wr).alloc (Nat.le_refl _) (.cells #[.bool true, .string ⟨r.toArray⟩] 70)))
            have hsa : (504 : Int) - (sum (l.take k) : Int) - (r.length : Int) = ((504 - sum (l.take (k + 1)) : Nat) : Int) := by have := hsr.out; omega
            have ht1 := hid (two_any (504 - sum (l.take (k + 1))) (by omega))
            have ht2' := two_any (r.length + 1) (by omega)
            rw [show ((r.length + 1 : Nat) : Int) = (r.length : Int) + 1 by omega] at ht2'
            have ht2 := hid ht2'
            clear ht2'
            have hb70 := hid (Blk.new wr 70 #[.bool true, .string ⟨r.toArray⟩])
            go_wp2_with fail
            generalize hw1 : wr.alloc (.cells #[.bool true, .string ⟨r.toArray⟩] 70) = w1
            rw [hw1] at HS1 hb70
            clear hw1 h1 h2 pc0 pc1
            refine (ht1.out _).mono ?_
            rintro e w2 ⟨rfl, hk2, hbe2⟩
            have HS2 := hid (HS1.out.below hbe2)
            have hb702 := hid (hb70.out.below hbe2 hb70.out.lt)
            have hrd2 := hid (Rd.of_blk hk2 (n := 2) rfl)
            have hsz2 := HS2.out.box.lt
            clear hk2 hbe2 ht1 HS1 hb70
            go_wp2_with (at_builtin; refine wpList_append_any _ rfl (.tmp 40) (.tmp 42) 23 rfl (w.heap.size + 1) 5 i5 _ 1 1 Try.underlying23 hi5 hy0 hy1 hy2 rfl (by omega) _ os.length (u8s os) rfl HS2.out.out _ 2 2 _ rfl hrd2.out (u8s_one _) (by unfold maxLen; omega) (by omega) hsz2 ?_)
            intro v3 w3 hown3 hg3 hat3
            have HS3 := hid (HS2.out.app (xs := two (504 - sum (l.take (k + 1)))) hg3 hown3 (hat3.imp id fun h => ⟨_, Nat.le_refl _, h⟩))
            have hb703 := hid (HS2.out.other hb702.out hg3)
            obtain ⟨os3, hos3⟩ : ∃ os3, os3 = os ++ two (504 - sum (l.take (k + 1))) := ⟨_, rfl⟩
            rw [← hos3] at HS3
            have hlo3 : os3.length = os.length + 2 := by rw [hos3, List.length_append]; rfl
            have hown3' := HS3.out.out
            obtain ⟨A3, c3, rfl, _⟩ := own_form hown3'
            have c70 := blk2b hb703.out
            have hOS3 := hid hos3
            have hLO3 := hid hlo3
            have hlo3' : os3.length ≤ 602 := by omega
            clear hown3 hown3' hg3 hat3 HS2 hb702 hrd2 hsz2 hos3 hlo3
            go_wp2_with fail
            refine (ht2.out _).mono ?_
            rintro e w4 ⟨rfl, hk4, hbe4⟩
            have HS4 := hid (HS3.out.below hbe4)
            have hb704 := hid (hb703.out.below hbe4 hb703.out.lt)
            have hrd4 := hid (Rd.of_blk hk4 (n := 2) rfl)
            have hsz4 := HS4.out.box.lt
            clear hk4 hbe4 ht2 HS3 hb703 c70
            go_wp2_with (at_builtin; refine wpList_append_any _ rfl (.tmp 44) (.tmp 49) 23 rfl (w.heap.size + 1) 5 i5 _ 1 1 Try.underlying23 hi5 hy0 hy1 hy2 rfl (by omega) _ os3.length (u8s os3) rfl HS4.out.out _ 2 2 _ rfl hrd4.out (u8s_one _) (by unfold maxLen; omega) (by omega) hsz4 ?_)
            intro v5 w5 hown5 hg5 hat5
            have HS5 := hid (HS4.out.app (xs := two (r.length + 1)) hg5 hown5 (hat5.imp id fun h => ⟨_, Nat.le_refl _, h⟩))
            have hb705 := hid (HS4.out.other hb704.out hg5)
            have hOS5 : Hid (os3 ++ two (r.length + 1) = (two l.length ++ four m) ++ (st (l.take (k + 1))).1) := hid (by rw [hst.out.1, hOS3.out, HE.out.1]; simp only [List.append_assoc])
            obtain ⟨os5, hos5⟩ : ∃ os5, os5 = os3 ++ two (r.length + 1) := ⟨_, rfl⟩
            rw [← hos5] at HS5 hOS5
            have hown5' := HS5.out.out
            obtain ⟨A5, c5, rfl, _⟩ := own_form hown5'
            have c70 := blk2b hb705.out
            have hnil : w5.ownsRow w5.heap.size 5 1 (.slice none 0 0) 0 [] := World.ownsRow_nil _ _ _ _
            clear hown5 hown5' hg5 hat5 HS4 hb704 hrd4 hsz4 hos5 hOS3 hLO3 hlo3'
            go_wp2_with (at_builtin; refine Lib.wpList_append_own_string _ rfl (.tmp 51) (.tmp 53) 23 9 rfl w5.heap.size 5 i5 Try.underlying23 Try.underlying9 hi5 hy0 hy1 hy2 _ 0 [] rfl hnil ⟨r.toArray⟩ rfl (by rw [str_size]; unfold maxLen; omega) (by rw [str_size]; omega) (Nat.le_refl _) ?_)
            intro v6 w6 hown6 hg6 _
            have hown6' : w6.ownsRow w5.heap.size 5 1 v6 r.length (u8s r) := str_own hown6
            have hb6 : Below w5.heap.size w5 w6 := ⟨hg6.os, hg6.tape, hg6.output, hg6.size, fun k hk => hg6.block k hk (by simp [Value.ownBlock])⟩
            have HS6 := hid (HS5.out.below hb6)
            have HO6 := hid hown6'
            have HB6 := hid hb6
            obtain ⟨A6, c6, rfl, _⟩ := own_form hown6'
            have hrb := hid (Rd.of_own HS6.out.body)
            have hsz6 := hb6.size
            clear hown6 hown6' hg6 hb6 hnil c70
            go_wp2_with (at_builtin; refine wpList_append_any _ rfl (.tmp 55) (.tmp 56) 23 rfl w5.heap.size 5 i5 _ 1 1 Try.underlying23 hi5 hy0 hy1 hy2 rfl (by omega) _ r.length (u8s r) rfl HO6.out _ bs.length cb _ rfl hrb.out (u8s_one _) (by unfold maxLen; omega) (by omega) hsz6 ?_)
            intro v7 w7 hown7 hg7 _
            have hb7 : Below w5.heap.size w6 w7 := ⟨hg7.os, hg7.tape, hg7.output, hg7.size, fun k hk => hg7.block k (by omega) (fun e => by have := (own_block HO6.out e.symm).1; omega)⟩
            have HS7 := hid (HS5.out.pre (xs := r) (HB6.out.trans hb7) hown7)
            obtain ⟨A7, c7, rfl, _⟩ := own_form hown7
            have hsF : Hid ((504 : Int) - (sum (l.take (k + 1)) : Int) = ((504 - sum (l.take (k + 1)) : Nat) : Int)) := hid (by omega)
            clear hown7 hg7 hb7 hrb hsz6 HS6 hb705
            go_wp2
            go_roundw
            case rel => exact ⟨k + 1, os5, r ++ bs, by omega, by go_num, by rw [hsF.out], hid ⟨hOS5.out, by rw [hst.out.2, HE.out.2]⟩, HS7.out⟩
            case measure => simp [intOf]; omega
        · have hlt' : ¬ ((k : Int) < (l.length : Int)) := by omega
          have hkl : Hid (l.take k = l) := hid (List.take_of_length_le (by omega))
          go_wp2
          go_meet
          exact ⟨_, _, hid (by have := HE.out; rw [hkl.out] at this; exact this), HS.out⟩
    case rest => as_aux_lemma =>
      obtain ⟨os, bs, HE, hS⟩ := hcut
      have HS := hid hS
      obtain ⟨Ao, co, rfl, _⟩ := own_form hS.out
      obtain ⟨Ab, cb, rfl, _⟩ := own_form hS.body
      have HST := hid (length_st l)
      have hlo : os.length + bs.length ≤ 504 := by rw [HE.out.1, HE.out.2, List.length_append, HST.out.1, HST.out.2]; simp only [List.length_append, two, four, List.length_cons, List.length_nil]; omega
      have hZ : Hid (∀ j, os.length + j + bs.length = 504 → (os ++ List.replicate j 0) ++ bs = page m l.length (st l)) := hid (fun j hj => by
        have h1 := congrArg List.length HE.out.1
        have h2 := congrArg List.length HE.out.2
        rw [List.length_append] at h1
        simp only [List.length_append, two, four, List.length_cons, List.length_nil] at h1
        have e : j = 498 - (st l).1.length - (st l).2.length := by omega
        rw [page, HE.out.1, HE.out.2, e]
        simp only [List.append_assoc])
      clear hS HS0 HSR htw
      go_wp2_with fail
      go_loopw [3] (fun o wr => ∃ (j : Nat) (os2 : List UInt8) (A2 : Option Addr) (c2 : Nat), o = .slice A2 os2.length c2 ∧ Hid (os2 = os ++ List.replicate j 0) ∧ os2.length + bs.length ≤ 504 ∧ ByS w wr (.slice A l.length c) m (.slice A2 os2.length c2) (.slice Ab bs.length cb) os2 bs) (fun o _ => 504 - (match o with | .slice _ n _ => n | _ => 0))
      case atStart => exact ⟨0, os, Ao, co, rfl, hid (by simp), hlo, HS.out⟩
      case round => as_aux_lemma =>
        obtain ⟨j, os2, A2, c2, rfl, hO, hle, hS⟩ := hrel
        have HS2 := hid hS
        clear hS HS
        by_cases hlt : os2.length + bs.length < 504
        · as_aux_lemma =>
          have hlt' : (os2.length : Int) < 504 - (bs.length : Int) := by omega
          have HS3 := hid (HS2.out.below ((Below.refl _ wr).alloc (Nat.le_refl _) (.cells #[.int .u8 0] 5)))
          have hrd := hid (zeros1_rd wr wr.heap.size rfl)
          have hsz := HS3.out.box.lt
          go_wp2_with (at_builtin; refine wpList_append_any _ rfl (.tmp 64) (.tmp 65) 23 rfl (w.heap.size + 1) 5 i5 _ 1 1 Try.underlying23 hi5 hy0 hy1 hy2 rfl (by omega) _ os2.length (u8s os2) rfl HS3.out.out _ 1 1 _ rfl hrd.out (u8s_one _) (by unfold maxLen; omega) (by omega) hsz ?_)
          intro v5 w5 hown5 hg5 hat5
          have HS5 := hid (HS3.out.app (xs := List.replicate 1 0) hg5 hown5 (hat5.imp id fun h => ⟨_, by simp, h⟩))
          obtain ⟨os3, hos3⟩ : ∃ os3, os3 = os2 ++ List.replicate 1 0 := ⟨_, rfl⟩
          have hl3 : os3.length = os2.length + 1 := by rw [hos3, List.length_append]; rfl
          rw [← hos3] at HS5
          rw [← hl3] at hown5
          obtain ⟨A5, c5, rfl, _⟩ := own_form hown5
          have HL3 := hid hl3
          have HOS3 := hid hos3
          clear hown5 hg5 hat5 hl3 hos3
          go_wp2
          go_roundw
          case rel => exact ⟨j + 1, os3, A5, c5, rfl, hid (by rw [HOS3.out, hO.out, List.append_assoc, List.replicate_append_replicate]), by have := HL3.out; omega, HS5.out⟩
          case measure => have := HL3.out; simp; omega
        · as_aux_lemma =>
          have hlt' : ¬ ((os2.length : Int) < 504 - (bs.length : Int)) := by omega
          have hrb := hid (Rd.of_own HS2.out.body)
          have hsz := HS2.out.box.lt
          have hbl : bs.length ≤ 504 := by omega
          have hol : os2.length ≤ 504 := by omega
          go_wp2_with (at_builtin; refine wpList_append_any _ rfl (.tmp 67) (.tmp 68) 23 rfl (w.heap.size + 1) 5 i5 _ 1 1 Try.underlying23 hi5 hy0 hy1 hy2 rfl (by omega) _ os2.length (u8s os2) rfl HS2.out.out _ bs.length cb _ rfl hrb.out (u8s_one _) (by unfold maxLen; omega) (by omega) hsz ?_)
          intro v5 w5 hown5 hg5 hat5
          have hpg : Hid (os2 ++ bs = page m l.length (st l)) := hid (by
            have h1 := congrArg List.length hO.out
            rw [List.length_append, List.length_replicate] at h1
            rw [hO.out]
            exact hZ.out j (by omega))
          have HO5 := hid hown5
          have hbw : Hid (Below w.heap.size w w5) := hid (HS2.out.be.trans ⟨hg5.os, hg5.tape, hg5.output, hg5.size, fun k hk => hg5.block k (by have := HS2.out.be.size; omega) (fun e => by have := (own_block HS2.out.out e.symm).1; omega)⟩)
          obtain ⟨A5, c5, rfl, _⟩ := own_form hown5
          clear hown5 hg5 hat5
          go_wp2
          go_ret
          refine ⟨_, rfl, ?_, hbw.out⟩
          have ho : w5.ownsRow (w.heap.size + 1) 5 1 (.slice A5 (os2.length + bs.length) c5) (os2.length + bs.length) (u8s os2 ++ u8s bs) := HO5.out
          rw [← u8s_append, hpg.out] at ho
          have hle : os2.length + bs.length = (page m l.length (st l)).length := by rw [← hpg.out, List.length_append]
          rw [hle] at ho ⊢
          exact ⟨A5, c5, rfl, own_cap ho, (NewRow.of_own ho).mono (by omega)⟩
end Go.Proofs.Ytpdikmkhkiplbaa
