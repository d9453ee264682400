/- ring.write: a sector of the stream is written. Conditions: sizes. -/
import Derived.Test.YtjmcjbmnggecgaaRgP
import Derived.Test.YtjmcjbmnggecgaaFus
namespace Go.Proofs.Ytjmcjbmnggecgaa
open Go.RowKit
set_option maxRecDepth 100000
set_option linter.unusedVariables false
set_option linter.unusedSimpArgs false

/-- a device: its sectors, the writes that wait, whether it is dead, its fuse -/
def Dv (w : World) (D : Nat) (F G : Nat → Prop) (l : List (List UInt8)) (W : List (Nat × List UInt8)) (dd : Bool) (f : Int) : Prop := ∃ m, DevAt w D F G m ∧ m.l = l ∧ m.W = W ∧ m.dead = dd ∧ m.fuse = f
theorem Dv.up {w : World} {D : Nat} {F G : Nat → Prop} {l : List (List UInt8)} {W : List (Nat × List UInt8)} (h : Dv w D F G l W false (-1)) : Up w D F G l W := h
theorem Up.dv {w : World} {D : Nat} {F G : Nat → Prop} {l : List (List UInt8)} {W : List (Nat × List UInt8)} (h : Up w D F G l W) : Dv w D F G l W false (-1) := h
section
variable {w w' : World} {D : Nat} {F G : Nat → Prop} {l : List (List UInt8)} {W : List (Nat × List UInt8)} {dd : Bool} {f : Int}
theorem Dv.lt (h : Dv w D F G l W dd f) : (∀ i, F i → i < w.heap.size) ∧ (∀ i, G i → i < w.heap.size) ∧ F D := by
  obtain ⟨m, hd, _⟩ := h; exact ⟨hd.lt, hd.lg, hd.own⟩
theorem Dv.frame {S : Nat → Prop} (h : Dv w D F G l W dd f) (hc : Chg S w w') (hS : ∀ i, S i → ¬ F i ∧ ¬ G i) : Dv w' D F G l W dd f := by
  obtain ⟨m, hd, a, b, c, d⟩ := h; exact ⟨m, hd.frame hc hS, a, b, c, d⟩
theorem Dv.below (h : Dv w D F G l W dd f) (hb : Below w.heap.size w w') : Dv w' D F G l W dd f := h.frame (S := fun _ => False) (Chg.of_below hb) (fun _ h => h.elim)
theorem Dv.fuse (h : Dv w D F G l W dd f) : -1 ≤ f ∧ f ≤ 9223372036854775807 := by
  obtain ⟨m, hd, _, _, _, rfl⟩ := h; exact ⟨hd.f1, hd.f2⟩
end
/-- the fuse behind a call that went well -/
def burnt (f : Int) : Int := if 0 < f then f - 1 else f
theorem dv_write_ok (D : Nat) (F G : Nat → Prop) (l : List (List UInt8)) (W : List (Nat × List UInt8)) (f : Int) (w : World) (h : Dv w D F G l W false f) (i : Nat) (A : Option Addr) (c : Nat) (bs : List UInt8) (hi : i < l.length) (hf : f ≠ 0) (hr : Rd w 1 A 128 (u8s bs)) (hA : ∀ ad, A = some ad → ¬ ad.block = D) (hW : W.length ≤ 1000000) :
    Calls Try.prog 12 #[.pointer (some ⟨D, 0, none⟩), .int .i64 i, .slice A 128 c] w fun e w' => e = .returned (.int .i64 0) ∧ ∃ F' G', Dv w' D F' G' l (W ++ [(i, bs)]) false (burnt f) ∧ (∀ i, F' i → F i ∨ w.heap.size ≤ i) ∧ (∀ i, G' i → G i ∨ w.heap.size ≤ i) ∧ Chg F w w' := by
  obtain ⟨m, hd, rfl, rfl, h3, rfl⟩ := h
  refine (write_ok D F G m w hd i A c bs h3 hi hf hr hA hW).mono ?_
  rintro e w' ⟨rfl, F', G', h', a, b, c⟩
  exact ⟨rfl, F', G', ⟨_, h', rfl, rfl, h3, rfl⟩, a, b, c⟩
theorem dv_write_no (D : Nat) (F G : Nat → Prop) (l : List (List UInt8)) (W : List (Nat × List UInt8)) (w : World) (h : Dv w D F G l W false 0) (i : Nat) (A : Option Addr) (c : Nat) (hi : i < l.length) :
    Calls Try.prog 12 #[.pointer (some ⟨D, 0, none⟩), .int .i64 i, .slice A 128 c] w fun e w' => e = .returned (.int .i64 50) ∧ Dv w' D F G l W true 0 ∧ Chg (· = D) w w' := by
  obtain ⟨m, hd, rfl, rfl, h3, h4⟩ := h
  refine (write_fuse D F G m w hd i A c h3 (by omega) (by omega) h4).mono ?_
  rintro e w' ⟨rfl, h', c⟩
  exact ⟨rfl, ⟨_, h', rfl, rfl, rfl, h4⟩, c⟩
theorem dv_sync_ok (D : Nat) (F G : Nat → Prop) (l : List (List UInt8)) (W : List (Nat × List UInt8)) (f : Int) (w : World) (h : Dv w D F G l W false f) (hf : f ≠ 0) (hW : W.length ≤ 1000000) :
    Calls Try.prog 14 #[.pointer (some ⟨D, 0, none⟩)] w fun e w' => e = .returned (.int .i64 0) ∧ Dv w' D F G (applyW l W) [] false (burnt f) ∧ Chg F w w' := by
  obtain ⟨m, hd, rfl, rfl, h3, rfl⟩ := h
  refine (sync_ok D F G m w hd h3 hf hW).mono ?_
  rintro e w' ⟨rfl, h', c⟩
  exact ⟨rfl, ⟨_, h', rfl, rfl, h3, rfl⟩, c⟩
theorem dv_sync_no (D : Nat) (F G : Nat → Prop) (l : List (List UInt8)) (W : List (Nat × List UInt8)) (w : World) (h : Dv w D F G l W false 0) :
    Calls Try.prog 14 #[.pointer (some ⟨D, 0, none⟩)] w fun e w' => e = .returned (.int .i64 50) ∧ Dv w' D F G l W true 0 ∧ Chg (· = D) w w' := by
  obtain ⟨m, hd, rfl, rfl, h3, h4⟩ := h
  refine (sync_fuse D F G m w hd h3 h4).mono ?_
  rintro e w' ⟨rfl, h', c⟩
  exact ⟨rfl, ⟨_, h', rfl, rfl, rfl, h4⟩, c⟩
theorem own_of_blk {w : World} {g : Nat} {xs : List Value} {base n : Nat} (hb : Blk w g 5 xs.toArray) (hg : base ≤ g) (hn : xs.length = n) (hm : n ≤ 1000) : w.ownsRow base 5 1 (.slice (some ⟨g, 0, none⟩) n n) n xs :=
  ⟨by omega, .inr ⟨g, n, xs.toArray, rfl, hg, hb, Nat.le_refl _, by unfold maxLen; omega, by simp; omega, by rw [Nat.mul_one]; exact List.take_of_length_le (by simp; omega)⟩⟩
theorem step_app2 {P : Program} {w w' : World} {ops : Array Oper} {o : Oper} {a : Act} {K : Act → World → Prop} {Q : Exit → Act → World → Prop} {E : Prop} (hgd : o.guard = none) (s x : Operand) (t t2 : TypeId)
    (ho : o.op = .call { callee := .builtin .append, args := #[s, x], argTypes := #[t, t2] }) (v u v' : Value) (hs : a.eval s = v) (hx : a.eval x = u) (hrun : (Builtin.append_ #[t, t2] o.type #[v, u]).run P w = .ok v' w') (h : K (a.put o.dst v') w') :
    if Region.wanted o (yielded ops a.tmps) = true then Oper.wp P o a w K Q else E := by
  have hw : Region.wanted o (yielded ops a.tmps) = true := by simp [Region.wanted, hgd]
  rw [if_pos hw]
  unfold Oper.wp execOp
  simp only [ho, resolve, invoke, builtin, Sem.run_bind, Sem.run_pure, Result.andThen_ok, List.map_toArray, List.map_cons, List.map_nil, hs, hx, hrun]
  exact h
theorem two_bytes (w : World) (a b : UInt8) : Rd (w.alloc (.cells #[.int .u8 (a.toNat : Int), .int .u8 (b.toNat : Int)] 5)) 1 (some ⟨w.heap.size, 0, none⟩) 2 (u8s [a, b]) :=
  ⟨rfl, fun _ => ⟨_, rfl, by simp, fun j u hu => by rw [Addr.add_lit, Nat.zero_add, (Blk.new w 5 #[.int .u8 (a.toNat : Int), .int .u8 (b.toNat : Int)]).cell]; simpa [u8s] using hu⟩⟩

set_option maxHeartbeats 6400000 in
theorem rwrite_ok (R D : Nat) (F G B : Nat → Prop) (q : MRing) (l : List (List UInt8)) (W : List (Nat × List UInt8)) (f : Int) (w : World) (hm : RgMem w R D B q) (hd : Dv w D F G l W false f) (hdis : ∀ i, B i → ¬ F i ∧ ¬ G i) (hn1 : 1 ≤ q.n) (hq : q.fr + q.n ≤ l.length) (hl : l.length ≤ 8192) (hWl : W.length ≤ 1000000)
    (all : List UInt8) (hall : q.bytes = all.drop q.base) (hal : all.length ≤ 2199023255552) (k : Nat) (hk1 : q.base ≤ k * 118) (hk2 : k * 118 < all.length) (hbl : q.bytes.length ≤ 1000000) (hf : f ≠ 0) :
    Calls Try.prog 49 #[.pointer (some ⟨R, 0, none⟩), .int .i64 k] w fun e w' => e = .returned (.int .i64 0) ∧ ∃ F' G', Dv w' D F' G' l (W ++ [(q.fr + k % q.n, secOf all k)]) false (burnt f) ∧ (∀ i, F' i → F i ∨ w.heap.size ≤ i) ∧ (∀ i, G' i → G i ∨ w.heap.size ≤ i) ∧ Chg F w w' := by
  obtain ⟨i5, hi5, hy0, hy1, hy2⟩ := info_parts info5
  have hmod := Nat.mod_lt k (show 0 < q.n by omega)
  obtain ⟨i, hi⟩ : ∃ i, i = q.fr + k % q.n := ⟨_, rfl⟩
  have hil : i < l.length := by omega
  have hltR := hm.lt R hm.own
  have hnF : ¬ F R := (hdis R hm.own).1
  have hFD : F D := hd.lt.2.2
  obtain ⟨Aq, cq, Hq, c0, c1, c2, c3, c4, c5, c6, c7⟩ := hm.cells
  have hw57 : (k : Int).tmod (q.n : Int) = (k : Int) % (q.n : Int) := Int.tmod_eq_emod_of_nonneg (by omega)
  have hw58 : IntKind.i64.wrap ((q.fr : Int) + (k : Int) % (q.n : Int)) = (i : Int) := by rw [IntKind.wrap_i64]; omega
  have hn0 : ((q.n : Int) == 0) = false := beq_eq_false_iff_ne.mpr (by omega)
  have hn2 : ¬ (q.n : Int) = 0 := by omega
  have hn3 : ¬ q.n = 0 := by omega
  try rw [← hi]
  obtain ⟨a, ha⟩ : ∃ a, a = k * 118 - q.base := ⟨_, rfl⟩
  obtain ⟨P, hP⟩ : ∃ P, P = piece all k := ⟨_, rfl⟩
  have hPl := piece_length all k
  rw [← hP] at hPl
  have hbl2 : q.bytes.length = all.length - q.base := by rw [hall, List.length_drop]
  have hPb : P = (q.bytes.drop a).take P.length := by
    have e : q.bytes.drop a = all.drop (k * 118) := by rw [hall, List.drop_drop]; congr 1; omega
    rw [e]
    rw [hPl, hP]
    unfold piece
    have hdl : (all.drop (k * 118)).length = all.length - k * 118 := List.length_drop
    rcases Nat.le_total 118 (all.length - k * 118) with h | h
    · rw [Nat.min_eq_left h]
    · rw [Nat.min_eq_right h, List.take_of_length_le (by omega), List.take_of_length_le (by omega)]
  obtain ⟨p, hp⟩ : ∃ p, p = P.length := ⟨_, rfl⟩
  rw [← hp] at hPb hPl
  have hp1 : 1 ≤ p := by omega
  have hp2 : p ≤ 118 := by omega
  have hpa : a + p ≤ q.bytes.length := by omega
  obtain ⟨m, hmm⟩ : ∃ m, m = a + p := ⟨_, rfl⟩
  have hw9 : (k : Int) * 118 - (q.base : Int) = (a : Int) := by omega
  have hcase : ((118 : Int) ≤ (q.bytes.length : Int) - (a : Int) ∧ p = 118) ∨ ((q.bytes.length : Int) - (a : Int) < 118 ∧ (q.bytes.length : Int) - (a : Int) = (p : Int)) := by omega
  have hk11 : k ≤ 100000000000 := by omega
  have hwm : (a : Int) + (p : Int) = (m : Int) := by omega
  have hsec : Hid (secOf all k = ((num8 (k + 1) ++ [UInt8.ofNat 0, UInt8.ofNat p]) ++ P) ++ List.replicate (118 - p) 0) := hid (by
    unfold secOf
    rw [← hP, ← hp, show p / 256 = 0 by omega]
    simp only [List.append_assoc])
  have hnum := hid (number_any (k + 1) (by omega) w)
  rw [show ((k + 1 : Nat) : Int) = (k : Int) + 1 by omega] at hnum
  have hmle : m ≤ q.bytes.length := by omega
  have ham : a ≤ m := by omega
  have hmp : m - a = p := by omega
  have HPb := hid hPb
  have Hp := hid hp
  have HD := hid hd
  have HM := hid hm
  have hpu : (p : Int) < 256 := by omega
  have hpz : (p : Int) / 256 = 0 := by omega
  have hpz2 : (p : Int) % 256 = (p : Int) := by omega
  clear hm hd hdis hi hmod ha hP hPl hbl2 hPb hp hmm hall
  go_enter Try.func49, Try.ntmps49
  go_upto_region 2 with fail
  go_cut [6] (fun n wx => n = .int .i64 p ∧ wx = w)
  case first => as_aux_lemma =>
    rcases hcase with ⟨h1, h2⟩ | ⟨h1, h2⟩
    · have h2' : (p : Int) = 118 := by omega
      clear h2
      go_wp2
      all_goals
        go_meet
        first
          | exact ⟨by rw [h2'], rfl⟩
          | omega
    · go_wp2
      all_goals
        go_meet
        first
          | exact ⟨by first | rfl | rw [h2], rfl⟩
          | omega
  case rest => as_aux_lemma =>
  obtain ⟨rfl, hwc⟩ := hcut
  rw [hwc]
  clear hwc
  clear hcase
  go_wp2_with fail
  have hsl0 : True := trivial
  refine hnum.out.mono ?_
  rintro e w1 ⟨g1, rfl, hg1, hb1, hbe1⟩
  have HB1 := hid hb1
  have HBE1 := hid hbe1
  have htb : Rd (w1.alloc (.cells #[.int .u8 0, .int .u8 (p : Int)] 5)) 1 (some ⟨w1.heap.size, 0, none⟩) 2 (u8s [UInt8.ofNat 0, UInt8.ofNat p]) := by
    have := two_bytes w1 (UInt8.ofNat 0) (UInt8.ofNat p)
    rw [UInt8.toNat_ofNat', UInt8.toNat_ofNat', Nat.mod_eq_of_lt (show p < 2 ^ 8 by omega)] at this
    exact this
  have ho1 : (w1.alloc (.cells #[.int .u8 0, .int .u8 (p : Int)] 5)).ownsRow w.heap.size 5 1 (.slice (some ⟨g1, 0, none⟩) 8 8) 8 (u8s (num8 (k + 1))) := own_of_blk (hb1.alloc _) hg1 (by rw [length_u8s]; rfl) (by omega)
  have hbe2 : Below w.heap.size w (w1.alloc (.cells #[.int .u8 0, .int .u8 (p : Int)] 5)) := hbe1.alloc hbe1.size _
  have hsz2 := hbe2.size
  clear hb1 hbe1 hnum
  go_wp2_with (at_builtin; refine wpList_append_any _ rfl (.tmp 25) (.tmp 31) 30 rfl w.heap.size 5 i5 _ 1 1 Try.underlying30 hi5 hy0 hy1 hy2 rfl (by omega) _ 8 (u8s (num8 (k + 1))) rfl ho1 _ 2 2 _ rfl htb (u8s_one _) (by unfold maxLen; omega) (by omega) hsz2 ?_)
  intro v3 w3 hown3 hg3 hat3
  have hbe3 : Below w.heap.size w w3 := hbe2.trans ⟨hg3.os, hg3.tape, hg3.output, hg3.size, fun j hj => hg3.block j (by omega) (fun e => by
    simp only [Value.ownBlock, Option.some.injEq] at e
    omega)⟩
  have c0d : w3.cell? ⟨R, 0, none⟩ = some (.pointer (some ⟨D, 0, none⟩)) := (hbe3.cell (p := ⟨R, 0, none⟩) hltR).trans c0
  have c1d : w3.cell? ⟨R, 1, none⟩ = some (.int .i64 q.fr) := (hbe3.cell (p := ⟨R, 1, none⟩) hltR).trans c1
  have c2d : w3.cell? ⟨R, 2, none⟩ = some (.int .i64 q.n) := (hbe3.cell (p := ⟨R, 2, none⟩) hltR).trans c2
  have c4d : w3.cell? ⟨R, 4, none⟩ = some (.slice Aq q.bytes.length cq) := (hbe3.cell (p := ⟨R, 4, none⟩) hltR).trans c4
  have hrd3 := Hq.out.2.2.2.1.below hbe3
  obtain ⟨A', hsl, hrs⟩ := sl_mid hrd3 a m ham hmle Hq.out.2.2.2.2
  rw [hmp] at hsl hrs
  have hrs' : Rd w3 1 A' p (u8s P) := by
    rw [HPb.out, show u8s ((q.bytes.drop a).take p) = ((u8s q.bytes).drop a).take p by simp [u8s, List.map_take, List.map_drop]]
    exact hrs
  have hown3' : w3.ownsRow w.heap.size 5 1 v3 10 (u8s (num8 (k + 1) ++ [UInt8.ofNat 0, UInt8.ofNat p])) := by
    rw [show u8s (num8 (k + 1) ++ [UInt8.ofNat 0, UInt8.ofNat p]) = u8s (num8 (k + 1)) ++ u8s [UInt8.ofNat 0, UInt8.ofNat p] by simp [u8s]]
    exact hown3
  obtain ⟨A3, c3, rfl, _⟩ := own_form hown3'
  have hsz3 := hbe3.size
  have HO3 := hid hown3'
  have HBE3 := hid hbe3
  clear hown3 hown3' hg3 hat3 htb ho1 hbe2 hsz2 hrd3 hrs hbe3
  go_wp2_with (at_builtin; refine wpList_append_any _ rfl (.tmp 33) (.tmp 42) 30 rfl w.heap.size 5 i5 _ 1 1 Try.underlying30 hi5 hy0 hy1 hy2 rfl (by omega) _ 10 _ rfl HO3.out _ p _ _ rfl hrs' (u8s_one _) (by unfold maxLen; omega) (by omega) hsz3 ?_)
  intro v4 w4 hown4 hg4 hat4
  obtain ⟨L, hL⟩ : ∃ L, L = 10 + p := ⟨_, rfl⟩
  rw [← hL] at hown4
  have hbe4 : Below w.heap.size w w4 := HBE3.out.trans ⟨hg4.os, hg4.tape, hg4.output, hg4.size, fun j hj => hg4.block j (by omega) (fun e => by have := (own_block HO3.out e.symm).1; omega)⟩
  obtain ⟨A4, c4', rfl, _⟩ := own_form hown4
  have HO4 := hid hown4
  have HBE4 := hid hbe4
  obtain ⟨z, hz⟩ : ∃ z, z = 118 - p := ⟨_, rfl⟩
  have hw62 : IntKind.i64.wrap (128 - (L : Int)) = (z : Int) := by rw [IntKind.wrap_i64]; omega
  have hLc : L ≤ c4' := by
    rcases hown4.2 with ⟨h', h0⟩ | ⟨g, cap, cur, h', _, _, hle, _⟩
    · omega
    · injection h' with _ _ h'; omega
  have hz1 := run_append_zeros w4.drew A4 L c4' z 30 (by omega) hLc i5 hi5 hy0 hy1 hy2
  obtain ⟨v6, w6, happ, hown6, hg6, _⟩ := Lib.run_append_own_string (P := Try.prog) w4.drew w.heap.size 30 9 30 5 i5 Try.underlying30 Try.underlying9 hi5 hy0 hy1 hy2 _ L _ (show w4.drew.ownsRow w.heap.size 5 1 _ L _ from hown4) (zs z) (by rw [zs_size]; unfold maxLen; omega) (by rw [zs_size]; omega) (by show w.heap.size ≤ w4.heap.size; exact hbe4.size)
  rw [zs_size, zs_cells] at hown6
  rw [happ] at hz1
  have hbe6 : Below w.heap.size w w6 := hbe4.trans ⟨hg6.os, hg6.tape, hg6.output, hg6.size, fun j hj => hg6.block j (by show j < w4.heap.size; have := hbe4.size; omega) (fun e => by have := (own_block hown4 e.symm).1; omega)⟩
  have hown6' : w6.ownsRow w.heap.size 5 1 v6 128 (u8s (secOf all k)) := by
    rw [hsec.out, show u8s (((num8 (k + 1) ++ [UInt8.ofNat 0, UInt8.ofNat p]) ++ P) ++ List.replicate (118 - p) 0) = (u8s (num8 (k + 1) ++ [UInt8.ofNat 0, UInt8.ofNat p]) ++ u8s P) ++ u8s (List.replicate (118 - p) 0) by simp [u8s]]
    have e : L + z = 128 := by omega
    rw [← hz, ← e]
    exact hown6
  obtain ⟨A6, c6, rfl, hrd6⟩ := own_form hown6'
  have HRD := hid hrd6
  have hA6 : Hid (∀ ad, A6 = some ad → ¬ ad.block = D) := hid (fun ad e h => by
    subst e
    rcases hown6'.2 with ⟨h', _⟩ | ⟨g, cap, cur, h', hg, _⟩
    · cases h'
    · injection h' with h' _ _
      injection h' with h'
      subst h'
      have := HD.out.lt.1 D hFD
      have h : g = D := h
      omega)
  have HAPP := hid hz1
  have HD6 := hid (HD.out.below hbe6)
  have HC6 : Hid (Chg F w w6) := hid (Chg.of_below hbe6)
  have HBE6 := hid hbe6
  clear hz1 happ hown4 hg4 hat4 hown6 hown6' hg6 hbe4 hbe6 hrd6 c0d c1d c2d c4d hrs' hsl hLc hL hz
  go_upto_region 5 with fail
  refine wp_region_held_drew (S := fun w' => Chg F w w') (by kernel_rfl) (by exact (Chg.of_below HBE4.out).drew) (fun hHeld0 => ?_)
  refine wpAnyH_take (i := 0) (oi := { dst := some 44, op := Op.move (Operand.tmp 0), type := 59, pos := _, after := #[], guard := none }) (v := ?_) rfl (by kernel_rfl) (by kernel_rfl) (by kernel_rfl) (fun _ _ _ h => h) (Or.inl ⟨by rfl, ?_⟩) (by assumption) ?_
  rotate_left
  · (intro w' hSw; (try dsimp only at hSw); clear hSw; go_simp; try with_reducible rfl)
  try simp only [Act.put, List.setIfInBounds_toArray, List.set_cons_zero, List.set_cons_succ]
  refine wpAnyH_take (i := 1) (oi := { dst := some 45, op := Op.nilCheck (Operand.tmp 44), type := 0, pos := _, after := #[{ on := 0, ground := Ground.data }], guard := none }) (v := ?_) rfl (by kernel_rfl) (by kernel_rfl) (by kernel_rfl) (fun _ _ _ h => h) (Or.inl ⟨by rfl, ?_⟩) (by assumption) ?_
  rotate_left
  · (intro w' hSw; (try dsimp only at hSw); clear hSw; go_simp; try with_reducible rfl)
  try simp only [Act.put, List.setIfInBounds_toArray, List.set_cons_zero, List.set_cons_succ]
  refine wpAnyH_take (i := 2) (oi := { dst := some 46, op := Op.fieldAddr 80 (Operand.tmp 45) 0, type := 0, pos := _, after := #[{ on := 1, ground := Ground.data }], guard := none }) (v := ?_) rfl (by kernel_rfl) (by kernel_rfl) (by kernel_rfl) (fun _ _ _ h => h) (Or.inl ⟨by rfl, ?_⟩) (by assumption) ?_
  rotate_left
  · (intro w' hSw; (try dsimp only at hSw); clear hSw; go_simp; try with_reducible rfl)
  try simp only [Act.put, List.setIfInBounds_toArray, List.set_cons_zero, List.set_cons_succ]
  refine wpAnyH_take (i := 3) (oi := { dst := some 47, op := Op.load 24 (Operand.tmp 46), type := 24, pos := _, after := #[{ on := 2, ground := Ground.data }], guard := none }) (v := ?_) rfl (by kernel_rfl) (by kernel_rfl) (by kernel_rfl) (fun _ _ _ h => h) (Or.inl ⟨by rfl, ?_⟩) (by assumption) ?_
  rotate_left
  · (intro w' hSw; (try dsimp only at hSw); have q0 := (hSw.cell (p := ⟨R, 0, none⟩) hltR hnF).trans c0; clear hSw; go_simp; try with_reducible rfl)
  try simp only [Act.put, List.setIfInBounds_toArray, List.set_cons_zero, List.set_cons_succ]
  refine wpAnyH_take (i := 4) (oi := { dst := some 48, op := Op.move (Operand.tmp 0), type := 59, pos := _, after := #[], guard := none }) (v := ?_) rfl (by kernel_rfl) (by kernel_rfl) (by kernel_rfl) (fun _ _ _ h => h) (Or.inl ⟨by rfl, ?_⟩) (by assumption) ?_
  rotate_left
  · (intro w' hSw; (try dsimp only at hSw); clear hSw; go_simp; try with_reducible rfl)
  try simp only [Act.put, List.setIfInBounds_toArray, List.set_cons_zero, List.set_cons_succ]
  refine wpAnyH_take (i := 5) (oi := { dst := some 49, op := Op.nilCheck (Operand.tmp 48), type := 0, pos := _, after := #[{ on := 4, ground := Ground.data }], guard := none }) (v := ?_) rfl (by kernel_rfl) (by kernel_rfl) (by kernel_rfl) (fun _ _ _ h => h) (Or.inl ⟨by rfl, ?_⟩) (by assumption) ?_
  rotate_left
  · (intro w' hSw; (try dsimp only at hSw); clear hSw; go_simp; try with_reducible rfl)
  try simp only [Act.put, List.setIfInBounds_toArray, List.set_cons_zero, List.set_cons_succ]
  refine wpAnyH_take (i := 6) (oi := { dst := some 50, op := Op.fieldAddr 80 (Operand.tmp 49) 1, type := 0, pos := _, after := #[{ on := 5, ground := Ground.data }], guard := none }) (v := ?_) rfl (by kernel_rfl) (by kernel_rfl) (by kernel_rfl) (fun _ _ _ h => h) (Or.inl ⟨by rfl, ?_⟩) (by assumption) ?_
  rotate_left
  · (intro w' hSw; (try dsimp only at hSw); clear hSw; go_simp; try with_reducible rfl)
  try simp only [Act.put, List.setIfInBounds_toArray, List.set_cons_zero, List.set_cons_succ]
  refine wpAnyH_take (i := 7) (oi := { dst := some 51, op := Op.load 3 (Operand.tmp 50), type := 3, pos := _, after := #[{ on := 6, ground := Ground.data }], guard := none }) (v := ?_) rfl (by kernel_rfl) (by kernel_rfl) (by kernel_rfl) (fun _ _ _ h => h) (Or.inl ⟨by rfl, ?_⟩) (by assumption) ?_
  rotate_left
  · (intro w' hSw; (try dsimp only at hSw); have q0 := (hSw.cell (p := ⟨R, 1, none⟩) hltR hnF).trans c1; clear hSw; go_simp; try with_reducible rfl)
  try simp only [Act.put, List.setIfInBounds_toArray, List.set_cons_zero, List.set_cons_succ]
  refine wpAnyH_take (i := 8) (oi := { dst := some 52, op := Op.move (Operand.tmp 1), type := 3, pos := _, after := #[], guard := none }) (v := ?_) rfl (by kernel_rfl) (by kernel_rfl) (by kernel_rfl) (fun _ _ _ h => h) (Or.inl ⟨by rfl, ?_⟩) (by assumption) ?_
  rotate_left
  · (intro w' hSw; (try dsimp only at hSw); clear hSw; go_simp; try with_reducible rfl)
  try simp only [Act.put, List.setIfInBounds_toArray, List.set_cons_zero, List.set_cons_succ]
  refine wpAnyH_take (i := 9) (oi := { dst := some 53, op := Op.move (Operand.tmp 0), type := 59, pos := _, after := #[], guard := none }) (v := ?_) rfl (by kernel_rfl) (by kernel_rfl) (by kernel_rfl) (fun _ _ _ h => h) (Or.inl ⟨by rfl, ?_⟩) (by assumption) ?_
  rotate_left
  · (intro w' hSw; (try dsimp only at hSw); clear hSw; go_simp; try with_reducible rfl)
  try simp only [Act.put, List.setIfInBounds_toArray, List.set_cons_zero, List.set_cons_succ]
  refine wpAnyH_take (i := 10) (oi := { dst := some 54, op := Op.nilCheck (Operand.tmp 53), type := 0, pos := _, after := #[{ on := 9, ground := Ground.data }], guard := none }) (v := ?_) rfl (by kernel_rfl) (by kernel_rfl) (by kernel_rfl) (fun _ _ _ h => h) (Or.inl ⟨by rfl, ?_⟩) (by assumption) ?_
  rotate_left
  · (intro w' hSw; (try dsimp only at hSw); clear hSw; go_simp; try with_reducible rfl)
  try simp only [Act.put, List.setIfInBounds_toArray, List.set_cons_zero, List.set_cons_succ]
  refine wpAnyH_take (i := 11) (oi := { dst := some 55, op := Op.fieldAddr 80 (Operand.tmp 54) 2, type := 0, pos := _, after := #[{ on := 10, ground := Ground.data }], guard := none }) (v := ?_) rfl (by kernel_rfl) (by kernel_rfl) (by kernel_rfl) (fun _ _ _ h => h) (Or.inl ⟨by rfl, ?_⟩) (by assumption) ?_
  rotate_left
  · (intro w' hSw; (try dsimp only at hSw); clear hSw; go_simp; try with_reducible rfl)
  try simp only [Act.put, List.setIfInBounds_toArray, List.set_cons_zero, List.set_cons_succ]
  refine wpAnyH_take (i := 12) (oi := { dst := some 56, op := Op.load 3 (Operand.tmp 55), type := 3, pos := _, after := #[{ on := 11, ground := Ground.data }], guard := none }) (v := ?_) rfl (by kernel_rfl) (by kernel_rfl) (by kernel_rfl) (fun _ _ _ h => h) (Or.inl ⟨by rfl, ?_⟩) (by assumption) ?_
  rotate_left
  · (intro w' hSw; (try dsimp only at hSw); have q0 := (hSw.cell (p := ⟨R, 2, none⟩) hltR hnF).trans c2; clear hSw; go_simp; try with_reducible rfl)
  try simp only [Act.put, List.setIfInBounds_toArray, List.set_cons_zero, List.set_cons_succ]
  refine wpAnyH_take (i := 13) (oi := { dst := some 57, op := Op.binOp BinOp.rem 3 (Operand.tmp 52) (Operand.tmp 56) 3, type := 3, pos := _, after := #[{ on := 8, ground := Ground.data }, { on := 12, ground := Ground.data }], guard := none }) (v := ?_) rfl (by kernel_rfl) (by kernel_rfl) (by kernel_rfl) (fun _ _ _ h => h) (Or.inl ⟨by rfl, ?_⟩) (by assumption) ?_
  rotate_left
  · (intro w' hSw; (try dsimp only at hSw); clear hSw; go_simp; try with_reducible rfl)
  try simp only [Act.put, List.setIfInBounds_toArray, List.set_cons_zero, List.set_cons_succ]
  refine wpAnyH_take (i := 14) (oi := { dst := some 58, op := Op.binOp BinOp.add 3 (Operand.tmp 51) (Operand.tmp 57) 3, type := 3, pos := _, after := #[{ on := 7, ground := Ground.data }, { on := 13, ground := Ground.data }], guard := none }) (v := ?_) rfl (by kernel_rfl) (by kernel_rfl) (by kernel_rfl) (fun _ _ _ h => h) (Or.inl ⟨by rfl, ?_⟩) (by assumption) ?_
  rotate_left
  · (intro w' hSw; (try dsimp only at hSw); clear hSw; go_simp; try with_reducible rfl)
  try simp only [Act.put, List.setIfInBounds_toArray, List.set_cons_zero, List.set_cons_succ]
  refine wpAnyH_take (i := 15) (oi := { dst := some 59, op := Op.move (Operand.tmp 7), type := 30, pos := _, after := #[], guard := none }) (v := ?_) rfl (by kernel_rfl) (by kernel_rfl) (by kernel_rfl) (fun _ _ _ h => h) (Or.inl ⟨by rfl, ?_⟩) (by assumption) ?_
  rotate_left
  · (intro w' hSw; (try dsimp only at hSw); clear hSw; go_simp; try with_reducible rfl)
  try simp only [Act.put, List.setIfInBounds_toArray, List.set_cons_zero, List.set_cons_succ]
  refine wpAnyH_take (i := 16) (oi := { dst := some 60, op := Op.move (Operand.tmp 7), type := 30, pos := _, after := #[], guard := none }) (v := ?_) rfl (by kernel_rfl) (by kernel_rfl) (by kernel_rfl) (fun _ _ _ h => h) (Or.inl ⟨by rfl, ?_⟩) (by assumption) ?_
  rotate_left
  · (intro w' hSw; (try dsimp only at hSw); clear hSw; go_simp; try with_reducible rfl)
  try simp only [Act.put, List.setIfInBounds_toArray, List.set_cons_zero, List.set_cons_succ]
  refine wpAnyH_take (i := 17) (oi := { dst := some 61, op := Op.call { callee := Callee.builtin Builtin.len, args := #[Operand.tmp 60], argTypes := #[30] }, type := 3, pos := _, after := #[{ on := 16, ground := Ground.data }], guard := none }) (v := ?_) rfl (by kernel_rfl) (by kernel_rfl) (by kernel_rfl) (fun _ _ _ h => h) (Or.inl ⟨by rfl, ?_⟩) (by assumption) ?_
  rotate_left
  · (intro w' hSw; (try dsimp only at hSw); clear hSw; go_simp; try with_reducible rfl)
  try simp only [Act.put, List.setIfInBounds_toArray, List.set_cons_zero, List.set_cons_succ]
  refine wpAnyH_take (i := 18) (oi := { dst := some 62, op := Op.binOp BinOp.sub 3 (Operand.const (Value.int IntKind.i64 128)) (Operand.tmp 61) 3, type := 3, pos := _, after := #[{ on := 17, ground := Ground.data }], guard := none }) (v := ?_) rfl (by kernel_rfl) (by kernel_rfl) (by kernel_rfl) (fun _ _ _ h => h) (Or.inl ⟨by rfl, ?_⟩) (by assumption) ?_
  rotate_left
  · (intro w' hSw; (try dsimp only at hSw); clear hSw; go_simp; try with_reducible rfl)
  try simp only [Act.put, List.setIfInBounds_toArray, List.set_cons_zero, List.set_cons_succ]
  refine wpAnyH_ready (rs := [19]) (by kernel_rfl) (by simp) ?_
  refine AllReadyH.cons (o := { dst := some 63, op := Op.call { callee := Callee.builtin Builtin.append, args := #[Operand.tmp 59, Operand.tmp 62], argTypes := #[30, 3] }, type := 30, pos := _, after := #[{ on := 15, ground := Ground.data }, { on := 18, ground := Ground.data }], guard := none }) rfl (fun K hK => ?_) AllReadyH.nil
  refine step_app2 (by rfl) _ _ _ _ (by rfl) _ _ _ (by rfl) (by rfl) HAPP.out ?_
  refine hK.out _ _ (HC6.out) (fun hHeld1 => ?_)
  clear hK K
  try simp only [Act.put, List.setIfInBounds_toArray, List.set_cons_zero, List.set_cons_succ]
  refine wpAnyH_ready (rs := [20]) (by kernel_rfl) (by simp) ?_
  refine AllReadyH.cons (o := { dst := some 64, op := Op.call { callee := Callee.value (Operand.func 12), args := #[Operand.tmp 47, Operand.tmp 58, Operand.tmp 63], argTypes := #[24, 3, 30] }, type := 25, pos := _, after := #[{ on := 3, ground := Ground.data }, { on := 14, ground := Ground.data }, { on := 19, ground := Ground.data }, { on := 19, ground := Ground.chain }], guard := none }) rfl (fun K hK => ?_) AllReadyH.nil
  go_simp
  refine (dv_write_ok D F G l W f w6 HD6.out i A6 c6 (secOf all k) hil hf HRD.out hA6.out hWl).mono ?_
  rintro e w7 ⟨rfl, F', G', h1, h2, h3, h4⟩
  refine hK.out _ _ (HC6.out.trans h4) (fun hHeld2 => ?_)
  clear hK K
  try simp only [Act.put, List.setIfInBounds_toArray, List.set_cons_zero, List.set_cons_succ]
  refine wpAnyH_take (i := 21) (oi := { dst := some 4, op := Op.assign (Operand.tmp 64), type := 25, pos := _, after := #[{ on := 20, ground := Ground.data }, { on := 20, ground := Ground.chain }, { on := 0, ground := Ground.phase }, { on := 1, ground := Ground.phase }, { on := 2, ground := Ground.phase }, { on := 3, ground := Ground.phase }, { on := 4, ground := Ground.phase }, { on := 5, ground := Ground.phase }, { on := 6, ground := Ground.phase }, { on := 7, ground := Ground.phase }, { on := 8, ground := Ground.phase }, { on := 9, ground := Ground.phase }, { on := 10, ground := Ground.phase }, { on := 11, ground := Ground.phase }, { on := 12, ground := Ground.phase }, { on := 13, ground := Ground.phase }, { on := 14, ground := Ground.phase }, { on := 15, ground := Ground.phase }, { on := 16, ground := Ground.phase }, { on := 17, ground := Ground.phase }, { on := 18, ground := Ground.phase }, { on := 19, ground := Ground.phase }, { on := 20, ground := Ground.phase }], guard := none }) (v := ?_) rfl (by kernel_rfl) (by kernel_rfl) (by kernel_rfl) (fun _ _ _ h => h) (Or.inl ⟨by rfl, ?_⟩) (by assumption) ?_
  rotate_left
  · (intro w' hSw; (try dsimp only at hSw); clear hSw; go_simp; try with_reducible rfl)
  try simp only [Act.put, List.setIfInBounds_toArray, List.set_cons_zero, List.set_cons_succ]
  refine wpAnyH_done (by kernel_rfl) ?_ _
  go_wp2
  go_ret
  exact ⟨rfl, F', G', h1, fun j hj => (h2 j hj).imp id (fun h => Nat.le_trans HBE6.out.size h), fun j hj => (h3 j hj).imp id (fun h => Nat.le_trans HBE6.out.size h), hHeld2⟩

set_option maxHeartbeats 6400000 in
theorem rwrite_no (R D : Nat) (F G B : Nat → Prop) (q : MRing) (l : List (List UInt8)) (W : List (Nat × List UInt8))  (w : World) (hm : RgMem w R D B q) (hd : Dv w D F G l W false 0) (hdis : ∀ i, B i → ¬ F i ∧ ¬ G i) (hn1 : 1 ≤ q.n) (hq : q.fr + q.n ≤ l.length) (hl : l.length ≤ 8192) (hWl : W.length ≤ 1000000)
    (all : List UInt8) (hall : q.bytes = all.drop q.base) (hal : all.length ≤ 2199023255552) (k : Nat) (hk1 : q.base ≤ k * 118) (hk2 : k * 118 < all.length) (hbl : q.bytes.length ≤ 1000000) :
    Calls Try.prog 49 #[.pointer (some ⟨R, 0, none⟩), .int .i64 k] w fun e w' => e = .returned (.int .i64 50) ∧ Dv w' D F G l W true 0 ∧ Chg F w w' := by
  obtain ⟨i5, hi5, hy0, hy1, hy2⟩ := info_parts info5
  have hmod := Nat.mod_lt k (show 0 < q.n by omega)
  obtain ⟨i, hi⟩ : ∃ i, i = q.fr + k % q.n := ⟨_, rfl⟩
  have hil : i < l.length := by omega
  have hltR := hm.lt R hm.own
  have hnF : ¬ F R := (hdis R hm.own).1
  have hFD : F D := hd.lt.2.2
  obtain ⟨Aq, cq, Hq, c0, c1, c2, c3, c4, c5, c6, c7⟩ := hm.cells
  have hw57 : (k : Int).tmod (q.n : Int) = (k : Int) % (q.n : Int) := Int.tmod_eq_emod_of_nonneg (by omega)
  have hw58 : IntKind.i64.wrap ((q.fr : Int) + (k : Int) % (q.n : Int)) = (i : Int) := by rw [IntKind.wrap_i64]; omega
  have hn0 : ((q.n : Int) == 0) = false := beq_eq_false_iff_ne.mpr (by omega)
  have hn2 : ¬ (q.n : Int) = 0 := by omega
  have hn3 : ¬ q.n = 0 := by omega
  try rw [← hi]
  obtain ⟨a, ha⟩ : ∃ a, a = k * 118 - q.base := ⟨_, rfl⟩
  obtain ⟨P, hP⟩ : ∃ P, P = piece all k := ⟨_, rfl⟩
  have hPl := piece_length all k
  rw [← hP] at hPl
  have hbl2 : q.bytes.length = all.length - q.base := by rw [hall, List.length_drop]
  have hPb : P = (q.bytes.drop a).take P.length := by
    have e : q.bytes.drop a = all.drop (k * 118) := by rw [hall, List.drop_drop]; congr 1; omega
    rw [e]
    rw [hPl, hP]
    unfold piece
    have hdl : (all.drop (k * 118)).length = all.length - k * 118 := List.length_drop
    rcases Nat.le_total 118 (all.length - k * 118) with h | h
    · rw [Nat.min_eq_left h]
    · rw [Nat.min_eq_right h, List.take_of_length_le (by omega), List.take_of_length_le (by omega)]
  obtain ⟨p, hp⟩ : ∃ p, p = P.length := ⟨_, rfl⟩
  rw [← hp] at hPb hPl
  have hp1 : 1 ≤ p := by omega
  have hp2 : p ≤ 118 := by omega
  have hpa : a + p ≤ q.bytes.length := by omega
  obtain ⟨m, hmm⟩ : ∃ m, m = a + p := ⟨_, rfl⟩
  have hw9 : (k : Int) * 118 - (q.base : Int) = (a : Int) := by omega
  have hcase : ((118 : Int) ≤ (q.bytes.length : Int) - (a : Int) ∧ p = 118) ∨ ((q.bytes.length : Int) - (a : Int) < 118 ∧ (q.bytes.length : Int) - (a : Int) = (p : Int)) := by omega
  have hk11 : k ≤ 100000000000 := by omega
  have hwm : (a : Int) + (p : Int) = (m : Int) := by omega
  have hsec : Hid (secOf all k = ((num8 (k + 1) ++ [UInt8.ofNat 0, UInt8.ofNat p]) ++ P) ++ List.replicate (118 - p) 0) := hid (by
    unfold secOf
    rw [← hP, ← hp, show p / 256 = 0 by omega]
    simp only [List.append_assoc])
  have hnum := hid (number_any (k + 1) (by omega) w)
  rw [show ((k + 1 : Nat) : Int) = (k : Int) + 1 by omega] at hnum
  have hmle : m ≤ q.bytes.length := by omega
  have ham : a ≤ m := by omega
  have hmp : m - a = p := by omega
  have HPb := hid hPb
  have Hp := hid hp
  have HD := hid hd
  have HM := hid hm
  have hpu : (p : Int) < 256 := by omega
  have hpz : (p : Int) / 256 = 0 := by omega
  have hpz2 : (p : Int) % 256 = (p : Int) := by omega
  clear hm hd hdis hi hmod ha hP hPl hbl2 hPb hp hmm hall
  go_enter Try.func49, Try.ntmps49
  go_upto_region 2 with fail
  go_cut [6] (fun n wx => n = .int .i64 p ∧ wx = w)
  case first => as_aux_lemma =>
    rcases hcase with ⟨h1, h2⟩ | ⟨h1, h2⟩
    · have h2' : (p : Int) = 118 := by omega
      clear h2
      go_wp2
      all_goals
        go_meet
        first
          | exact ⟨by rw [h2'], rfl⟩
          | omega
    · go_wp2
      all_goals
        go_meet
        first
          | exact ⟨by first | rfl | rw [h2], rfl⟩
          | omega
  case rest => as_aux_lemma =>
  obtain ⟨rfl, hwc⟩ := hcut
  rw [hwc]
  clear hwc
  clear hcase
  go_wp2_with fail
  have hsl0 : True := trivial
  refine hnum.out.mono ?_
  rintro e w1 ⟨g1, rfl, hg1, hb1, hbe1⟩
  have HB1 := hid hb1
  have HBE1 := hid hbe1
  have htb : Rd (w1.alloc (.cells #[.int .u8 0, .int .u8 (p : Int)] 5)) 1 (some ⟨w1.heap.size, 0, none⟩) 2 (u8s [UInt8.ofNat 0, UInt8.ofNat p]) := by
    have := two_bytes w1 (UInt8.ofNat 0) (UInt8.ofNat p)
    rw [UInt8.toNat_ofNat', UInt8.toNat_ofNat', Nat.mod_eq_of_lt (show p < 2 ^ 8 by omega)] at this
    exact this
  have ho1 : (w1.alloc (.cells #[.int .u8 0, .int .u8 (p : Int)] 5)).ownsRow w.heap.size 5 1 (.slice (some ⟨g1, 0, none⟩) 8 8) 8 (u8s (num8 (k + 1))) := own_of_blk (hb1.alloc _) hg1 (by rw [length_u8s]; rfl) (by omega)
  have hbe2 : Below w.heap.size w (w1.alloc (.cells #[.int .u8 0, .int .u8 (p : Int)] 5)) := hbe1.alloc hbe1.size _
  have hsz2 := hbe2.size
  clear hb1 hbe1 hnum
  go_wp2_with (at_builtin; refine wpList_append_any _ rfl (.tmp 25) (.tmp 31) 30 rfl w.heap.size 5 i5 _ 1 1 Try.underlying30 hi5 hy0 hy1 hy2 rfl (by omega) _ 8 (u8s (num8 (k + 1))) rfl ho1 _ 2 2 _ rfl htb (u8s_one _) (by unfold maxLen; omega) (by omega) hsz2 ?_)
  intro v3 w3 hown3 hg3 hat3
  have hbe3 : Below w.heap.size w w3 := hbe2.trans ⟨hg3.os, hg3.tape, hg3.output, hg3.size, fun j hj => hg3.block j (by omega) (fun e => by
    simp only [Value.ownBlock, Option.some.injEq] at e
    omega)⟩
  have c0d : w3.cell? ⟨R, 0, none⟩ = some (.pointer (some ⟨D, 0, none⟩)) := (hbe3.cell (p := ⟨R, 0, none⟩) hltR).trans c0
  have c1d : w3.cell? ⟨R, 1, none⟩ = some (.int .i64 q.fr) := (hbe3.cell (p := ⟨R, 1, none⟩) hltR).trans c1
  have c2d : w3.cell? ⟨R, 2, none⟩ = some (.int .i64 q.n) := (hbe3.cell (p := ⟨R, 2, none⟩) hltR).trans c2
  have c4d : w3.cell? ⟨R, 4, none⟩ = some (.slice Aq q.bytes.length cq) := (hbe3.cell (p := ⟨R, 4, none⟩) hltR).trans c4
  have hrd3 := Hq.out.2.2.2.1.below hbe3
  obtain ⟨A', hsl, hrs⟩ := sl_mid hrd3 a m ham hmle Hq.out.2.2.2.2
  rw [hmp] at hsl hrs
  have hrs' : Rd w3 1 A' p (u8s P) := by
    rw [HPb.out, show u8s ((q.bytes.drop a).take p) = ((u8s q.bytes).drop a).take p by simp [u8s, List.map_take, List.map_drop]]
    exact hrs
  have hown3' : w3.ownsRow w.heap.size 5 1 v3 10 (u8s (num8 (k + 1) ++ [UInt8.ofNat 0, UInt8.ofNat p])) := by
    rw [show u8s (num8 (k + 1) ++ [UInt8.ofNat 0, UInt8.ofNat p]) = u8s (num8 (k + 1)) ++ u8s [UInt8.ofNat 0, UInt8.ofNat p] by simp [u8s]]
    exact hown3
  obtain ⟨A3, c3, rfl, _⟩ := own_form hown3'
  have hsz3 := hbe3.size
  have HO3 := hid hown3'
  have HBE3 := hid hbe3
  clear hown3 hown3' hg3 hat3 htb ho1 hbe2 hsz2 hrd3 hrs hbe3
  go_wp2_with (at_builtin; refine wpList_append_any _ rfl (.tmp 33) (.tmp 42) 30 rfl w.heap.size 5 i5 _ 1 1 Try.underlying30 hi5 hy0 hy1 hy2 rfl (by omega) _ 10 _ rfl HO3.out _ p _ _ rfl hrs' (u8s_one _) (by unfold maxLen; omega) (by omega) hsz3 ?_)
  intro v4 w4 hown4 hg4 hat4
  obtain ⟨L, hL⟩ : ∃ L, L = 10 + p := ⟨_, rfl⟩
  rw [← hL] at hown4
  have hbe4 : Below w.heap.size w w4 := HBE3.out.trans ⟨hg4.os, hg4.tape, hg4.output, hg4.size, fun j hj => hg4.block j (by omega) (fun e => by have := (own_block HO3.out e.symm).1; omega)⟩
  obtain ⟨A4, c4', rfl, _⟩ := own_form hown4
  have HO4 := hid hown4
  have HBE4 := hid hbe4
  obtain ⟨z, hz⟩ : ∃ z, z = 118 - p := ⟨_, rfl⟩
  have hw62 : IntKind.i64.wrap (128 - (L : Int)) = (z : Int) := by rw [IntKind.wrap_i64]; omega
  have hLc : L ≤ c4' := by
    rcases hown4.2 with ⟨h', h0⟩ | ⟨g, cap, cur, h', _, _, hle, _⟩
    · omega
    · injection h' with _ _ h'; omega
  have hz1 := run_append_zeros w4.drew A4 L c4' z 30 (by omega) hLc i5 hi5 hy0 hy1 hy2
  obtain ⟨v6, w6, happ, hown6, hg6, _⟩ := Lib.run_append_own_string (P := Try.prog) w4.drew w.heap.size 30 9 30 5 i5 Try.underlying30 Try.underlying9 hi5 hy0 hy1 hy2 _ L _ (show w4.drew.ownsRow w.heap.size 5 1 _ L _ from hown4) (zs z) (by rw [zs_size]; unfold maxLen; omega) (by rw [zs_size]; omega) (by show w.heap.size ≤ w4.heap.size; exact hbe4.size)
  rw [zs_size, zs_cells] at hown6
  rw [happ] at hz1
  have hbe6 : Below w.heap.size w w6 := hbe4.trans ⟨hg6.os, hg6.tape, hg6.output, hg6.size, fun j hj => hg6.block j (by show j < w4.heap.size; have := hbe4.size; omega) (fun e => by have := (own_block hown4 e.symm).1; omega)⟩
  have hown6' : w6.ownsRow w.heap.size 5 1 v6 128 (u8s (secOf all k)) := by
    rw [hsec.out, show u8s (((num8 (k + 1) ++ [UInt8.ofNat 0, UInt8.ofNat p]) ++ P) ++ List.replicate (118 - p) 0) = (u8s (num8 (k + 1) ++ [UInt8.ofNat 0, UInt8.ofNat p]) ++ u8s P) ++ u8s (List.replicate (118 - p) 0) by simp [u8s]]
    have e : L + z = 128 := by omega
    rw [← hz, ← e]
    exact hown6
  obtain ⟨A6, c6, rfl, hrd6⟩ := own_form hown6'
  have HRD := hid hrd6
  have hA6 : Hid (∀ ad, A6 = some ad → ¬ ad.block = D) := hid (fun ad e h => by
    subst e
    rcases hown6'.2 with ⟨h', _⟩ | ⟨g, cap, cur, h', hg, _⟩
    · cases h'
    · injection h' with h' _ _
      injection h' with h'
      subst h'
      have := HD.out.lt.1 D hFD
      have h : g = D := h
      omega)
  have HAPP := hid hz1
  have HD6 := hid (HD.out.below hbe6)
  have HC6 : Hid (Chg F w w6) := hid (Chg.of_below hbe6)
  have HBE6 := hid hbe6
  clear hz1 happ hown4 hg4 hat4 hown6 hown6' hg6 hbe4 hbe6 hrd6 c0d c1d c2d c4d hrs' hsl hLc hL hz
  go_upto_region 5 with fail
  refine wp_region_held_drew (S := fun w' => Chg F w w') (by kernel_rfl) (by exact (Chg.of_below HBE4.out).drew) (fun hHeld0 => ?_)
  refine wpAnyH_take (i := 0) (oi := { dst := some 44, op := Op.move (Operand.tmp 0), type := 59, pos := _, after := #[], guard := none }) (v := ?_) rfl (by kernel_rfl) (by kernel_rfl) (by kernel_rfl) (fun _ _ _ h => h) (Or.inl ⟨by rfl, ?_⟩) (by assumption) ?_
  rotate_left
  · (intro w' hSw; (try dsimp only at hSw); clear hSw; go_simp; try with_reducible rfl)
  try simp only [Act.put, List.setIfInBounds_toArray, List.set_cons_zero, List.set_cons_succ]
  refine wpAnyH_take (i := 1) (oi := { dst := some 45, op := Op.nilCheck (Operand.tmp 44), type := 0, pos := _, after := #[{ on := 0, ground := Ground.data }], guard := none }) (v := ?_) rfl (by kernel_rfl) (by kernel_rfl) (by kernel_rfl) (fun _ _ _ h => h) (Or.inl ⟨by rfl, ?_⟩) (by assumption) ?_
  rotate_left
  · (intro w' hSw; (try dsimp only at hSw); clear hSw; go_simp; try with_reducible rfl)
  try simp only [Act.put, List.setIfInBounds_toArray, List.set_cons_zero, List.set_cons_succ]
  refine wpAnyH_take (i := 2) (oi := { dst := some 46, op := Op.fieldAddr 80 (Operand.tmp 45) 0, type := 0, pos := _, after := #[{ on := 1, ground := Ground.data }], guard := none }) (v := ?_) rfl (by kernel_rfl) (by kernel_rfl) (by kernel_rfl) (fun _ _ _ h => h) (Or.inl ⟨by rfl, ?_⟩) (by assumption) ?_
  rotate_left
  · (intro w' hSw; (try dsimp only at hSw); clear hSw; go_simp; try with_reducible rfl)
  try simp only [Act.put, List.setIfInBounds_toArray, List.set_cons_zero, List.set_cons_succ]
  refine wpAnyH_take (i := 3) (oi := { dst := some 47, op := Op.load 24 (Operand.tmp 46), type := 24, pos := _, after := #[{ on := 2, ground := Ground.data }], guard := none }) (v := ?_) rfl (by kernel_rfl) (by kernel_rfl) (by kernel_rfl) (fun _ _ _ h => h) (Or.inl ⟨by rfl, ?_⟩) (by assumption) ?_
  rotate_left
  · (intro w' hSw; (try dsimp only at hSw); have q0 := (hSw.cell (p := ⟨R, 0, none⟩) hltR hnF).trans c0; clear hSw; go_simp; try with_reducible rfl)
  try simp only [Act.put, List.setIfInBounds_toArray, List.set_cons_zero, List.set_cons_succ]
  refine wpAnyH_take (i := 4) (oi := { dst := some 48, op := Op.move (Operand.tmp 0), type := 59, pos := _, after := #[], guard := none }) (v := ?_) rfl (by kernel_rfl) (by kernel_rfl) (by kernel_rfl) (fun _ _ _ h => h) (Or.inl ⟨by rfl, ?_⟩) (by assumption) ?_
  rotate_left
  · (intro w' hSw; (try dsimp only at hSw); clear hSw; go_simp; try with_reducible rfl)
  try simp only [Act.put, List.setIfInBounds_toArray, List.set_cons_zero, List.set_cons_succ]
  refine wpAnyH_take (i := 5) (oi := { dst := some 49, op := Op.nilCheck (Operand.tmp 48), type := 0, pos := _, after := #[{ on := 4, ground := Ground.data }], guard := none }) (v := ?_) rfl (by kernel_rfl) (by kernel_rfl) (by kernel_rfl) (fun _ _ _ h => h) (Or.inl ⟨by rfl, ?_⟩) (by assumption) ?_
  rotate_left
  · (intro w' hSw; (try dsimp only at hSw); clear hSw; go_simp; try with_reducible rfl)
  try simp only [Act.put, List.setIfInBounds_toArray, List.set_cons_zero, List.set_cons_succ]
  refine wpAnyH_take (i := 6) (oi := { dst := some 50, op := Op.fieldAddr 80 (Operand.tmp 49) 1, type := 0, pos := _, after := #[{ on := 5, ground := Ground.data }], guard := none }) (v := ?_) rfl (by kernel_rfl) (by kernel_rfl) (by kernel_rfl) (fun _ _ _ h => h) (Or.inl ⟨by rfl, ?_⟩) (by assumption) ?_
  rotate_left
  · (intro w' hSw; (try dsimp only at hSw); clear hSw; go_simp; try with_reducible rfl)
  try simp only [Act.put, List.setIfInBounds_toArray, List.set_cons_zero, List.set_cons_succ]
  refine wpAnyH_take (i := 7) (oi := { dst := some 51, op := Op.load 3 (Operand.tmp 50), type := 3, pos := _, after := #[{ on := 6, ground := Ground.data }], guard := none }) (v := ?_) rfl (by kernel_rfl) (by kernel_rfl) (by kernel_rfl) (fun _ _ _ h => h) (Or.inl ⟨by rfl, ?_⟩) (by assumption) ?_
  rotate_left
  · (intro w' hSw; (try dsimp only at hSw); have q0 := (hSw.cell (p := ⟨R, 1, none⟩) hltR hnF).trans c1; clear hSw; go_simp; try with_reducible rfl)
  try simp only [Act.put, List.setIfInBounds_toArray, List.set_cons_zero, List.set_cons_succ]
  refine wpAnyH_take (i := 8) (oi := { dst := some 52, op := Op.move (Operand.tmp 1), type := 3, pos := _, after := #[], guard := none }) (v := ?_) rfl (by kernel_rfl) (by kernel_rfl) (by kernel_rfl) (fun _ _ _ h => h) (Or.inl ⟨by rfl, ?_⟩) (by assumption) ?_
  rotate_left
  · (intro w' hSw; (try dsimp only at hSw); clear hSw; go_simp; try with_reducible rfl)
  try simp only [Act.put, List.setIfInBounds_toArray, List.set_cons_zero, List.set_cons_succ]
  refine wpAnyH_take (i := 9) (oi := { dst := some 53, op := Op.move (Operand.tmp 0), type := 59, pos := _, after := #[], guard := none }) (v := ?_) rfl (by kernel_rfl) (by kernel_rfl) (by kernel_rfl) (fun _ _ _ h => h) (Or.inl ⟨by rfl, ?_⟩) (by assumption) ?_
  rotate_left
  · (intro w' hSw; (try dsimp only at hSw); clear hSw; go_simp; try with_reducible rfl)
  try simp only [Act.put, List.setIfInBounds_toArray, List.set_cons_zero, List.set_cons_succ]
  refine wpAnyH_take (i := 10) (oi := { dst := some 54, op := Op.nilCheck (Operand.tmp 53), type := 0, pos := _, after := #[{ on := 9, ground := Ground.data }], guard := none }) (v := ?_) rfl (by kernel_rfl) (by kernel_rfl) (by kernel_rfl) (fun _ _ _ h => h) (Or.inl ⟨by rfl, ?_⟩) (by assumption) ?_
  rotate_left
  · (intro w' hSw; (try dsimp only at hSw); clear hSw; go_simp; try with_reducible rfl)
  try simp only [Act.put, List.setIfInBounds_toArray, List.set_cons_zero, List.set_cons_succ]
  refine wpAnyH_take (i := 11) (oi := { dst := some 55, op := Op.fieldAddr 80 (Operand.tmp 54) 2, type := 0, pos := _, after := #[{ on := 10, ground := Ground.data }], guard := none }) (v := ?_) rfl (by kernel_rfl) (by kernel_rfl) (by kernel_rfl) (fun _ _ _ h => h) (Or.inl ⟨by rfl, ?_⟩) (by assumption) ?_
  rotate_left
  · (intro w' hSw; (try dsimp only at hSw); clear hSw; go_simp; try with_reducible rfl)
  try simp only [Act.put, List.setIfInBounds_toArray, List.set_cons_zero, List.set_cons_succ]
  refine wpAnyH_take (i := 12) (oi := { dst := some 56, op := Op.load 3 (Operand.tmp 55), type := 3, pos := _, after := #[{ on := 11, ground := Ground.data }], guard := none }) (v := ?_) rfl (by kernel_rfl) (by kernel_rfl) (by kernel_rfl) (fun _ _ _ h => h) (Or.inl ⟨by rfl, ?_⟩) (by assumption) ?_
  rotate_left
  · (intro w' hSw; (try dsimp only at hSw); have q0 := (hSw.cell (p := ⟨R, 2, none⟩) hltR hnF).trans c2; clear hSw; go_simp; try with_reducible rfl)
  try simp only [Act.put, List.setIfInBounds_toArray, List.set_cons_zero, List.set_cons_succ]
  refine wpAnyH_take (i := 13) (oi := { dst := some 57, op := Op.binOp BinOp.rem 3 (Operand.tmp 52) (Operand.tmp 56) 3, type := 3, pos := _, after := #[{ on := 8, ground := Ground.data }, { on := 12, ground := Ground.data }], guard := none }) (v := ?_) rfl (by kernel_rfl) (by kernel_rfl) (by kernel_rfl) (fun _ _ _ h => h) (Or.inl ⟨by rfl, ?_⟩) (by assumption) ?_
  rotate_left
  · (intro w' hSw; (try dsimp only at hSw); clear hSw; go_simp; try with_reducible rfl)
  try simp only [Act.put, List.setIfInBounds_toArray, List.set_cons_zero, List.set_cons_succ]
  refine wpAnyH_take (i := 14) (oi := { dst := some 58, op := Op.binOp BinOp.add 3 (Operand.tmp 51) (Operand.tmp 57) 3, type := 3, pos := _, after := #[{ on := 7, ground := Ground.data }, { on := 13, ground := Ground.data }], guard := none }) (v := ?_) rfl (by kernel_rfl) (by kernel_rfl) (by kernel_rfl) (fun _ _ _ h => h) (Or.inl ⟨by rfl, ?_⟩) (by assumption) ?_
  rotate_left
  · (intro w' hSw; (try dsimp only at hSw); clear hSw; go_simp; try with_reducible rfl)
  try simp only [Act.put, List.setIfInBounds_toArray, List.set_cons_zero, List.set_cons_succ]
  refine wpAnyH_take (i := 15) (oi := { dst := some 59, op := Op.move (Operand.tmp 7), type := 30, pos := _, after := #[], guard := none }) (v := ?_) rfl (by kernel_rfl) (by kernel_rfl) (by kernel_rfl) (fun _ _ _ h => h) (Or.inl ⟨by rfl, ?_⟩) (by assumption) ?_
  rotate_left
  · (intro w' hSw; (try dsimp only at hSw); clear hSw; go_simp; try with_reducible rfl)
  try simp only [Act.put, List.setIfInBounds_toArray, List.set_cons_zero, List.set_cons_succ]
  refine wpAnyH_take (i := 16) (oi := { dst := some 60, op := Op.move (Operand.tmp 7), type := 30, pos := _, after := #[], guard := none }) (v := ?_) rfl (by kernel_rfl) (by kernel_rfl) (by kernel_rfl) (fun _ _ _ h => h) (Or.inl ⟨by rfl, ?_⟩) (by assumption) ?_
  rotate_left
  · (intro w' hSw; (try dsimp only at hSw); clear hSw; go_simp; try with_reducible rfl)
  try simp only [Act.put, List.setIfInBounds_toArray, List.set_cons_zero, List.set_cons_succ]
  refine wpAnyH_take (i := 17) (oi := { dst := some 61, op := Op.call { callee := Callee.builtin Builtin.len, args := #[Operand.tmp 60], argTypes := #[30] }, type := 3, pos := _, after := #[{ on := 16, ground := Ground.data }], guard := none }) (v := ?_) rfl (by kernel_rfl) (by kernel_rfl) (by kernel_rfl) (fun _ _ _ h => h) (Or.inl ⟨by rfl, ?_⟩) (by assumption) ?_
  rotate_left
  · (intro w' hSw; (try dsimp only at hSw); clear hSw; go_simp; try with_reducible rfl)
  try simp only [Act.put, List.setIfInBounds_toArray, List.set_cons_zero, List.set_cons_succ]
  refine wpAnyH_take (i := 18) (oi := { dst := some 62, op := Op.binOp BinOp.sub 3 (Operand.const (Value.int IntKind.i64 128)) (Operand.tmp 61) 3, type := 3, pos := _, after := #[{ on := 17, ground := Ground.data }], guard := none }) (v := ?_) rfl (by kernel_rfl) (by kernel_rfl) (by kernel_rfl) (fun _ _ _ h => h) (Or.inl ⟨by rfl, ?_⟩) (by assumption) ?_
  rotate_left
  · (intro w' hSw; (try dsimp only at hSw); clear hSw; go_simp; try with_reducible rfl)
  try simp only [Act.put, List.setIfInBounds_toArray, List.set_cons_zero, List.set_cons_succ]
  refine wpAnyH_ready (rs := [19]) (by kernel_rfl) (by simp) ?_
  refine AllReadyH.cons (o := { dst := some 63, op := Op.call { callee := Callee.builtin Builtin.append, args := #[Operand.tmp 59, Operand.tmp 62], argTypes := #[30, 3] }, type := 30, pos := _, after := #[{ on := 15, ground := Ground.data }, { on := 18, ground := Ground.data }], guard := none }) rfl (fun K hK => ?_) AllReadyH.nil
  refine step_app2 (by rfl) _ _ _ _ (by rfl) _ _ _ (by rfl) (by rfl) HAPP.out ?_
  refine hK.out _ _ (HC6.out) (fun hHeld1 => ?_)
  clear hK K
  try simp only [Act.put, List.setIfInBounds_toArray, List.set_cons_zero, List.set_cons_succ]
  refine wpAnyH_ready (rs := [20]) (by kernel_rfl) (by simp) ?_
  refine AllReadyH.cons (o := { dst := some 64, op := Op.call { callee := Callee.value (Operand.func 12), args := #[Operand.tmp 47, Operand.tmp 58, Operand.tmp 63], argTypes := #[24, 3, 30] }, type := 25, pos := _, after := #[{ on := 3, ground := Ground.data }, { on := 14, ground := Ground.data }, { on := 19, ground := Ground.data }, { on := 19, ground := Ground.chain }], guard := none }) rfl (fun K hK => ?_) AllReadyH.nil
  go_simp
  refine (dv_write_no D F G l W w6 HD6.out i A6 c6 hil).mono ?_
  rintro e w7 ⟨rfl, h1, h4⟩
  refine hK.out _ _ (HC6.out.trans (h4.mono (fun j _ e => by subst e; exact hFD))) (fun hHeld2 => ?_)
  clear hK K
  try simp only [Act.put, List.setIfInBounds_toArray, List.set_cons_zero, List.set_cons_succ]
  refine wpAnyH_take (i := 21) (oi := { dst := some 4, op := Op.assign (Operand.tmp 64), type := 25, pos := _, after := #[{ on := 20, ground := Ground.data }, { on := 20, ground := Ground.chain }, { on := 0, ground := Ground.phase }, { on := 1, ground := Ground.phase }, { on := 2, ground := Ground.phase }, { on := 3, ground := Ground.phase }, { on := 4, ground := Ground.phase }, { on := 5, ground := Ground.phase }, { on := 6, ground := Ground.phase }, { on := 7, ground := Ground.phase }, { on := 8, ground := Ground.phase }, { on := 9, ground := Ground.phase }, { on := 10, ground := Ground.phase }, { on := 11, ground := Ground.phase }, { on := 12, ground := Ground.phase }, { on := 13, ground := Ground.phase }, { on := 14, ground := Ground.phase }, { on := 15, ground := Ground.phase }, { on := 16, ground := Ground.phase }, { on := 17, ground := Ground.phase }, { on := 18, ground := Ground.phase }, { on := 19, ground := Ground.phase }, { on := 20, ground := Ground.phase }], guard := none }) (v := ?_) rfl (by kernel_rfl) (by kernel_rfl) (by kernel_rfl) (fun _ _ _ h => h) (Or.inl ⟨by rfl, ?_⟩) (by assumption) ?_
  rotate_left
  · (intro w' hSw; (try dsimp only at hSw); clear hSw; go_simp; try with_reducible rfl)
  try simp only [Act.put, List.setIfInBounds_toArray, List.set_cons_zero, List.set_cons_succ]
  refine wpAnyH_done (by kernel_rfl) ?_ _
  go_wp2
  go_ret
  exact ⟨rfl, h1, hHeld2⟩
end Go.Proofs.Ytjmcjbmnggecgaa
