/- The walk of the document's Read. Conditions: none but what a slice is. -/
import Derived.Test.YtpdikmkhkiplbaaRf2
import Derived.BigRegion
namespace Go.Proofs.Ytpdikmkhkiplbaa
open Go.RowKit
set_option maxRecDepth 100000
set_option linter.unusedVariables false
set_option linter.unusedSimpArgs false

theorem info70 : (Try.prog.info? 70).map (fun i => (i.zero, i.size, i.bytes)) = some (some (.agg #[.bool false, .string ⟨#[]⟩]), 2, 24) := by kernel_rfl
/-- what the document's Read tells -/
def RPost (bs : List UInt8) (w : World) (e : Ending) (w' : World) : Prop :=
  ∃ A c, e = .returned (.tuple #[.agg #[.int .i64 (pgD bs).next, .slice A (pgD bs).l.length c], .bool (pg bs).isSome]) ∧ w'.ownsRow w.heap.size 70 2 (.slice A (pgD bs).l.length c) (pgD bs).l.length (scs (pgD bs).l) ∧ Below w.heap.size w w'
theorem rpost_bad {bs : List UInt8} {w w' : World} (h : ∀ q, ¬ Is bs q) (hb : Below w.heap.size w w') : RPost bs w (.returned (.tuple #[.agg #[.int .i64 0, .slice none 0 0], .bool false])) w' := by
  unfold RPost
  rw [pgD_none (pg_none h), pg_none h]
  exact ⟨none, 0, rfl, World.ownsRow_nil _ _ _ _, hb⟩
theorem wp_bare {P : Program} {c : Code} {a : Act} {w : World} {Q : Exit → Act → World → Prop} (h : ∀ K : Act → World → Prop, (∀ a w, Q .normal a w → K a w) → c.wp P (Exit.then K Q) a w) : c.wp P Q a w :=
  Code.wp_mono (fun e a w h => by cases e <;> exact h) (h (fun a w => Q .normal a w) (fun _ _ h => h))
theorem step_app {P : Program} {w w' : World} {ops : Array Oper} {o : Oper} {a : Act} {K : Act → World → Prop} {Q : Exit → Act → World → Prop} {E : Prop} (hgd : o.guard = none) (s x : Operand) (t : TypeId)
    (ho : o.op = .call { callee := .builtin .append, args := #[s, x], argTypes := #[t, t] }) (v u v' : Value) (hs : a.eval s = v) (hx : a.eval x = u) (hrun : (Builtin.append_ #[t, t] o.type #[v, u]).run P w = .ok v' w') (h : K (a.put o.dst v') w') :
    if Region.wanted o (yielded ops a.tmps) = true then Oper.wp P o a w K Q else E := by
  have hw : Region.wanted o (yielded ops a.tmps) = true := by simp [Region.wanted, hgd]
  rw [if_pos hw]
  unfold Oper.wp execOp
  simp only [ho, resolve, invoke, builtin, Sem.run_bind, Sem.run_pure, Result.andThen_ok, List.map_toArray, List.map_cons, List.map_nil, hs, hx, hrun]
  exact h
theorem last_of {a : Recs} {x : Option (List UInt8)} (h : a[a.length - 1]? = some x) : ∃ a', a = a' ++ [x] := by
  rcases List.eq_nil_or_concat a with rfl | ⟨a', y, rfl⟩
  · simp at h
  · simp at h
    subst h
    exact ⟨a', by simp⟩
theorem rd_pair (w : World) (t : TypeId) (a b : Value) : Rd (w.alloc (.cells #[a, b] t)) 2 (some ⟨w.heap.size, 0, none⟩) 1 [a, b] :=
  ⟨rfl, fun _ => ⟨_, rfl, by simp, fun j u hu => by rw [Addr.add_lit, Nat.zero_add, (Blk.new w t #[a, b]).cell]; simpa using hu⟩⟩
theorem beN_two (bs : List UInt8) (j : Nat) (h : j + 1 < bs.length) : beN ((bs.drop j).take 2) = num2 bs j := by
  rw [beN_take (bs.drop j) 1 (by rw [List.length_drop]; omega), beN_take (bs.drop j) 0 (by rw [List.length_drop]; omega)]
  simp only [List.getElem_drop, num2, List.getD_eq_getElem?_getD, List.getElem?_eq_getElem (show j < bs.length by omega), List.getElem?_eq_getElem h, Option.getD_some, List.take_zero, Nat.add_zero]
  simp [beN]
theorem beN_four (bs : List UInt8) (j : Nat) (h : j + 3 < bs.length) : beN ((bs.drop j).take 4) = num4 bs j := by
  rw [beN_take (bs.drop j) 3 (by rw [List.length_drop]; omega), beN_take (bs.drop j) 2 (by rw [List.length_drop]; omega), beN_take (bs.drop j) 1 (by rw [List.length_drop]; omega), beN_take (bs.drop j) 0 (by rw [List.length_drop]; omega)]
  simp only [List.getElem_drop, num4, List.getD_eq_getElem?_getD, List.getElem?_eq_getElem (show j < bs.length by omega), List.getElem?_eq_getElem (show j + 1 < bs.length by omega), List.getElem?_eq_getElem (show j + 2 < bs.length by omega), List.getElem?_eq_getElem h, Option.getD_some, List.take_zero, Nat.add_zero]
  simp [beN]
  omega
theorem u8s_cut (bs : List UInt8) (i n : Nat) : ((u8s bs).drop i).take n = u8s ((bs.drop i).take n) := by simp [u8s, List.map_take, List.map_drop]

/-- the state of Read's loop -/
structure RrS (bs : List UInt8) (w : World) (b o : Nat) (k : Nat) (a : Recs) (lv : Value) (wr : World) : Prop where
  len : a.length = k
  m480 : ∀ r, some r ∈ a → r.length ≤ 480
  sm : sum a ≤ 480 * k
  b0 : Blk wr w.heap.size 66 #[.int .i64 0, .slice none 0 0]
  b1 : Blk wr (w.heap.size + 1) 66 #[.int .i64 (num4 bs 2), lv]
  row : wr.ownsRow (w.heap.size + 2) 70 2 lv a.length (scs a)
  be : Below w.heap.size w wr
  rd : Rd wr 1 (some ⟨b, o, none⟩) 504 (u8s bs)
  is : ∀ q, Is bs q → a = q.l.take k
theorem RrS.below {bs : List UInt8} {w wr wx : World} {b o k : Nat} {a : Recs} {lv : Value} (h : RrS bs w b o k a lv wr) (hb : Below wr.heap.size wr wx) : RrS bs w b o k a lv wx :=
  ⟨h.len, h.m480, h.sm, h.b0.below hb h.b0.lt, h.b1.below hb h.b1.lt, own_chg h.row (Chg.of_below hb) (fun _ _ h => h), h.be.trans (hb.mono h.be.size), h.rd.below hb, h.is⟩
/-- a slot more -/
theorem RrS.push {bs : List UInt8} {w wr w5 : World} {b o k : Nat} {a : Recs} {lv lv' : Value} {x : Option (List UInt8)} (h : RrS bs w b o k a lv wr) (hbw : b < w.heap.size) (hg : wr.grownBy w5 lv.ownBlock) (ho : w5.ownsRow (w.heap.size + 2) 70 2 lv' (a.length + 1) (scs a ++ sv x))
    (hx : ∀ r, x = some r → r.length ≤ 480) (his : ∀ q, Is bs q → a ++ [x] = q.l.take (k + 1)) :
    w5.cell? ⟨w.heap.size + 1, 1, none⟩ = some lv ∧ w5.frozen? ⟨w.heap.size + 1, 1, none⟩ = false ∧ RrS bs w b o (k + 1) (a ++ [x]) lv' (w5.setCell ⟨w.heap.size + 1, 1, none⟩ lv') := by
  have hB : ∀ g, lv.ownBlock = some g → w.heap.size + 2 ≤ g := fun g hg => (own_block h.row hg).1
  have hb1 := h.b1.grown hg (fun e => by have := hB _ e.symm; omega)
  have hb0 := h.b0.grown hg (fun e => by have := hB _ e.symm; omega)
  have hbe : Below w.heap.size w (w5.setCell ⟨w.heap.size + 1, 1, none⟩ lv') := (h.be.trans ⟨hg.os, hg.tape, hg.output, hg.size, fun i hi => hg.block i (by have := h.be.size; omega) (fun e => by have := hB _ e.symm; omega)⟩ : Below w.heap.size w w5).trans ((chg_set (w.heap.size + 1) 1 lv').below (by have := h.be.size; have := hg.size; omega) (fun i hi => by omega))
  refine ⟨blk2b hb1, hb1.frozen 1, by rw [List.length_append, h.len]; rfl, fun r hr => ?_, ?_, hb0.far (by show w.heap.size ≠ w.heap.size + 1; omega) _, ?_, ?_, hbe, ?_, his⟩
  · rcases List.mem_append.1 hr with hr | hr
    · exact h.m480 r hr
    · simp at hr; exact hx r hr.symm
  · rw [sum_snoc]
    have h1 := h.sm
    cases x with
    | none => simp; omega
    | some r => have := hx r rfl; simp; omega
  · have := hb1.set_ 1 lv'
    simpa using this
  · rw [List.length_append, scs_append]
    have : w5.ownsRow (w.heap.size + 2) 70 2 lv' (a.length + [x].length) (scs a ++ scs [x]) := by simpa [scs] using ho
    exact own_chg this (chg_set (w.heap.size + 1) 1 lv') (fun g hg e => by have := (own_block ho hg).1; omega)
  · exact h.rd.below_old h.be hbe hbw

theorem raw_bytes (m : Nat) (l : Recs) (h : trim l = l) : MPage.bytes ⟨m, l⟩ = page m l.length (st l) := by
  simp only [MPage.bytes, h]
  simp
theorem rd_not {bs : List UInt8} {w wr : World} {b o : Nat} {a : Recs} {lv : Value} (h : RrS bs w b o (num2 bs 0) a lv wr) {q : MPage} (hq : Is bs q) (hne : ¬ page (num4 bs 2) a.length (st a) = bs) : False := by
  have h1 := h.is q hq
  have h2 := hq.count
  rw [List.take_of_length_le (by omega)] at h1
  have h3 := hq.next
  have hb := hq.2
  refine hne ?_
  rw [hq.1.bytes, ← h1, ← h3] at hb
  simpa using hb
theorem rd_yes {bs : List UInt8} {w wr : World} {b o : Nat} {a : Recs} {lv : Value} (h : RrS bs w b o (num2 bs 0) a lv wr) (hf : 4 * a.length + sum a ≤ 498) (hl : a = [] ∨ ∃ a' r, a = a' ++ [some r]) (he : page (num4 bs 2) a.length (st a) = bs) : Is bs ⟨num4 bs 2, a⟩ := by
  have ht := trim_fix a hl
  exact ⟨⟨ht, ⟨hf, h.m480⟩, by simp, by have := num4_lt bs 2; simp; omega⟩, by rw [raw_bytes _ _ ht]; exact he⟩
theorem rpost_good {bs : List UInt8} {w wr w' : World} {b o : Nat} {a : Recs} {A3 : Option Addr} {c3 : Nat} (h : Is bs ⟨num4 bs 2, a⟩) (hs : RrS bs w b o (num2 bs 0) a (.slice A3 a.length c3) wr) (hb : Below w.heap.size w w') (hr : w'.ownsRow (w.heap.size + 2) 70 2 (.slice A3 a.length c3) a.length (scs a)) :
    RPost bs w (.returned (.tuple #[.agg #[.int .i64 (num4 bs 2), .slice A3 a.length c3], .bool true])) w' := by
  unfold RPost
  rw [pgD_some (pg_some h), pg_some h]
  exact ⟨A3, c3, rfl, own_mono hr (by omega), hb⟩
set_option maxHeartbeats 6400000 in
theorem rread_any (A : Option Addr) (n c : Nat) (bs : List UInt8) (w : World) (hr : Rd w 1 A n (u8s bs)) (hn : n = bs.length) (hc : n ≤ c) :
    Calls Try.prog 36 #[.slice A n c] w fun e w' => RPost bs w e w' := by
  obtain ⟨i70, hi70, hz0, hz1, hz2⟩ := info_parts info70
  have hW0 : ∀ W0, w.alloc (.cells #[.int .i64 0, .slice none 0 0] 66) = W0 → Hid (Blk W0 w.heap.size 66 #[.int .i64 0, .slice none 0 0] ∧ Below w.heap.size w W0 ∧ Rd W0 1 A n (u8s bs) ∧ W0.heap.size = w.heap.size + 1) := by
    rintro _ rfl
    have hbe0 : Below w.heap.size w (w.alloc (.cells #[.int .i64 0, .slice none 0 0] 66)) := (Below.refl _ _).alloc (Nat.le_refl _) _
    exact hid ⟨Blk.new w 66 _, hbe0, hr.below hbe0, by simp⟩
  by_cases h504 : n = 504
  · subst h504
    obtain ⟨b, o, rfl, hfb, _⟩ := hr.lit (by omega)
    have hn' := hid hn
    have HN := hid (fun q (h : Is bs q) => h.count)
    have HLT := num2_lt bs 0
    have HLM := num4_lt bs 2
    clear hr hn
    go_enter Try.func36, Try.ntmps36
    go_wp2_with fail
    generalize hw0 : (w.alloc (.cells #[.int .i64 0, .slice none 0 0] 66)) = W0
    have H0 := hW0 _ hw0
    clear hw0 hW0
    obtain ⟨hsl1, hr1⟩ := sl_to H0.out.2.2.1 2 2 rfl (by omega) hc
    obtain ⟨A2, hsl2, hr2⟩ := sl_two H0.out.2.2.1 2 6 2 6 rfl rfl (by omega) (by omega) hc
    have hg1 := hid (getn_any _ 2 c (bs.take 2) W0 (by rw [show u8s (bs.take 2) = (u8s bs).take 2 by simp [u8s, List.map_take]]; exact hr1) (by have := hn'.out; rw [List.length_take]; omega) (by omega))
    have hg2 := hid (getn_any A2 4 (c - 2) ((bs.drop 2).take 4) W0 (by rw [← u8s_cut]; exact hr2) (by have := hn'.out; rw [List.length_take, List.length_drop]; omega) (by omega))
    rw [show beN (bs.take 2) = num2 bs 0 by have := beN_two bs 0 (by have := hn'.out; omega); simpa using this] at hg1
    rw [beN_four bs 2 (by have := hn'.out; omega)] at hg2
    clear hr1 hr2
    go_wp2_with fail
    refine hg1.out.mono ?_
    rintro e w1 ⟨rfl, hw1⟩
    rw [hw1]
    clear hw1
    go_wp2_with fail
    refine hg2.out.mono ?_
    rintro e w1 ⟨rfl, hw1⟩
    rw [hw1]
    clear hw1
    clear hg1 hg2 hsl1 hsl2
    have hB1 : Hid (Blk (W0.alloc (.cells #[.int .i64 (num4 bs 2), .slice none 0 0] 66)) (w.heap.size + 1) 66 #[.int .i64 (num4 bs 2), .slice none 0 0]) := hid (by
      have := Blk.new W0 66 #[.int .i64 (num4 bs 2), .slice none 0 0]
      rw [H0.out.2.2.2] at this
      exact this)
    have hbe1 : Below W0.heap.size W0 (W0.alloc (.cells #[.int .i64 (num4 bs 2), .slice none 0 0] 66)) := (Below.refl _ _).alloc (Nat.le_refl _) _
    have hsz0 := H0.out.2.2.2
    have HS0 : Hid (RrS bs w b o 0 [] (.slice none 0 0) (W0.alloc (.cells #[.int .i64 (num4 bs 2), .slice none 0 0] 66))) := hid ⟨rfl, by simp, by simp [sum], H0.out.1.alloc _, hB1.out, World.ownsRow_nil _ _ _ _, H0.out.2.1.trans (hbe1.mono (by omega)), H0.out.2.2.1.below hbe1, fun q _ => by simp⟩
    clear hbe1 hB1
    by_cases h124 : num2 bs 0 ≤ 124
    · as_aux_lemma =>
      have h124' : 6 + 4 * (num2 bs 0 : Int) ≤ 504 := by omega
      clear H0
      go_upto_block 0 with fail
      go_cut [] (fun wx => ∃ a A c, RrS bs w b o (num2 bs 0) a (.slice A a.length c) wx)
      case first => as_aux_lemma =>
        go_wp2_with fail
        go_loopw [6] (fun i wr => ∃ (k : Nat) (a : Recs) (A3 : Option Addr) (c3 : Nat), k ≤ num2 bs 0 ∧ i = .int .i64 k ∧ RrS bs w b o k a (.slice A3 a.length c3) wr) (fun i _ => num2 bs 0 - (intOf i).toNat)
        case atStart => exact ⟨0, [], none, 0, by omega, rfl, HS0.out⟩
        case round => as_aux_lemma =>
          obtain ⟨k, a, A3, c3, hk, rfl, hS⟩ := hrel
          have HS := hid hS
          clear HS0
          by_cases hlt : k < num2 bs 0
          · obtain ⟨A4, hsl4, hr4⟩ := sl_two hS.rd (6 + 4 * k) (8 + 4 * k) (6 + 4 * (k : Int)) (8 + 4 * (k : Int)) (by omega) (by omega) (by omega) (by omega) hc
            obtain ⟨A5, hsl5, hr5⟩ := sl_two hS.rd (8 + 4 * k) (10 + 4 * k) (8 + 4 * (k : Int)) (10 + 4 * (k : Int)) (by omega) (by omega) (by omega) (by omega) hc
            have e4 : 8 + 4 * k - (6 + 4 * k) = 2 := by omega
            have e5 : 10 + 4 * k - (8 + 4 * k) = 2 := by omega
            rw [e4] at hsl4 hr4
            rw [e5] at hsl5 hr5
            have hl504 := hn'.out
            have hg4 := hid (getn_any A4 2 (c - (6 + 4 * k)) ((bs.drop (6 + 4 * k)).take 2) wr (by rw [← u8s_cut]; exact hr4) (by rw [List.length_take, List.length_drop]; omega) (by omega))
            have hg5 := hid (getn_any A5 2 (c - (8 + 4 * k)) ((bs.drop (8 + 4 * k)).take 2) wr (by rw [← u8s_cut]; exact hr5) (by rw [List.length_take, List.length_drop]; omega) (by omega))
            rw [beN_two bs (6 + 4 * k) (by omega)] at hg4
            rw [beN_two bs (8 + 4 * k) (by omega)] at hg5
            have hlt' : (k : Int) < (num2 bs 0 : Int) := by omega
            obtain ⟨pc0, pc1, _⟩ := blk2 hS.b1
            have hla : a.length ≤ 124 := by rw [hS.len]; omega
            have hA3 := num2_lt bs (6 + 4 * k)
            have hS3 := num2_lt bs (8 + 4 * k)
            have hsz := hS.b1.lt
            clear hS hr4 hr5 hl504
            go_wp2_with fail
            refine hg4.out.mono ?_
            rintro e w1 ⟨rfl, hw1⟩
            rw [hw1]
            clear hw1
            go_wp2_with fail
            refine hg5.out.mono ?_
            rintro e w2 ⟨rfl, hw2⟩
            rw [hw2]
            clear hw2 hg4 hg5 hsl4 hsl5 w1 w2
            by_cases hS0 : num2 bs (8 + 4 * k) = 0
            · as_aux_lemma =>
              have hSb : ((num2 bs (8 + 4 * k) : Int) == 0) = true := by rw [hS0]; rfl
              have HSa := hid (HS.out.below ((Below.refl _ wr).alloc (Nat.le_refl _) (.cells #[.bool false, .string ⟨#[]⟩] 70)))
              have hbz := HSa.out.b1.lt
              go_wp2_with (at_builtin; refine wpList_append_any _ rfl (.tmp 51) (.tmp 53) 64 rfl (w.heap.size + 2) 70 i70 _ 2 24 Try.underlying64 hi70 hz0 hz1 hz2 rfl (by omega) _ a.length (scs a) rfl HSa.out.row _ 1 1 _ rfl (rd_pair _ _ _ _) (by simp [Value.oneCell']) (by unfold maxLen; omega) (by omega) (by omega) ?_)
              intro v5 w5 hown5 hg5 hat5
              obtain ⟨hc5, hf5, hp5⟩ := HSa.out.push (x := none) hfb hg5 hown5 (fun r h => by cases h) (fun q hq => (hq.none_ hlt (HS.out.is q hq) hS0).symm)
              obtain ⟨A6, c6, rfl, _⟩ := own_form hown5
              have HP5 := hid hp5
              clear hown5 hg5 hat5 hp5
              go_wp2
              go_roundw
              case rel => exact ⟨k + 1, a ++ [none], A6, c6, by omega, by go_num, by rw [List.length_append]; exact HP5.out⟩
              case measure => simp [intOf]; omega
            · have hSb : ((num2 bs (8 + 4 * k) : Int) == 0) = false := beq_eq_false_iff_ne.mpr (by omega)
              have HX := hid (fun q hq => Is.some_ (q := q) hq hlt (HS.out.is q hq) hS0)
              by_cases h1 : num2 bs (8 + 4 * k) - 1 ≤ 480
              · have g1 : (num2 bs (8 + 4 * k) : Int) - 1 ≤ 480 := by omega
                by_cases h2 : num2 bs (6 + 4 * k) ≤ 504
                · have g2 : (num2 bs (6 + 4 * k) : Int) ≤ 504 := by omega
                  by_cases h3 : num2 bs (8 + 4 * k) - 1 ≤ 504 - num2 bs (6 + 4 * k)
                  · as_aux_lemma =>
                    have g3 : (num2 bs (8 + 4 * k) : Int) - 1 ≤ 504 - (num2 bs (6 + 4 * k) : Int) := by omega
                    obtain ⟨rc, hrc⟩ : ∃ rc, rc = (bs.drop (num2 bs (6 + 4 * k))).take (num2 bs (8 + 4 * k) - 1) := ⟨_, rfl⟩
                    have hrl : rc.length = num2 bs (8 + 4 * k) - 1 := by have := hn'.out; rw [hrc, List.length_take, List.length_drop]; omega
                    obtain ⟨A6, hsl6, hr6⟩ := sl_two HS.out.rd (num2 bs (6 + 4 * k)) (num2 bs (6 + 4 * k) + (num2 bs (8 + 4 * k) - 1)) (num2 bs (6 + 4 * k) : Int) ((num2 bs (6 + 4 * k) : Int) + (num2 bs (8 + 4 * k) : Int) - 1) (by omega) (by omega) (by omega) (by omega) hc
                    have e6 : num2 bs (6 + 4 * k) + (num2 bs (8 + 4 * k) - 1) - num2 bs (6 + 4 * k) = rc.length := by omega
                    rw [e6] at hsl6 hr6
                    rw [u8s_cut, hrl, ← hrc, ← hrl] at hr6
                    have s6 := run_str wr A6 rc.length (c - num2 bs (6 + 4 * k)) rc hr6
                    have s7 := run_str wr.drew A6 rc.length (c - num2 bs (6 + 4 * k)) rc hr6
                    have HSa := hid (HS.out.below ((Below.refl _ wr).alloc (Nat.le_refl _) (.cells #[.bool true, .string ⟨rc.toArray⟩] 70)))
                    have hbz : w.heap.size + 2 ≤ (wr.alloc (.cells #[.bool true, .string ⟨rc.toArray⟩] 70)).heap.size := HSa.out.b1.lt
                    have pc2 := blk2b HSa.out.b1
                    have Hrl := hid hrl
                    have Hrc := hid hrc
                    have HSd := hid (HSa.out.below (Below.refl _ _).drew)
                    have hrd : Rd (wr.alloc (.cells #[.bool true, .string ⟨rc.toArray⟩] 70)).drew 2 (some ⟨wr.heap.size, 0, none⟩) 1 [.bool true, .string ⟨rc.toArray⟩] := rd_pair wr 70 _ _
                    have HRD := hid hrd
                    have hbz2 : w.heap.size + 2 ≤ (wr.alloc (.cells #[.bool true, .string ⟨rc.toArray⟩] 70)).drew.heap.size := hbz
                    have HBZ2 := hid hbz2
                    have HOC := hid (show ∀ u ∈ [Value.bool true, .string ⟨rc.toArray⟩], u.oneCell' = true by simp [Value.oneCell'])
                    clear hrd hbz2 hbz
                    obtain ⟨v5, w5, happ, hown5, hg5, hat5⟩ := run_append_any (P := Try.prog) (wr.alloc (.cells #[.bool true, .string ⟨rc.toArray⟩] 70)).drew (w.heap.size + 2) 64 64 70 i70 _ 2 24 Try.underlying64 hi70 hz0 hz1 hz2 rfl (by omega) _ a.length (scs a) HSd.out.row _ 1 1 _ HRD.out HOC.out (by unfold maxLen; omega) (by omega) HBZ2.out
                    obtain ⟨hc5, hf5, hp5⟩ := HSd.out.push (x := some rc) hfb hg5 hown5 (fun r h => by injection h with h; subst h; have := Hrl.out; omega) (fun q hq => by obtain ⟨r, a1, a2, a3, a4, a5, a6⟩ := HX.out q hq; rw [a1, Hrc.out, ← a2, Nat.add_sub_cancel, a6])
                    obtain ⟨A7, c7, rfl, _⟩ := own_form hown5
                    have HAPP := hid happ
                    have HP5 := hid hp5
                    clear happ hown5 hg5 hat5 hp5
                    have hwr1 : IntKind.i64.wrap ((num2 bs (6 + 4 * k) : Int) + (num2 bs (8 + 4 * k) : Int)) = (num2 bs (6 + 4 * k) : Int) + (num2 bs (8 + 4 * k) : Int) := by rw [IntKind.wrap_i64]; omega
                    have hwr2 : IntKind.i64.wrap ((num2 bs (6 + 4 * k) : Int) + (num2 bs (8 + 4 * k) : Int) - 1) = (num2 bs (6 + 4 * k) : Int) + (num2 bs (8 + 4 * k) : Int) - 1 := by rw [IntKind.wrap_i64]; omega
                    clear hr6 hrc e6 hrl
                    go_upto_region 16 with fail
                    refine wp_bare (fun K hK => ?_)
                    go_cut [] (fun wx => ∃ A7 c7, RrS bs w b o (k + 1) (a ++ [some rc]) (.slice A7 (a.length + 1) c7) wx)
                    case first => as_aux_lemma =>
                      clear hK
                      go_wp2_with fail
                      refine wp_region_held_drew (S := fun _ => True) (by kernel_rfl) trivial (fun _ => ?_)
                      refine wpAnyH_take (i := 0) (oi := { dst := some 71, op := Op.fieldAddr 66 (Operand.tmp 5) 1, type := 0, pos := _, after := #[], guard := none }) (v := ?_) rfl (by kernel_rfl) (by kernel_rfl) (by kernel_rfl) (fun _ _ _ h => h) (Or.inl ⟨by rfl, ?_⟩) trivial ?_
                      rotate_left
                      · (intro w' hSw; (try dsimp only at hSw); go_simp; try with_reducible rfl)
                      try simp only [Act.put, List.setIfInBounds_toArray, List.set_cons_zero, List.set_cons_succ]
                      refine wpAnyH_take (i := 2) (oi := { dst := some 73, op := Op.move (Operand.tmp 0), type := 23, pos := _, after := #[], guard := none }) (v := ?_) rfl (by kernel_rfl) (by kernel_rfl) (by kernel_rfl) (fun _ _ _ h => h) (Or.inl ⟨by rfl, ?_⟩) trivial ?_
                      rotate_left
                      · (intro w' hSw; (try dsimp only at hSw); go_simp; try with_reducible rfl)
                      try simp only [Act.put, List.setIfInBounds_toArray, List.set_cons_zero, List.set_cons_succ]
                      refine wpAnyH_take (i := 3) (oi := { dst := some 74, op := Op.move (Operand.tmp 7), type := 3, pos := _, after := #[], guard := none }) (v := ?_) rfl (by kernel_rfl) (by kernel_rfl) (by kernel_rfl) (fun _ _ _ h => h) (Or.inl ⟨by rfl, ?_⟩) trivial ?_
                      rotate_left
                      · (intro w' hSw; (try dsimp only at hSw); go_simp; try with_reducible rfl)
                      try simp only [Act.put, List.setIfInBounds_toArray, List.set_cons_zero, List.set_cons_succ]
                      refine wpAnyH_take (i := 4) (oi := { dst := some 75, op := Op.move (Operand.tmp 7), type := 3, pos := _, after := #[], guard := none }) (v := ?_) rfl (by kernel_rfl) (by kernel_rfl) (by kernel_rfl) (fun _ _ _ h => h) (Or.inl ⟨by rfl, ?_⟩) trivial ?_
                      rotate_left
                      · (intro w' hSw; (try dsimp only at hSw); go_simp; try with_reducible rfl)
                      try simp only [Act.put, List.setIfInBounds_toArray, List.set_cons_zero, List.set_cons_succ]
                      refine wpAnyH_take (i := 5) (oi := { dst := some 76, op := Op.move (Operand.tmp 8), type := 3, pos := _, after := #[], guard := none }) (v := ?_) rfl (by kernel_rfl) (by kernel_rfl) (by kernel_rfl) (fun _ _ _ h => h) (Or.inl ⟨by rfl, ?_⟩) trivial ?_
                      rotate_left
                      · (intro w' hSw; (try dsimp only at hSw); go_simp; try with_reducible rfl)
                      try simp only [Act.put, List.setIfInBounds_toArray, List.set_cons_zero, List.set_cons_succ]
                      refine wpAnyH_take (i := 6) (oi := { dst := some 77, op := Op.binOp BinOp.add 3 (Operand.tmp 75) (Operand.tmp 76) 3, type := 3, pos := _, after := #[{ on := 4, ground := Ground.data }, { on := 5, ground := Ground.data }], guard := none }) (v := ?_) rfl (by kernel_rfl) (by kernel_rfl) (by kernel_rfl) (fun _ _ _ h => h) (Or.inl ⟨by rfl, ?_⟩) trivial ?_
                      rotate_left
                      · (intro w' hSw; (try dsimp only at hSw); go_simp; try with_reducible rfl)
                      try simp only [Act.put, List.setIfInBounds_toArray, List.set_cons_zero, List.set_cons_succ]
                      refine wpAnyH_take (i := 7) (oi := { dst := some 78, op := Op.binOp BinOp.sub 3 (Operand.tmp 77) (Operand.const (Value.int IntKind.i64 1)) 3, type := 3, pos := _, after := #[{ on := 6, ground := Ground.data }], guard := none }) (v := ?_) rfl (by kernel_rfl) (by kernel_rfl) (by kernel_rfl) (fun _ _ _ h => h) (Or.inl ⟨by rfl, ?_⟩) trivial ?_
                      rotate_left
                      · (intro w' hSw; (try dsimp only at hSw); go_simp; try with_reducible rfl)
                      try simp only [Act.put, List.setIfInBounds_toArray, List.set_cons_zero, List.set_cons_succ]
                      refine wpAnyH_take (i := 8) (oi := { dst := some 79, op := Op.slice 23 (Operand.tmp 73) (some (Operand.tmp 74)) (some (Operand.tmp 78)) none, type := 23, pos := _, after := #[{ on := 2, ground := Ground.data }, { on := 3, ground := Ground.data }, { on := 7, ground := Ground.data }], guard := none }) (v := ?_) rfl (by kernel_rfl) (by kernel_rfl) (by kernel_rfl) (fun _ _ _ h => h) (Or.inl ⟨by rfl, ?_⟩) trivial ?_
                      rotate_left
                      · (intro w' hSw; (try dsimp only at hSw); go_simp; try with_reducible rfl)
                      try simp only [Act.put, List.setIfInBounds_toArray, List.set_cons_zero, List.set_cons_succ]
                      refine wpAnyH_ready (rs := [1, 9]) (by kernel_rfl) (by simp) ?_
                      refine AllReadyH.cons (o := { dst := some 72, op := Op.load 64 (Operand.tmp 71), type := 64, pos := _, after := #[{ on := 0, ground := Ground.data }], guard := none }) rfl (fun K hK => ?_) ?_
                      · go_simp
                        refine hK.out _ _ trivial (fun _ => ?_)
                        clear hK K
                        try simp only [Act.put, List.setIfInBounds_toArray, List.set_cons_zero, List.set_cons_succ]
                        refine wpAnyH_ready (rs := [9]) (by kernel_rfl) (by simp) ?_
                        refine AllReadyH.cons (o := { dst := some 80, op := Op.convert 23 9 (Operand.tmp 79), type := 9, pos := _, after := #[{ on := 8, ground := Ground.data }], guard := none }) rfl (fun K hK => ?_) AllReadyH.nil
                        go_simp
                        refine hK.out _ _ trivial (fun _ => ?_)
                        clear hK K
                        try simp only [Act.put, List.setIfInBounds_toArray, List.set_cons_zero, List.set_cons_succ]
                        refine wpAnyH_take (i := 10) (oi := { dst := some 81, op := Op.build 70 #[(0, Operand.const (Value.bool true)), (1, Operand.tmp 80)], type := 70, pos := _, after := #[{ on := 9, ground := Ground.data }], guard := none }) (v := ?_) rfl (by kernel_rfl) (by kernel_rfl) (by kernel_rfl) (fun _ _ _ h => h) (Or.inl ⟨by rfl, ?_⟩) trivial ?_
                        rotate_left
                        · (intro w' hSw; (try dsimp only at hSw); go_simp; try with_reducible rfl)
                        try simp only [Act.put, List.setIfInBounds_toArray, List.set_cons_zero, List.set_cons_succ]
                        refine wpAnyH_ready (rs := [11]) (by kernel_rfl) (by simp) ?_
                        refine AllReadyH.cons (o := { dst := some 82, op := Op.buildSlice 64 1 #[(0, Operand.tmp 81)], type := 64, pos := _, after := #[{ on := 10, ground := Ground.data }], guard := none }) rfl (fun K hK => ?_) AllReadyH.nil
                        go_simp
                        refine hK.out _ _ trivial (fun _ => ?_)
                        clear hK K
                        try simp only [Act.put, List.setIfInBounds_toArray, List.set_cons_zero, List.set_cons_succ]
                        refine wpAnyH_ready (rs := [12]) (by kernel_rfl) (by simp) ?_
                        refine AllReadyH.cons (o := { dst := some 83, op := Op.call { callee := Callee.builtin Builtin.append, args := #[Operand.tmp 72, Operand.tmp 82], argTypes := #[64, 64] }, type := 64, pos := _, after := #[{ on := 1, ground := Ground.data }, { on := 11, ground := Ground.data }], guard := none }) rfl (fun K hK => ?_) AllReadyH.nil
                        refine step_app (by rfl) _ _ _ (by rfl) _ _ _ (by rfl) (by rfl) HAPP.out ?_
                        refine hK.out _ _ trivial (fun _ => ?_)
                        clear hK K
                        try simp only [Act.put, List.setIfInBounds_toArray, List.set_cons_zero, List.set_cons_succ]
                        refine wpAnyH_take (i := 13) (oi := { dst := some 84, op := Op.fieldAddr 66 (Operand.tmp 5) 1, type := 0, pos := _, after := #[{ on := 0, ground := Ground.phase }, { on := 1, ground := Ground.phase }, { on := 2, ground := Ground.phase }, { on := 3, ground := Ground.phase }, { on := 4, ground := Ground.phase }, { on := 5, ground := Ground.phase }, { on := 6, ground := Ground.phase }, { on := 7, ground := Ground.phase }, { on := 8, ground := Ground.phase }, { on := 9, ground := Ground.phase }, { on := 10, ground := Ground.phase }, { on := 11, ground := Ground.phase }, { on := 12, ground := Ground.phase }], guard := none }) (v := ?_) rfl (by kernel_rfl) (by kernel_rfl) (by kernel_rfl) (fun _ _ _ h => h) (Or.inl ⟨by rfl, ?_⟩) trivial ?_
                        rotate_left
                        · (intro w' hSw; (try dsimp only at hSw); go_simp; try with_reducible rfl)
                        try simp only [Act.put, List.setIfInBounds_toArray, List.set_cons_zero, List.set_cons_succ]
                        refine wpAnyH_ready (rs := [14]) (by kernel_rfl) (by simp) ?_
                        refine AllReadyH.cons (o := { dst := none, op := Op.store 64 (Operand.tmp 84) (Operand.tmp 83), type := 0, pos := _, after := #[{ on := 13, ground := Ground.data }, { on := 12, ground := Ground.data }, { on := 12, ground := Ground.chain }, { on := 0, ground := Ground.phase }, { on := 1, ground := Ground.phase }, { on := 2, ground := Ground.phase }, { on := 3, ground := Ground.phase }, { on := 4, ground := Ground.phase }, { on := 5, ground := Ground.phase }, { on := 6, ground := Ground.phase }, { on := 7, ground := Ground.phase }, { on := 8, ground := Ground.phase }, { on := 9, ground := Ground.phase }, { on := 10, ground := Ground.phase }, { on := 11, ground := Ground.phase }, { on := 12, ground := Ground.phase }], guard := none }) rfl (fun K hK => ?_) AllReadyH.nil
                        go_simp
                        refine hK.out _ _ trivial (fun _ => ?_)
                        clear hK K
                        try simp only [Act.put, List.setIfInBounds_toArray, List.set_cons_zero, List.set_cons_succ]
                        refine wpAnyH_done (by kernel_rfl) ?_ _
                        have HF := HP5
                        clear s6 s7 hwr1 hwr2 hsl6
                        go_wp2
                        go_meet
                        exact ⟨A7, c7, by first | exact HF.out | exact HF.out.below (Below.refl _ _).drew⟩
                      refine AllReadyH.cons (o := { dst := some 80, op := Op.convert 23 9 (Operand.tmp 79), type := 9, pos := _, after := #[{ on := 8, ground := Ground.data }], guard := none }) rfl (fun K hK => ?_) AllReadyH.nil
                      go_simp
                      refine hK.out _ _ trivial (fun _ => ?_)
                      clear hK K
                      try simp only [Act.put, List.setIfInBounds_toArray, List.set_cons_zero, List.set_cons_succ]
                      refine wpAnyH_take (i := 10) (oi := { dst := some 81, op := Op.build 70 #[(0, Operand.const (Value.bool true)), (1, Operand.tmp 80)], type := 70, pos := _, after := #[{ on := 9, ground := Ground.data }], guard := none }) (v := ?_) rfl (by kernel_rfl) (by kernel_rfl) (by kernel_rfl) (fun _ _ _ h => h) (Or.inl ⟨by rfl, ?_⟩) trivial ?_
                      rotate_left
                      · (intro w' hSw; (try dsimp only at hSw); go_simp; try with_reducible rfl)
                      try simp only [Act.put, List.setIfInBounds_toArray, List.set_cons_zero, List.set_cons_succ]
                      refine wpAnyH_ready (rs := [1, 11]) (by kernel_rfl) (by simp) ?_
                      refine AllReadyH.cons (o := { dst := some 72, op := Op.load 64 (Operand.tmp 71), type := 64, pos := _, after := #[{ on := 0, ground := Ground.data }], guard := none }) rfl (fun K hK => ?_) ?_
                      · go_simp
                        refine hK.out _ _ trivial (fun _ => ?_)
                        clear hK K
                        try simp only [Act.put, List.setIfInBounds_toArray, List.set_cons_zero, List.set_cons_succ]
                        refine wpAnyH_ready (rs := [11]) (by kernel_rfl) (by simp) ?_
                        refine AllReadyH.cons (o := { dst := some 82, op := Op.buildSlice 64 1 #[(0, Operand.tmp 81)], type := 64, pos := _, after := #[{ on := 10, ground := Ground.data }], guard := none }) rfl (fun K hK => ?_) AllReadyH.nil
                        go_simp
                        refine hK.out _ _ trivial (fun _ => ?_)
                        clear hK K
                        try simp only [Act.put, List.setIfInBounds_toArray, List.set_cons_zero, List.set_cons_succ]
                        refine wpAnyH_ready (rs := [12]) (by kernel_rfl) (by simp) ?_
                        refine AllReadyH.cons (o := { dst := some 83, op := Op.call { callee := Callee.builtin Builtin.append, args := #[Operand.tmp 72, Operand.tmp 82], argTypes := #[64, 64] }, type := 64, pos := _, after := #[{ on := 1, ground := Ground.data }, { on := 11, ground := Ground.data }], guard := none }) rfl (fun K hK => ?_) AllReadyH.nil
                        refine step_app (by rfl) _ _ _ (by rfl) _ _ _ (by rfl) (by rfl) HAPP.out ?_
                        refine hK.out _ _ trivial (fun _ => ?_)
                        clear hK K
                        try simp only [Act.put, List.setIfInBounds_toArray, List.set_cons_zero, List.set_cons_succ]
                        refine wpAnyH_take (i := 13) (oi := { dst := some 84, op := Op.fieldAddr 66 (Operand.tmp 5) 1, type := 0, pos := _, after := #[{ on := 0, ground := Ground.phase }, { on := 1, ground := Ground.phase }, { on := 2, ground := Ground.phase }, { on := 3, ground := Ground.phase }, { on := 4, ground := Ground.phase }, { on := 5, ground := Ground.phase }, { on := 6, ground := Ground.phase }, { on := 7, ground := Ground.phase }, { on := 8, ground := Ground.phase }, { on := 9, ground := Ground.phase }, { on := 10, ground := Ground.phase }, { on := 11, ground := Ground.phase }, { on := 12, ground := Ground.phase }], guard := none }) (v := ?_) rfl (by kernel_rfl) (by kernel_rfl) (by kernel_rfl) (fun _ _ _ h => h) (Or.inl ⟨by rfl, ?_⟩) trivial ?_
                        rotate_left
                        · (intro w' hSw; (try dsimp only at hSw); go_simp; try with_reducible rfl)
                        try simp only [Act.put, List.setIfInBounds_toArray, List.set_cons_zero, List.set_cons_succ]
                        refine wpAnyH_ready (rs := [14]) (by kernel_rfl) (by simp) ?_
                        refine AllReadyH.cons (o := { dst := none, op := Op.store 64 (Operand.tmp 84) (Operand.tmp 83), type := 0, pos := _, after := #[{ on := 13, ground := Ground.data }, { on := 12, ground := Ground.data }, { on := 12, ground := Ground.chain }, { on := 0, ground := Ground.phase }, { on := 1, ground := Ground.phase }, { on := 2, ground := Ground.phase }, { on := 3, ground := Ground.phase }, { on := 4, ground := Ground.phase }, { on := 5, ground := Ground.phase }, { on := 6, ground := Ground.phase }, { on := 7, ground := Ground.phase }, { on := 8, ground := Ground.phase }, { on := 9, ground := Ground.phase }, { on := 10, ground := Ground.phase }, { on := 11, ground := Ground.phase }, { on := 12, ground := Ground.phase }], guard := none }) rfl (fun K hK => ?_) AllReadyH.nil
                        go_simp
                        refine hK.out _ _ trivial (fun _ => ?_)
                        clear hK K
                        try simp only [Act.put, List.setIfInBounds_toArray, List.set_cons_zero, List.set_cons_succ]
                        refine wpAnyH_done (by kernel_rfl) ?_ _
                        have HF := HP5
                        clear s6 s7 hwr1 hwr2 hsl6
                        go_wp2
                        go_meet
                        exact ⟨A7, c7, by first | exact HF.out | exact HF.out.below (Below.refl _ _).drew⟩
                      refine AllReadyH.cons (o := { dst := some 82, op := Op.buildSlice 64 1 #[(0, Operand.tmp 81)], type := 64, pos := _, after := #[{ on := 10, ground := Ground.data }], guard := none }) rfl (fun K hK => ?_) AllReadyH.nil
                      go_simp
                      refine hK.out _ _ trivial (fun _ => ?_)
                      clear hK K
                      try simp only [Act.put, List.setIfInBounds_toArray, List.set_cons_zero, List.set_cons_succ]
                      refine wpAnyH_ready (rs := [1]) (by kernel_rfl) (by simp) ?_
                      refine AllReadyH.cons (o := { dst := some 72, op := Op.load 64 (Operand.tmp 71), type := 64, pos := _, after := #[{ on := 0, ground := Ground.data }], guard := none }) rfl (fun K hK => ?_) AllReadyH.nil
                      go_simp
                      refine hK.out _ _ trivial (fun _ => ?_)
                      clear hK K
                      try simp only [Act.put, List.setIfInBounds_toArray, List.set_cons_zero, List.set_cons_succ]
                      refine wpAnyH_ready (rs := [12]) (by kernel_rfl) (by simp) ?_
                      refine AllReadyH.cons (o := { dst := some 83, op := Op.call { callee := Callee.builtin Builtin.append, args := #[Operand.tmp 72, Operand.tmp 82], argTypes := #[64, 64] }, type := 64, pos := _, after := #[{ on := 1, ground := Ground.data }, { on := 11, ground := Ground.data }], guard := none }) rfl (fun K hK => ?_) AllReadyH.nil
                      refine step_app (by rfl) _ _ _ (by rfl) _ _ _ (by rfl) (by rfl) HAPP.out ?_
                      refine hK.out _ _ trivial (fun _ => ?_)
                      clear hK K
                      try simp only [Act.put, List.setIfInBounds_toArray, List.set_cons_zero, List.set_cons_succ]
                      refine wpAnyH_take (i := 13) (oi := { dst := some 84, op := Op.fieldAddr 66 (Operand.tmp 5) 1, type := 0, pos := _, after := #[{ on := 0, ground := Ground.phase }, { on := 1, ground := Ground.phase }, { on := 2, ground := Ground.phase }, { on := 3, ground := Ground.phase }, { on := 4, ground := Ground.phase }, { on := 5, ground := Ground.phase }, { on := 6, ground := Ground.phase }, { on := 7, ground := Ground.phase }, { on := 8, ground := Ground.phase }, { on := 9, ground := Ground.phase }, { on := 10, ground := Ground.phase }, { on := 11, ground := Ground.phase }, { on := 12, ground := Ground.phase }], guard := none }) (v := ?_) rfl (by kernel_rfl) (by kernel_rfl) (by kernel_rfl) (fun _ _ _ h => h) (Or.inl ⟨by rfl, ?_⟩) trivial ?_
                      rotate_left
                      · (intro w' hSw; (try dsimp only at hSw); go_simp; try with_reducible rfl)
                      try simp only [Act.put, List.setIfInBounds_toArray, List.set_cons_zero, List.set_cons_succ]
                      refine wpAnyH_ready (rs := [14]) (by kernel_rfl) (by simp) ?_
                      refine AllReadyH.cons (o := { dst := none, op := Op.store 64 (Operand.tmp 84) (Operand.tmp 83), type := 0, pos := _, after := #[{ on := 13, ground := Ground.data }, { on := 12, ground := Ground.data }, { on := 12, ground := Ground.chain }, { on := 0, ground := Ground.phase }, { on := 1, ground := Ground.phase }, { on := 2, ground := Ground.phase }, { on := 3, ground := Ground.phase }, { on := 4, ground := Ground.phase }, { on := 5, ground := Ground.phase }, { on := 6, ground := Ground.phase }, { on := 7, ground := Ground.phase }, { on := 8, ground := Ground.phase }, { on := 9, ground := Ground.phase }, { on := 10, ground := Ground.phase }, { on := 11, ground := Ground.phase }, { on := 12, ground := Ground.phase }], guard := none }) rfl (fun K hK => ?_) AllReadyH.nil
                      go_simp
                      refine hK.out _ _ trivial (fun _ => ?_)
                      clear hK K
                      try simp only [Act.put, List.setIfInBounds_toArray, List.set_cons_zero, List.set_cons_succ]
                      refine wpAnyH_done (by kernel_rfl) ?_ _
                      have HF := HP5
                      clear s6 s7 hwr1 hwr2 hsl6
                      go_wp2
                      go_meet
                      exact ⟨A7, c7, by first | exact HF.out | exact HF.out.below (Below.refl _ _).drew⟩
                    case rest => as_aux_lemma =>
                      refine hK _ _ ?_
                      clear hK
                      obtain ⟨A7, c7, hP⟩ := hcut
                      have HP5 := hid hP
                      clear hP s6 s7 hwr1 hwr2 hsl6
                      go_wp2
                      go_roundw
                      case rel => exact ⟨k + 1, a ++ [some rc], A7, c7, by omega, by go_num, by rw [List.length_append]; exact HP5.out⟩
                      case measure => simp [intOf]; omega
                  · as_aux_lemma =>
                    have g3 : 504 - (num2 bs (6 + 4 * k) : Int) < (num2 bs (8 + 4 * k) : Int) - 1 := by omega
                    have hq : Hid (∀ q, ¬ Is bs q) := hid (fun q hq => by obtain ⟨r, a1, a2, a3, a4, a5, a6⟩ := HX.out q hq; omega)
                    obtain ⟨v0, v1, wc0, wc1, wf0, wf1, HBx⟩ := HS.out.b0.any2
                    go_wp2_with fail
                    refine bodyPost_ret (results_cell2 rfl _ _ w.heap.size 66 _ _ rfl (blk_store2 _ _ HBx.out) Try.underlying66 rfl (by kernel_rfl)) rfl ?_
                    have hBS := below_store2 HS.out.be (Nat.le_refl _) (Nat.le_refl _) (.int .i64 0) (.slice none 0 0)
                    exact rpost_bad hq.out (by first | exact hBS | exact hBS.drew | exact hBS.drew.drew)
                · as_aux_lemma =>
                  have g2 : 504 < (num2 bs (6 + 4 * k) : Int) := by omega
                  have hq : Hid (∀ q, ¬ Is bs q) := hid (fun q hq => by obtain ⟨r, a1, a2, a3, a4, a5, a6⟩ := HX.out q hq; omega)
                  obtain ⟨v0, v1, wc0, wc1, wf0, wf1, HBx⟩ := HS.out.b0.any2
                  go_wp2_with fail
                  refine bodyPost_ret (results_cell2 rfl _ _ w.heap.size 66 _ _ rfl (blk_store2 _ _ HBx.out) Try.underlying66 rfl (by kernel_rfl)) rfl ?_
                  have hBS := below_store2 HS.out.be (Nat.le_refl _) (Nat.le_refl _) (.int .i64 0) (.slice none 0 0)
                  exact rpost_bad hq.out (by first | exact hBS | exact hBS.drew | exact hBS.drew.drew)
              · as_aux_lemma =>
                have g1 : 480 < (num2 bs (8 + 4 * k) : Int) - 1 := by omega
                have hq : Hid (∀ q, ¬ Is bs q) := hid (fun q hq => by obtain ⟨r, a1, a2, a3, a4, a5, a6⟩ := HX.out q hq; omega)
                obtain ⟨v0, v1, wc0, wc1, wf0, wf1, HBx⟩ := HS.out.b0.any2
                go_wp2_with fail
                refine bodyPost_ret (results_cell2 rfl _ _ w.heap.size 66 _ _ rfl (blk_store2 _ _ HBx.out) Try.underlying66 rfl (by kernel_rfl)) rfl ?_
                have hBS := below_store2 HS.out.be (Nat.le_refl _) (Nat.le_refl _) (.int .i64 0) (.slice none 0 0)
                exact rpost_bad hq.out (by first | exact hBS | exact hBS.drew | exact hBS.drew.drew)
          · as_aux_lemma =>
            have hlt' : ¬ ((k : Int) < (num2 bs 0 : Int)) := by omega
            have hkn : k = num2 bs 0 := by omega
            clear hS
            go_wp2
            go_meet
            exact ⟨a, A3, c3, by rw [← hkn]; exact HS.out⟩
      case rest => as_aux_lemma =>
        obtain ⟨a, A3, c3, hS⟩ := hcut
        have HS := hid hS
        obtain ⟨pc0, pc1, _⟩ := blk2 hS.b1
        have hszP := hS.b1.lt
        have hlen : a.length = num2 bs 0 := hS.len
        have hsm : sum a ≤ 59520 := by have := hS.sm; omega
        have HSD := hid (SRd.of_own (c := c3) hS.row)
        have HLM := hid (num4_lt bs 2)
        have hla : a.length ≤ 124 := by omega
        clear hS HS0
        go_upto_region 17 with fail
        rw [← hlen]
        have hlen1 : a.length ≤ num2 bs 0 := by omega
        have hlen2 : num2 bs 0 ≤ a.length := by omega
        clear hlen
        go_cut [110] (fun v wx => ∃ d, v = .bool d ∧ RrS bs w b o (num2 bs 0) a (.slice A3 a.length c3) wx ∧ Hid (d = true → ∀ q, ¬ Is bs q) ∧ Hid (d = false → Is bs ⟨num4 bs 2, a⟩))
        case first => as_aux_lemma =>
          by_cases hn0 : a.length = 0
          · as_aux_lemma =>
            have hnb : decide ((0 : Int) < (a.length : Int)) = false := by simp [hn0]
            have hnn : decide (0 < a.length) = false := by simp [hn0]
            have hn1 : a.length ≤ 0 := by omega
            have hlast : Hid (a = [] ∨ ∃ a' r, a = a' ++ [some r]) := hid (.inl (List.eq_nil_of_length_eq_zero hn0))
            clear hn0
            by_cases hfit : 4 * a.length + sum a ≤ 498
            · as_aux_lemma =>
              have hf1 : 6 + 4 * (a.length : Int) + (sum a : Int) ≤ 504 := by omega
              have hf2 : decide ((504 : Int) < 6 + 4 * (a.length : Int) + (sum a : Int)) = false := by simp; omega
              obtain ⟨d, hd⟩ : ∃ d, (!((page (num4 bs 2) a.length (st a)) == bs)) = d := ⟨_, rfl⟩
              refine wp_region_held_drew (S := fun w' => Below wc.heap.size wc w') (by kernel_rfl) (by exact (Below.refl _ _).drew) (fun hHeld0 => ?_)
              refine wpAnyH_take (i := 0) (oi := { dst := some 85, op := Op.move (Operand.tmp 4), type := 3, pos := _, after := #[], guard := none }) (v := ?_) rfl (by kernel_rfl) (by kernel_rfl) (by kernel_rfl) (fun _ _ _ h => h) (Or.inl ⟨by rfl, ?_⟩) (by assumption) ?_
              rotate_left
              · (intro w' hSw; (try dsimp only at hSw); clear hSw; go_simp; try with_reducible rfl)
              try simp only [Act.put, List.setIfInBounds_toArray, List.set_cons_zero, List.set_cons_succ]
              refine wpAnyH_take (i := 1) (oi := { dst := some 86, op := Op.binOp BinOp.gtr 3 (Operand.tmp 85) (Operand.const (Value.int IntKind.i64 0)) 3, type := 4, pos := _, after := #[{ on := 0, ground := Ground.data }], guard := none }) (v := ?_) rfl (by kernel_rfl) (by kernel_rfl) (by kernel_rfl) (fun _ _ _ h => h) (Or.inl ⟨by rfl, ?_⟩) (by assumption) ?_
              rotate_left
              · (intro w' hSw; (try dsimp only at hSw); clear hSw; go_simp; try with_reducible rfl)
              try simp only [Act.put, List.setIfInBounds_toArray, List.set_cons_zero, List.set_cons_succ]
              refine wpAnyH_take (i := 2) (oi := { dst := some 87, op := Op.move (Operand.tmp 86), type := 4, pos := _, after := #[{ on := 1, ground := Ground.data }], guard := none }) (v := ?_) rfl (by kernel_rfl) (by kernel_rfl) (by kernel_rfl) (fun _ _ _ h => h) (Or.inl ⟨by rfl, ?_⟩) (by assumption) ?_
              rotate_left
              · (intro w' hSw; (try dsimp only at hSw); clear hSw; go_simp; try with_reducible rfl)
              try simp only [Act.put, List.setIfInBounds_toArray, List.set_cons_zero, List.set_cons_succ]
              refine wpAnyH_take (i := 3) (oi := { dst := some 88, op := Op.fieldAddr 66 (Operand.tmp 5) 1, type := 0, pos := _, after := #[{ on := 2, ground := Ground.guard }], guard := some (2, true) }) (v := _) rfl (by kernel_rfl) (by kernel_rfl) (by kernel_rfl) (fun _ _ _ h => h) (Or.inr ⟨by rfl, rfl⟩) (by assumption) ?_
              try simp only [Act.put, List.setIfInBounds_toArray, List.set_cons_zero, List.set_cons_succ]
              refine wpAnyH_take (i := 4) (oi := { dst := some 89, op := Op.load 64 (Operand.tmp 88), type := 64, pos := _, after := #[{ on := 3, ground := Ground.data }, { on := 2, ground := Ground.guard }], guard := some (2, true) }) (v := _) rfl (by kernel_rfl) (by kernel_rfl) (by kernel_rfl) (fun _ _ _ h => h) (Or.inr ⟨by rfl, rfl⟩) (by assumption) ?_
              try simp only [Act.put, List.setIfInBounds_toArray, List.set_cons_zero, List.set_cons_succ]
              refine wpAnyH_take (i := 5) (oi := { dst := some 90, op := Op.move (Operand.tmp 4), type := 3, pos := _, after := #[{ on := 2, ground := Ground.guard }], guard := some (2, true) }) (v := _) rfl (by kernel_rfl) (by kernel_rfl) (by kernel_rfl) (fun _ _ _ h => h) (Or.inr ⟨by rfl, rfl⟩) (by assumption) ?_
              try simp only [Act.put, List.setIfInBounds_toArray, List.set_cons_zero, List.set_cons_succ]
              refine wpAnyH_take (i := 6) (oi := { dst := some 91, op := Op.binOp BinOp.sub 3 (Operand.tmp 90) (Operand.const (Value.int IntKind.i64 1)) 3, type := 3, pos := _, after := #[{ on := 5, ground := Ground.data }, { on := 2, ground := Ground.guard }], guard := some (2, true) }) (v := _) rfl (by kernel_rfl) (by kernel_rfl) (by kernel_rfl) (fun _ _ _ h => h) (Or.inr ⟨by rfl, rfl⟩) (by assumption) ?_
              try simp only [Act.put, List.setIfInBounds_toArray, List.set_cons_zero, List.set_cons_succ]
              refine wpAnyH_take (i := 7) (oi := { dst := some 92, op := Op.indexAddr 64 (Operand.tmp 89) (Operand.tmp 91), type := 0, pos := _, after := #[{ on := 4, ground := Ground.data }, { on := 6, ground := Ground.data }, { on := 2, ground := Ground.guard }], guard := some (2, true) }) (v := _) rfl (by kernel_rfl) (by kernel_rfl) (by kernel_rfl) (fun _ _ _ h => h) (Or.inr ⟨by rfl, rfl⟩) (by assumption) ?_
              try simp only [Act.put, List.setIfInBounds_toArray, List.set_cons_zero, List.set_cons_succ]
              refine wpAnyH_take (i := 8) (oi := { dst := some 93, op := Op.fieldAddr 70 (Operand.tmp 92) 0, type := 0, pos := _, after := #[{ on := 7, ground := Ground.data }, { on := 2, ground := Ground.guard }], guard := some (2, true) }) (v := _) rfl (by kernel_rfl) (by kernel_rfl) (by kernel_rfl) (fun _ _ _ h => h) (Or.inr ⟨by rfl, rfl⟩) (by assumption) ?_
              try simp only [Act.put, List.setIfInBounds_toArray, List.set_cons_zero, List.set_cons_succ]
              refine wpAnyH_take (i := 9) (oi := { dst := some 94, op := Op.load 4 (Operand.tmp 93), type := 4, pos := _, after := #[{ on := 8, ground := Ground.data }, { on := 2, ground := Ground.guard }], guard := some (2, true) }) (v := _) rfl (by kernel_rfl) (by kernel_rfl) (by kernel_rfl) (fun _ _ _ h => h) (Or.inr ⟨by rfl, rfl⟩) (by assumption) ?_
              try simp only [Act.put, List.setIfInBounds_toArray, List.set_cons_zero, List.set_cons_succ]
              refine wpAnyH_take (i := 10) (oi := { dst := some 95, op := Op.unOp UnOp.not 4 (Operand.tmp 94), type := 4, pos := _, after := #[{ on := 9, ground := Ground.data }, { on := 2, ground := Ground.guard }], guard := some (2, true) }) (v := _) rfl (by kernel_rfl) (by kernel_rfl) (by kernel_rfl) (fun _ _ _ h => h) (Or.inr ⟨by rfl, rfl⟩) (by assumption) ?_
              try simp only [Act.put, List.setIfInBounds_toArray, List.set_cons_zero, List.set_cons_succ]
              refine wpAnyH_take (i := 11) (oi := { dst := some 96, op := Op.pick (Operand.tmp 87) (Operand.tmp 95) (Operand.const (Value.bool false)), type := 4, pos := _, after := #[{ on := 2, ground := Ground.data }, { on := 10, ground := Ground.data }], guard := none }) (v := ?_) rfl (by kernel_rfl) (by kernel_rfl) (by kernel_rfl) (fun _ _ _ h => h) (Or.inl ⟨by rfl, ?_⟩) (by assumption) ?_
              rotate_left
              · (intro w' hSw; (try dsimp only at hSw); clear hSw; go_simp; try with_reducible rfl)
              try simp only [Act.put, List.setIfInBounds_toArray, List.set_cons_zero, List.set_cons_succ]
              refine wpAnyH_take (i := 12) (oi := { dst := some 97, op := Op.move (Operand.tmp 96), type := 4, pos := _, after := #[{ on := 11, ground := Ground.data }, { on := 2, ground := Ground.chain }], guard := none }) (v := ?_) rfl (by kernel_rfl) (by kernel_rfl) (by kernel_rfl) (fun _ _ _ h => h) (Or.inl ⟨by rfl, ?_⟩) (by assumption) ?_
              rotate_left
              · (intro w' hSw; (try dsimp only at hSw); clear hSw; go_simp; try with_reducible rfl)
              try simp only [Act.put, List.setIfInBounds_toArray, List.set_cons_zero, List.set_cons_succ]
              refine wpAnyH_take (i := 13) (oi := { dst := some 98, op := Op.fieldAddr 66 (Operand.tmp 5) 1, type := 0, pos := _, after := #[{ on := 12, ground := Ground.guard }], guard := some (12, false) }) (v := ?_) rfl (by kernel_rfl) (by kernel_rfl) (by kernel_rfl) (fun _ _ _ h => h) (Or.inl ⟨by rfl, ?_⟩) (by assumption) ?_
              rotate_left
              · (intro w' hSw; (try dsimp only at hSw); clear hSw; go_simp; try with_reducible rfl)
              try simp only [Act.put, List.setIfInBounds_toArray, List.set_cons_zero, List.set_cons_succ]
              refine wpAnyH_take (i := 14) (oi := { dst := some 99, op := Op.load 64 (Operand.tmp 98), type := 64, pos := _, after := #[{ on := 13, ground := Ground.data }, { on := 12, ground := Ground.guard }], guard := some (12, false) }) (v := ?_) rfl (by kernel_rfl) (by kernel_rfl) (by kernel_rfl) (fun _ _ _ h => h) (Or.inl ⟨by rfl, ?_⟩) (by assumption) ?_
              rotate_left
              · (intro w' hSw; (try dsimp only at hSw); have q1 : w'.cell? ⟨w.heap.size + 1, 1, none⟩ = some (.slice A3 a.length c3) := (hSw.cell (p := ⟨w.heap.size + 1, 1, none⟩) hszP).trans pc1; clear hSw; go_simp; try with_reducible rfl)
              try simp only [Act.put, List.setIfInBounds_toArray, List.set_cons_zero, List.set_cons_succ]
              refine wpAnyH_ready (rs := [15]) (by kernel_rfl) (by simp) ?_
              refine AllReadyH.cons (o := { dst := some 100, op := Op.call { callee := Callee.value (Operand.func 47), args := #[Operand.tmp 99], argTypes := #[64] }, type := 3, pos := _, after := #[{ on := 14, ground := Ground.data }, { on := 12, ground := Ground.chain }, { on := 12, ground := Ground.guard }], guard := some (12, false) }) rfl (fun K hK => ?_) AllReadyH.nil
              go_simp
              refine (size_any _ _ _ _ (HSD.out.below hHeld0) (by omega) (by omega)).mono ?_
              rintro e w4 ⟨rfl, rfl⟩
              refine hK.out _ _ hHeld0 (fun hHeld1 => ?_)
              clear hK K
              try simp only [Act.put, List.setIfInBounds_toArray, List.set_cons_zero, List.set_cons_succ]
              refine wpAnyH_take (i := 16) (oi := { dst := some 101, op := Op.binOp BinOp.gtr 3 (Operand.tmp 100) (Operand.const (Value.int IntKind.i64 504)) 3, type := 4, pos := _, after := #[{ on := 15, ground := Ground.data }, { on := 12, ground := Ground.guard }], guard := some (12, false) }) (v := ?_) rfl (by kernel_rfl) (by kernel_rfl) (by kernel_rfl) (fun _ _ _ h => h) (Or.inl ⟨by rfl, ?_⟩) (by assumption) ?_
              rotate_left
              · (intro w' hSw; (try dsimp only at hSw); clear hSw; go_simp; try with_reducible rfl)
              try simp only [Act.put, List.setIfInBounds_toArray, List.set_cons_zero, List.set_cons_succ]
              refine wpAnyH_take (i := 17) (oi := { dst := some 102, op := Op.pick (Operand.tmp 97) (Operand.const (Value.bool true)) (Operand.tmp 101), type := 4, pos := _, after := #[{ on := 12, ground := Ground.data }, { on := 16, ground := Ground.data }], guard := none }) (v := ?_) rfl (by kernel_rfl) (by kernel_rfl) (by kernel_rfl) (fun _ _ _ h => h) (Or.inl ⟨by rfl, ?_⟩) (by assumption) ?_
              rotate_left
              · (intro w' hSw; (try dsimp only at hSw); clear hSw; go_simp; try with_reducible rfl)
              try simp only [Act.put, List.setIfInBounds_toArray, List.set_cons_zero, List.set_cons_succ]
              refine wpAnyH_take (i := 18) (oi := { dst := some 103, op := Op.move (Operand.tmp 102), type := 4, pos := _, after := #[{ on := 17, ground := Ground.data }, { on := 15, ground := Ground.chain }], guard := none }) (v := ?_) rfl (by kernel_rfl) (by kernel_rfl) (by kernel_rfl) (fun _ _ _ h => h) (Or.inl ⟨by rfl, ?_⟩) (by assumption) ?_
              rotate_left
              · (intro w' hSw; (try dsimp only at hSw); clear hSw; go_simp; try with_reducible rfl)
              try simp only [Act.put, List.setIfInBounds_toArray, List.set_cons_zero, List.set_cons_succ]
              refine wpAnyH_take (i := 19) (oi := { dst := some 104, op := Op.load 66 (Operand.tmp 5), type := 66, pos := _, after := #[{ on := 18, ground := Ground.guard }], guard := some (18, false) }) (v := ?_) rfl (by kernel_rfl) (by kernel_rfl) (by kernel_rfl) (fun _ _ _ h => h) (Or.inl ⟨by rfl, ?_⟩) (by assumption) ?_
              rotate_left
              · (intro w' hSw; (try dsimp only at hSw); have q0 : w'.cell? ⟨w.heap.size + 1, 0, none⟩ = some (.int .i64 (num4 bs 2)) := (hSw.cell (p := ⟨w.heap.size + 1, 0, none⟩) hszP).trans pc0; have q1 : w'.cell? ⟨w.heap.size + 1, 1, none⟩ = some (.slice A3 a.length c3) := (hSw.cell (p := ⟨w.heap.size + 1, 1, none⟩) hszP).trans pc1; clear hSw; go_simp; try with_reducible rfl)
              try simp only [Act.put, List.setIfInBounds_toArray, List.set_cons_zero, List.set_cons_succ]
              refine wpAnyH_take (i := 22) (oi := { dst := some 107, op := Op.move (Operand.tmp 0), type := 23, pos := _, after := #[{ on := 18, ground := Ground.guard }], guard := some (18, false) }) (v := ?_) rfl (by kernel_rfl) (by kernel_rfl) (by kernel_rfl) (fun _ _ _ h => h) (Or.inl ⟨by rfl, ?_⟩) (by assumption) ?_
              rotate_left
              · (intro w' hSw; (try dsimp only at hSw); clear hSw; go_simp; try with_reducible rfl)
              try simp only [Act.put, List.setIfInBounds_toArray, List.set_cons_zero, List.set_cons_succ]
              refine wpAnyH_take (i := 23) (oi := { dst := some 108, op := Op.convert 23 9 (Operand.tmp 107), type := 9, pos := _, after := #[{ on := 22, ground := Ground.data }, { on := 18, ground := Ground.guard }], guard := some (18, false) }) (v := ?_) rfl (by kernel_rfl) (by kernel_rfl) (by kernel_rfl) (fun _ _ _ h => h) (Or.inl ⟨by rfl, ?_⟩) (by assumption) ?_
              rotate_left
              · (intro w' hSw; (try dsimp only at hSw); have q4 := run_str w' (some ⟨b, o, none⟩) 504 c bs (HS.out.rd.below hSw); clear hSw; go_simp; try with_reducible rfl)
              try simp only [Act.put, List.setIfInBounds_toArray, List.set_cons_zero, List.set_cons_succ]
              refine wpAnyH_ready (rs := [20]) (by kernel_rfl) (by simp) ?_
              refine AllReadyH.cons (o := { dst := some 105, op := Op.call { callee := Callee.value (Operand.func 35), args := #[Operand.tmp 104], argTypes := #[66] }, type := 23, pos := _, after := #[{ on := 19, ground := Ground.data }, { on := 18, ground := Ground.chain }, { on := 18, ground := Ground.guard }], guard := some (18, false) }) rfl (fun K hK => ?_) AllReadyH.nil
              go_simp
              refine (rbytes_any _ _ _ _ _ (HSD.out.below hHeld0) HLM.out hfit).mono ?_
              rintro e w5 ⟨v5, rfl, ho5, hb5⟩
              obtain ⟨A5, c5, rfl, HO5⟩ := ho5.split
              have hBW := hHeld0.trans (hb5.mono hHeld0.size)
              refine hK.out _ _ hBW (fun hHeld2 => ?_)
              refine wpAnyH_mono (S' := fun w' => Below w5.heap.size w5 w') (fun w' h => hBW.trans (h.mono hBW.size)) _ _ _ _ ?_
              have hHeld3 : Below w5.heap.size w5 w5 := Below.refl _ _
              clear hK K
              try simp only [Act.put, List.setIfInBounds_toArray, List.set_cons_zero, List.set_cons_succ]
              refine wpAnyH_take (i := 21) (oi := { dst := some 106, op := Op.convert 23 9 (Operand.tmp 105), type := 9, pos := _, after := #[{ on := 20, ground := Ground.data }, { on := 18, ground := Ground.guard }], guard := some (18, false) }) (v := ?_) rfl (by kernel_rfl) (by kernel_rfl) (by kernel_rfl) (fun _ _ _ h => h) (Or.inl ⟨by rfl, ?_⟩) (by assumption) ?_
              rotate_left
              · (intro w' hSw; (try dsimp only at hSw); have q3 := str_v (HO5.out.below hSw); clear hSw; go_simp; try with_reducible rfl)
              try simp only [Act.put, List.setIfInBounds_toArray, List.set_cons_zero, List.set_cons_succ]
              refine wpAnyH_take (i := 24) (oi := { dst := some 109, op := Op.binOp BinOp.neq 9 (Operand.tmp 106) (Operand.tmp 108) 9, type := 4, pos := _, after := #[{ on := 21, ground := Ground.data }, { on := 23, ground := Ground.data }, { on := 18, ground := Ground.guard }], guard := some (18, false) }) (v := ?_) rfl (by kernel_rfl) (by kernel_rfl) (by kernel_rfl) (fun _ _ _ h => h) (Or.inl ⟨by rfl, ?_⟩) (by assumption) ?_
              rotate_left
              · (intro w' hSw; (try dsimp only at hSw); clear hSw; go_simp; try with_reducible rfl)
              try simp only [Act.put, List.setIfInBounds_toArray, List.set_cons_zero, List.set_cons_succ]
              refine wpAnyH_take (i := 25) (oi := { dst := some 110, op := Op.pick (Operand.tmp 103) (Operand.const (Value.bool true)) (Operand.tmp 109), type := 4, pos := _, after := #[{ on := 18, ground := Ground.data }, { on := 24, ground := Ground.data }], guard := none }) (v := ?_) rfl (by kernel_rfl) (by kernel_rfl) (by kernel_rfl) (fun _ _ _ h => h) (Or.inl ⟨by rfl, ?_⟩) (by assumption) ?_
              rotate_left
              · (intro w' hSw; (try dsimp only at hSw); clear hSw; go_simp; try with_reducible rfl)
              try simp only [Act.put, List.setIfInBounds_toArray, List.set_cons_zero, List.set_cons_succ]
              refine wpAnyH_done (by kernel_rfl) ?_ _
              have HF := hid (HS.out.below (hBW.trans (hHeld3.mono hBW.size)))
              have hno : Hid (d = true → ∀ q, ¬ Is bs q) := hid (fun h q hq => by
                rw [h] at hd
                refine rd_not HS.out hq ?_ 
                simpa using hd)
              have hyes : Hid (d = false → Is bs ⟨num4 bs 2, a⟩) := hid (fun h => rd_yes HS.out hfit hlast.out (by rw [h] at hd; simpa using hd))
              clear hd
              go_wp2
              go_meet
              exact ⟨d, by first | rfl | simp, HF.out, hno, hyes⟩
            · as_aux_lemma =>
              have hf1 : 504 < 6 + 4 * (a.length : Int) + (sum a : Int) := by omega
              have hf2 : decide ((504 : Int) < 6 + 4 * (a.length : Int) + (sum a : Int)) = true := by simp; omega
              have hq : Hid (∀ q, ¬ Is bs q) := hid (fun q hq => by
                have h1 := HS.out.is q hq
                have h2 := hq.count
                rw [List.take_of_length_le (by omega)] at h1
                have h3 := hq.1.fits.1
                rw [← h1] at h3
                omega)
              refine wp_region_held_drew (S := fun w' => Below wc.heap.size wc w') (by kernel_rfl) (by exact (Below.refl _ _).drew) (fun hHeld0 => ?_)
              refine wpAnyH_take (i := 0) (oi := { dst := some 85, op := Op.move (Operand.tmp 4), type := 3, pos := _, after := #[], guard := none }) (v := ?_) rfl (by kernel_rfl) (by kernel_rfl) (by kernel_rfl) (fun _ _ _ h => h) (Or.inl ⟨by rfl, ?_⟩) (by assumption) ?_
              rotate_left
              · (intro w' hSw; (try dsimp only at hSw); clear hSw; go_simp; try with_reducible rfl)
              try simp only [Act.put, List.setIfInBounds_toArray, List.set_cons_zero, List.set_cons_succ]
              refine wpAnyH_take (i := 1) (oi := { dst := some 86, op := Op.binOp BinOp.gtr 3 (Operand.tmp 85) (Operand.const (Value.int IntKind.i64 0)) 3, type := 4, pos := _, after := #[{ on := 0, ground := Ground.data }], guard := none }) (v := ?_) rfl (by kernel_rfl) (by kernel_rfl) (by kernel_rfl) (fun _ _ _ h => h) (Or.inl ⟨by rfl, ?_⟩) (by assumption) ?_
              rotate_left
              · (intro w' hSw; (try dsimp only at hSw); clear hSw; go_simp; try with_reducible rfl)
              try simp only [Act.put, List.setIfInBounds_toArray, List.set_cons_zero, List.set_cons_succ]
              refine wpAnyH_take (i := 2) (oi := { dst := some 87, op := Op.move (Operand.tmp 86), type := 4, pos := _, after := #[{ on := 1, ground := Ground.data }], guard := none }) (v := ?_) rfl (by kernel_rfl) (by kernel_rfl) (by kernel_rfl) (fun _ _ _ h => h) (Or.inl ⟨by rfl, ?_⟩) (by assumption) ?_
              rotate_left
              · (intro w' hSw; (try dsimp only at hSw); clear hSw; go_simp; try with_reducible rfl)
              try simp only [Act.put, List.setIfInBounds_toArray, List.set_cons_zero, List.set_cons_succ]
              refine wpAnyH_take (i := 3) (oi := { dst := some 88, op := Op.fieldAddr 66 (Operand.tmp 5) 1, type := 0, pos := _, after := #[{ on := 2, ground := Ground.guard }], guard := some (2, true) }) (v := _) rfl (by kernel_rfl) (by kernel_rfl) (by kernel_rfl) (fun _ _ _ h => h) (Or.inr ⟨by rfl, rfl⟩) (by assumption) ?_
              try simp only [Act.put, List.setIfInBounds_toArray, List.set_cons_zero, List.set_cons_succ]
              refine wpAnyH_take (i := 4) (oi := { dst := some 89, op := Op.load 64 (Operand.tmp 88), type := 64, pos := _, after := #[{ on := 3, ground := Ground.data }, { on := 2, ground := Ground.guard }], guard := some (2, true) }) (v := _) rfl (by kernel_rfl) (by kernel_rfl) (by kernel_rfl) (fun _ _ _ h => h) (Or.inr ⟨by rfl, rfl⟩) (by assumption) ?_
              try simp only [Act.put, List.setIfInBounds_toArray, List.set_cons_zero, List.set_cons_succ]
              refine wpAnyH_take (i := 5) (oi := { dst := some 90, op := Op.move (Operand.tmp 4), type := 3, pos := _, after := #[{ on := 2, ground := Ground.guard }], guard := some (2, true) }) (v := _) rfl (by kernel_rfl) (by kernel_rfl) (by kernel_rfl) (fun _ _ _ h => h) (Or.inr ⟨by rfl, rfl⟩) (by assumption) ?_
              try simp only [Act.put, List.setIfInBounds_toArray, List.set_cons_zero, List.set_cons_succ]
              refine wpAnyH_take (i := 6) (oi := { dst := some 91, op := Op.binOp BinOp.sub 3 (Operand.tmp 90) (Operand.const (Value.int IntKind.i64 1)) 3, type := 3, pos := _, after := #[{ on := 5, ground := Ground.data }, { on := 2, ground := Ground.guard }], guard := some (2, true) }) (v := _) rfl (by kernel_rfl) (by kernel_rfl) (by kernel_rfl) (fun _ _ _ h => h) (Or.inr ⟨by rfl, rfl⟩) (by assumption) ?_
              try simp only [Act.put, List.setIfInBounds_toArray, List.set_cons_zero, List.set_cons_succ]
              refine wpAnyH_take (i := 7) (oi := { dst := some 92, op := Op.indexAddr 64 (Operand.tmp 89) (Operand.tmp 91), type := 0, pos := _, after := #[{ on := 4, ground := Ground.data }, { on := 6, ground := Ground.data }, { on := 2, ground := Ground.guard }], guard := some (2, true) }) (v := _) rfl (by kernel_rfl) (by kernel_rfl) (by kernel_rfl) (fun _ _ _ h => h) (Or.inr ⟨by rfl, rfl⟩) (by assumption) ?_
              try simp only [Act.put, List.setIfInBounds_toArray, List.set_cons_zero, List.set_cons_succ]
              refine wpAnyH_take (i := 8) (oi := { dst := some 93, op := Op.fieldAddr 70 (Operand.tmp 92) 0, type := 0, pos := _, after := #[{ on := 7, ground := Ground.data }, { on := 2, ground := Ground.guard }], guard := some (2, true) }) (v := _) rfl (by kernel_rfl) (by kernel_rfl) (by kernel_rfl) (fun _ _ _ h => h) (Or.inr ⟨by rfl, rfl⟩) (by assumption) ?_
              try simp only [Act.put, List.setIfInBounds_toArray, List.set_cons_zero, List.set_cons_succ]
              refine wpAnyH_take (i := 9) (oi := { dst := some 94, op := Op.load 4 (Operand.tmp 93), type := 4, pos := _, after := #[{ on := 8, ground := Ground.data }, { on := 2, ground := Ground.guard }], guard := some (2, true) }) (v := _) rfl (by kernel_rfl) (by kernel_rfl) (by kernel_rfl) (fun _ _ _ h => h) (Or.inr ⟨by rfl, rfl⟩) (by assumption) ?_
              try simp only [Act.put, List.setIfInBounds_toArray, List.set_cons_zero, List.set_cons_succ]
              refine wpAnyH_take (i := 10) (oi := { dst := some 95, op := Op.unOp UnOp.not 4 (Operand.tmp 94), type := 4, pos := _, after := #[{ on := 9, ground := Ground.data }, { on := 2, ground := Ground.guard }], guard := some (2, true) }) (v := _) rfl (by kernel_rfl) (by kernel_rfl) (by kernel_rfl) (fun _ _ _ h => h) (Or.inr ⟨by rfl, rfl⟩) (by assumption) ?_
              try simp only [Act.put, List.setIfInBounds_toArray, List.set_cons_zero, List.set_cons_succ]
              refine wpAnyH_take (i := 11) (oi := { dst := some 96, op := Op.pick (Operand.tmp 87) (Operand.tmp 95) (Operand.const (Value.bool false)), type := 4, pos := _, after := #[{ on := 2, ground := Ground.data }, { on := 10, ground := Ground.data }], guard := none }) (v := ?_) rfl (by kernel_rfl) (by kernel_rfl) (by kernel_rfl) (fun _ _ _ h => h) (Or.inl ⟨by rfl, ?_⟩) (by assumption) ?_
              rotate_left
              · (intro w' hSw; (try dsimp only at hSw); clear hSw; go_simp; try with_reducible rfl)
              try simp only [Act.put, List.setIfInBounds_toArray, List.set_cons_zero, List.set_cons_succ]
              refine wpAnyH_take (i := 12) (oi := { dst := some 97, op := Op.move (Operand.tmp 96), type := 4, pos := _, after := #[{ on := 11, ground := Ground.data }, { on := 2, ground := Ground.chain }], guard := none }) (v := ?_) rfl (by kernel_rfl) (by kernel_rfl) (by kernel_rfl) (fun _ _ _ h => h) (Or.inl ⟨by rfl, ?_⟩) (by assumption) ?_
              rotate_left
              · (intro w' hSw; (try dsimp only at hSw); clear hSw; go_simp; try with_reducible rfl)
              try simp only [Act.put, List.setIfInBounds_toArray, List.set_cons_zero, List.set_cons_succ]
              refine wpAnyH_take (i := 13) (oi := { dst := some 98, op := Op.fieldAddr 66 (Operand.tmp 5) 1, type := 0, pos := _, after := #[{ on := 12, ground := Ground.guard }], guard := some (12, false) }) (v := ?_) rfl (by kernel_rfl) (by kernel_rfl) (by kernel_rfl) (fun _ _ _ h => h) (Or.inl ⟨by rfl, ?_⟩) (by assumption) ?_
              rotate_left
              · (intro w' hSw; (try dsimp only at hSw); clear hSw; go_simp; try with_reducible rfl)
              try simp only [Act.put, List.setIfInBounds_toArray, List.set_cons_zero, List.set_cons_succ]
              refine wpAnyH_take (i := 14) (oi := { dst := some 99, op := Op.load 64 (Operand.tmp 98), type := 64, pos := _, after := #[{ on := 13, ground := Ground.data }, { on := 12, ground := Ground.guard }], guard := some (12, false) }) (v := ?_) rfl (by kernel_rfl) (by kernel_rfl) (by kernel_rfl) (fun _ _ _ h => h) (Or.inl ⟨by rfl, ?_⟩) (by assumption) ?_
              rotate_left
              · (intro w' hSw; (try dsimp only at hSw); have q1 : w'.cell? ⟨w.heap.size + 1, 1, none⟩ = some (.slice A3 a.length c3) := (hSw.cell (p := ⟨w.heap.size + 1, 1, none⟩) hszP).trans pc1; clear hSw; go_simp; try with_reducible rfl)
              try simp only [Act.put, List.setIfInBounds_toArray, List.set_cons_zero, List.set_cons_succ]
              refine wpAnyH_ready (rs := [15]) (by kernel_rfl) (by simp) ?_
              refine AllReadyH.cons (o := { dst := some 100, op := Op.call { callee := Callee.value (Operand.func 47), args := #[Operand.tmp 99], argTypes := #[64] }, type := 3, pos := _, after := #[{ on := 14, ground := Ground.data }, { on := 12, ground := Ground.chain }, { on := 12, ground := Ground.guard }], guard := some (12, false) }) rfl (fun K hK => ?_) AllReadyH.nil
              go_simp
              refine (size_any _ _ _ _ (HSD.out.below hHeld0) (by omega) (by omega)).mono ?_
              rintro e w4 ⟨rfl, rfl⟩
              refine hK.out _ _ hHeld0 (fun hHeld1 => ?_)
              clear hK K
              try simp only [Act.put, List.setIfInBounds_toArray, List.set_cons_zero, List.set_cons_succ]
              refine wpAnyH_take (i := 16) (oi := { dst := some 101, op := Op.binOp BinOp.gtr 3 (Operand.tmp 100) (Operand.const (Value.int IntKind.i64 504)) 3, type := 4, pos := _, after := #[{ on := 15, ground := Ground.data }, { on := 12, ground := Ground.guard }], guard := some (12, false) }) (v := ?_) rfl (by kernel_rfl) (by kernel_rfl) (by kernel_rfl) (fun _ _ _ h => h) (Or.inl ⟨by rfl, ?_⟩) (by assumption) ?_
              rotate_left
              · (intro w' hSw; (try dsimp only at hSw); clear hSw; go_simp; try with_reducible rfl)
              try simp only [Act.put, List.setIfInBounds_toArray, List.set_cons_zero, List.set_cons_succ]
              refine wpAnyH_take (i := 17) (oi := { dst := some 102, op := Op.pick (Operand.tmp 97) (Operand.const (Value.bool true)) (Operand.tmp 101), type := 4, pos := _, after := #[{ on := 12, ground := Ground.data }, { on := 16, ground := Ground.data }], guard := none }) (v := ?_) rfl (by kernel_rfl) (by kernel_rfl) (by kernel_rfl) (fun _ _ _ h => h) (Or.inl ⟨by rfl, ?_⟩) (by assumption) ?_
              rotate_left
              · (intro w' hSw; (try dsimp only at hSw); clear hSw; go_simp; try with_reducible rfl)
              try simp only [Act.put, List.setIfInBounds_toArray, List.set_cons_zero, List.set_cons_succ]
              refine wpAnyH_take (i := 18) (oi := { dst := some 103, op := Op.move (Operand.tmp 102), type := 4, pos := _, after := #[{ on := 17, ground := Ground.data }, { on := 15, ground := Ground.chain }], guard := none }) (v := ?_) rfl (by kernel_rfl) (by kernel_rfl) (by kernel_rfl) (fun _ _ _ h => h) (Or.inl ⟨by rfl, ?_⟩) (by assumption) ?_
              rotate_left
              · (intro w' hSw; (try dsimp only at hSw); clear hSw; go_simp; try with_reducible rfl)
              try simp only [Act.put, List.setIfInBounds_toArray, List.set_cons_zero, List.set_cons_succ]
              refine wpAnyH_take (i := 19) (oi := { dst := some 104, op := Op.load 66 (Operand.tmp 5), type := 66, pos := _, after := #[{ on := 18, ground := Ground.guard }], guard := some (18, false) }) (v := _) rfl (by kernel_rfl) (by kernel_rfl) (by kernel_rfl) (fun _ _ _ h => h) (Or.inr ⟨by rfl, rfl⟩) (by assumption) ?_
              try simp only [Act.put, List.setIfInBounds_toArray, List.set_cons_zero, List.set_cons_succ]
              refine wpAnyH_take (i := 20) (oi := { dst := some 105, op := Op.call { callee := Callee.value (Operand.func 35), args := #[Operand.tmp 104], argTypes := #[66] }, type := 23, pos := _, after := #[{ on := 19, ground := Ground.data }, { on := 18, ground := Ground.chain }, { on := 18, ground := Ground.guard }], guard := some (18, false) }) (v := _) rfl (by kernel_rfl) (by kernel_rfl) (by kernel_rfl) (fun _ _ _ h => h) (Or.inr ⟨by rfl, rfl⟩) (by assumption) ?_
              try simp only [Act.put, List.setIfInBounds_toArray, List.set_cons_zero, List.set_cons_succ]
              refine wpAnyH_take (i := 21) (oi := { dst := some 106, op := Op.convert 23 9 (Operand.tmp 105), type := 9, pos := _, after := #[{ on := 20, ground := Ground.data }, { on := 18, ground := Ground.guard }], guard := some (18, false) }) (v := _) rfl (by kernel_rfl) (by kernel_rfl) (by kernel_rfl) (fun _ _ _ h => h) (Or.inr ⟨by rfl, rfl⟩) (by assumption) ?_
              try simp only [Act.put, List.setIfInBounds_toArray, List.set_cons_zero, List.set_cons_succ]
              refine wpAnyH_take (i := 22) (oi := { dst := some 107, op := Op.move (Operand.tmp 0), type := 23, pos := _, after := #[{ on := 18, ground := Ground.guard }], guard := some (18, false) }) (v := _) rfl (by kernel_rfl) (by kernel_rfl) (by kernel_rfl) (fun _ _ _ h => h) (Or.inr ⟨by rfl, rfl⟩) (by assumption) ?_
              try simp only [Act.put, List.setIfInBounds_toArray, List.set_cons_zero, List.set_cons_succ]
              refine wpAnyH_take (i := 23) (oi := { dst := some 108, op := Op.convert 23 9 (Operand.tmp 107), type := 9, pos := _, after := #[{ on := 22, ground := Ground.data }, { on := 18, ground := Ground.guard }], guard := some (18, false) }) (v := _) rfl (by kernel_rfl) (by kernel_rfl) (by kernel_rfl) (fun _ _ _ h => h) (Or.inr ⟨by rfl, rfl⟩) (by assumption) ?_
              try simp only [Act.put, List.setIfInBounds_toArray, List.set_cons_zero, List.set_cons_succ]
              refine wpAnyH_take (i := 24) (oi := { dst := some 109, op := Op.binOp BinOp.neq 9 (Operand.tmp 106) (Operand.tmp 108) 9, type := 4, pos := _, after := #[{ on := 21, ground := Ground.data }, { on := 23, ground := Ground.data }, { on := 18, ground := Ground.guard }], guard := some (18, false) }) (v := _) rfl (by kernel_rfl) (by kernel_rfl) (by kernel_rfl) (fun _ _ _ h => h) (Or.inr ⟨by rfl, rfl⟩) (by assumption) ?_
              try simp only [Act.put, List.setIfInBounds_toArray, List.set_cons_zero, List.set_cons_succ]
              refine wpAnyH_take (i := 25) (oi := { dst := some 110, op := Op.pick (Operand.tmp 103) (Operand.const (Value.bool true)) (Operand.tmp 109), type := 4, pos := _, after := #[{ on := 18, ground := Ground.data }, { on := 24, ground := Ground.data }], guard := none }) (v := ?_) rfl (by kernel_rfl) (by kernel_rfl) (by kernel_rfl) (fun _ _ _ h => h) (Or.inl ⟨by rfl, ?_⟩) (by assumption) ?_
              rotate_left
              · (intro w' hSw; (try dsimp only at hSw); clear hSw; go_simp; try with_reducible rfl)
              try simp only [Act.put, List.setIfInBounds_toArray, List.set_cons_zero, List.set_cons_succ]
              refine wpAnyH_done (by kernel_rfl) ?_ _
              have HF := hid (HS.out.below hHeld1)
              go_wp2
              go_meet
              exact ⟨true, by first | rfl | simp, HF.out, hid (fun _ => hq.out), hid (fun h => by cases h)⟩
          · have hnb : decide ((0 : Int) < (a.length : Int)) = true := by simp; omega
            have hnn : decide (0 < a.length) = true := by simp; omega
            have hwr : IntKind.i64.wrap ((a.length : Int) - 1) = (a.length : Int) - 1 := by rw [IntKind.wrap_i64]; omega
            have hTn : ((a.length : Int) - 1).toNat = a.length - 1 := by omega
            have hL5 : (1 : Int) ≤ (a.length : Int) := by omega
            have hL3 : (a.length : Int) - 1 < (a.length : Int) := by omega
            obtain ⟨x, hx⟩ : ∃ x, a[a.length - 1]? = some x := ⟨_, List.getElem?_eq_getElem (show a.length - 1 < a.length by omega)⟩
            obtain ⟨b2, o2, rfl, hb2, h21, _⟩ := HSD.out (a.length - 1) x hx
            have hx2 : ∃ a', a = a' ++ [x] := last_of hx
            clear hx
            cases x with
            | none => as_aux_lemma =>
              have hq : Hid (∀ q, ¬ Is bs q) := hid (fun q hq => by
                have h1 := HS.out.is q hq
                have h2 := hq.count
                rw [List.take_of_length_le (by omega)] at h1
                obtain ⟨a', ha'⟩ := hx2
                have h3 := hq.1.tr
                rw [← h1, ha', trim_none] at h3
                obtain ⟨j, hj⟩ := trim_prefix a'
                have h4 := congrArg List.length h3
                have h5 := congrArg List.length hj
                simp at h4 h5
                omega)
              simp only [Option.isSome_none] at h21
              refine wp_region_held_drew (S := fun w' => Below wc.heap.size wc w') (by kernel_rfl) (by exact (Below.refl _ _).drew) (fun hHeld0 => ?_)
              refine wpAnyH_take (i := 0) (oi := { dst := some 85, op := Op.move (Operand.tmp 4), type := 3, pos := _, after := #[], guard := none }) (v := ?_) rfl (by kernel_rfl) (by kernel_rfl) (by kernel_rfl) (fun _ _ _ h => h) (Or.inl ⟨by rfl, ?_⟩) (by assumption) ?_
              rotate_left
              · (intro w' hSw; (try dsimp only at hSw); clear hSw; go_simp; try with_reducible rfl)
              try simp only [Act.put, List.setIfInBounds_toArray, List.set_cons_zero, List.set_cons_succ]
              refine wpAnyH_take (i := 1) (oi := { dst := some 86, op := Op.binOp BinOp.gtr 3 (Operand.tmp 85) (Operand.const (Value.int IntKind.i64 0)) 3, type := 4, pos := _, after := #[{ on := 0, ground := Ground.data }], guard := none }) (v := ?_) rfl (by kernel_rfl) (by kernel_rfl) (by kernel_rfl) (fun _ _ _ h => h) (Or.inl ⟨by rfl, ?_⟩) (by assumption) ?_
              rotate_left
              · (intro w' hSw; (try dsimp only at hSw); clear hSw; go_simp; try with_reducible rfl)
              try simp only [Act.put, List.setIfInBounds_toArray, List.set_cons_zero, List.set_cons_succ]
              refine wpAnyH_take (i := 2) (oi := { dst := some 87, op := Op.move (Operand.tmp 86), type := 4, pos := _, after := #[{ on := 1, ground := Ground.data }], guard := none }) (v := ?_) rfl (by kernel_rfl) (by kernel_rfl) (by kernel_rfl) (fun _ _ _ h => h) (Or.inl ⟨by rfl, ?_⟩) (by assumption) ?_
              rotate_left
              · (intro w' hSw; (try dsimp only at hSw); clear hSw; go_simp; try with_reducible rfl)
              try simp only [Act.put, List.setIfInBounds_toArray, List.set_cons_zero, List.set_cons_succ]
              refine wpAnyH_take (i := 3) (oi := { dst := some 88, op := Op.fieldAddr 66 (Operand.tmp 5) 1, type := 0, pos := _, after := #[{ on := 2, ground := Ground.guard }], guard := some (2, true) }) (v := ?_) rfl (by kernel_rfl) (by kernel_rfl) (by kernel_rfl) (fun _ _ _ h => h) (Or.inl ⟨by rfl, ?_⟩) (by assumption) ?_
              rotate_left
              · (intro w' hSw; (try dsimp only at hSw); clear hSw; go_simp; try with_reducible rfl)
              try simp only [Act.put, List.setIfInBounds_toArray, List.set_cons_zero, List.set_cons_succ]
              refine wpAnyH_take (i := 4) (oi := { dst := some 89, op := Op.load 64 (Operand.tmp 88), type := 64, pos := _, after := #[{ on := 3, ground := Ground.data }, { on := 2, ground := Ground.guard }], guard := some (2, true) }) (v := ?_) rfl (by kernel_rfl) (by kernel_rfl) (by kernel_rfl) (fun _ _ _ h => h) (Or.inl ⟨by rfl, ?_⟩) (by assumption) ?_
              rotate_left
              · (intro w' hSw; (try dsimp only at hSw); have q1 : w'.cell? ⟨w.heap.size + 1, 1, none⟩ = some (.slice (some ⟨b2, o2, none⟩) a.length c3) := (hSw.cell (p := ⟨w.heap.size + 1, 1, none⟩) hszP).trans pc1; clear hSw; go_simp; try with_reducible rfl)
              try simp only [Act.put, List.setIfInBounds_toArray, List.set_cons_zero, List.set_cons_succ]
              refine wpAnyH_take (i := 5) (oi := { dst := some 90, op := Op.move (Operand.tmp 4), type := 3, pos := _, after := #[{ on := 2, ground := Ground.guard }], guard := some (2, true) }) (v := ?_) rfl (by kernel_rfl) (by kernel_rfl) (by kernel_rfl) (fun _ _ _ h => h) (Or.inl ⟨by rfl, ?_⟩) (by assumption) ?_
              rotate_left
              · (intro w' hSw; (try dsimp only at hSw); clear hSw; go_simp; try with_reducible rfl)
              try simp only [Act.put, List.setIfInBounds_toArray, List.set_cons_zero, List.set_cons_succ]
              refine wpAnyH_take (i := 6) (oi := { dst := some 91, op := Op.binOp BinOp.sub 3 (Operand.tmp 90) (Operand.const (Value.int IntKind.i64 1)) 3, type := 3, pos := _, after := #[{ on := 5, ground := Ground.data }, { on := 2, ground := Ground.guard }], guard := some (2, true) }) (v := ?_) rfl (by kernel_rfl) (by kernel_rfl) (by kernel_rfl) (fun _ _ _ h => h) (Or.inl ⟨by rfl, ?_⟩) (by assumption) ?_
              rotate_left
              · (intro w' hSw; (try dsimp only at hSw); clear hSw; go_simp; try with_reducible rfl)
              try simp only [Act.put, List.setIfInBounds_toArray, List.set_cons_zero, List.set_cons_succ]
              refine wpAnyH_take (i := 7) (oi := { dst := some 92, op := Op.indexAddr 64 (Operand.tmp 89) (Operand.tmp 91), type := 0, pos := _, after := #[{ on := 4, ground := Ground.data }, { on := 6, ground := Ground.data }, { on := 2, ground := Ground.guard }], guard := some (2, true) }) (v := ?_) rfl (by kernel_rfl) (by kernel_rfl) (by kernel_rfl) (fun _ _ _ h => h) (Or.inl ⟨by rfl, ?_⟩) (by assumption) ?_
              rotate_left
              · (intro w' hSw; (try dsimp only at hSw); clear hSw; go_simp; try with_reducible rfl)
              try simp only [Act.put, List.setIfInBounds_toArray, List.set_cons_zero, List.set_cons_succ]
              refine wpAnyH_take (i := 8) (oi := { dst := some 93, op := Op.fieldAddr 70 (Operand.tmp 92) 0, type := 0, pos := _, after := #[{ on := 7, ground := Ground.data }, { on := 2, ground := Ground.guard }], guard := some (2, true) }) (v := ?_) rfl (by kernel_rfl) (by kernel_rfl) (by kernel_rfl) (fun _ _ _ h => h) (Or.inl ⟨by rfl, ?_⟩) (by assumption) ?_
              rotate_left
              · (intro w' hSw; (try dsimp only at hSw); clear hSw; go_simp; try with_reducible rfl)
              try simp only [Act.put, List.setIfInBounds_toArray, List.set_cons_zero, List.set_cons_succ]
              refine wpAnyH_take (i := 9) (oi := { dst := some 94, op := Op.load 4 (Operand.tmp 93), type := 4, pos := _, after := #[{ on := 8, ground := Ground.data }, { on := 2, ground := Ground.guard }], guard := some (2, true) }) (v := ?_) rfl (by kernel_rfl) (by kernel_rfl) (by kernel_rfl) (fun _ _ _ h => h) (Or.inl ⟨by rfl, ?_⟩) (by assumption) ?_
              rotate_left
              · (intro w' hSw; (try dsimp only at hSw); have q2 : w'.cell? ⟨b2, o2 + (a.length - 1) * 2, none⟩ = some (.bool false) := (hSw.cell (p := ⟨b2, o2 + (a.length - 1) * 2, none⟩) hb2).trans h21; clear hSw; go_simp; try with_reducible rfl)
              try simp only [Act.put, List.setIfInBounds_toArray, List.set_cons_zero, List.set_cons_succ]
              refine wpAnyH_take (i := 10) (oi := { dst := some 95, op := Op.unOp UnOp.not 4 (Operand.tmp 94), type := 4, pos := _, after := #[{ on := 9, ground := Ground.data }, { on := 2, ground := Ground.guard }], guard := some (2, true) }) (v := ?_) rfl (by kernel_rfl) (by kernel_rfl) (by kernel_rfl) (fun _ _ _ h => h) (Or.inl ⟨by rfl, ?_⟩) (by assumption) ?_
              rotate_left
              · (intro w' hSw; (try dsimp only at hSw); clear hSw; go_simp; try with_reducible rfl)
              try simp only [Act.put, List.setIfInBounds_toArray, List.set_cons_zero, List.set_cons_succ]
              refine wpAnyH_take (i := 11) (oi := { dst := some 96, op := Op.pick (Operand.tmp 87) (Operand.tmp 95) (Operand.const (Value.bool false)), type := 4, pos := _, after := #[{ on := 2, ground := Ground.data }, { on := 10, ground := Ground.data }], guard := none }) (v := ?_) rfl (by kernel_rfl) (by kernel_rfl) (by kernel_rfl) (fun _ _ _ h => h) (Or.inl ⟨by rfl, ?_⟩) (by assumption) ?_
              rotate_left
              · (intro w' hSw; (try dsimp only at hSw); clear hSw; go_simp; try with_reducible rfl)
              try simp only [Act.put, List.setIfInBounds_toArray, List.set_cons_zero, List.set_cons_succ]
              refine wpAnyH_take (i := 12) (oi := { dst := some 97, op := Op.move (Operand.tmp 96), type := 4, pos := _, after := #[{ on := 11, ground := Ground.data }, { on := 2, ground := Ground.chain }], guard := none }) (v := ?_) rfl (by kernel_rfl) (by kernel_rfl) (by kernel_rfl) (fun _ _ _ h => h) (Or.inl ⟨by rfl, ?_⟩) (by assumption) ?_
              rotate_left
              · (intro w' hSw; (try dsimp only at hSw); clear hSw; go_simp; try with_reducible rfl)
              try simp only [Act.put, List.setIfInBounds_toArray, List.set_cons_zero, List.set_cons_succ]
              refine wpAnyH_take (i := 13) (oi := { dst := some 98, op := Op.fieldAddr 66 (Operand.tmp 5) 1, type := 0, pos := _, after := #[{ on := 12, ground := Ground.guard }], guard := some (12, false) }) (v := _) rfl (by kernel_rfl) (by kernel_rfl) (by kernel_rfl) (fun _ _ _ h => h) (Or.inr ⟨by rfl, rfl⟩) (by assumption) ?_
              try simp only [Act.put, List.setIfInBounds_toArray, List.set_cons_zero, List.set_cons_succ]
              refine wpAnyH_take (i := 14) (oi := { dst := some 99, op := Op.load 64 (Operand.tmp 98), type := 64, pos := _, after := #[{ on := 13, ground := Ground.data }, { on := 12, ground := Ground.guard }], guard := some (12, false) }) (v := _) rfl (by kernel_rfl) (by kernel_rfl) (by kernel_rfl) (fun _ _ _ h => h) (Or.inr ⟨by rfl, rfl⟩) (by assumption) ?_
              try simp only [Act.put, List.setIfInBounds_toArray, List.set_cons_zero, List.set_cons_succ]
              refine wpAnyH_take (i := 15) (oi := { dst := some 100, op := Op.call { callee := Callee.value (Operand.func 47), args := #[Operand.tmp 99], argTypes := #[64] }, type := 3, pos := _, after := #[{ on := 14, ground := Ground.data }, { on := 12, ground := Ground.chain }, { on := 12, ground := Ground.guard }], guard := some (12, false) }) (v := _) rfl (by kernel_rfl) (by kernel_rfl) (by kernel_rfl) (fun _ _ _ h => h) (Or.inr ⟨by rfl, rfl⟩) (by assumption) ?_
              try simp only [Act.put, List.setIfInBounds_toArray, List.set_cons_zero, List.set_cons_succ]
              refine wpAnyH_take (i := 16) (oi := { dst := some 101, op := Op.binOp BinOp.gtr 3 (Operand.tmp 100) (Operand.const (Value.int IntKind.i64 504)) 3, type := 4, pos := _, after := #[{ on := 15, ground := Ground.data }, { on := 12, ground := Ground.guard }], guard := some (12, false) }) (v := _) rfl (by kernel_rfl) (by kernel_rfl) (by kernel_rfl) (fun _ _ _ h => h) (Or.inr ⟨by rfl, rfl⟩) (by assumption) ?_
              try simp only [Act.put, List.setIfInBounds_toArray, List.set_cons_zero, List.set_cons_succ]
              refine wpAnyH_take (i := 17) (oi := { dst := some 102, op := Op.pick (Operand.tmp 97) (Operand.const (Value.bool true)) (Operand.tmp 101), type := 4, pos := _, after := #[{ on := 12, ground := Ground.data }, { on := 16, ground := Ground.data }], guard := none }) (v := ?_) rfl (by kernel_rfl) (by kernel_rfl) (by kernel_rfl) (fun _ _ _ h => h) (Or.inl ⟨by rfl, ?_⟩) (by assumption) ?_
              rotate_left
              · (intro w' hSw; (try dsimp only at hSw); clear hSw; go_simp; try with_reducible rfl)
              try simp only [Act.put, List.setIfInBounds_toArray, List.set_cons_zero, List.set_cons_succ]
              refine wpAnyH_take (i := 18) (oi := { dst := some 103, op := Op.move (Operand.tmp 102), type := 4, pos := _, after := #[{ on := 17, ground := Ground.data }, { on := 15, ground := Ground.chain }], guard := none }) (v := ?_) rfl (by kernel_rfl) (by kernel_rfl) (by kernel_rfl) (fun _ _ _ h => h) (Or.inl ⟨by rfl, ?_⟩) (by assumption) ?_
              rotate_left
              · (intro w' hSw; (try dsimp only at hSw); clear hSw; go_simp; try with_reducible rfl)
              try simp only [Act.put, List.setIfInBounds_toArray, List.set_cons_zero, List.set_cons_succ]
              refine wpAnyH_take (i := 19) (oi := { dst := some 104, op := Op.load 66 (Operand.tmp 5), type := 66, pos := _, after := #[{ on := 18, ground := Ground.guard }], guard := some (18, false) }) (v := _) rfl (by kernel_rfl) (by kernel_rfl) (by kernel_rfl) (fun _ _ _ h => h) (Or.inr ⟨by rfl, rfl⟩) (by assumption) ?_
              try simp only [Act.put, List.setIfInBounds_toArray, List.set_cons_zero, List.set_cons_succ]
              refine wpAnyH_take (i := 20) (oi := { dst := some 105, op := Op.call { callee := Callee.value (Operand.func 35), args := #[Operand.tmp 104], argTypes := #[66] }, type := 23, pos := _, after := #[{ on := 19, ground := Ground.data }, { on := 18, ground := Ground.chain }, { on := 18, ground := Ground.guard }], guard := some (18, false) }) (v := _) rfl (by kernel_rfl) (by kernel_rfl) (by kernel_rfl) (fun _ _ _ h => h) (Or.inr ⟨by rfl, rfl⟩) (by assumption) ?_
              try simp only [Act.put, List.setIfInBounds_toArray, List.set_cons_zero, List.set_cons_succ]
              refine wpAnyH_take (i := 21) (oi := { dst := some 106, op := Op.convert 23 9 (Operand.tmp 105), type := 9, pos := _, after := #[{ on := 20, ground := Ground.data }, { on := 18, ground := Ground.guard }], guard := some (18, false) }) (v := _) rfl (by kernel_rfl) (by kernel_rfl) (by kernel_rfl) (fun _ _ _ h => h) (Or.inr ⟨by rfl, rfl⟩) (by assumption) ?_
              try simp only [Act.put, List.setIfInBounds_toArray, List.set_cons_zero, List.set_cons_succ]
              refine wpAnyH_take (i := 22) (oi := { dst := some 107, op := Op.move (Operand.tmp 0), type := 23, pos := _, after := #[{ on := 18, ground := Ground.guard }], guard := some (18, false) }) (v := _) rfl (by kernel_rfl) (by kernel_rfl) (by kernel_rfl) (fun _ _ _ h => h) (Or.inr ⟨by rfl, rfl⟩) (by assumption) ?_
              try simp only [Act.put, List.setIfInBounds_toArray, List.set_cons_zero, List.set_cons_succ]
              refine wpAnyH_take (i := 23) (oi := { dst := some 108, op := Op.convert 23 9 (Operand.tmp 107), type := 9, pos := _, after := #[{ on := 22, ground := Ground.data }, { on := 18, ground := Ground.guard }], guard := some (18, false) }) (v := _) rfl (by kernel_rfl) (by kernel_rfl) (by kernel_rfl) (fun _ _ _ h => h) (Or.inr ⟨by rfl, rfl⟩) (by assumption) ?_
              try simp only [Act.put, List.setIfInBounds_toArray, List.set_cons_zero, List.set_cons_succ]
              refine wpAnyH_take (i := 24) (oi := { dst := some 109, op := Op.binOp BinOp.neq 9 (Operand.tmp 106) (Operand.tmp 108) 9, type := 4, pos := _, after := #[{ on := 21, ground := Ground.data }, { on := 23, ground := Ground.data }, { on := 18, ground := Ground.guard }], guard := some (18, false) }) (v := _) rfl (by kernel_rfl) (by kernel_rfl) (by kernel_rfl) (fun _ _ _ h => h) (Or.inr ⟨by rfl, rfl⟩) (by assumption) ?_
              try simp only [Act.put, List.setIfInBounds_toArray, List.set_cons_zero, List.set_cons_succ]
              refine wpAnyH_take (i := 25) (oi := { dst := some 110, op := Op.pick (Operand.tmp 103) (Operand.const (Value.bool true)) (Operand.tmp 109), type := 4, pos := _, after := #[{ on := 18, ground := Ground.data }, { on := 24, ground := Ground.data }], guard := none }) (v := ?_) rfl (by kernel_rfl) (by kernel_rfl) (by kernel_rfl) (fun _ _ _ h => h) (Or.inl ⟨by rfl, ?_⟩) (by assumption) ?_
              rotate_left
              · (intro w' hSw; (try dsimp only at hSw); clear hSw; go_simp; try with_reducible rfl)
              try simp only [Act.put, List.setIfInBounds_toArray, List.set_cons_zero, List.set_cons_succ]
              refine wpAnyH_done (by kernel_rfl) ?_ _
              have HF := hid (HS.out.below hHeld0)
              go_wp2
              go_meet
              exact ⟨true, by first | rfl | simp, HF.out, hid (fun _ => hq.out), hid (fun h => by cases h)⟩
            | some r => as_aux_lemma =>
              have hlast : Hid (a = [] ∨ ∃ a' r, a = a' ++ [some r]) := hid (.inr (by obtain ⟨a', ha'⟩ := hx2; exact ⟨a', r, ha'⟩))
              simp only [Option.isSome_some] at h21
              by_cases hfit : 4 * a.length + sum a ≤ 498
              · as_aux_lemma =>
                have hf1 : 6 + 4 * (a.length : Int) + (sum a : Int) ≤ 504 := by omega
                have hf2 : decide ((504 : Int) < 6 + 4 * (a.length : Int) + (sum a : Int)) = false := by simp; omega
                obtain ⟨d, hd⟩ : ∃ d, (!((page (num4 bs 2) a.length (st a)) == bs)) = d := ⟨_, rfl⟩
                refine wp_region_held_drew (S := fun w' => Below wc.heap.size wc w') (by kernel_rfl) (by exact (Below.refl _ _).drew) (fun hHeld0 => ?_)
                refine wpAnyH_take (i := 0) (oi := { dst := some 85, op := Op.move (Operand.tmp 4), type := 3, pos := _, after := #[], guard := none }) (v := ?_) rfl (by kernel_rfl) (by kernel_rfl) (by kernel_rfl) (fun _ _ _ h => h) (Or.inl ⟨by rfl, ?_⟩) (by assumption) ?_
                rotate_left
                · (intro w' hSw; (try dsimp only at hSw); clear hSw; go_simp; try with_reducible rfl)
                try simp only [Act.put, List.setIfInBounds_toArray, List.set_cons_zero, List.set_cons_succ]
                refine wpAnyH_take (i := 1) (oi := { dst := some 86, op := Op.binOp BinOp.gtr 3 (Operand.tmp 85) (Operand.const (Value.int IntKind.i64 0)) 3, type := 4, pos := _, after := #[{ on := 0, ground := Ground.data }], guard := none }) (v := ?_) rfl (by kernel_rfl) (by kernel_rfl) (by kernel_rfl) (fun _ _ _ h => h) (Or.inl ⟨by rfl, ?_⟩) (by assumption) ?_
                rotate_left
                · (intro w' hSw; (try dsimp only at hSw); clear hSw; go_simp; try with_reducible rfl)
                try simp only [Act.put, List.setIfInBounds_toArray, List.set_cons_zero, List.set_cons_succ]
                refine wpAnyH_take (i := 2) (oi := { dst := some 87, op := Op.move (Operand.tmp 86), type := 4, pos := _, after := #[{ on := 1, ground := Ground.data }], guard := none }) (v := ?_) rfl (by kernel_rfl) (by kernel_rfl) (by kernel_rfl) (fun _ _ _ h => h) (Or.inl ⟨by rfl, ?_⟩) (by assumption) ?_
                rotate_left
                · (intro w' hSw; (try dsimp only at hSw); clear hSw; go_simp; try with_reducible rfl)
                try simp only [Act.put, List.setIfInBounds_toArray, List.set_cons_zero, List.set_cons_succ]
                refine wpAnyH_take (i := 3) (oi := { dst := some 88, op := Op.fieldAddr 66 (Operand.tmp 5) 1, type := 0, pos := _, after := #[{ on := 2, ground := Ground.guard }], guard := some (2, true) }) (v := ?_) rfl (by kernel_rfl) (by kernel_rfl) (by kernel_rfl) (fun _ _ _ h => h) (Or.inl ⟨by rfl, ?_⟩) (by assumption) ?_
                rotate_left
                · (intro w' hSw; (try dsimp only at hSw); clear hSw; go_simp; try with_reducible rfl)
                try simp only [Act.put, List.setIfInBounds_toArray, List.set_cons_zero, List.set_cons_succ]
                refine wpAnyH_take (i := 4) (oi := { dst := some 89, op := Op.load 64 (Operand.tmp 88), type := 64, pos := _, after := #[{ on := 3, ground := Ground.data }, { on := 2, ground := Ground.guard }], guard := some (2, true) }) (v := ?_) rfl (by kernel_rfl) (by kernel_rfl) (by kernel_rfl) (fun _ _ _ h => h) (Or.inl ⟨by rfl, ?_⟩) (by assumption) ?_
                rotate_left
                · (intro w' hSw; (try dsimp only at hSw); have q1 : w'.cell? ⟨w.heap.size + 1, 1, none⟩ = some (.slice (some ⟨b2, o2, none⟩) a.length c3) := (hSw.cell (p := ⟨w.heap.size + 1, 1, none⟩) hszP).trans pc1; clear hSw; go_simp; try with_reducible rfl)
                try simp only [Act.put, List.setIfInBounds_toArray, List.set_cons_zero, List.set_cons_succ]
                refine wpAnyH_take (i := 5) (oi := { dst := some 90, op := Op.move (Operand.tmp 4), type := 3, pos := _, after := #[{ on := 2, ground := Ground.guard }], guard := some (2, true) }) (v := ?_) rfl (by kernel_rfl) (by kernel_rfl) (by kernel_rfl) (fun _ _ _ h => h) (Or.inl ⟨by rfl, ?_⟩) (by assumption) ?_
                rotate_left
                · (intro w' hSw; (try dsimp only at hSw); clear hSw; go_simp; try with_reducible rfl)
                try simp only [Act.put, List.setIfInBounds_toArray, List.set_cons_zero, List.set_cons_succ]
                refine wpAnyH_take (i := 6) (oi := { dst := some 91, op := Op.binOp BinOp.sub 3 (Operand.tmp 90) (Operand.const (Value.int IntKind.i64 1)) 3, type := 3, pos := _, after := #[{ on := 5, ground := Ground.data }, { on := 2, ground := Ground.guard }], guard := some (2, true) }) (v := ?_) rfl (by kernel_rfl) (by kernel_rfl) (by kernel_rfl) (fun _ _ _ h => h) (Or.inl ⟨by rfl, ?_⟩) (by assumption) ?_
                rotate_left
                · (intro w' hSw; (try dsimp only at hSw); clear hSw; go_simp; try with_reducible rfl)
                try simp only [Act.put, List.setIfInBounds_toArray, List.set_cons_zero, List.set_cons_succ]
                refine wpAnyH_take (i := 7) (oi := { dst := some 92, op := Op.indexAddr 64 (Operand.tmp 89) (Operand.tmp 91), type := 0, pos := _, after := #[{ on := 4, ground := Ground.data }, { on := 6, ground := Ground.data }, { on := 2, ground := Ground.guard }], guard := some (2, true) }) (v := ?_) rfl (by kernel_rfl) (by kernel_rfl) (by kernel_rfl) (fun _ _ _ h => h) (Or.inl ⟨by rfl, ?_⟩) (by assumption) ?_
                rotate_left
                · (intro w' hSw; (try dsimp only at hSw); clear hSw; go_simp; try with_reducible rfl)
                try simp only [Act.put, List.setIfInBounds_toArray, List.set_cons_zero, List.set_cons_succ]
                refine wpAnyH_take (i := 8) (oi := { dst := some 93, op := Op.fieldAddr 70 (Operand.tmp 92) 0, type := 0, pos := _, after := #[{ on := 7, ground := Ground.data }, { on := 2, ground := Ground.guard }], guard := some (2, true) }) (v := ?_) rfl (by kernel_rfl) (by kernel_rfl) (by kernel_rfl) (fun _ _ _ h => h) (Or.inl ⟨by rfl, ?_⟩) (by assumption) ?_
                rotate_left
                · (intro w' hSw; (try dsimp only at hSw); clear hSw; go_simp; try with_reducible rfl)
                try simp only [Act.put, List.setIfInBounds_toArray, List.set_cons_zero, List.set_cons_succ]
                refine wpAnyH_take (i := 9) (oi := { dst := some 94, op := Op.load 4 (Operand.tmp 93), type := 4, pos := _, after := #[{ on := 8, ground := Ground.data }, { on := 2, ground := Ground.guard }], guard := some (2, true) }) (v := ?_) rfl (by kernel_rfl) (by kernel_rfl) (by kernel_rfl) (fun _ _ _ h => h) (Or.inl ⟨by rfl, ?_⟩) (by assumption) ?_
                rotate_left
                · (intro w' hSw; (try dsimp only at hSw); have q2 : w'.cell? ⟨b2, o2 + (a.length - 1) * 2, none⟩ = some (.bool true) := (hSw.cell (p := ⟨b2, o2 + (a.length - 1) * 2, none⟩) hb2).trans h21; clear hSw; go_simp; try with_reducible rfl)
                try simp only [Act.put, List.setIfInBounds_toArray, List.set_cons_zero, List.set_cons_succ]
                refine wpAnyH_take (i := 10) (oi := { dst := some 95, op := Op.unOp UnOp.not 4 (Operand.tmp 94), type := 4, pos := _, after := #[{ on := 9, ground := Ground.data }, { on := 2, ground := Ground.guard }], guard := some (2, true) }) (v := ?_) rfl (by kernel_rfl) (by kernel_rfl) (by kernel_rfl) (fun _ _ _ h => h) (Or.inl ⟨by rfl, ?_⟩) (by assumption) ?_
                rotate_left
                · (intro w' hSw; (try dsimp only at hSw); clear hSw; go_simp; try with_reducible rfl)
                try simp only [Act.put, List.setIfInBounds_toArray, List.set_cons_zero, List.set_cons_succ]
                refine wpAnyH_take (i := 11) (oi := { dst := some 96, op := Op.pick (Operand.tmp 87) (Operand.tmp 95) (Operand.const (Value.bool false)), type := 4, pos := _, after := #[{ on := 2, ground := Ground.data }, { on := 10, ground := Ground.data }], guard := none }) (v := ?_) rfl (by kernel_rfl) (by kernel_rfl) (by kernel_rfl) (fun _ _ _ h => h) (Or.inl ⟨by rfl, ?_⟩) (by assumption) ?_
                rotate_left
                · (intro w' hSw; (try dsimp only at hSw); clear hSw; go_simp; try with_reducible rfl)
                try simp only [Act.put, List.setIfInBounds_toArray, List.set_cons_zero, List.set_cons_succ]
                refine wpAnyH_take (i := 12) (oi := { dst := some 97, op := Op.move (Operand.tmp 96), type := 4, pos := _, after := #[{ on := 11, ground := Ground.data }, { on := 2, ground := Ground.chain }], guard := none }) (v := ?_) rfl (by kernel_rfl) (by kernel_rfl) (by kernel_rfl) (fun _ _ _ h => h) (Or.inl ⟨by rfl, ?_⟩) (by assumption) ?_
                rotate_left
                · (intro w' hSw; (try dsimp only at hSw); clear hSw; go_simp; try with_reducible rfl)
                try simp only [Act.put, List.setIfInBounds_toArray, List.set_cons_zero, List.set_cons_succ]
                refine wpAnyH_take (i := 13) (oi := { dst := some 98, op := Op.fieldAddr 66 (Operand.tmp 5) 1, type := 0, pos := _, after := #[{ on := 12, ground := Ground.guard }], guard := some (12, false) }) (v := ?_) rfl (by kernel_rfl) (by kernel_rfl) (by kernel_rfl) (fun _ _ _ h => h) (Or.inl ⟨by rfl, ?_⟩) (by assumption) ?_
                rotate_left
                · (intro w' hSw; (try dsimp only at hSw); clear hSw; go_simp; try with_reducible rfl)
                try simp only [Act.put, List.setIfInBounds_toArray, List.set_cons_zero, List.set_cons_succ]
                refine wpAnyH_take (i := 14) (oi := { dst := some 99, op := Op.load 64 (Operand.tmp 98), type := 64, pos := _, after := #[{ on := 13, ground := Ground.data }, { on := 12, ground := Ground.guard }], guard := some (12, false) }) (v := ?_) rfl (by kernel_rfl) (by kernel_rfl) (by kernel_rfl) (fun _ _ _ h => h) (Or.inl ⟨by rfl, ?_⟩) (by assumption) ?_
                rotate_left
                · (intro w' hSw; (try dsimp only at hSw); have q1 : w'.cell? ⟨w.heap.size + 1, 1, none⟩ = some (.slice (some ⟨b2, o2, none⟩) a.length c3) := (hSw.cell (p := ⟨w.heap.size + 1, 1, none⟩) hszP).trans pc1; clear hSw; go_simp; try with_reducible rfl)
                try simp only [Act.put, List.setIfInBounds_toArray, List.set_cons_zero, List.set_cons_succ]
                refine wpAnyH_ready (rs := [15]) (by kernel_rfl) (by simp) ?_
                refine AllReadyH.cons (o := { dst := some 100, op := Op.call { callee := Callee.value (Operand.func 47), args := #[Operand.tmp 99], argTypes := #[64] }, type := 3, pos := _, after := #[{ on := 14, ground := Ground.data }, { on := 12, ground := Ground.chain }, { on := 12, ground := Ground.guard }], guard := some (12, false) }) rfl (fun K hK => ?_) AllReadyH.nil
                go_simp
                refine (size_any _ _ _ _ (HSD.out.below hHeld0) (by omega) (by omega)).mono ?_
                rintro e w4 ⟨rfl, rfl⟩
                refine hK.out _ _ hHeld0 (fun hHeld1 => ?_)
                clear hK K
                try simp only [Act.put, List.setIfInBounds_toArray, List.set_cons_zero, List.set_cons_succ]
                refine wpAnyH_take (i := 16) (oi := { dst := some 101, op := Op.binOp BinOp.gtr 3 (Operand.tmp 100) (Operand.const (Value.int IntKind.i64 504)) 3, type := 4, pos := _, after := #[{ on := 15, ground := Ground.data }, { on := 12, ground := Ground.guard }], guard := some (12, false) }) (v := ?_) rfl (by kernel_rfl) (by kernel_rfl) (by kernel_rfl) (fun _ _ _ h => h) (Or.inl ⟨by rfl, ?_⟩) (by assumption) ?_
                rotate_left
                · (intro w' hSw; (try dsimp only at hSw); clear hSw; go_simp; try with_reducible rfl)
                try simp only [Act.put, List.setIfInBounds_toArray, List.set_cons_zero, List.set_cons_succ]
                refine wpAnyH_take (i := 17) (oi := { dst := some 102, op := Op.pick (Operand.tmp 97) (Operand.const (Value.bool true)) (Operand.tmp 101), type := 4, pos := _, after := #[{ on := 12, ground := Ground.data }, { on := 16, ground := Ground.data }], guard := none }) (v := ?_) rfl (by kernel_rfl) (by kernel_rfl) (by kernel_rfl) (fun _ _ _ h => h) (Or.inl ⟨by rfl, ?_⟩) (by assumption) ?_
                rotate_left
                · (intro w' hSw; (try dsimp only at hSw); clear hSw; go_simp; try with_reducible rfl)
                try simp only [Act.put, List.setIfInBounds_toArray, List.set_cons_zero, List.set_cons_succ]
                refine wpAnyH_take (i := 18) (oi := { dst := some 103, op := Op.move (Operand.tmp 102), type := 4, pos := _, after := #[{ on := 17, ground := Ground.data }, { on := 15, ground := Ground.chain }], guard := none }) (v := ?_) rfl (by kernel_rfl) (by kernel_rfl) (by kernel_rfl) (fun _ _ _ h => h) (Or.inl ⟨by rfl, ?_⟩) (by assumption) ?_
                rotate_left
                · (intro w' hSw; (try dsimp only at hSw); clear hSw; go_simp; try with_reducible rfl)
                try simp only [Act.put, List.setIfInBounds_toArray, List.set_cons_zero, List.set_cons_succ]
                refine wpAnyH_take (i := 19) (oi := { dst := some 104, op := Op.load 66 (Operand.tmp 5), type := 66, pos := _, after := #[{ on := 18, ground := Ground.guard }], guard := some (18, false) }) (v := ?_) rfl (by kernel_rfl) (by kernel_rfl) (by kernel_rfl) (fun _ _ _ h => h) (Or.inl ⟨by rfl, ?_⟩) (by assumption) ?_
                rotate_left
                · (intro w' hSw; (try dsimp only at hSw); have q0 : w'.cell? ⟨w.heap.size + 1, 0, none⟩ = some (.int .i64 (num4 bs 2)) := (hSw.cell (p := ⟨w.heap.size + 1, 0, none⟩) hszP).trans pc0; have q1 : w'.cell? ⟨w.heap.size + 1, 1, none⟩ = some (.slice (some ⟨b2, o2, none⟩) a.length c3) := (hSw.cell (p := ⟨w.heap.size + 1, 1, none⟩) hszP).trans pc1; clear hSw; go_simp; try with_reducible rfl)
                try simp only [Act.put, List.setIfInBounds_toArray, List.set_cons_zero, List.set_cons_succ]
                refine wpAnyH_take (i := 22) (oi := { dst := some 107, op := Op.move (Operand.tmp 0), type := 23, pos := _, after := #[{ on := 18, ground := Ground.guard }], guard := some (18, false) }) (v := ?_) rfl (by kernel_rfl) (by kernel_rfl) (by kernel_rfl) (fun _ _ _ h => h) (Or.inl ⟨by rfl, ?_⟩) (by assumption) ?_
                rotate_left
                · (intro w' hSw; (try dsimp only at hSw); clear hSw; go_simp; try with_reducible rfl)
                try simp only [Act.put, List.setIfInBounds_toArray, List.set_cons_zero, List.set_cons_succ]
                refine wpAnyH_take (i := 23) (oi := { dst := some 108, op := Op.convert 23 9 (Operand.tmp 107), type := 9, pos := _, after := #[{ on := 22, ground := Ground.data }, { on := 18, ground := Ground.guard }], guard := some (18, false) }) (v := ?_) rfl (by kernel_rfl) (by kernel_rfl) (by kernel_rfl) (fun _ _ _ h => h) (Or.inl ⟨by rfl, ?_⟩) (by assumption) ?_
                rotate_left
                · (intro w' hSw; (try dsimp only at hSw); have q4 := run_str w' (some ⟨b, o, none⟩) 504 c bs (HS.out.rd.below hSw); clear hSw; go_simp; try with_reducible rfl)
                try simp only [Act.put, List.setIfInBounds_toArray, List.set_cons_zero, List.set_cons_succ]
                refine wpAnyH_ready (rs := [20]) (by kernel_rfl) (by simp) ?_
                refine AllReadyH.cons (o := { dst := some 105, op := Op.call { callee := Callee.value (Operand.func 35), args := #[Operand.tmp 104], argTypes := #[66] }, type := 23, pos := _, after := #[{ on := 19, ground := Ground.data }, { on := 18, ground := Ground.chain }, { on := 18, ground := Ground.guard }], guard := some (18, false) }) rfl (fun K hK => ?_) AllReadyH.nil
                go_simp
                refine (rbytes_any _ _ _ _ _ (HSD.out.below hHeld0) HLM.out hfit).mono ?_
                rintro e w5 ⟨v5, rfl, ho5, hb5⟩
                obtain ⟨A5, c5, rfl, HO5⟩ := ho5.split
                have hBW := hHeld0.trans (hb5.mono hHeld0.size)
                refine hK.out _ _ hBW (fun hHeld2 => ?_)
                refine wpAnyH_mono (S' := fun w' => Below w5.heap.size w5 w') (fun w' h => hBW.trans (h.mono hBW.size)) _ _ _ _ ?_
                have hHeld3 : Below w5.heap.size w5 w5 := Below.refl _ _
                clear hK K
                try simp only [Act.put, List.setIfInBounds_toArray, List.set_cons_zero, List.set_cons_succ]
                refine wpAnyH_take (i := 21) (oi := { dst := some 106, op := Op.convert 23 9 (Operand.tmp 105), type := 9, pos := _, after := #[{ on := 20, ground := Ground.data }, { on := 18, ground := Ground.guard }], guard := some (18, false) }) (v := ?_) rfl (by kernel_rfl) (by kernel_rfl) (by kernel_rfl) (fun _ _ _ h => h) (Or.inl ⟨by rfl, ?_⟩) (by assumption) ?_
                rotate_left
                · (intro w' hSw; (try dsimp only at hSw); have q3 := str_v (HO5.out.below hSw); clear hSw; go_simp; try with_reducible rfl)
                try simp only [Act.put, List.setIfInBounds_toArray, List.set_cons_zero, List.set_cons_succ]
                refine wpAnyH_take (i := 24) (oi := { dst := some 109, op := Op.binOp BinOp.neq 9 (Operand.tmp 106) (Operand.tmp 108) 9, type := 4, pos := _, after := #[{ on := 21, ground := Ground.data }, { on := 23, ground := Ground.data }, { on := 18, ground := Ground.guard }], guard := some (18, false) }) (v := ?_) rfl (by kernel_rfl) (by kernel_rfl) (by kernel_rfl) (fun _ _ _ h => h) (Or.inl ⟨by rfl, ?_⟩) (by assumption) ?_
                rotate_left
                · (intro w' hSw; (try dsimp only at hSw); clear hSw; go_simp; try with_reducible rfl)
                try simp only [Act.put, List.setIfInBounds_toArray, List.set_cons_zero, List.set_cons_succ]
                refine wpAnyH_take (i := 25) (oi := { dst := some 110, op := Op.pick (Operand.tmp 103) (Operand.const (Value.bool true)) (Operand.tmp 109), type := 4, pos := _, after := #[{ on := 18, ground := Ground.data }, { on := 24, ground := Ground.data }], guard := none }) (v := ?_) rfl (by kernel_rfl) (by kernel_rfl) (by kernel_rfl) (fun _ _ _ h => h) (Or.inl ⟨by rfl, ?_⟩) (by assumption) ?_
                rotate_left
                · (intro w' hSw; (try dsimp only at hSw); clear hSw; go_simp; try with_reducible rfl)
                try simp only [Act.put, List.setIfInBounds_toArray, List.set_cons_zero, List.set_cons_succ]
                refine wpAnyH_done (by kernel_rfl) ?_ _
                have HF := hid (HS.out.below (hBW.trans (hHeld3.mono hBW.size)))
                have hno : Hid (d = true → ∀ q, ¬ Is bs q) := hid (fun h q hq => by
                  rw [h] at hd
                  refine rd_not HS.out hq ?_ 
                  simpa using hd)
                have hyes : Hid (d = false → Is bs ⟨num4 bs 2, a⟩) := hid (fun h => rd_yes HS.out hfit hlast.out (by rw [h] at hd; simpa using hd))
                clear hd
                go_wp2
                go_meet
                exact ⟨d, by first | rfl | simp, HF.out, hno, hyes⟩
              · as_aux_lemma =>
                have hf1 : 504 < 6 + 4 * (a.length : Int) + (sum a : Int) := by omega
                have hf2 : decide ((504 : Int) < 6 + 4 * (a.length : Int) + (sum a : Int)) = true := by simp; omega
                have hq : Hid (∀ q, ¬ Is bs q) := hid (fun q hq => by
                  have h1 := HS.out.is q hq
                  have h2 := hq.count
                  rw [List.take_of_length_le (by omega)] at h1
                  have h3 := hq.1.fits.1
                  rw [← h1] at h3
                  omega)
                refine wp_region_held_drew (S := fun w' => Below wc.heap.size wc w') (by kernel_rfl) (by exact (Below.refl _ _).drew) (fun hHeld0 => ?_)
                refine wpAnyH_take (i := 0) (oi := { dst := some 85, op := Op.move (Operand.tmp 4), type := 3, pos := _, after := #[], guard := none }) (v := ?_) rfl (by kernel_rfl) (by kernel_rfl) (by kernel_rfl) (fun _ _ _ h => h) (Or.inl ⟨by rfl, ?_⟩) (by assumption) ?_
                rotate_left
                · (intro w' hSw; (try dsimp only at hSw); clear hSw; go_simp; try with_reducible rfl)
                try simp only [Act.put, List.setIfInBounds_toArray, List.set_cons_zero, List.set_cons_succ]
                refine wpAnyH_take (i := 1) (oi := { dst := some 86, op := Op.binOp BinOp.gtr 3 (Operand.tmp 85) (Operand.const (Value.int IntKind.i64 0)) 3, type := 4, pos := _, after := #[{ on := 0, ground := Ground.data }], guard := none }) (v := ?_) rfl (by kernel_rfl) (by kernel_rfl) (by kernel_rfl) (fun _ _ _ h => h) (Or.inl ⟨by rfl, ?_⟩) (by assumption) ?_
                rotate_left
                · (intro w' hSw; (try dsimp only at hSw); clear hSw; go_simp; try with_reducible rfl)
                try simp only [Act.put, List.setIfInBounds_toArray, List.set_cons_zero, List.set_cons_succ]
                refine wpAnyH_take (i := 2) (oi := { dst := some 87, op := Op.move (Operand.tmp 86), type := 4, pos := _, after := #[{ on := 1, ground := Ground.data }], guard := none }) (v := ?_) rfl (by kernel_rfl) (by kernel_rfl) (by kernel_rfl) (fun _ _ _ h => h) (Or.inl ⟨by rfl, ?_⟩) (by assumption) ?_
                rotate_left
                · (intro w' hSw; (try dsimp only at hSw); clear hSw; go_simp; try with_reducible rfl)
                try simp only [Act.put, List.setIfInBounds_toArray, List.set_cons_zero, List.set_cons_succ]
                refine wpAnyH_take (i := 3) (oi := { dst := some 88, op := Op.fieldAddr 66 (Operand.tmp 5) 1, type := 0, pos := _, after := #[{ on := 2, ground := Ground.guard }], guard := some (2, true) }) (v := ?_) rfl (by kernel_rfl) (by kernel_rfl) (by kernel_rfl) (fun _ _ _ h => h) (Or.inl ⟨by rfl, ?_⟩) (by assumption) ?_
                rotate_left
                · (intro w' hSw; (try dsimp only at hSw); clear hSw; go_simp; try with_reducible rfl)
                try simp only [Act.put, List.setIfInBounds_toArray, List.set_cons_zero, List.set_cons_succ]
                refine wpAnyH_take (i := 4) (oi := { dst := some 89, op := Op.load 64 (Operand.tmp 88), type := 64, pos := _, after := #[{ on := 3, ground := Ground.data }, { on := 2, ground := Ground.guard }], guard := some (2, true) }) (v := ?_) rfl (by kernel_rfl) (by kernel_rfl) (by kernel_rfl) (fun _ _ _ h => h) (Or.inl ⟨by rfl, ?_⟩) (by assumption) ?_
                rotate_left
                · (intro w' hSw; (try dsimp only at hSw); have q1 : w'.cell? ⟨w.heap.size + 1, 1, none⟩ = some (.slice (some ⟨b2, o2, none⟩) a.length c3) := (hSw.cell (p := ⟨w.heap.size + 1, 1, none⟩) hszP).trans pc1; clear hSw; go_simp; try with_reducible rfl)
                try simp only [Act.put, List.setIfInBounds_toArray, List.set_cons_zero, List.set_cons_succ]
                refine wpAnyH_take (i := 5) (oi := { dst := some 90, op := Op.move (Operand.tmp 4), type := 3, pos := _, after := #[{ on := 2, ground := Ground.guard }], guard := some (2, true) }) (v := ?_) rfl (by kernel_rfl) (by kernel_rfl) (by kernel_rfl) (fun _ _ _ h => h) (Or.inl ⟨by rfl, ?_⟩) (by assumption) ?_
                rotate_left
                · (intro w' hSw; (try dsimp only at hSw); clear hSw; go_simp; try with_reducible rfl)
                try simp only [Act.put, List.setIfInBounds_toArray, List.set_cons_zero, List.set_cons_succ]
                refine wpAnyH_take (i := 6) (oi := { dst := some 91, op := Op.binOp BinOp.sub 3 (Operand.tmp 90) (Operand.const (Value.int IntKind.i64 1)) 3, type := 3, pos := _, after := #[{ on := 5, ground := Ground.data }, { on := 2, ground := Ground.guard }], guard := some (2, true) }) (v := ?_) rfl (by kernel_rfl) (by kernel_rfl) (by kernel_rfl) (fun _ _ _ h => h) (Or.inl ⟨by rfl, ?_⟩) (by assumption) ?_
                rotate_left
                · (intro w' hSw; (try dsimp only at hSw); clear hSw; go_simp; try with_reducible rfl)
                try simp only [Act.put, List.setIfInBounds_toArray, List.set_cons_zero, List.set_cons_succ]
                refine wpAnyH_take (i := 7) (oi := { dst := some 92, op := Op.indexAddr 64 (Operand.tmp 89) (Operand.tmp 91), type := 0, pos := _, after := #[{ on := 4, ground := Ground.data }, { on := 6, ground := Ground.data }, { on := 2, ground := Ground.guard }], guard := some (2, true) }) (v := ?_) rfl (by kernel_rfl) (by kernel_rfl) (by kernel_rfl) (fun _ _ _ h => h) (Or.inl ⟨by rfl, ?_⟩) (by assumption) ?_
                rotate_left
                · (intro w' hSw; (try dsimp only at hSw); clear hSw; go_simp; try with_reducible rfl)
                try simp only [Act.put, List.setIfInBounds_toArray, List.set_cons_zero, List.set_cons_succ]
                refine wpAnyH_take (i := 8) (oi := { dst := some 93, op := Op.fieldAddr 70 (Operand.tmp 92) 0, type := 0, pos := _, after := #[{ on := 7, ground := Ground.data }, { on := 2, ground := Ground.guard }], guard := some (2, true) }) (v := ?_) rfl (by kernel_rfl) (by kernel_rfl) (by kernel_rfl) (fun _ _ _ h => h) (Or.inl ⟨by rfl, ?_⟩) (by assumption) ?_
                rotate_left
                · (intro w' hSw; (try dsimp only at hSw); clear hSw; go_simp; try with_reducible rfl)
                try simp only [Act.put, List.setIfInBounds_toArray, List.set_cons_zero, List.set_cons_succ]
                refine wpAnyH_take (i := 9) (oi := { dst := some 94, op := Op.load 4 (Operand.tmp 93), type := 4, pos := _, after := #[{ on := 8, ground := Ground.data }, { on := 2, ground := Ground.guard }], guard := some (2, true) }) (v := ?_) rfl (by kernel_rfl) (by kernel_rfl) (by kernel_rfl) (fun _ _ _ h => h) (Or.inl ⟨by rfl, ?_⟩) (by assumption) ?_
                rotate_left
                · (intro w' hSw; (try dsimp only at hSw); have q2 : w'.cell? ⟨b2, o2 + (a.length - 1) * 2, none⟩ = some (.bool true) := (hSw.cell (p := ⟨b2, o2 + (a.length - 1) * 2, none⟩) hb2).trans h21; clear hSw; go_simp; try with_reducible rfl)
                try simp only [Act.put, List.setIfInBounds_toArray, List.set_cons_zero, List.set_cons_succ]
                refine wpAnyH_take (i := 10) (oi := { dst := some 95, op := Op.unOp UnOp.not 4 (Operand.tmp 94), type := 4, pos := _, after := #[{ on := 9, ground := Ground.data }, { on := 2, ground := Ground.guard }], guard := some (2, true) }) (v := ?_) rfl (by kernel_rfl) (by kernel_rfl) (by kernel_rfl) (fun _ _ _ h => h) (Or.inl ⟨by rfl, ?_⟩) (by assumption) ?_
                rotate_left
                · (intro w' hSw; (try dsimp only at hSw); clear hSw; go_simp; try with_reducible rfl)
                try simp only [Act.put, List.setIfInBounds_toArray, List.set_cons_zero, List.set_cons_succ]
                refine wpAnyH_take (i := 11) (oi := { dst := some 96, op := Op.pick (Operand.tmp 87) (Operand.tmp 95) (Operand.const (Value.bool false)), type := 4, pos := _, after := #[{ on := 2, ground := Ground.data }, { on := 10, ground := Ground.data }], guard := none }) (v := ?_) rfl (by kernel_rfl) (by kernel_rfl) (by kernel_rfl) (fun _ _ _ h => h) (Or.inl ⟨by rfl, ?_⟩) (by assumption) ?_
                rotate_left
                · (intro w' hSw; (try dsimp only at hSw); clear hSw; go_simp; try with_reducible rfl)
                try simp only [Act.put, List.setIfInBounds_toArray, List.set_cons_zero, List.set_cons_succ]
                refine wpAnyH_take (i := 12) (oi := { dst := some 97, op := Op.move (Operand.tmp 96), type := 4, pos := _, after := #[{ on := 11, ground := Ground.data }, { on := 2, ground := Ground.chain }], guard := none }) (v := ?_) rfl (by kernel_rfl) (by kernel_rfl) (by kernel_rfl) (fun _ _ _ h => h) (Or.inl ⟨by rfl, ?_⟩) (by assumption) ?_
                rotate_left
                · (intro w' hSw; (try dsimp only at hSw); clear hSw; go_simp; try with_reducible rfl)
                try simp only [Act.put, List.setIfInBounds_toArray, List.set_cons_zero, List.set_cons_succ]
                refine wpAnyH_take (i := 13) (oi := { dst := some 98, op := Op.fieldAddr 66 (Operand.tmp 5) 1, type := 0, pos := _, after := #[{ on := 12, ground := Ground.guard }], guard := some (12, false) }) (v := ?_) rfl (by kernel_rfl) (by kernel_rfl) (by kernel_rfl) (fun _ _ _ h => h) (Or.inl ⟨by rfl, ?_⟩) (by assumption) ?_
                rotate_left
                · (intro w' hSw; (try dsimp only at hSw); clear hSw; go_simp; try with_reducible rfl)
                try simp only [Act.put, List.setIfInBounds_toArray, List.set_cons_zero, List.set_cons_succ]
                refine wpAnyH_take (i := 14) (oi := { dst := some 99, op := Op.load 64 (Operand.tmp 98), type := 64, pos := _, after := #[{ on := 13, ground := Ground.data }, { on := 12, ground := Ground.guard }], guard := some (12, false) }) (v := ?_) rfl (by kernel_rfl) (by kernel_rfl) (by kernel_rfl) (fun _ _ _ h => h) (Or.inl ⟨by rfl, ?_⟩) (by assumption) ?_
                rotate_left
                · (intro w' hSw; (try dsimp only at hSw); have q1 : w'.cell? ⟨w.heap.size + 1, 1, none⟩ = some (.slice (some ⟨b2, o2, none⟩) a.length c3) := (hSw.cell (p := ⟨w.heap.size + 1, 1, none⟩) hszP).trans pc1; clear hSw; go_simp; try with_reducible rfl)
                try simp only [Act.put, List.setIfInBounds_toArray, List.set_cons_zero, List.set_cons_succ]
                refine wpAnyH_ready (rs := [15]) (by kernel_rfl) (by simp) ?_
                refine AllReadyH.cons (o := { dst := some 100, op := Op.call { callee := Callee.value (Operand.func 47), args := #[Operand.tmp 99], argTypes := #[64] }, type := 3, pos := _, after := #[{ on := 14, ground := Ground.data }, { on := 12, ground := Ground.chain }, { on := 12, ground := Ground.guard }], guard := some (12, false) }) rfl (fun K hK => ?_) AllReadyH.nil
                go_simp
                refine (size_any _ _ _ _ (HSD.out.below hHeld0) (by omega) (by omega)).mono ?_
                rintro e w4 ⟨rfl, rfl⟩
                refine hK.out _ _ hHeld0 (fun hHeld1 => ?_)
                clear hK K
                try simp only [Act.put, List.setIfInBounds_toArray, List.set_cons_zero, List.set_cons_succ]
                refine wpAnyH_take (i := 16) (oi := { dst := some 101, op := Op.binOp BinOp.gtr 3 (Operand.tmp 100) (Operand.const (Value.int IntKind.i64 504)) 3, type := 4, pos := _, after := #[{ on := 15, ground := Ground.data }, { on := 12, ground := Ground.guard }], guard := some (12, false) }) (v := ?_) rfl (by kernel_rfl) (by kernel_rfl) (by kernel_rfl) (fun _ _ _ h => h) (Or.inl ⟨by rfl, ?_⟩) (by assumption) ?_
                rotate_left
                · (intro w' hSw; (try dsimp only at hSw); clear hSw; go_simp; try with_reducible rfl)
                try simp only [Act.put, List.setIfInBounds_toArray, List.set_cons_zero, List.set_cons_succ]
                refine wpAnyH_take (i := 17) (oi := { dst := some 102, op := Op.pick (Operand.tmp 97) (Operand.const (Value.bool true)) (Operand.tmp 101), type := 4, pos := _, after := #[{ on := 12, ground := Ground.data }, { on := 16, ground := Ground.data }], guard := none }) (v := ?_) rfl (by kernel_rfl) (by kernel_rfl) (by kernel_rfl) (fun _ _ _ h => h) (Or.inl ⟨by rfl, ?_⟩) (by assumption) ?_
                rotate_left
                · (intro w' hSw; (try dsimp only at hSw); clear hSw; go_simp; try with_reducible rfl)
                try simp only [Act.put, List.setIfInBounds_toArray, List.set_cons_zero, List.set_cons_succ]
                refine wpAnyH_take (i := 18) (oi := { dst := some 103, op := Op.move (Operand.tmp 102), type := 4, pos := _, after := #[{ on := 17, ground := Ground.data }, { on := 15, ground := Ground.chain }], guard := none }) (v := ?_) rfl (by kernel_rfl) (by kernel_rfl) (by kernel_rfl) (fun _ _ _ h => h) (Or.inl ⟨by rfl, ?_⟩) (by assumption) ?_
                rotate_left
                · (intro w' hSw; (try dsimp only at hSw); clear hSw; go_simp; try with_reducible rfl)
                try simp only [Act.put, List.setIfInBounds_toArray, List.set_cons_zero, List.set_cons_succ]
                refine wpAnyH_take (i := 19) (oi := { dst := some 104, op := Op.load 66 (Operand.tmp 5), type := 66, pos := _, after := #[{ on := 18, ground := Ground.guard }], guard := some (18, false) }) (v := _) rfl (by kernel_rfl) (by kernel_rfl) (by kernel_rfl) (fun _ _ _ h => h) (Or.inr ⟨by rfl, rfl⟩) (by assumption) ?_
                try simp only [Act.put, List.setIfInBounds_toArray, List.set_cons_zero, List.set_cons_succ]
                refine wpAnyH_take (i := 20) (oi := { dst := some 105, op := Op.call { callee := Callee.value (Operand.func 35), args := #[Operand.tmp 104], argTypes := #[66] }, type := 23, pos := _, after := #[{ on := 19, ground := Ground.data }, { on := 18, ground := Ground.chain }, { on := 18, ground := Ground.guard }], guard := some (18, false) }) (v := _) rfl (by kernel_rfl) (by kernel_rfl) (by kernel_rfl) (fun _ _ _ h => h) (Or.inr ⟨by rfl, rfl⟩) (by assumption) ?_
                try simp only [Act.put, List.setIfInBounds_toArray, List.set_cons_zero, List.set_cons_succ]
                refine wpAnyH_take (i := 21) (oi := { dst := some 106, op := Op.convert 23 9 (Operand.tmp 105), type := 9, pos := _, after := #[{ on := 20, ground := Ground.data }, { on := 18, ground := Ground.guard }], guard := some (18, false) }) (v := _) rfl (by kernel_rfl) (by kernel_rfl) (by kernel_rfl) (fun _ _ _ h => h) (Or.inr ⟨by rfl, rfl⟩) (by assumption) ?_
                try simp only [Act.put, List.setIfInBounds_toArray, List.set_cons_zero, List.set_cons_succ]
                refine wpAnyH_take (i := 22) (oi := { dst := some 107, op := Op.move (Operand.tmp 0), type := 23, pos := _, after := #[{ on := 18, ground := Ground.guard }], guard := some (18, false) }) (v := _) rfl (by kernel_rfl) (by kernel_rfl) (by kernel_rfl) (fun _ _ _ h => h) (Or.inr ⟨by rfl, rfl⟩) (by assumption) ?_
                try simp only [Act.put, List.setIfInBounds_toArray, List.set_cons_zero, List.set_cons_succ]
                refine wpAnyH_take (i := 23) (oi := { dst := some 108, op := Op.convert 23 9 (Operand.tmp 107), type := 9, pos := _, after := #[{ on := 22, ground := Ground.data }, { on := 18, ground := Ground.guard }], guard := some (18, false) }) (v := _) rfl (by kernel_rfl) (by kernel_rfl) (by kernel_rfl) (fun _ _ _ h => h) (Or.inr ⟨by rfl, rfl⟩) (by assumption) ?_
                try simp only [Act.put, List.setIfInBounds_toArray, List.set_cons_zero, List.set_cons_succ]
                refine wpAnyH_take (i := 24) (oi := { dst := some 109, op := Op.binOp BinOp.neq 9 (Operand.tmp 106) (Operand.tmp 108) 9, type := 4, pos := _, after := #[{ on := 21, ground := Ground.data }, { on := 23, ground := Ground.data }, { on := 18, ground := Ground.guard }], guard := some (18, false) }) (v := _) rfl (by kernel_rfl) (by kernel_rfl) (by kernel_rfl) (fun _ _ _ h => h) (Or.inr ⟨by rfl, rfl⟩) (by assumption) ?_
                try simp only [Act.put, List.setIfInBounds_toArray, List.set_cons_zero, List.set_cons_succ]
                refine wpAnyH_take (i := 25) (oi := { dst := some 110, op := Op.pick (Operand.tmp 103) (Operand.const (Value.bool true)) (Operand.tmp 109), type := 4, pos := _, after := #[{ on := 18, ground := Ground.data }, { on := 24, ground := Ground.data }], guard := none }) (v := ?_) rfl (by kernel_rfl) (by kernel_rfl) (by kernel_rfl) (fun _ _ _ h => h) (Or.inl ⟨by rfl, ?_⟩) (by assumption) ?_
                rotate_left
                · (intro w' hSw; (try dsimp only at hSw); clear hSw; go_simp; try with_reducible rfl)
                try simp only [Act.put, List.setIfInBounds_toArray, List.set_cons_zero, List.set_cons_succ]
                refine wpAnyH_done (by kernel_rfl) ?_ _
                have HF := hid (HS.out.below hHeld1)
                go_wp2
                go_meet
                exact ⟨true, by first | rfl | simp, HF.out, hid (fun _ => hq.out), hid (fun h => by cases h)⟩
        case rest => as_aux_lemma =>
          obtain ⟨d, rfl, hS, hno, hyes⟩ := hcut
          have HS2 := hid hS
          obtain ⟨v0, v1, wc0, wc1, wf0, wf1, HBx⟩ := HS2.out.b0.any2
          obtain ⟨pd0, pd1, _⟩ := blk2 HS2.out.b1
          clear hS HS HSD pc0 pc1
          cases d with
          | true => as_aux_lemma =>
            have hq := hid (hno.out rfl)
            go_wp2_with fail
            refine bodyPost_ret (results_cell2 rfl _ _ w.heap.size 66 _ _ rfl (blk_store2 _ _ HBx.out) Try.underlying66 rfl (by kernel_rfl)) rfl ?_
            have hBS := below_store2 HS2.out.be (Nat.le_refl _) (Nat.le_refl _) (.int .i64 0) (.slice none 0 0)
            exact rpost_bad hq.out (by first | exact hBS | exact hBS.drew | exact hBS.drew.drew)
          | false => as_aux_lemma =>
            have hi := hid (hyes.out rfl)
            go_wp2_with fail
            refine bodyPost_ret (results_cell2 rfl _ _ w.heap.size 66 _ _ rfl (blk_store2 _ _ HBx.out) Try.underlying66 rfl (by kernel_rfl)) rfl ?_
            have hBS := below_store2 HS2.out.be (Nat.le_refl _) (Nat.le_refl _) (.int .i64 (num4 bs 2)) (.slice A3 a.length c3)
            exact rpost_good hi.out HS2.out (by first | exact hBS | exact hBS.drew | exact hBS.drew.drew) (own_chg HS2.out.row (by first | exact chg_set2 w.heap.size 0 1 _ _ | exact (chg_set2 w.heap.size 0 1 _ _).drew) (fun g hg e => by have := (own_block HS2.out.row hg).1; omega))

    · as_aux_lemma =>
      have hq : Hid (∀ q, ¬ Is bs q) := hid (fun q hq => by have h1 := HN.out q hq; have h2 := hq.1.len; omega)
      have h124' : 504 < 6 + 4 * (num2 bs 0 : Int) := by omega
      obtain ⟨v0, v1, wc0, wc1, wf0, wf1, HBy⟩ := H0.out.1.any2
      go_wp2_with fail
      refine bodyPost_ret (results_cell2 rfl _ _ w.heap.size 66 _ _ rfl ((blk_store2 _ _ HBy.out).alloc _) Try.underlying66 rfl (by kernel_rfl)) rfl ?_
      have hBS := below_store2 H0.out.2.1 (Nat.le_refl _) (Nat.le_refl _) (.int .i64 0) (.slice none 0 0)
      exact rpost_bad hq.out (hBS.alloc (by have := hBS.size; exact this) _)
  · have hq : Hid (∀ q, ¬ Is bs q) := hid (fun q hq => by have := hq.len; omega)
    clear hr hn
    go_enter Try.func36, Try.ntmps36
    go_wp2_with fail
    generalize hw0 : (w.alloc (.cells #[.int .i64 0, .slice none 0 0] 66)) = W0
    have H0 := hW0 _ hw0
    clear hw0 hW0
    refine bodyPost_ret (results_cell2 rfl _ _ w.heap.size 66 _ _ rfl H0.out.1 Try.underlying66 rfl (by kernel_rfl)) rfl ?_
    exact rpost_bad hq.out H0.out.2.1
end Go.Proofs.Ytpdikmkhkiplbaa
