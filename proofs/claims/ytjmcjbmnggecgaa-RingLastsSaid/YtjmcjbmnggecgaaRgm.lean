/- The stream of package ring in plain Lean: what a sector tells, what lies on the device, what a flush makes of it. No conditions but sizes. -/
import Derived.Test.YtjmcjbmnggecgaaDevC
import Derived.Test.YtjmcjbmnggecgaaDevR
namespace Go.Proofs.Ytjmcjbmnggecgaa
set_option linter.unusedVariables false

/-- eight bytes of a number, the highest first -/
def num8 (n : Nat) : List UInt8 := [UInt8.ofNat (n / 72057594037927936), UInt8.ofNat (n / 281474976710656), UInt8.ofNat (n / 1099511627776), UInt8.ofNat (n / 4294967296), UInt8.ofNat (n / 16777216), UInt8.ofNat (n / 65536), UInt8.ofNat (n / 256), UInt8.ofNat n]
/-- the stream's bytes in its sector k -/
def piece (all : List UInt8) (k : Nat) : List UInt8 := (all.drop (k * 118)).take 118
def secOf (all : List UInt8) (k : Nat) : List UInt8 :=
  (num8 (k + 1) ++ [UInt8.ofNat ((piece all k).length / 256), UInt8.ofNat (piece all k).length]) ++ (piece all k ++ List.replicate (118 - (piece all k).length) 0)
def cnt (c : Nat) : Nat := if 1 ≤ c ∧ c ≤ 118 then c else 0
/-- what a device's sector tells of the stream's sector k -/
def secC (s : List UInt8) (k : Nat) : List UInt8 × Nat :=
  if s.take 8 = num8 (k + 1) then (s.drop 10, cnt ((s.getD 8 0).toNat * 256 + (s.getD 9 0).toNat)) else (List.replicate 118 0, 0)
theorem num8_length (n : Nat) : (num8 n).length = 8 := rfl
theorem piece_length (all : List UInt8) (k : Nat) : (piece all k).length = min 118 (all.length - k * 118) := by simp [piece]
theorem secOf_length (all : List UInt8) (k : Nat) : (secOf all k).length = 128 := by
  have := piece_length all k
  simp only [secOf, List.length_append, num8_length, List.length_replicate, List.length_cons, List.length_nil]
  omega
theorem secC_secOf (all : List UInt8) (k : Nat) : secC (secOf all k) k = (piece all k ++ List.replicate (118 - (piece all k).length) 0, (piece all k).length) := by
  have h := piece_length all k
  obtain ⟨d, hd⟩ : ∃ d, d = piece all k := ⟨_, rfl⟩
  rw [← hd] at h
  have h8 : (secOf all k).take 8 = num8 (k + 1) := by rfl
  have h10 : (secOf all k).drop 10 = d ++ List.replicate (118 - d.length) 0 := by rw [hd]; rfl
  have ha : (secOf all k).getD 8 0 = UInt8.ofNat (d.length / 256) := by rw [hd]; rfl
  have hb : (secOf all k).getD 9 0 = UInt8.ofNat d.length := by rw [hd]; rfl
  unfold secC
  rw [if_pos h8, h10, ha, hb, ← hd]
  have e : (UInt8.ofNat (d.length / 256)).toNat * 256 + (UInt8.ofNat d.length).toNat = d.length := by
    rw [UInt8.toNat_ofNat', UInt8.toNat_ofNat']
    omega
  rw [e, cnt]
  congr 1
  split <;> omega
theorem num8_ne (n : Nat) (h0 : 0 < n) (h1 : n < 18446744073709551616) : num8 n ≠ List.replicate 8 0 := by
  intro h
  have e : List.replicate 8 (0 : UInt8) = [0, 0, 0, 0, 0, 0, 0, 0] := rfl
  rw [e] at h
  unfold num8 at h
  simp only [List.cons.injEq, and_true] at h
  obtain ⟨a0, a1, a2, a3, a4, a5, a6, a7⟩ := h
  have t : ∀ m : Nat, UInt8.ofNat m = 0 → m % 256 = 0 := fun m hm => by
    have := congrArg UInt8.toNat hm
    rw [UInt8.toNat_ofNat'] at this
    exact this
  have b0 := t _ a0
  have b1 := t _ a1
  have b2 := t _ a2
  have b3 := t _ a3
  have b4 := t _ a4
  have b5 := t _ a5
  have b6 := t _ a6
  have b7 := t _ a7
  clear a0 a1 a2 a3 a4 a5 a6 a7 t e
  omega
theorem secC_zeros (k : Nat) (h : k < 1000000000000) : secC zeros k = (List.replicate 118 0, 0) := by
  unfold secC
  rw [if_neg]
  have e : zeros.take 8 = List.replicate 8 0 := by decide
  rw [e]
  exact fun h' => num8_ne (k + 1) (by omega) (by omega) h'.symm
theorem secC_len (s : List UInt8) (k : Nat) (h : s.length = 128) : (secC s k).1.length = 118 := by
  unfold secC
  split <;> simp [h]
theorem secC_cnt (s : List UInt8) (k : Nat) : (secC s k).2 ≤ 118 := by
  unfold secC
  split
  · show cnt _ ≤ 118
    unfold cnt; split <;> omega
  · exact Nat.zero_le _

/-- a device's sector holds the stream's sector k -/
def Holds (s all : List UInt8) (k : Nat) : Prop := (secC s k).2 = (piece all k).length ∧ (secC s k).1.take (piece all k).length = piece all k
theorem holds_secOf (all : List UInt8) (k : Nat) : Holds (secOf all k) all k := by
  unfold Holds
  rw [secC_secOf]
  exact ⟨rfl, List.take_left⟩
theorem piece_nil {all : List UInt8} {k : Nat} (h : all.length ≤ k * 118) : piece all k = [] := List.eq_nil_of_length_eq_zero (by rw [piece_length]; omega)
theorem holds_zeros {all : List UInt8} {k : Nat} (hk : k < 1000000000000) (h : all.length ≤ k * 118) : Holds zeros all k := by
  unfold Holds
  rw [secC_zeros k hk, piece_nil h]
  exact ⟨rfl, rfl⟩
/-- what lies on a device: the stream 'all' from 'start' on -/
structure RInv (l : List (List UInt8)) (fr n start : Nat) (all : List UInt8) : Prop where
  st : start ≤ all.length
  cap : all.length ≤ (start / 118 + n - 1) * 118
  sec : ∀ k, start / 118 ≤ k → k ≤ all.length / 118 → Holds (l.getD (fr + k % n) []) all k
theorem RInv.later {l : List (List UInt8)} {fr n start start' : Nat} {all : List UInt8} (h : RInv l fr n start all) (h1 : start ≤ start') (h2 : start' ≤ all.length) : RInv l fr n start' all :=
  ⟨h2, by
    have h3 := h.cap
    have h4 : start / 118 ≤ start' / 118 := Nat.div_le_div_right h1
    omega, fun k hk hk' => h.sec k (Nat.le_trans (Nat.div_le_div_right h1) hk) hk'⟩
theorem rinv_new (m fr n : Nat) (hn : 1 ≤ n) (h : fr + n ≤ m) : RInv (List.replicate m zeros) fr n 0 [] :=
  ⟨Nat.le_refl _, Nat.zero_le _, fun k _ hk => by
    have hk0 : k = 0 := by simpa using hk
    subst hk0
    have e : (List.replicate m zeros).getD (fr + 0 % n) [] = zeros := by
      rw [List.getD_eq_getElem?_getD, List.getElem?_replicate, if_pos (by rw [Nat.zero_mod]; omega)]; rfl
    rw [e]
    exact holds_zeros (by omega) (Nat.zero_le _)⟩

/-! ### writes that are applied -/
theorem applyW_get (W : List (Nat × List UInt8)) (l : List (List UInt8)) (s : Nat) (hs : s < l.length) : (applyW l W).getD s [] = getW (l.getD s []) W s := by
  induction W generalizing l with
  | nil => rfl
  | cons e W ih =>
    have h1 : applyW l (e :: W) = applyW (l.set e.1 e.2) W := rfl
    have h2 : getW (l.getD s []) (e :: W) s = getW (if e.1 = s then e.2 else l.getD s []) W s := rfl
    rw [h1, ih _ (by simpa using hs), h2]
    congr 1
    simp only [List.getD_eq_getElem?_getD, List.getElem?_set]
    by_cases he : e.1 = s
    · rw [if_pos he, if_pos he, if_pos (by omega)]; rfl
    · rw [if_neg he, if_neg he]
theorem getW_not (W : List (Nat × List UInt8)) (x : List UInt8) (s : Nat) (h : ∀ e ∈ W, e.1 ≠ s) : getW x W s = x := by
  induction W generalizing x with
  | nil => rfl
  | cons e W ih =>
    have h2 : getW x (e :: W) s = getW (if e.1 = s then e.2 else x) W s := rfl
    rw [h2, if_neg (h e (by simp)), ih _ (fun e' he => h e' (by simp [he]))]
theorem applyK_not (l : List (List UInt8)) (W : List (Nat × List UInt8)) (ks : List Bool) (k s : Nat) (h : ∀ e ∈ W, e.1 ≠ s) : (applyK l W ks k).getD s [] = l.getD s [] := by
  induction k with
  | zero => rfl
  | succ k ih =>
    cases hk : ks.getD k false with
    | false => rw [applyK_no _ _ _ _ hk]; exact ih
    | true =>
      cases hw : W[k]? with
      | none =>
        have : applyK l W ks (k + 1) = applyK l W ks k := by
          simp [applyK, List.range_succ] at *
          simp [hk, hw]
        rw [this]; exact ih
      | some e =>
        rw [applyK_yes _ _ _ _ _ hw hk, List.getD_eq_getElem?_getD, List.getElem?_set, if_neg (h e (List.mem_of_getElem? hw)), ← List.getD_eq_getElem?_getD]
        exact ih

/-! ### a flush -/
/-- the sectors behind the first one that a flush writes, up to the i-th -/
def fw (all : List UInt8) (fr n first : Nat) (i : Nat) : List (Nat × List UInt8) := (List.range i).map fun j => (fr + (first + 1 + j) % n, secOf all (first + 1 + j))
theorem fw_succ (all : List UInt8) (fr n first i : Nat) : fw all fr n first (i + 1) = fw all fr n first i ++ [(fr + (first + 1 + i) % n, secOf all (first + 1 + i))] := by simp [fw, List.range_succ]
theorem fw_length (all : List UInt8) (fr n first i : Nat) : (fw all fr n first i).length = i := by simp [fw]
/-- all that is written ahead of the first sync -/
def fw1 (all : List UInt8) (fr n first last : Nat) : List (Nat × List UInt8) := fw all fr n first (last - first) ++ [(fr + (last + 1) % n, zeros)]
def fw2 (all : List UInt8) (fr n first : Nat) : List (Nat × List UInt8) := [(fr + first % n, secOf all first)]
theorem mod_ne {a b n : Nat} (h1 : a < b) (h2 : b < a + n) : a % n ≠ b % n := by
  intro h
  have e1 := Nat.div_add_mod a n
  have e2 := Nat.div_add_mod b n
  have e3 : n * (b / n) = n * (a / n) + (b - a) := by omega
  rcases Nat.lt_or_ge (a / n) (b / n) with h3 | h3
  · have : n * (a / n + 1) ≤ n * (b / n) := Nat.mul_le_mul_left n h3
    rw [Nat.mul_add, Nat.mul_one] at this
    omega
  · have : n * (b / n) ≤ n * (a / n) := Nat.mul_le_mul_left n h3
    omega
theorem fw1_slots {all : List UInt8} {fr n first last : Nat} (hfl : first ≤ last) : ∀ e ∈ fw1 all fr n first last, ∃ k, first < k ∧ k ≤ last + 1 ∧ e.1 = fr + k % n := by
  intro e he
  rcases List.mem_append.1 he with h | h
  · obtain ⟨j, hj, rfl⟩ := List.mem_map.1 h
    have := List.mem_range.1 hj
    exact ⟨first + 1 + j, by omega, by omega, rfl⟩
  · have h := List.mem_singleton.1 h
    subst h
    exact ⟨last + 1, by omega, by omega, rfl⟩
theorem fw1_not {all : List UInt8} {fr n k0 first last : Nat} (hfl : first ≤ last) (hn : last + 1 < k0 + n) {k : Nat} (h1 : k0 ≤ k) (h2 : k ≤ first) : ∀ e ∈ fw1 all fr n first last, e.1 ≠ fr + k % n := by
  intro e he
  obtain ⟨k', a, b, c⟩ := fw1_slots hfl e he
  have := mod_ne (a := k) (b := k') (n := n) (by omega) (by omega)
  omega
theorem fw_get {all : List UInt8} {fr n k0 first : Nat} (x : List UInt8) (i k : Nat) (hk0 : k0 ≤ first) (hi : first + i < k0 + n) (h1 : k0 ≤ k) (h2 : k < k0 + n) :
    getW x (fw all fr n first i) (fr + k % n) = if first < k ∧ k ≤ first + i then secOf all k else x := by
  induction i with
  | zero => rw [if_neg (by omega)]; rfl
  | succ i ih =>
    rw [fw_succ, getW_snoc, ih (by omega)]
    by_cases he : k = first + 1 + i
    · subst he
      rw [if_pos rfl, if_pos (by omega)]
    · have hne : fr + (first + 1 + i) % n ≠ fr + k % n := by
        rcases Nat.lt_or_gt_of_ne he with h | h
        · have := mod_ne (a := k) (b := first + 1 + i) (n := n) (by omega) (by omega); omega
        · have := mod_ne (a := first + 1 + i) (b := k) (n := n) (by omega) (by omega); omega
      rw [if_neg hne]
      by_cases hc : first < k ∧ k ≤ first + i
      · rw [if_pos hc, if_pos (by omega)]
      · rw [if_neg hc, if_neg (by omega)]
section
variable {l l' : List (List UInt8)} {fr n start : Nat} {old d : List UInt8}
theorem piece_old {k : Nat} (h : k < old.length / 118) : piece (old ++ d) k = piece old k := by
  unfold piece
  have h1 : k * 118 + 118 ≤ old.length := by omega
  rw [List.drop_append_of_le_length (by omega), List.take_append_of_le_length (by rw [List.length_drop]; omega)]
/-- the old stream still lies there while its own sectors are as they were -/
theorem RInv.kept (h : RInv l fr n start old) (hl : ∀ k, start / 118 ≤ k → k ≤ old.length / 118 → l'.getD (fr + k % n) [] = l.getD (fr + k % n) []) : RInv l' fr n start old :=
  ⟨h.st, h.cap, fun k h1 h2 => by rw [hl k h1 h2]; exact h.sec k h1 h2⟩
theorem flush_bounds (h : RInv l fr n start old) (hd : d ≠ []) (hc : (old ++ d).length ≤ (start / 118 + n - 1) * 118) :
    start / 118 ≤ old.length / 118 ∧ old.length / 118 ≤ ((old ++ d).length - 1) / 118 ∧ ((old ++ d).length - 1) / 118 + 1 < start / 118 + n := by
  have h1 := h.st
  have h2 : 0 < d.length := List.length_pos_iff.2 hd
  rw [List.length_append] at hc ⊢
  have h3 : start / 118 ≤ old.length / 118 := Nat.div_le_div_right h1
  refine ⟨h3, Nat.div_le_div_right (by omega), ?_⟩
  omega
/-- whatever of the first writes is kept: the old stream -/
theorem RInv.crash1 (h : RInv l fr n start old) (hd : d ≠ []) (hc : (old ++ d).length ≤ (start / 118 + n - 1) * 118) (ks : List Bool) (j m : Nat) :
    RInv (applyK l ((fw1 (old ++ d) fr n (old.length / 118) (((old ++ d).length - 1) / 118)).take j) ks m) fr n start old := by
  obtain ⟨h1, h2, h3⟩ := flush_bounds h hd hc
  refine h.kept fun k hk hk' => applyK_not _ _ _ _ _ fun e he => fw1_not h2 h3 hk hk' e (List.mem_of_mem_take he)
theorem RInv.sync1 (h : RInv l fr n start old) (hd : d ≠ []) (hc : (old ++ d).length ≤ (start / 118 + n - 1) * 118) (hb : fr + n ≤ l.length) :
    RInv (applyW l (fw1 (old ++ d) fr n (old.length / 118) (((old ++ d).length - 1) / 118))) fr n start old := by
  obtain ⟨h1, h2, h3⟩ := flush_bounds h hd hc
  refine h.kept fun k hk hk' => ?_
  have hs : fr + k % n < l.length := by have := Nat.mod_lt k (show 0 < n by omega); omega
  rw [applyW_get _ _ _ hs, getW_not _ _ _ (fw1_not h2 h3 hk hk')]
/-- all is written: the new stream -/
theorem RInv.flushed (h : RInv l fr n start old) (hd : d ≠ []) (hc : (old ++ d).length ≤ (start / 118 + n - 1) * 118) (hb : fr + n ≤ l.length) (hz : (old ++ d).length < 100000000000000) :
    RInv (applyW (applyW l (fw1 (old ++ d) fr n (old.length / 118) (((old ++ d).length - 1) / 118))) (fw2 (old ++ d) fr n (old.length / 118))) fr n start (old ++ d) := by
  obtain ⟨h1, h2, h3⟩ := flush_bounds h hd hc
  have hst := h.st
  refine ⟨by rw [List.length_append]; omega, hc, fun k hk hk' => ?_⟩
  have h5 : 0 < d.length := List.length_pos_iff.2 hd
  have hl0 : (old ++ d).length = old.length + d.length := List.length_append
  have hkn : k < start / 118 + n := by omega
  have hs : fr + k % n < l.length := by have := Nat.mod_lt k (show 0 < n by omega); omega
  rw [applyW_get _ _ _ (by rw [applyW_length]; exact hs), applyW_get _ _ _ hs]
  have e2 : ∀ x, getW x (fw2 (old ++ d) fr n (old.length / 118)) (fr + k % n) = if fr + (old.length / 118) % n = fr + k % n then secOf (old ++ d) (old.length / 118) else x := fun x => rfl
  rw [e2]
  rcases Nat.lt_trichotomy k (old.length / 118) with hlt | heq | hgt
  · have hne := mod_ne (a := k) (b := old.length / 118) (n := n) hlt (by omega)
    rw [if_neg (by omega), getW_not _ _ _ (fw1_not h2 h3 hk (by omega))]
    have := h.sec k hk (by omega)
    unfold Holds at this ⊢
    rw [piece_old hlt]
    exact this
  · subst heq
    rw [if_pos rfl]
    exact holds_secOf _ _
  · have hne := mod_ne (a := old.length / 118) (b := k) (n := n) hgt (by omega)
    rw [if_neg (by omega), fw1, getW_snoc]
    by_cases hl : k = ((old ++ d).length - 1) / 118 + 1
    · rw [if_pos (by rw [hl])]
      exact holds_zeros (by omega) (by omega)
    · have hk2 : k ≤ ((old ++ d).length - 1) / 118 := by omega
      have hne2 := mod_ne (a := k) (b := ((old ++ d).length - 1) / 118 + 1) (n := n) (by omega) (by omega)
      rw [if_neg (by omega), fw_get _ _ k h1 (by omega) hk hkn, if_pos (by omega)]
      exact holds_secOf _ _
/-- the last write alone is kept, or not -/
theorem RInv.crash2 (h : RInv l fr n start old) (hd : d ≠ []) (hc : (old ++ d).length ≤ (start / 118 + n - 1) * 118) (hb : fr + n ≤ l.length) (hz : (old ++ d).length < 100000000000000) (ks : List Bool) :
    RInv (applyK (applyW l (fw1 (old ++ d) fr n (old.length / 118) (((old ++ d).length - 1) / 118))) (fw2 (old ++ d) fr n (old.length / 118)) ks 1) fr n start old ∨
    RInv (applyK (applyW l (fw1 (old ++ d) fr n (old.length / 118) (((old ++ d).length - 1) / 118))) (fw2 (old ++ d) fr n (old.length / 118)) ks 1) fr n start (old ++ d) := by
  cases hk : ks.getD 0 false with
  | false => rw [applyK_no _ _ _ _ hk]; exact .inl (h.sync1 hd hc hb)
  | true => rw [applyK_yes _ _ _ _ (fr + (old.length / 118) % n, secOf (old ++ d) (old.length / 118)) rfl hk]; exact .inr (h.flushed hd hc hb hz)
end
end Go.Proofs.Ytjmcjbmnggecgaa
