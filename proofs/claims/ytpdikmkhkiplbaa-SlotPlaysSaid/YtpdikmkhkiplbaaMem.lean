/- Words for memory: helpers beyond Base. No conditions. -/
import Derived.Test.YtpdikmkhkiplbaaBase
namespace Go.Proofs.Ytpdikmkhkiplbaa
open Go.RowKit
set_option maxRecDepth 100000
set_option linter.unusedVariables false

section
variable {w w' : World} {S : Nat → Prop} {v : Value} {base size n : Nat} {e : TypeId} {xs : List Value}
theorem own_chg (h : w.ownsRow base e size v n xs) (hc : Chg S w w') (hS : ∀ g, v.ownBlock = some g → ¬ S g) : w'.ownsRow base e size v n xs := by
  refine ⟨h.1, ?_⟩
  rcases h.2 with h | ⟨g, cap, cur, rfl, hg, hh, r⟩
  · exact .inl h
  · exact .inr ⟨g, cap, cur, rfl, hg, (Blk.chg hh hc (hS g rfl) : _), r⟩
theorem own_ty {g : Nat} (h : w.ownsRow base e size v n xs) (hg : v.ownBlock = some g) : ∃ cs, Blk w g e cs := by
  rcases h.2 with ⟨rfl, _⟩ | ⟨g', cap, cur, rfl, _, hh, _⟩
  · simp [Value.ownBlock] at hg
  · have : g' = g := by simpa [Value.ownBlock] using hg
    subst this; exact ⟨_, hh⟩
end

theorem Rd.of_blk {w : World} {g n : Nat} {t : TypeId} {xs : List Value} (h : Blk w g t xs.toArray) (hn : xs.length = n) : Rd w 1 (some ⟨g, 0, none⟩) n xs :=
  ⟨by omega, fun _ => ⟨_, rfl, h.lt, fun j u hu => by rw [Addr.add_lit, Nat.zero_add, h.cell]; simpa using hu⟩⟩

theorem Rd.lit {w : World} {A : Option Addr} {n : Nat} {xs : List Value} (h : Rd w 1 A n xs) (hn : 0 < n) : ∃ b o, A = some ⟨b, o, none⟩ ∧ b < w.heap.size ∧ ∀ j u, xs[j]? = some u → w.cell? ⟨b, o + j, none⟩ = some u := by
  obtain ⟨ad, u, rfl, hlt, hu, hc⟩ := h.at_ hn
  obtain ⟨b, o, s⟩ := ad
  have hs : s = none := by
    cases s with
    | none => rfl
    | some s =>
      simp only [Addr.add, if_pos] at hc
      unfold World.cell? at hc
      split at hc
      · simp at hc
      · cases hc
  subst hs
  refine ⟨b, o, rfl, hlt, fun j u hu => ?_⟩
  have := (h.2 hn)
  obtain ⟨ad, e, _, hc⟩ := this
  injection e with e; subst e
  have := hc j u hu
  rwa [Addr.add_lit] at this

theorem chg_set {w : World} (D i : Nat) (v : Value) : Chg (· = D) w (w.setCell ⟨D, i, none⟩ v) := (Chg.refl (· = D) w).setCell (p := ⟨D, i, none⟩) (fun _ => rfl) v
theorem chg_set2 {w : World} (D i j : Nat) (v u : Value) : Chg (· = D) w ((w.setCell ⟨D, i, none⟩ v).setCell ⟨D, j, none⟩ u) := (chg_set D i v).setCell (p := ⟨D, j, none⟩) (fun _ => rfl) u

theorem own_form {w : World} {base : Nat} {e : TypeId} {size n : Nat} {v : Value} {xs : List Value} (h : w.ownsRow base e size v n xs) : ∃ A c, v = .slice A n c ∧ Rd w size A n xs := by
  obtain ⟨h1, h2⟩ := h
  rcases h2 with ⟨rfl, rfl⟩ | ⟨g, cap, cur, rfl, hg, hh, r⟩
  · exact ⟨none, 0, rfl, h1, fun h => absurd h (by omega)⟩
  · refine ⟨_, _, rfl, Rd.of_own (base := base) (e := e) (c := cap) ⟨h1, .inr ⟨g, cap, cur, rfl, hg, hh, r⟩⟩⟩

theorem own_blk {w : World} {base : Nat} {e : TypeId} {size n g cap : Nat} {xs : List Value} (h : w.ownsRow base e size (.slice (some ⟨g, 0, none⟩) n cap) n xs) : base ≤ g ∧ ∃ cs, Blk w g e cs ∧ cs.toList.take (n * size) = xs := by
  rcases h.2 with ⟨h, _⟩ | ⟨g', cap', cur, h, hg, hh, _, _, _, ht⟩
  · cases h
  · injection h with h _ _
    injection h with h
    injection h with h
    subst h
    exact ⟨hg, cur, hh, ht⟩

theorem run_str (w : World) (A : Option Addr) (n c : Nat) (bs : List UInt8) (h : Rd w 1 A n (u8s bs)) : (convert 23 9 (.slice A n c)).run Try.prog w = .ok (.string ⟨bs.toArray⟩) w := by
  have hl := h.1
  rw [length_u8s, Nat.mul_one] at hl
  subst hl
  cases A with
  | none =>
    have h0 : bs = [] := by
      rcases Nat.eq_zero_or_pos bs.length with h0 | h0
      · exact List.eq_nil_of_length_eq_zero h0
      · obtain ⟨ad, e, _⟩ := h.2 h0; cases e
    subst h0
    rw [List.length_nil, run_convert_bytes_string w 23 9 5 none 0 c Try.underlying23 Try.underlying5 Try.underlying9]
    simp [Conv.bytesToString]
    rfl
  | some a =>
    refine run_convert_bytes_back w 23 9 5 a c bs Try.underlying23 Try.underlying5 Try.underlying9 ?_
    intro j hj
    obtain ⟨ad, e, _, hc⟩ := h.2 (by omega)
    injection e with e
    subst e
    exact hc j _ (by simp [u8s, hj])

theorem u8s_one (bs : List UInt8) : ∀ u ∈ u8s bs, u.oneCell' = true := by
  intro u hu
  obtain ⟨_, _, rfl⟩ := List.mem_map.1 hu
  rfl

theorem u8s_append (a b : List UInt8) : u8s (a ++ b) = u8s a ++ u8s b := by simp [u8s]

theorem blk_u8s {w : World} {g : Nat} {t : TypeId} {cs : Array Value} {bs : List UInt8} (h : cs.toList = u8s bs) (hb : Blk w g t cs) : Blk w g t (u8s bs).toArray := by
  rw [← h]
  simpa using hb
end Go.Proofs.Ytpdikmkhkiplbaa
