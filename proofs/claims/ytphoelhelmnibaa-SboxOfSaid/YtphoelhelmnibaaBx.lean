/-
The box by the powers of 3, in plain Lean; and the document's box of a byte, tied to it.
-/
import Derived.Test.YtphoelhelmnibaaSb
import Derived.Test.YtphoelhelmnibaaSw
namespace Go.Proofs.Ytphoelhelmnibaa.Bx
open Go.RowKit Go.Proofs.Ytphoelhelmnibaa.Gf Go.Proofs.Ytphoelhelmnibaa.Sb Go.Proofs.Ytphoelhelmnibaa.Sw Go.Proofs.Ytphoelhelmnibaa.PSboxOf Go.Proofs.Ytphoelhelmnibaa.LSboxOf Go.Proofs.YtphoelhelmnibaaW.PrintWords Go.Proofs.YtphoelhelmnibaaW.PrintLast
def p3 (k : Nat) : F := powN 3#8 k
def maskA : Nat → F → Nat → Nat
  | 0, _, m => m
  | n + 1, a, m => maskA n (mul a 3#8) (m ||| 2 ^ a.toNat)
theorem mask_bits (n : Nat) : ∀ (k m c : Nat), (maskA n (p3 k) m).testBit c = true → m.testBit c = true ∨ ∃ j, k ≤ j ∧ j < k + n ∧ (p3 j).toNat = c := by
  induction n with
  | zero => intro k m c h; exact .inl h
  | succ n ih =>
    intro k m c h
    have e : maskA (n + 1) (p3 k) m = maskA n (p3 (k + 1)) (m ||| 2 ^ (p3 k).toNat) := rfl
    rw [e] at h
    rcases ih _ _ _ h with h1 | ⟨j, h1, h2, h3⟩
    · rw [Nat.testBit_or, Bool.or_eq_true] at h1
      rcases h1 with h1 | h1
      · exact .inl h1
      · rw [Nat.testBit_two_pow, decide_eq_true_eq] at h1
        exact .inr ⟨k, by omega, by omega, h1⟩
    · exact .inr ⟨j, by omega, by omega, h3⟩
theorem mask_full : maskA 255 1#8 0 = 2 ^ 256 - 2 := by decide +kernel
theorem all_powers (c : Nat) (h0 : 0 < c) (hc : c < 256) : ∃ j, j < 255 ∧ (p3 j).toNat = c := by
  have hb : (maskA 255 (p3 0) 0).testBit c = true := by
    rw [show p3 0 = 1#8 from rfl, mask_full, show 2 ^ 256 - 2 = 2 * (2 ^ 255 - 1) from by decide]
    obtain ⟨d, rfl⟩ : ∃ d, c = d + 1 := ⟨c - 1, by omega⟩
    rw [Nat.testBit_succ, Nat.mul_div_cancel_left _ (by decide), Nat.testBit_two_pow_sub_one, decide_eq_true_eq]
    omega
  rcases mask_bits 255 0 0 c hb with h | ⟨j, _, h2, h3⟩
  · simp at h
  · exact ⟨j, by omega, h3⟩
theorem p3_ne (k : Nat) : p3 k ≠ 0#8 := by
  induction k with
  | zero => exact one_ne
  | succ k ih =>
    intro e
    rcases mul_eq_zero _ _ (show mul (p3 k) 3#8 = 0#8 from e) with h | h
    · exact ih h
    · revert h; decide
theorem inv_pow (k : Nat) : powN (inv 3#8) k = inv (p3 k) := by
  apply inv_of
  unfold p3
  rw [← powN_base, mul_inv 3#8 (by decide)]
  induction k with
  | zero => rfl
  | succ k ih => simp only [powN]; rw [ih, mul_one]
/-- the box, filled by the powers' places, k of them -/
def boxK : Nat → Nat → F
  | 0, c => if c = 0 then 0x63#8 else 0#8
  | k + 1, c => if c = (p3 k).toNat then turn (inv (p3 k)) else boxK k c
def boxF (c : Nat) : F := box (BitVec.ofNat 8 c)
theorem boxK_at (k c : Nat) (h : c = 0 ∨ ∃ j, j < k ∧ (p3 j).toNat = c) : boxK k c = boxF c := by
  induction k with
  | zero =>
    rcases h with h | ⟨j, hj, _⟩
    · subst h; decide +kernel
    · omega
  | succ k ih =>
    simp only [boxK]
    by_cases e : c = (p3 k).toNat
    · rw [if_pos e, e]; unfold boxF box; rw [BitVec.ofNat_toNat]; simp
    · rw [if_neg e]
      apply ih
      rcases h with h | ⟨j, hj, h⟩
      · exact .inl h
      · refine .inr ⟨j, ?_, h⟩
        rcases Nat.lt_or_eq_of_le (Nat.le_of_lt_succ hj) with h1 | h1
        · exact h1
        · subst h1; exact absurd h.symm e
theorem boxK_end (c : Nat) (hc : c < 256) : boxK 255 c = boxF c := by
  apply boxK_at
  by_cases h : c = 0
  · exact .inl h
  · exact .inr (all_powers c (by omega) hc)
theorem p3_255 : p3 255 = 1#8 := powSq 3#8 (by decide)
theorem p3_back (k : Nat) (hk : k < 255) : p3 ((255 - k) % 255) = inv (p3 k) := by
  apply inv_of
  have h : mul (p3 k) (p3 (255 - k)) = 1#8 := by
    unfold p3; rw [← powN_add, show k + (255 - k) = 255 from by omega]; exact p3_255
  by_cases h0 : k = 0
  · subst h0; decide +kernel
  · rw [Nat.mod_eq_of_lt (by omega)]; exact h
theorem box_distinct : Distinct boxF 256 := by
  apply Distinct.of_inj
  intro i j hi hj e
  have h1 := box_inj (BitVec.eq_of_toNat_eq e)
  have h2 := congrArg BitVec.toNat h1
  rw [BitVec.toNat_ofNat, BitVec.toNat_ofNat] at h2
  omega
/-- the box back -/
def backF : Nat → F := turnK boxF
theorem back_box (a : F) : backF (boxF a.toNat).toNat = a := by
  apply BitVec.eq_of_toNat_eq
  exact turnK_at boxF box_distinct a.toNat a.isLt
theorem box_back (a : F) : boxF (backF a.toNat).toNat = a := by
  have h := turn_twice boxF box_distinct
  obtain ⟨j, hj, e⟩ := hit boxF box_distinct a.toNat a.isLt
  have h1 : backF a.toNat = BitVec.ofNat 8 j := by
    apply BitVec.eq_of_toNat_eq
    rw [← e]; unfold backF; rw [turnK_at boxF box_distinct j hj, BitVec.toNat_ofNat]; omega
  rw [h1, BitVec.toNat_ofNat, Nat.mod_eq_of_lt (by omega)]
  exact BitVec.eq_of_toNat_eq e
theorem boxF_at (a : F) : boxF a.toNat = box a := by unfold boxF; rw [BitVec.ofNat_toNat]; simp
set_option maxRecDepth 10000 in
theorem ref_turned : ∀ v : F, chatelaineref03_turned.f 80 (toI v) = some (toI (turn v)) := by decide +kernel
end Go.Proofs.Ytphoelhelmnibaa.Bx
