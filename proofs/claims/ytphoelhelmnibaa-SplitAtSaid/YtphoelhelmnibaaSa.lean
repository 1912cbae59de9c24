/-
The statement SplitAt, in plain terms: for any shares the answer is true.
-/
import Derived.Test.YtphoelhelmnibaaSv
import Derived.Test.YtphoelhelmnibaaAw
import Derived.Test.YtphoelhelmnibaaPQx10
namespace Go.Proofs.Ytphoelhelmnibaa.Sa
open Go.RowKit Go.Proofs.Ytphoelhelmnibaa.Gf Go.Proofs.Ytphoelhelmnibaa.Pv Go.Proofs.Ytphoelhelmnibaa.Pw Go.Proofs.Ytphoelhelmnibaa.Rt Go.Proofs.Ytphoelhelmnibaa.Sv Go.Proofs.Ytphoelhelmnibaa.Aw Go.Proofs.Ytphoelhelmnibaa.PQ Go.Proofs.YtphoelhelmnibaaW.PrintWords Go.Proofs.YtphoelhelmnibaaW.PrintLast
/-- Shares that a play goes through with. -/
def small (l : List (F × List F)) (r : List (F × List F)) : Bool := r.all (fun s => decide (s.2.length ≤ 40)) && decide (l.length ≤ 10)
theorem shares_loop (l : List (F × List F)) (hl : l.length ≤ 9223372036854775807) : ∀ (d i k : Nat), i + d = l.length → d + 1 ≤ k → chatelainelaw45_shares.l0 k (shs l) (shs l) (l.length : Int) (i : Int) = some (small l (l.drop i))
  | 0, i, k, hd, hk => by
    obtain ⟨k, rfl⟩ : ∃ m, k = m + 1 := ⟨k - 1, by omega⟩
    rw [chatelainelaw45_shares.l0, if_neg (by omega), List.drop_eq_nil_of_le (by omega), shs_length]
    have : ((l.length : Int) ≤ 10) ↔ (l.length ≤ 10) := by omega
    simp [small, this]
  | d + 1, i, k, hd, hk => by
    obtain ⟨k, rfl⟩ : ∃ m, k = m + 1 := ⟨k - 1, by omega⟩
    have hi : i < l.length := by omega
    have ej : wrap64 ((i : Int) + 1) = ((i + 1 : Nat) : Int) := by unfold wrap64; omega
    rw [chatelainelaw45_shares.l0, if_pos (by omega), if_pos (by omega), if_pos (by rw [shs_length]; omega), rd_shs l i hi, ej, List.drop_eq_getElem_cons hi]
    show (if ((byI l[i].2).length : Int) > 40 then _ else _) = _
    rw [byI_length]
    by_cases h : (l[i].2.length : Int) > 40
    · rw [if_pos h]
      have : ¬ l[i].2.length ≤ 40 := by omega
      unfold small
      rw [List.all_cons, decide_eq_false this, Bool.false_and, Bool.false_and]
    · rw [if_neg h, shares_loop l hl d (i + 1) k (by omega) (by omega)]
      have : l[i].2.length ≤ 40 := by omega
      unfold small
      rw [List.all_cons, decide_eq_true this, Bool.true_and]
theorem shares_eq (l : List (F × List F)) (hl : l.length ≤ 9223372036854775807) (k : Nat) (hk : l.length + 1 ≤ k) : chatelainelaw45_shares.f k (shs l) = some (small l l) := by
  have := shares_loop l hl l.length 0 k (by omega) hk
  rw [List.drop_zero] at this
  unfold chatelainelaw45_shares.f
  rw [shs_length]
  exact this
theorem at_loop (l : List (F × List F)) (m : Nat) (hm : m ≤ l.length) (h : RightP (l.take m)) (hl : l.length < 2 ^ 40) (ok : Bool) (r : List (F × List F)) (hr : r.length < 2 ^ 40) (N : Nat) (hN : enough m (wide (l.take m)) + wide (l.take m) + 1 ≤ N) : ∀ (d i k : Nat) (want : Bool), i + d = r.length → N + d + 1 ≤ k →
    chatelainelaw45_SplitAt.l0 k (shs l) ok 0 (m : Int) want (shs r) (r.length : Int) (i : Int) = some (ok == (want && fit (l.take m) (r.drop i)))
  | 0, i, k, want, hd, hk => by
    obtain ⟨k, rfl⟩ : ∃ m, k = m + 1 := ⟨k - 1, by omega⟩
    rw [chatelainelaw45_SplitAt.l0, if_neg (by omega), List.drop_eq_nil_of_le (by omega), if_pos rfl]
    simp [fit]
  | d + 1, i, k, want, hd, hk => by
    obtain ⟨k, rfl⟩ : ∃ m, k = m + 1 := ⟨k - 1, by omega⟩
    have hi : i < r.length := by omega
    have ej : wrap64 ((i : Int) + 1) = ((i + 1 : Nat) : Int) := by unfold wrap64; omega
    have hw := (wide_pos h)
    rw [chatelainelaw45_SplitAt.l0, if_pos (by omega), if_pos (by omega), if_pos (by rw [shs_length]; omega), rd_shs r i hi, ej, List.drop_eq_getElem_cons hi, shs_length, Int.toNat_natCast, shs_take]
    cases want
    · rw [if_neg (by simp), at_loop l m hm h hl ok r hr N hN d (i + 1) k false (by omega) (by omega)]
      simp
    · rw [if_pos rfl, if_pos (by omega), if_pos (by omega)]
      show (chatelaineref45_At.f k (shs (l.take m)) (wrap64 (toI r[i].1))).bind (fun t376 => ((chatelaineref01_Same.f k t376 (byI r[i].2)).bind fun t379 => (chatelainelaw45_SplitAt.l0 k (shs l) ok 0 (m : Int) t379 (shs r) (r.length : Int) ((i + 1 : Nat) : Int)))) = _
      rw [wrap64_toI, refAt_right _ h _ k (by rw [List.length_take, Nat.min_eq_left hm]; omega), Option.bind_some, same_eq _ _ (by rw [vals_length]; omega) k (by rw [vals_length]; have := enough_mul m (wide (l.take m)) (wide (l.take m) + 600) 0 (Nat.zero_le _) (Nat.le_refl _); omega), Option.bind_some, at_loop l m hm h hl ok r hr N hN d (i + 1) k _ (by omega) (by omega), Bool.true_and]
      unfold fit
      rw [List.all_cons]
theorem splitAt_small (l : List (F × List F)) (x : F) (kk : Int) (hs : small l l = true) (k : Nat) (hk : 100000 ≤ k) (ha : chatelainelaw45_awake.f (k + 2) = some true) : chatelainelaw45_SplitAt.f (k + 2) (shs l) (toI x) kk = some true := by
  have h10 : l.length ≤ 10 := by
    unfold small at hs
    rw [Bool.and_eq_true, decide_eq_true_eq] at hs
    exact hs.2
  have h40 : ∀ i (h : i < l.length), l[i].2.length ≤ 40 := by
    intro i h
    unfold small at hs
    rw [Bool.and_eq_true, List.all_eq_true] at hs
    have := hs.1 l[i] (List.getElem_mem h)
    simpa using this
  have hw40 : wide l ≤ 40 := by
    unfold wide
    rcases Nat.eq_zero_or_pos l.length with h0 | h0
    · rw [List.getD_eq_getElem?_getD, List.getElem?_eq_none (by omega)]
      simp
    · have := h40 0 h0
      simpa [List.getD_eq_getElem?_getD, List.getElem?_eq_getElem h0] using this
  have he := enough_mono h10 hw40
  have he2 : enough 10 40 = 6240 := by decide
  obtain ⟨b, hb, hb'⟩ := right_eq l (by omega) (k + 2) (by omega)
  have hrb := ref_right_eq l (by omega) b hb' (k + 2) (by
    have := Nat.mul_le_mul h10 (show l.length + 43 ≤ 53 by omega)
    omega)
  unfold chatelainelaw45_SplitAt.f
  rw [ha, Option.bind_some, if_pos rfl, shares_eq l (by omega) (k + 2) (by omega), Option.bind_some, hs, if_pos rfl]
  by_cases hR : RightP l
  · have hbt : b = true := hb'.mpr hR
    subst hbt
    have hwp := (wide_pos hR)
    rw [at_right l hR x (k + 2) (by omega), Option.bind_some, join_right l hR (k + 2) (by omega), Option.bind_some, fits_right l hR kk (k + 2) (by omega), Option.bind_some, hb, Option.bind_some, hrb, Option.bind_some, if_neg (by simp), Option.bind_some, if_pos rfl, if_pos rfl, if_pos rfl, wrap64_toI, refAt_right l hR x (k + 2) (by omega), Option.bind_some, same_eq _ _ (by rw [vals_length]; omega) (k + 2) (by rw [vals_length]; omega), Option.bind_some, if_pos (by simp)]
    have h0 := refAt_right l hR 0#8 (k + 2) (by omega)
    rw [toI_zero] at h0
    rw [h0, Option.bind_some, same_eq _ _ (by rw [vals_length]; omega) (k + 2) (by rw [vals_length]; omega), Option.bind_some]
    have hd : (!decide (vals l 0#8 = vals l 0#8)) = false := by simp
    rw [hd, chatelainelaw45_SplitAt.j0, if_neg (by simp)]
    by_cases h1 : kk < 1
    · rw [if_pos h1, chatelainelaw45_SplitAt.j1, if_pos rfl, if_neg (show ¬ (1 ≤ kk ∧ kk ≤ 255) by omega)]
      rw [if_pos rfl]
      rfl
    · rw [if_neg h1, chatelainelaw45_SplitAt.j1]
      by_cases h2 : kk > 255
      · have hd2 : decide (kk > 255) = true := decide_eq_true h2
        rw [hd2, if_pos rfl, if_neg (show ¬ (1 ≤ kk ∧ kk ≤ 255) by omega)]
        rw [if_pos rfl]
        rfl
      · have hd2 : decide (kk > 255) = false := decide_eq_false h2
        have hm1 : 1 ≤ min kk.toNat l.length := by have := hR.1; omega
        have hRt := hR.take _ hm1
        have hwt := wide_take l _ hm1
        have het := enough_mono (m := min kk.toNat l.length) (m' := 10) (n := wide (l.take (min kk.toNat l.length))) (n' := 40) (by omega) (by omega)
        rw [hd2, if_neg (by simp), if_pos (show (1 ≤ kk ∧ kk ≤ 255) by omega), mn_eq kk (shs l).length (by omega), shs_length, if_pos (by omega), if_pos (by omega), Option.bind_some, Int.toNat_natCast, shs_drop, shs_length]
        have := at_loop l (min kk.toNat l.length) (by omega) hRt (by omega) (fit (l.take (min kk.toNat l.length)) (l.drop (min kk.toNat l.length))) (l.drop (min kk.toNat l.length)) (by rw [List.length_drop]; omega) _ (Nat.le_refl _) (l.drop (min kk.toNat l.length)).length 0 k true (by omega) (by rw [List.length_drop]; omega)
        rw [List.drop_zero, Bool.true_and, beq_self_eq_true] at this
        exact this
  · have hbt : b = false := by
      cases b
      · rfl
      · exact absurd (hb'.mp rfl) hR
    subst hbt
    rw [at_wrong l hR (by omega) (toI x) (k + 2) (by omega), Option.bind_some, join_wrong l hR (by omega) (k + 2) (by omega), Option.bind_some, fits_wrong l hR (by omega) kk (k + 2) (by omega), Option.bind_some, hb, Option.bind_some, hrb, Option.bind_some, if_neg (by simp), Option.bind_some, if_neg (by simp), if_pos rfl, if_pos rfl, if_pos rfl]
    rw [if_pos (by decide +kernel)]
    rfl
theorem splitAt_true (l : List (F × List F)) (hl : l.length ≤ 9223372036854775807) (x : F) (kk : Int) : ∃ k, chatelainelaw45_SplitAt.f k (shs l) (toI x) kk = some true := by
  refine ⟨l.length + 100000 + 2, ?_⟩
  have ha := awake_eq (l.length + 100000 + 2) (by omega)
  by_cases hs : small l l = true
  · exact splitAt_small l x kk hs (l.length + 100000) (by omega) ha
  · unfold chatelainelaw45_SplitAt.f
    rw [ha, Option.bind_some, if_pos rfl, shares_eq l hl _ (by omega), Option.bind_some, if_neg hs]
end Go.Proofs.Ytphoelhelmnibaa.Sa
