/-
The values at a place, in plain terms.
-/
import Derived.Test.YtphoelhelmnibaaPz
import Derived.Test.YtphoelhelmnibaaRt
import Derived.Test.YtphoelhelmnibaaPQx6
namespace Go.Proofs.Ytphoelhelmnibaa.Sv
open Go.RowKit Go.Proofs.Ytphoelhelmnibaa.Gf Go.Proofs.Ytphoelhelmnibaa.Pl Go.Proofs.Ytphoelhelmnibaa.Pv Go.Proofs.Ytphoelhelmnibaa.Pw Go.Proofs.Ytphoelhelmnibaa.Py Go.Proofs.Ytphoelhelmnibaa.Pz Go.Proofs.Ytphoelhelmnibaa.Rt Go.Proofs.Ytphoelhelmnibaa.PQ Go.Proofs.YtphoelhelmnibaaW.PrintWords Go.Proofs.YtphoelhelmnibaaW.PrintLast
/-- How many bytes each share has. -/
def wide (l : List (F × List F)) : Nat := (l.getD 0 (0#8, [])).2.length
/-- The values at a place. -/
def vals (l : List (F × List F)) (x : F) : List F := sums (wgts x l l.length) l (wide l) l.length
theorem vals_length (l : List (F × List F)) (x : F) : (vals l x).length = wide l := by unfold vals; exact sums_length _ _ _ _
/-- Byte t of the values at a place. -/
theorem vals_get (l : List (F × List F)) (hn : (l.map Prod.fst).Nodup) (t : Nat) (ht : t < wide l) (f : F → F) (hf : Deg l.length f) (hy : ∀ i (h : i < l.length), f l[i].1 = l[i].2.getD t 0#8) (x : F) : (vals l x).getD t 0#8 = f x :=
  sums_point l hn (wide l) t ht f hf hy x
theorem wide_pos {l : List (F × List F)} (h : RightP l) : 1 ≤ wide l ∧ wide l ≤ 256 := by
  obtain ⟨h1, h2, h3⟩ := h
  obtain ⟨_, b, c, d, _⟩ := h3 0 (by omega) (by omega)
  unfold wide
  omega
/-- A number of rounds that is enough for shares: m of them, n bytes each. -/
def enough (m n : Nat) : Nat := m * (2 * m + n + 500) + n + 600
theorem enough_mono {m n m' n' : Nat} (hm : m ≤ m') (hn : n ≤ n') : enough m n ≤ enough m' n' := by
  have h := Nat.mul_le_mul hm (Nat.add_le_add_right (Nat.add_le_add (Nat.mul_le_mul_left 2 hm) hn) 500)
  exact Nat.add_le_add_right (Nat.add_le_add h hn) 600
theorem enough_mul (m n c : Nat) (a : Nat) (ha : a ≤ 2 * m + n + 500) (hc : c ≤ n + 600) : m * a + c ≤ enough m n := by
  have h := Nat.mul_le_mul_left m ha
  unfold enough
  rw [Nat.add_assoc]
  exact Nat.add_le_add h hc
theorem values_right (l : List (F × List F)) (h : RightP l) (x : F) (k : Nat) (hk : enough l.length (wide l) ≤ k) : split_values.f k (shs l) (toI x) = some (byI (vals l x)) := by
  have hw := (wide_pos h)
  refine values_eq l x (wide l) h.1 (by have := h.2.1; omega) (by omega) (fun i hi => h.len i hi) k ?_
  have := enough_mul l.length (wide l) 40 (l.length + wide l + 42) (by omega) (by omega)
  omega
/-- Are two rows of bytes the same? -/
theorem same_loop (a b : List F) (hl : a.length = b.length) (hs : a.length < 2 ^ 40) : ∀ (d i k : Nat), i + d = a.length → d + 1 ≤ k → a.take i = b.take i →
    chatelaineref01_Same.l0 k (byI a) (byI b) (i : Int) = some (decide (a = b))
  | 0, i, k, hd, hk, he => by
    obtain ⟨k, rfl⟩ : ∃ m, k = m + 1 := ⟨k - 1, by omega⟩
    obtain rfl : i = a.length := by omega
    rw [chatelaineref01_Same.l0, if_neg (by rw [byI_length]; omega)]
    rw [List.take_length, hl, List.take_length] at he
    simp [he]
  | d + 1, i, k, hd, hk, he => by
    obtain ⟨k, rfl⟩ : ∃ m, k = m + 1 := ⟨k - 1, by omega⟩
    have hi : i < a.length := by omega
    have hib : i < b.length := by omega
    have ej : wrap64 ((i : Int) + 1) = ((i + 1 : Nat) : Int) := by unfold wrap64; omega
    rw [chatelaineref01_Same.l0, if_pos (by rw [byI_length]; omega), if_pos (by omega), if_pos (by rw [byI_length]; omega), rd_byI a i hi, rd_byI b i hib, ej]
    by_cases e : a[i] = b[i]
    · rw [if_pos (by rw [e])]
      refine same_loop a b hl hs d (i + 1) k (by omega) (by omega) ?_
      rw [List.take_succ_eq_append_getElem hi, List.take_succ_eq_append_getElem hib, he, e]
    · rw [if_neg (fun h => e (toI_inj h))]
      have : a ≠ b := by rintro rfl; exact e rfl
      simp [this]
theorem same_eq (a b : List F) (hs : a.length < 2 ^ 40) (k : Nat) (hk : a.length + 1 ≤ k) : chatelaineref01_Same.f k (byI a) (byI b) = some (decide (a = b)) := by
  unfold chatelaineref01_Same.f
  rw [byI_length, byI_length]
  by_cases h : a.length = b.length
  · rw [if_pos (by omega)]
    exact same_loop a b h hs a.length 0 k (by omega) hk rfl
  · rw [if_neg (by omega)]
    have : a ≠ b := by rintro rfl; exact h rfl
    simp [this]
theorem equal_loop (a b : List F) (hl : a.length = b.length) (hs : a.length < 2 ^ 40) : ∀ (d i k : Nat), i + d = a.length → d + 1 ≤ k → a.take i = b.take i →
    slices_Equal_byte_byte.l0 k (byI a) (byI b) (a.length : Int) (i : Int) = some (decide (a = b))
  | 0, i, k, hd, hk, he => by
    obtain ⟨k, rfl⟩ : ∃ m, k = m + 1 := ⟨k - 1, by omega⟩
    obtain rfl : i = a.length := by omega
    rw [slices_Equal_byte_byte.l0, if_neg (by omega)]
    rw [List.take_length, hl, List.take_length] at he
    simp [he]
  | d + 1, i, k, hd, hk, he => by
    obtain ⟨k, rfl⟩ : ∃ m, k = m + 1 := ⟨k - 1, by omega⟩
    have hi : i < a.length := by omega
    have hib : i < b.length := by omega
    have ej : wrap64 ((i : Int) + 1) = ((i + 1 : Nat) : Int) := by unfold wrap64; omega
    rw [slices_Equal_byte_byte.l0, if_pos (by omega), if_pos (by omega), if_pos (by rw [byI_length]; omega), if_pos (by rw [byI_length]; omega), rd_byI a i hi, rd_byI b i hib, ej]
    by_cases e : a[i] = b[i]
    · rw [if_pos (by rw [e])]
      refine equal_loop a b hl hs d (i + 1) k (by omega) (by omega) ?_
      rw [List.take_succ_eq_append_getElem hi, List.take_succ_eq_append_getElem hib, he, e]
    · rw [if_neg (fun h => e (toI_inj h))]
      have : a ≠ b := by rintro rfl; exact e rfl
      simp [this]
theorem equal_eq (a b : List F) (hs : a.length < 2 ^ 40) (k : Nat) (hk : a.length + 1 ≤ k) : slices_Equal_byte_byte.f k (byI a) (byI b) = some (decide (a = b)) := by
  unfold slices_Equal_byte_byte.f
  rw [byI_length, byI_length]
  by_cases h : a.length = b.length
  · rw [if_pos (by omega)]
    exact equal_loop a b h hs a.length 0 k (by omega) hk rfl
  · rw [if_neg (by omega)]
    have : a ≠ b := by rintro rfl; exact h rfl
    simp [this]
/-- Do more shares fit the first ones? -/
def fit (l : List (F × List F)) (r : List (F × List F)) : Bool := r.all fun s => decide (vals l s.1 = s.2)
theorem fits_loop (l r : List (F × List F)) (h : RightP l) (hr : r.length < 2 ^ 40) (N : Nat) (hN : enough l.length (wide l) ≤ N) : ∀ (d i k : Nat), i + d = r.length → N + d + 1 ≤ k →
    split_Fits.l0 k (shs l) (shs r) (r.length : Int) (i : Int) = some (fit l (r.drop i), 0)
  | 0, i, k, hd, hk => by
    obtain ⟨k, rfl⟩ : ∃ m, k = m + 1 := ⟨k - 1, by omega⟩
    rw [split_Fits.l0, if_neg (by omega), List.drop_eq_nil_of_le (by omega)]
    rfl
  | d + 1, i, k, hd, hk => by
    obtain ⟨k, rfl⟩ : ∃ m, k = m + 1 := ⟨k - 1, by omega⟩
    have hi : i < r.length := by omega
    have hw := (wide_pos h)
    have h2 := h.2.1
    have ej : wrap64 ((i : Int) + 1) = ((i + 1 : Nat) : Int) := by unfold wrap64; omega
    have hb : wide l + 1 ≤ N := by
      have := enough_mul l.length (wide l) (wide l + 600) 0 (Nat.zero_le _) (Nat.le_refl _)
      omega
    rw [split_Fits.l0, if_pos (by omega), if_pos (by omega), if_pos (by rw [shs_length]; omega), rd_shs r i hi]
    show (split_values.f k (shs l) (toI r[i].1)).bind (fun t297 => ((slices_Equal_byte_byte.f k t297 (byI r[i].2)).bind fun t300 => (if t300 = true then (split_Fits.l0 k (shs l) (shs r) (r.length : Int) (wrap64 ((i : Int) + 1))) else (some (false, 0))))) = _
    rw [values_right l h _ k (by omega), Option.bind_some, equal_eq _ _ (by rw [vals_length]; omega) k (by rw [vals_length]; omega), Option.bind_some, ej, List.drop_eq_getElem_cons hi]
    by_cases e : vals l r[i].1 = r[i].2
    · rw [if_pos (by simp [e]), fits_loop l r h hr N hN d (i + 1) k (by omega) (by omega)]
      unfold fit
      rw [List.all_cons, decide_eq_true e, Bool.true_and]
    · rw [if_neg (by simp [e])]
      unfold fit
      rw [List.all_cons, decide_eq_false e, Bool.false_and]
theorem shs_take (l : List (F × List F)) (n : Nat) : (shs l).take n = shs (l.take n) := by simp [shs]
theorem shs_drop (l : List (F × List F)) (n : Nat) : (shs l).drop n = shs (l.drop n) := by simp [shs]
theorem wide_take (l : List (F × List F)) (n : Nat) (hn : 1 ≤ n) : wide (l.take n) = wide l := by
  unfold wide
  simp [show 0 < n by omega]
theorem mn_eq (a : Int) (n : Nat) (h : 1 ≤ a) : mn a (n : Int) = ((min a.toNat n : Nat) : Int) := by
  unfold mn
  split <;> omega
/-- Fits, of right shares. -/
theorem fits_right (l : List (F × List F)) (h : RightP l) (a : Int) (k : Nat) (hk : enough l.length (wide l) + l.length + l.length + 50 ≤ k) :
    split_Fits.f k (shs l) a = some (if 1 ≤ a ∧ a ≤ 255 then (fit (l.take (min a.toNat l.length)) (l.drop (min a.toNat l.length)), 0) else (false, 2)) := by
  obtain ⟨k, rfl⟩ : ∃ m, k = m + 1 := ⟨k - 1, by omega⟩
  have h2 := h.2.1
  have h1 := h.1
  obtain ⟨b, hb, hb'⟩ := right_eq l (by omega) (k + 1) (by omega)
  unfold split_Fits.f
  rw [hb, Option.bind_some, if_pos (hb'.mpr h), within_eq, Option.bind_some]
  by_cases hw : 1 ≤ a ∧ a ≤ 255
  · have hd : (!decide (1 ≤ a ∧ a ≤ 255)) = false := by simp [hw]
    have hm : 1 ≤ min a.toNat l.length := by omega
    rw [hd, split_Fits.j0, if_neg (by simp), mn_eq a (shs l).length hw.1, shs_length, if_pos (by omega), if_pos (by omega), Option.bind_some, Int.toNat_natCast, shs_take, shs_length, List.length_take, if_pos (by omega), if_pos (by omega), Option.bind_some, Int.toNat_natCast, shs_drop, shs_length, if_pos hw]
    have e : min (min a.toNat l.length) l.length = min a.toNat l.length := by omega
    rw [e]
    have hR := h.take (min a.toNat l.length) hm
    have hmono := enough_mono (m := (l.take (min a.toNat l.length)).length) (n := wide (l.take (min a.toNat l.length))) (m' := l.length) (n' := wide l) (by rw [List.length_take]; omega) (by rw [wide_take _ _ hm]; omega)
    have := fits_loop (l.take (min a.toNat l.length)) (l.drop (min a.toNat l.length)) hR (by rw [List.length_drop]; omega) _ (Nat.le_refl _) (l.drop (min a.toNat l.length)).length 0 k (by omega) (by rw [List.length_drop]; omega)
    rw [List.drop_zero] at this
    exact this
  · have hd : (!decide (1 ≤ a ∧ a ≤ 255)) = true := by simp [hw]
    rw [hd, split_Fits.j0, if_pos rfl, if_neg hw]
theorem fits_wrong (l : List (F × List F)) (h : ¬ RightP l) (hl : l.length < 2 ^ 40) (a : Int) (k : Nat) (hk : l.length + 50 ≤ k) : split_Fits.f k (shs l) a = some (false, 2) := by
  obtain ⟨k, rfl⟩ : ∃ m, k = m + 1 := ⟨k - 1, by omega⟩
  obtain ⟨b, hb, hb'⟩ := right_eq l (by omega) (k + 1) (by omega)
  unfold split_Fits.f
  rw [hb, Option.bind_some, if_neg (fun hb1 => h (hb'.mp hb1)), split_Fits.j0, if_pos rfl]
theorem at_right (l : List (F × List F)) (h : RightP l) (x : F) (k : Nat) (hk : enough l.length (wide l) + l.length + 50 ≤ k) : split_At.f k (shs l) (toI x) = some (byI (vals l x), 0) := by
  have h2 := h.2.1
  obtain ⟨b, hb, hb'⟩ := right_eq l (by omega) k (by omega)
  unfold split_At.f
  rw [hb, Option.bind_some, if_pos (hb'.mpr h), values_right l h x k (by omega), Option.bind_some]
theorem at_wrong (l : List (F × List F)) (h : ¬ RightP l) (hl : l.length < 2 ^ 40) (x : Int) (k : Nat) (hk : l.length + 50 ≤ k) : split_At.f k (shs l) x = some ([], 2) := by
  obtain ⟨b, hb, hb'⟩ := right_eq l (by omega) k (by omega)
  unfold split_At.f
  rw [hb, Option.bind_some, if_neg (fun hb1 => h (hb'.mp hb1))]
theorem join_right (l : List (F × List F)) (h : RightP l) (k : Nat) (hk : enough l.length (wide l) + l.length + 50 ≤ k) : split_Join.f k (shs l) = some (byI (vals l 0#8), 0) := by
  have := at_right l h 0#8 k hk
  rw [toI_zero] at this
  unfold split_Join.f
  rw [this, Option.bind_some]
theorem join_wrong (l : List (F × List F)) (h : ¬ RightP l) (hl : l.length < 2 ^ 40) (k : Nat) (hk : l.length + 50 ≤ k) : split_Join.f k (shs l) = some ([], 2) := by
  unfold split_Join.f
  rw [at_wrong l h hl 0 k hk, Option.bind_some]
end Go.Proofs.Ytphoelhelmnibaa.Sv
