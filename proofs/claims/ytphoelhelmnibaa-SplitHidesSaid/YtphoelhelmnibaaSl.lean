/-
A secret in shares, in plain terms.
-/
import Derived.Test.YtphoelhelmnibaaRt
import Derived.Test.YtphoelhelmnibaaOp
import Derived.Test.YtphoelhelmnibaaPQx2
import Derived.Test.YtphoelhelmnibaaPQx5
namespace Go.Proofs.Ytphoelhelmnibaa.Sl
open Go.RowKit Go.Proofs.Ytphoelhelmnibaa.Gf Go.Proofs.Ytphoelhelmnibaa.Pl Go.Proofs.Ytphoelhelmnibaa.Pv Go.Proofs.Ytphoelhelmnibaa.Pw Go.Proofs.Ytphoelhelmnibaa.Rt Go.Proofs.Ytphoelhelmnibaa.Op Go.Proofs.Ytphoelhelmnibaa.PQ Go.Proofs.YtphoelhelmnibaaW.PrintWords Go.Proofs.YtphoelhelmnibaaW.PrintLast
/-- The coefficients of a place. -/
def coef (s : List F) (rows : List (List F)) (t : Nat) : List F := s.getD t 0#8 :: rows.map fun r => r.getD t 0#8
theorem coef_length (s : List F) (rows : List (List F)) (t : Nat) : (coef s rows t).length = rows.length + 1 := by simp [coef]
/-- The place of share i (from 1 on). -/
def plc (i : Nat) : F := BitVec.ofNat 8 i
theorem toI_plc (i : Nat) (h : i < 256) : toI (plc i) = (i : Int) := by
  unfold toI plc
  rw [BitVec.toNat_ofNat, Nat.mod_eq_of_lt (by omega)]
theorem plc_inj {i j : Nat} (hi : i < 256) (hj : j < 256) (h : plc i = plc j) : i = j := by
  have := congrArg toI h
  rw [toI_plc i hi, toI_plc j hj] at this
  omega
/-- The bytes of the share at a place. -/
def dealt (s : List F) (rows : List (List F)) (x : F) : List F := (List.range s.length).map fun t => ev (coef s rows t) x
theorem dealt_length (s : List F) (rows : List (List F)) (x : F) : (dealt s rows x).length = s.length := by simp [dealt]
/-- The first n shares. -/
def deal (s : List F) (rows : List (List F)) (n : Nat) : List (F × List F) := (List.range n).map fun i => (plc (i + 1), dealt s rows (plc (i + 1)))
theorem deal_length (s : List F) (rows : List (List F)) (n : Nat) : (deal s rows n).length = n := by simp [deal]
theorem deal_get (s : List F) (rows : List (List F)) (n i : Nat) (h : i < n) : (deal s rows n)[i]'(by rw [deal_length]; exact h) = (plc (i + 1), dealt s rows (plc (i + 1))) := by simp [deal]
theorem uneven_loop (s : List F) (rows : List (List F)) (hr : rows.length < 2 ^ 60) : ∀ (d i k : Nat), i + d = rows.length → d + 1 ≤ k →
    split_uneven.l0 k (byI s) (rws rows) (i : Int) = some (!((rows.drop i).all fun r => decide (r.length = s.length)))
  | 0, i, k, hd, hk => by
    obtain ⟨k, rfl⟩ : ∃ m, k = m + 1 := ⟨k - 1, by omega⟩
    rw [split_uneven.l0, if_neg (by rw [rws_length]; omega), List.drop_eq_nil_of_le (by omega)]
    rfl
  | d + 1, i, k, hd, hk => by
    obtain ⟨k, rfl⟩ : ∃ m, k = m + 1 := ⟨k - 1, by omega⟩
    have hi : i < rows.length := by omega
    have ej : wrap64 ((i : Int) + 1) = ((i + 1 : Nat) : Int) := by unfold wrap64; omega
    rw [split_uneven.l0, if_pos (by rw [rws_length]; omega), if_pos (by omega), rd_rws rows i hi, ej, byI_length, byI_length, List.drop_eq_getElem_cons hi]
    by_cases e : rows[i].length = s.length
    · rw [if_pos (by omega), uneven_loop s rows hr d (i + 1) k (by omega) (by omega), List.all_cons, decide_eq_true e, Bool.true_and]
    · rw [if_neg (by omega), List.all_cons, decide_eq_false e, Bool.false_and]
      rfl
theorem uneven_eq (s : List F) (rows : List (List F)) (hr : rows.length < 2 ^ 60) (k : Nat) (hk : rows.length + 1 ≤ k) : split_uneven.f k (byI s) (rws rows) = some (!(rows.all fun r => decide (r.length = s.length))) := by
  have := uneven_loop s rows hr rows.length 0 k (by omega) hk
  rw [List.drop_zero] at this
  unfold split_uneven.f
  rw [rws_length, if_pos (by omega)]
  exact this
/-- The innermost loop: the coefficients of a place. -/
theorem split_inner (s : List F) (rows : List (List F)) (hr : rows.length < 2 ^ 20) (he : ∀ r ∈ rows, r.length = s.length) (n : Int) (out : List S54) (iv : Int) (t : Nat) (ht : t < s.length) (hs : s.length < 2 ^ 20) (x : F) (ys : List F) (hy : ys.length < 2 ^ 40) (r : Option (List S54 × Int)) (K : Nat) : ∀ (d i k : Nat), i + d = rows.length → K + rows.length + d + 20 ≤ k →
    (∀ k', K ≤ k' → split_Split.l1 k' n (rws rows) (byI s) out iv (byI s) (s.length : Int) ((t + 1 : Nat) : Int) (toI x) (byI (ys ++ [ev (coef s rows t) x])) = r) →
    split_Split.l2 k n (rws rows) (byI s) out iv (t : Int) (byI (s.getD t 0#8 :: (rows.take i).map fun r => r.getD t 0#8)) (byI s) (s.length : Int) (t : Int) (rws rows) (rows.length : Int) (i : Int) (toI x) (byI ys) = r
  | 0, i, k, hd, hk, h => by
    obtain ⟨k, rfl⟩ : ∃ m, k = m + 1 := ⟨k - 1, by omega⟩
    obtain rfl : i = rows.length := by omega
    have ej : wrap64 ((t : Int) + 1) = ((t + 1 : Nat) : Int) := by unfold wrap64; omega
    have e : (s.getD t 0#8 :: (rows.take rows.length).map fun r => r.getD t 0#8) = coef s rows t := by rw [List.take_length]; rfl
    have e2 : byI ys ++ [toI (ev (coef s rows t) x)] = byI (ys ++ [ev (coef s rows t) x]) := by simp [byI]
    rw [split_Split.l2, if_neg (by omega), e, value_eq _ x (by rw [coef_length]; omega) k (by rw [coef_length]; omega), Option.bind_some, if_pos (by rw [byI_length]; omega), ej, e2]
    exact h k (by omega)
  | d + 1, i, k, hd, hk, h => by
    obtain ⟨k, rfl⟩ : ∃ m, k = m + 1 := ⟨k - 1, by omega⟩
    have hi : i < rows.length := by omega
    have hli : rows[i].length = s.length := he _ (List.getElem_mem hi)
    have ej : wrap64 ((i : Int) + 1) = ((i + 1 : Nat) : Int) := by unfold wrap64; omega
    have e1 : rows[i][t]'(by omega) = rows[i].getD t 0#8 := by simp [hli, ht]
    have e2 : byI (s.getD t 0#8 :: (rows.take i).map fun r => r.getD t 0#8) ++ [toI (rows[i].getD t 0#8)] = byI (s.getD t 0#8 :: (rows.take (i + 1)).map fun r => r.getD t 0#8) := by
      rw [List.take_succ_eq_append_getElem hi, List.map_append]
      simp only [byI, List.map_cons, List.map_append, List.map_nil, List.cons_append]
    rw [split_Split.l2, if_pos (by omega), if_pos (by omega), if_pos (by rw [rws_length]; omega), rd_rws rows i hi, if_pos (by omega), if_pos (by rw [byI_length]; omega), if_pos (by rw [byI_length]; simp; omega), ej, rd_byI rows[i] t (by omega), e1, e2]
    exact split_inner s rows hr he n out iv t ht hs x ys hy r K d (i + 1) k (by omega) (by omega) h
/-- The middle loop: a share's bytes. -/
theorem split_middle (s : List F) (rows : List (List F)) (hr : rows.length < 2 ^ 20) (he : ∀ r ∈ rows, r.length = s.length) (hs : s.length < 2 ^ 20) (n : Int) (out : List S54) (ho : out.length < 2 ^ 40) (i : Nat) (hi : i < 2 ^ 40) (x : F) (r : Option (List S54 × Int)) (K : Nat) : ∀ (d t k : Nat), t + d = s.length → K + d * (2 * rows.length + 25) + 20 ≤ k →
    (∀ k', K ≤ k' → split_Split.l0 k' n (rws rows) (byI s) (out ++ [⟨toI x, byI (dealt s rows x)⟩]) ((i + 1 : Nat) : Int) = r) →
    split_Split.l1 k n (rws rows) (byI s) out (i : Int) (byI s) (s.length : Int) (t : Int) (toI x) (byI ((List.range t).map fun t => ev (coef s rows t) x)) = r
  | 0, t, k, hd, hk, h => by
    obtain ⟨k, rfl⟩ : ∃ m, k = m + 1 := ⟨k - 1, by omega⟩
    obtain rfl : t = s.length := by omega
    have ej : wrap64 ((i : Int) + 1) = ((i + 1 : Nat) : Int) := by unfold wrap64; omega
    rw [split_Split.l1, if_neg (by omega), if_pos (by omega), ej]
    exact h k (by omega)
  | d + 1, t, k, hd, hk, h => by
    have hm : (d + 1) * (2 * rows.length + 25) = d * (2 * rows.length + 25) + (2 * rows.length + 25) := Nat.succ_mul _ _
    obtain ⟨k, rfl⟩ : ∃ m, k = m + 1 := ⟨k - 1, by omega⟩
    have ht : t < s.length := by omega
    rw [split_Split.l1, if_pos (by omega), if_pos (by omega), if_pos (by rw [byI_length]; omega), rd_byI s t ht, rws_length]
    have e1 : s[t] = s.getD t 0#8 := by simp [ht]
    have e2 : [toI s[t]] = byI (s.getD t 0#8 :: (rows.take 0).map fun r => r.getD t 0#8) := by simp [byI, ht]
    rw [e2]
    refine split_inner s rows hr he n out (i : Int) t ht hs x _ (by simp; omega) r (K + d * (2 * rows.length + 25) + 20) rows.length 0 k (by omega) (by omega) ?_
    intro k' hk'
    have e3 : ((List.range t).map fun t => ev (coef s rows t) x) ++ [ev (coef s rows t) x] = (List.range (t + 1)).map fun t => ev (coef s rows t) x := by simp [List.range_succ]
    rw [e3]
    exact split_middle s rows hr he hs n out ho i hi x r K d (t + 1) k' (by omega) (by omega) h
theorem split_outer (s : List F) (rows : List (List F)) (hr : rows.length < 2 ^ 20) (he : ∀ r ∈ rows, r.length = s.length) (hs : s.length < 2 ^ 20) (n : Nat) (hn : n ≤ 255) : ∀ (d i k : Nat), i + d = n → d * (s.length * (2 * rows.length + 25) + 22) + 20 ≤ k →
    split_Split.l0 k (n : Int) (rws rows) (byI s) (shs (deal s rows i)) ((i + 1 : Nat) : Int) = some (shs (deal s rows n), 0)
  | 0, i, k, hd, hk => by
    obtain ⟨k, rfl⟩ : ∃ m, k = m + 1 := ⟨k - 1, by omega⟩
    obtain rfl : i = n := by omega
    rw [split_Split.l0, if_neg (by omega)]
  | d + 1, i, k, hd, hk => by
    have hm : (d + 1) * (s.length * (2 * rows.length + 25) + 22) = d * (s.length * (2 * rows.length + 25) + 22) + (s.length * (2 * rows.length + 25) + 22) := Nat.succ_mul _ _
    obtain ⟨k, rfl⟩ : ∃ m, k = m + 1 := ⟨k - 1, by omega⟩
    have hx : ((i + 1 : Nat) : Int) % 256 = toI (plc (i + 1)) := by rw [toI_plc _ (by omega)]; omega
    rw [split_Split.l0, if_pos (by omega), hx, byI_length]
    have := split_middle s rows hr he hs (n : Int) (shs (deal s rows i)) (by rw [shs_length, deal_length]; omega) (i + 1) (by omega) (plc (i + 1)) (some (shs (deal s rows n), 0)) (d * (s.length * (2 * rows.length + 25) + 22) + 20) s.length 0 k (by omega) (by omega) (by
      intro k' hk'
      have e : shs (deal s rows i) ++ [⟨toI (plc (i + 1)), byI (dealt s rows (plc (i + 1)))⟩] = shs (deal s rows (i + 1)) := by
        simp [shs, deal, List.range_succ, shI]
      rw [e]
      exact split_outer s rows hr he hs n hn d (i + 1) k' (by omega) hk')
    exact this
/-- May a secret be split so? -/
def may (s : List F) (n kk : Int) (rows : List (List F)) : Bool :=
  decide (1 ≤ s.length ∧ s.length ≤ 256 ∧ 1 ≤ n ∧ n ≤ 255 ∧ 1 ≤ kk ∧ kk ≤ n ∧ (rows.length : Int) = kk - 1) && rows.all fun r => decide (r.length = s.length)
/-- A number of rounds that is enough. -/
def rounds (s : Nat) (m : Nat) : Nat := 255 * (s * (2 * m + 25) + 22) + m + 100
theorem rounds_mono {s m s' m' : Nat} (hs : s ≤ s') (hm : m ≤ m') : rounds s m ≤ rounds s' m' := by
  unfold rounds
  have := Nat.mul_le_mul hs (show 2 * m + 25 ≤ 2 * m' + 25 by omega)
  omega
theorem split_eq (s : List F) (hs : s.length < 2 ^ 60) (n kk : Int) (hn : -9223372036854775808 ≤ n ∧ n ≤ 9223372036854775807) (hkk : -9223372036854775808 ≤ kk ∧ kk ≤ 9223372036854775807) (rows : List (List F)) (hr : rows.length < 2 ^ 60) (k : Nat) (hk : rounds s.length rows.length ≤ k) :
    split_Split.f k (byI s) n kk (rws rows) = some (if may s n kk rows = true then (shs (deal s rows n.toNat), 0) else ([], 2)) := by
  unfold rounds at hk
  obtain ⟨k, rfl⟩ : ∃ m, k = m + 1 := ⟨k - 1, by omega⟩
  unfold split_Split.f
  rw [within_eq, Option.bind_some, byI_length]
  have hj : split_Split.j0 (k + 1) n (rws rows) (byI s) true = some ([], 2) := by rw [split_Split.j0, if_pos rfl]
  rw [hj]
  have bad : may s n kk rows = false → ∀ v : List S54 × Int, some ([], 2) = some (if may s n kk rows = true then v else ([], 2)) := fun h v => by rw [h]; rfl
  by_cases h1 : (1 : Int) ≤ (s.length : Int) ∧ (s.length : Int) ≤ 256
  · rw [if_pos (decide_eq_true h1), within_eq, Option.bind_some]
    by_cases h2 : 1 ≤ n ∧ n ≤ 255
    · rw [if_pos (decide_eq_true h2), within_eq, Option.bind_some]
      by_cases h3 : 1 ≤ kk ∧ kk ≤ n
      · rw [if_pos (decide_eq_true h3), rws_length, show wrap64 (kk - 1) = kk - 1 by unfold wrap64; omega]
        by_cases h4 : (rows.length : Int) = kk - 1
        · have hd : ((rows.length : Int) != kk - 1) = false := by simp [h4]
          rw [hd, split_Split.j0, if_neg (by simp), uneven_eq s rows hr k (by omega), Option.bind_some]
          cases h5 : rows.all fun r => decide (r.length = s.length)
          · have hm : may s n kk rows = false := by unfold may; rw [h5, Bool.and_false]
            rw [if_pos (show (!false) = true from rfl)]
            exact bad hm _
          · have hm : may s n kk rows = true := by
              unfold may
              rw [h5, Bool.and_true, decide_eq_true_eq]
              exact ⟨by omega, by omega, h2.1, h2.2, h3.1, h3.2, h4⟩
            have he : ∀ r ∈ rows, r.length = s.length := by
              intro r hr'
              have := (List.all_eq_true.mp h5) r hr'
              exact of_decide_eq_true this
            rw [if_neg (by simp), if_pos hm]
            have hq := Nat.mul_le_mul_right (s.length * (2 * rows.length + 25) + 22) (show n.toNat ≤ 255 by omega)
            have := split_outer s rows (by omega) he (by omega) n.toNat (by omega) n.toNat 0 k (by omega) (by omega)
            rw [show ((n.toNat : Nat) : Int) = n by omega] at this
            exact this
        · have hd : ((rows.length : Int) != kk - 1) = true := by simp [h4]
          rw [hd, hj]
          refine bad ?_ _
          unfold may
          rw [Bool.and_eq_false_iff]
          exact .inl (decide_eq_false fun h => h4 h.2.2.2.2.2.2)
      · rw [if_neg (by rw [decide_eq_true_eq]; exact h3)]
        refine bad ?_ _
        unfold may
        rw [Bool.and_eq_false_iff]
        exact .inl (decide_eq_false fun h => h3 ⟨h.2.2.2.2.1, h.2.2.2.2.2.1⟩)
    · rw [if_neg (by rw [decide_eq_true_eq]; exact h2)]
      refine bad ?_ _
      unfold may
      rw [Bool.and_eq_false_iff]
      exact .inl (decide_eq_false fun h => h2 ⟨h.2.2.1, h.2.2.2.1⟩)
  · rw [if_neg (by rw [decide_eq_true_eq]; exact h1)]
    refine bad ?_ _
    unfold may
    rw [Bool.and_eq_false_iff]
    exact .inl (decide_eq_false fun h => h1 ⟨by omega, by omega⟩)
/-- Rows that a play goes through with. -/
def fewB (s : List F) (rows : List (List F)) (r : List (List F)) : Bool := (r.all fun x => decide (x.length ≤ 100)) && (decide (s.length ≤ 40) && decide (rows.length ≤ 8))
theorem few_loop (s : List F) (rows : List (List F)) (hr : rows.length ≤ 9223372036854775807) : ∀ (d i k : Nat), i + d = rows.length → d + 1 ≤ k →
    chatelainelaw45_few.l0 k (byI s) (rws rows) (rws rows) (rows.length : Int) (i : Int) = some (fewB s rows (rows.drop i))
  | 0, i, k, hd, hk => by
    obtain ⟨k, rfl⟩ : ∃ m, k = m + 1 := ⟨k - 1, by omega⟩
    rw [chatelainelaw45_few.l0, if_neg (by omega), List.drop_eq_nil_of_le (by omega), byI_length, rws_length]
    by_cases h1 : s.length ≤ 40
    · rw [if_pos (by omega)]
      have : ((rows.length : Int) ≤ 8) ↔ (rows.length ≤ 8) := by omega
      simp [fewB, h1, this]
    · rw [if_neg (by omega)]
      simp [fewB, h1]
  | d + 1, i, k, hd, hk => by
    obtain ⟨k, rfl⟩ : ∃ m, k = m + 1 := ⟨k - 1, by omega⟩
    have hi : i < rows.length := by omega
    have ej : wrap64 ((i : Int) + 1) = ((i + 1 : Nat) : Int) := by unfold wrap64; omega
    rw [chatelainelaw45_few.l0, if_pos (by omega), if_pos (by omega), if_pos (by rw [rws_length]; omega), rd_rws rows i hi, byI_length, ej, List.drop_eq_getElem_cons hi]
    by_cases h : (rows[i].length : Int) > 100
    · rw [if_pos h]
      have : ¬ rows[i].length ≤ 100 := by omega
      unfold fewB
      rw [List.all_cons, decide_eq_false this, Bool.false_and, Bool.false_and]
    · rw [if_neg h, few_loop s rows hr d (i + 1) k (by omega) (by omega)]
      have : rows[i].length ≤ 100 := by omega
      unfold fewB
      rw [List.all_cons, decide_eq_true this, Bool.true_and]
theorem few_eq (s : List F) (rows : List (List F)) (hr : rows.length ≤ 9223372036854775807) (k : Nat) (hk : rows.length + 1 ≤ k) : chatelainelaw45_few.f k (byI s) (rws rows) = some (fewB s rows rows) := by
  have := few_loop s rows hr rows.length 0 k (by omega) hk
  rw [List.drop_zero] at this
  unfold chatelainelaw45_few.f
  rw [rws_length]
  exact this
theorem row_loop (s : List F) (rows : List (List F)) (hr : rows.length < 2 ^ 40) (t : Nat) (he : ∀ r ∈ rows, t < r.length) : ∀ (d i k : Nat), i + d = rows.length → d + 1 ≤ k →
    chatelaineref45_Row.l0 k (rws rows) (t : Int) (byI (s.getD t 0#8 :: (rows.take i).map fun r => r.getD t 0#8)) (i : Int) = some (byI (coef s rows t))
  | 0, i, k, hd, hk => by
    obtain ⟨k, rfl⟩ : ∃ m, k = m + 1 := ⟨k - 1, by omega⟩
    obtain rfl : i = rows.length := by omega
    rw [chatelaineref45_Row.l0, if_neg (by rw [rws_length]; omega), List.take_length]
    rfl
  | d + 1, i, k, hd, hk => by
    obtain ⟨k, rfl⟩ : ∃ m, k = m + 1 := ⟨k - 1, by omega⟩
    have hi : i < rows.length := by omega
    have hli := he _ (List.getElem_mem hi)
    have ej : wrap64 ((i : Int) + 1) = ((i + 1 : Nat) : Int) := by unfold wrap64; omega
    have e1 : rows[i][t]'(by omega) = rows[i].getD t 0#8 := by simp [hli]
    have e2 : byI (s.getD t 0#8 :: (rows.take i).map fun r => r.getD t 0#8) ++ [toI (rows[i].getD t 0#8)] = byI (s.getD t 0#8 :: (rows.take (i + 1)).map fun r => r.getD t 0#8) := by
      rw [List.take_succ_eq_append_getElem hi, List.map_append]
      simp only [byI, List.map_cons, List.map_append, List.map_nil, List.cons_append]
    rw [chatelaineref45_Row.l0, if_pos (by rw [rws_length]; omega), if_pos (by omega), if_pos (by omega), rd_rws rows i hi, if_pos (by rw [byI_length]; omega), if_pos (by rw [byI_length]; simp; omega), ej, rd_byI rows[i] t (by omega), e1, e2]
    exact row_loop s rows hr t he d (i + 1) k (by omega) (by omega)
theorem row_eq (s : List F) (rows : List (List F)) (hr : rows.length < 2 ^ 40) (t : Nat) (ht : t < s.length) (he : ∀ r ∈ rows, t < r.length) (k : Nat) (hk : rows.length + 1 ≤ k) : chatelaineref45_Row.f k (byI s) (rws rows) (t : Int) = some (byI (coef s rows t)) := by
  have := row_loop s rows hr t he rows.length 0 k (by omega) hk
  unfold chatelaineref45_Row.f
  rw [if_pos (by omega), if_pos (by rw [byI_length]; omega), rd_byI s t ht]
  have e : s[t] = s.getD t 0#8 := by simp [ht]
  have e2 : [toI s[t]] = byI (s.getD t 0#8 :: (rows.take 0).map fun r => r.getD t 0#8) := by simp [byI, ht]
  rw [e2]
  exact this
end Go.Proofs.Ytphoelhelmnibaa.Sl
