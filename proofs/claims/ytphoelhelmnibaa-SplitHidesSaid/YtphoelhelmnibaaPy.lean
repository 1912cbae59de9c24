/-
The program's values at a place are the weighted sums.
-/
import Derived.Test.YtphoelhelmnibaaPw
namespace Go.Proofs.Ytphoelhelmnibaa.Py
open Go.RowKit Go.Proofs.Ytphoelhelmnibaa.Gf Go.Proofs.Ytphoelhelmnibaa.Pl Go.Proofs.Ytphoelhelmnibaa.Pv Go.Proofs.Ytphoelhelmnibaa.Pw Go.Proofs.Ytphoelhelmnibaa.LQ Go.Proofs.Ytphoelhelmnibaa.PQ Go.Proofs.YtphoelhelmnibaaW.PrintWords Go.Proofs.YtphoelhelmnibaaW.PrintLast
/-- A row of values with one share's part added up to byte j. -/
def mix (w : F) (out ys : List F) (j : Nat) : List F := (List.range out.length).map fun t => if t < j then out.getD t 0#8 ^^^ mul w (ys.getD t 0#8) else out.getD t 0#8
theorem mix_length (w : F) (out ys : List F) (j : Nat) : (mix w out ys j).length = out.length := by simp [mix]
theorem mix_zero (w : F) (out ys : List F) : mix w out ys 0 = out := by
  apply List.ext_getElem
  · simp [mix]
  · intro t h1 h2
    simp [mix, h2]
theorem mix_get (w : F) (out ys : List F) (j : Nat) (h : j < out.length) : (mix w out ys j)[j]'(by rw [mix_length]; exact h) = out.getD j 0#8 := by simp [mix]
theorem mix_set (w : F) (out ys : List F) (j : Nat) (_ : j < out.length) : (byI (mix w out ys j)).set j (toI (out.getD j 0#8 ^^^ mul w (ys.getD j 0#8))) = byI (mix w out ys (j + 1)) := by
  apply List.ext_getElem
  · simp [byI, mix]
  · intro t h1 h2
    by_cases e : j = t
    · subst e
      simp [byI, mix]
    · have h3 : (t < j + 1) ↔ (t < j) := by omega
      simp [byI, mix, e, h3]
theorem values_inner (ws : List F) (l : List (F × List F)) (i : Nat) (hi : i < l.length) (hw : ws.length = l.length) (hl : l.length < 2 ^ 40) (out : List F) (hy : l[i].2.length = out.length) (hn : out.length < 2 ^ 40) (r : List Int) (K : Nat) : ∀ (d j k : Nat), j + d = out.length → K + d + 40 ≤ k →
    (∀ k', K ≤ k' → split_values.l0 k' (byI ws) (byI (mix (ws.getD i 0#8) out l[i].2 out.length)) (shs l) (l.length : Int) ((i + 1 : Nat) : Int) = some r) →
    split_values.l1 k (byI ws) (byI (mix (ws.getD i 0#8) out l[i].2 j)) (i : Int) (shs l) (l.length : Int) (i : Int) (byI l[i].2) (out.length : Int) (j : Int) = some r
  | 0, j, k, hd, hk, h => by
    obtain ⟨k, rfl⟩ : ∃ m, k = m + 1 := ⟨k - 1, by omega⟩
    obtain rfl : j = out.length := by omega
    rw [split_values.l1, if_neg (by omega), show wrap64 ((i : Int) + 1) = ((i + 1 : Nat) : Int) by unfold wrap64; omega]
    exact h k (by omega)
  | d + 1, j, k, hd, hk, h => by
    obtain ⟨k, rfl⟩ : ∃ m, k = m + 1 := ⟨k - 1, by omega⟩
    have hj : j < out.length := by omega
    have ej : wrap64 ((j : Int) + 1) = ((j + 1 : Nat) : Int) := by unfold wrap64; omega
    rw [split_values.l1, if_pos (by omega), if_pos (by omega), if_pos (by rw [byI_length]; omega), if_pos (by rw [byI_length, mix_length]; omega), if_pos (by omega), if_pos (by rw [byI_length]; omega), ej,
      rd_byI ws i (by omega), rd_byI l[i].2 j (by omega), rd_byI _ j (by rw [mix_length]; exact hj), times k (by omega), Option.bind_some, xor_toI, mix_get _ _ _ _ hj]
    have e1 : ws[i]'(by omega) = ws.getD i 0#8 := by simp [hw, hi]
    have e2 : l[i].2[j]'(by omega) = l[i].2.getD j 0#8 := by simp [hy, hj]
    rw [e1, e2, show ((j : Int)).toNat = j from Int.toNat_natCast j, mix_set _ _ _ _ hj]
    exact values_inner ws l i hi hw hl out hy hn r K d (j + 1) k (by omega) (by omega) h
/-- The sums of the first i shares' parts. -/
def sums (ws : List F) (l : List (F × List F)) (n : Nat) : Nat → List F
  | 0 => List.replicate n 0#8
  | i + 1 => mix (ws.getD i 0#8) (sums ws l n i) (l.getD i (0#8, [])).2 n
theorem sums_length (ws : List F) (l : List (F × List F)) (n : Nat) : ∀ i, (sums ws l n i).length = n
  | 0 => by simp [sums]
  | i + 1 => by simp [sums, mix_length, sums_length ws l n i]
theorem values_loop (ws : List F) (l : List (F × List F)) (n : Nat) (hw : ws.length = l.length) (hl : l.length < 2 ^ 40) (hn : n < 2 ^ 40) (hy : ∀ i (h : i < l.length), l[i].2.length = n) : ∀ (d i k : Nat), i + d = l.length → d * (n + 42) + 40 ≤ k →
    split_values.l0 k (byI ws) (byI (sums ws l n i)) (shs l) (l.length : Int) (i : Int) = some (byI (sums ws l n l.length))
  | 0, i, k, hd, hk => by
    obtain ⟨k, rfl⟩ : ∃ m, k = m + 1 := ⟨k - 1, by omega⟩
    obtain rfl : i = l.length := by omega
    rw [split_values.l0, if_neg (by omega)]
  | d + 1, i, k, hd, hk => by
    have hm : (d + 1) * (n + 42) = d * (n + 42) + (n + 42) := Nat.succ_mul _ _
    obtain ⟨k, rfl⟩ : ∃ m, k = m + 1 := ⟨k - 1, by omega⟩
    have hi : i < l.length := by omega
    rw [split_values.l0, if_pos (by omega), if_pos (by omega), if_pos (by rw [shs_length]; omega), rd_shs l i hi]
    show split_values.l1 k (byI ws) (byI (sums ws l n i)) (i : Int) (shs l) (l.length : Int) (i : Int) (byI l[i].2) ((byI l[i].2).length : Int) ((0 : Nat) : Int) = _
    have h0 := mix_zero (ws.getD i 0#8) (sums ws l n i) l[i].2
    have hs := sums_length ws l n i
    rw [byI_length, hy i hi]
    have H := values_inner ws l i hi hw hl (sums ws l n i) (by rw [hs, hy i hi]) (by omega) (byI (sums ws l n l.length)) (d * (n + 42) + 40) n 0 k (by omega) (by omega) (by
      intro k' hk'
      have e : mix (ws.getD i 0#8) (sums ws l n i) l[i].2 (sums ws l n i).length = sums ws l n (i + 1) := by
        rw [hs]; simp [sums, hi]
      rw [e]
      exact values_loop ws l n hw hl hn hy d (i + 1) k' (by omega) hk')
    rw [h0, hs] at H
    exact H
theorem values_eq (l : List (F × List F)) (x : F) (n : Nat) (hm : 0 < l.length) (hl : l.length < 2 ^ 20) (hn : n < 2 ^ 20) (hy : ∀ i (h : i < l.length), l[i].2.length = n) (k : Nat) (hk : l.length * (l.length + n + 42) + 40 ≤ k) :
    split_values.f k (shs l) (toI x) = some (byI (sums (wgts x l l.length) l n l.length)) := by
  have e1 : l.length * (l.length + n + 42) = l.length * (l.length + 42) + l.length * n := by rw [← Nat.mul_add]; congr 1; omega
  have e2 : l.length * (l.length + n + 42) = l.length * (n + 42) + l.length * l.length := by rw [← Nat.mul_add]; congr 1; omega
  unfold split_values.f
  rw [weights_eq l x (by omega) k (by omega), Option.bind_some, if_pos (by rw [shs_length]; omega)]
  rw [show rd_T54 (shs l) 0 = shI l[0] from rd_shs l 0 hm]
  show (if 0 ≤ (((byI l[0].2).length : Nat) : Int) then (if (((byI l[0].2).length : Nat) : Int).toNat ≤ 281474976710656 then split_values.l0 k (byI (wgts x l l.length)) (List.replicate (((byI l[0].2).length : Nat) : Int).toNat 0) (shs l) ((shs l).length : Int) 0 else none) else none) = _
  rw [byI_length, hy 0 hm, if_pos (by omega), if_pos (by omega), shs_length, Int.toNat_natCast]
  have h := values_loop (wgts x l l.length) l n (wgts_length x l l.length) (by omega) (by omega) hy l.length 0 k (by omega) (by omega)
  have e3 : byI (sums (wgts x l l.length) l n 0) = List.replicate n 0 := by simp [byI, sums, toI_zero]
  rw [e3] at h
  exact h
end Go.Proofs.Ytphoelhelmnibaa.Py
