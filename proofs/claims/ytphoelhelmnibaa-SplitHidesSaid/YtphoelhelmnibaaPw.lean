/-
The program's weights are Lagrange's.
-/
import Derived.Test.YtphoelhelmnibaaPv
import Derived.Test.YtphoelhelmnibaaPQx4
namespace Go.Proofs.Ytphoelhelmnibaa.Pw
open Go.RowKit Go.Proofs.Ytphoelhelmnibaa.Gf Go.Proofs.Ytphoelhelmnibaa.Pl Go.Proofs.Ytphoelhelmnibaa.Pv Go.Proofs.Ytphoelhelmnibaa.LQ Go.Proofs.Ytphoelhelmnibaa.PQ Go.Proofs.YtphoelhelmnibaaW.PrintWords Go.Proofs.YtphoelhelmnibaaW.PrintLast
/-- A share: its place and its bytes. -/
def shI (s : F × List F) : S54 := ⟨toI s.1, byI s.2⟩
def shs (l : List (F × List F)) : List S54 := l.map shI
theorem shs_length (l : List (F × List F)) : (shs l).length = l.length := by simp [shs]
theorem rd_shs (l : List (F × List F)) (n : Nat) (h : n < l.length) : rd_T54 (shs l) (n : Int) = shI l[n] := by
  simp [rd_T54, shs, h]
/-- The product over the other shares, from share j on. -/
def wl (x xi : F) (i : Nat) : Nat → List (F × List F) → F → F
  | _, [], acc => acc
  | j, b :: r, acc => wl x xi i (j + 1) r (if j = i then acc else mul acc (mul (x ^^^ b.1) (inv (xi ^^^ b.1))))
def wgt (x : F) (l : List (F × List F)) (i : Nat) : F := wl x (l.getD i (0#8, [])).1 i 0 l 1#8
/-- All weights up to i. -/
def wgts (x : F) (l : List (F × List F)) (i : Nat) : List F := (List.range i).map (wgt x l)
theorem weights_inner (l : List (F × List F)) (x : F) (ws : List Int) (i : Nat) (hi : i < l.length) (hl : l.length < 2 ^ 40) (r : List Int) (K : Nat) (hw : ws.length < 2 ^ 40) : ∀ (d j k : Nat) (acc : F), j + d = l.length → K + d + 40 ≤ k →
    (∀ k', K ≤ k' → split_weights.l0 k' (shs l) (toI x) (ws ++ [toI (wl x l[i].1 i j (l.drop j) acc)]) (shs l) (l.length : Int) ((i + 1 : Nat) : Int) = some r) →
    split_weights.l1 k (shs l) (toI x) ws (i : Int) (toI acc) (shs l) (l.length : Int) (i : Int) (shs l) (l.length : Int) (j : Int) (toI l[i].1) (byI l[i].2) = some r
  | 0, j, k, acc, hd, hk, h => by
    obtain ⟨k, rfl⟩ : ∃ m, k = m + 1 := ⟨k - 1, by omega⟩
    have h' := h k (by omega)
    rw [List.drop_eq_nil_of_le (by omega)] at h'
    rw [split_weights.l1, if_neg (by omega), if_pos (by omega), show wrap64 ((i : Int) + 1) = ((i + 1 : Nat) : Int) by unfold wrap64; omega]
    exact h'
  | d + 1, j, k, acc, hd, hk, h => by
    obtain ⟨k, rfl⟩ : ∃ m, k = m + 1 := ⟨k - 1, by omega⟩
    have hj : j < l.length := by omega
    have ej : wrap64 ((j : Int) + 1) = ((j + 1 : Nat) : Int) := by unfold wrap64; omega
    rw [split_weights.l1, if_pos (by omega), if_pos (by omega), if_pos (by rw [shs_length]; omega)]
    by_cases e : j = i
    · rw [if_pos (by omega), ej]
      refine weights_inner l x ws i hi hl r K hw d (j + 1) k acc (by omega) (by omega) ?_
      intro k' hk'
      have := h k' hk'
      rw [List.drop_eq_getElem_cons hj] at this
      simp only [wl, if_pos e] at this
      exact this
    · rw [if_neg (by omega), rd_shs l j hj, ej]
      show (gf_Inverse.f k (Go.bits .xor .u8 (toI l[i].1) (toI l[j].1))).bind _ = _
      rw [xor_toI, inverse k (by omega), Option.bind_some]
      show (gf_Times.f k (Go.bits .xor .u8 (toI x) (toI l[j].1)) _).bind _ = _
      rw [xor_toI, times k (by omega), Option.bind_some, times k (by omega), Option.bind_some]
      refine weights_inner l x ws i hi hl r K hw d (j + 1) k _ (by omega) (by omega) ?_
      intro k' hk'
      have := h k' hk'
      rw [List.drop_eq_getElem_cons hj] at this
      simp only [wl, if_neg e] at this
      exact this
theorem wgts_length (x : F) (l : List (F × List F)) (i : Nat) : (wgts x l i).length = i := by simp [wgts]
theorem weights_loop (l : List (F × List F)) (x : F) (hl : l.length < 2 ^ 40) : ∀ (d i k : Nat), i + d = l.length → d * (l.length + 42) + 40 ≤ k →
    split_weights.l0 k (shs l) (toI x) (byI (wgts x l i)) (shs l) (l.length : Int) (i : Int) = some (byI (wgts x l l.length))
  | 0, i, k, hd, hk => by
    obtain ⟨k, rfl⟩ : ∃ m, k = m + 1 := ⟨k - 1, by omega⟩
    obtain rfl : i = l.length := by omega
    rw [split_weights.l0, if_neg (by omega)]
  | d + 1, i, k, hd, hk => by
    have hm : (d + 1) * (l.length + 42) = d * (l.length + 42) + (l.length + 42) := Nat.succ_mul _ _
    obtain ⟨k, rfl⟩ : ∃ m, k = m + 1 := ⟨k - 1, by omega⟩
    have hi : i < l.length := by omega
    rw [split_weights.l0, if_pos (by omega), if_pos (by omega), if_pos (by rw [shs_length]; omega), shs_length, rd_shs l i hi]
    refine weights_inner l x (byI (wgts x l i)) i hi hl _ (d * (l.length + 42) + 40) (by rw [byI_length, wgts_length]; omega) l.length 0 k 1#8 (by omega) (by omega) ?_
    intro k' hk'
    have e : byI (wgts x l i) ++ [toI (wl x l[i].1 i 0 (l.drop 0) 1#8)] = byI (wgts x l (i + 1)) := by
      simp [byI, wgts, List.range_succ, wgt, hi]
    rw [e]
    exact weights_loop l x hl d (i + 1) k' (by omega) hk'
theorem weights_eq (l : List (F × List F)) (x : F) (hl : l.length < 2 ^ 40) (k : Nat) (hk : l.length * (l.length + 42) + 40 ≤ k) : split_weights.f k (shs l) (toI x) = some (byI (wgts x l l.length)) := by
  have h := weights_loop l x hl l.length 0 k (by omega) hk
  unfold split_weights.f
  rw [shs_length]
  exact h
end Go.Proofs.Ytphoelhelmnibaa.Pw
