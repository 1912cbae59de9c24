/-
The reference interpolation (Newton), in plain terms.
-/
import Derived.Test.YtphoelhelmnibaaPz
import Derived.Test.YtphoelhelmnibaaPQx9
namespace Go.Proofs.Ytphoelhelmnibaa.Nt
open Go.RowKit Go.Proofs.Ytphoelhelmnibaa.Gf Go.Proofs.Ytphoelhelmnibaa.Pl Go.Proofs.Ytphoelhelmnibaa.Pv Go.Proofs.Ytphoelhelmnibaa.Pw Go.Proofs.Ytphoelhelmnibaa.Py Go.Proofs.Ytphoelhelmnibaa.LQ Go.Proofs.Ytphoelhelmnibaa.PQ Go.Proofs.YtphoelhelmnibaaW.PrintWords Go.Proofs.YtphoelhelmnibaaW.PrintLast
theorem mod_toI (a : F) : toI a % 256 = toI a := by have := toI_range a; omega
theorem step_p (S : List S54) (at_ : Int) (p q : List F) (X w : F) (i : Int) (r : Option (List Int)) (K : Nat) (hp : p.length < 2 ^ 40) (hq : p.length < q.length) (hq2 : q.length < 2 ^ 40) : ∀ (d j k : Nat), j + d = p.length → K + d + 40 ≤ k →
    (∀ k', K ≤ k' → chatelaineref45_Newton.l2 k' S at_ (byI (mix w p q p.length)) (byI q) i (toI X) (List.replicate q.length 0) 0 = r) →
    chatelaineref45_Newton.l1 k S at_ (byI (mix w p q j)) (byI q) i (toI X) (toI w) (j : Int) = r
  | 0, j, k, hd, hk, h => by
    obtain ⟨k, rfl⟩ : ∃ m, k = m + 1 := ⟨k - 1, by omega⟩
    obtain rfl : j = p.length := by omega
    rw [chatelaineref45_Newton.l1, if_neg (by rw [byI_length, mix_length]; omega), byI_length, if_pos (by omega), if_pos (by omega), Int.toNat_natCast]
    exact h k (by omega)
  | d + 1, j, k, hd, hk, h => by
    obtain ⟨k, rfl⟩ : ∃ m, k = m + 1 := ⟨k - 1, by omega⟩
    have hj : j < p.length := by omega
    have ej : wrap64 ((j : Int) + 1) = ((j + 1 : Nat) : Int) := by unfold wrap64; omega
    rw [chatelaineref45_Newton.l1, if_pos (by rw [byI_length, mix_length]; omega), if_pos (by omega), if_pos (by rw [byI_length]; omega), ej, rd_byI q j (by omega), rd_byI _ j (by rw [mix_length]; exact hj), wrap64_toI, wrap64_toI, refTimes k (by omega), Option.bind_some, xor_i64_toI, mod_toI, mix_get _ _ _ _ hj, Int.toNat_natCast]
    have e2 : q[j]'(by omega) = q.getD j 0#8 := by simp [show j < q.length by omega]
    rw [e2, mix_set _ _ _ _ hj]
    exact step_p S at_ p q X w i r K hp hq hq2 d (j + 1) k (by omega) (by omega) h
/-- q times (x + X), the first j coefficients. -/
def nx (X : F) (q : List F) (j : Nat) : List F := (List.range q.length).map fun t => if t < j then mul (q.getD t 0#8) X ^^^ (if 0 < t then q.getD (t - 1) 0#8 else 0#8) else 0#8
theorem nx_length (X : F) (q : List F) (j : Nat) : (nx X q j).length = q.length := by simp [nx]
theorem nx_zero (X : F) (q : List F) : byI (nx X q 0) = List.replicate q.length 0 := by
  apply List.ext_getElem
  · simp [nx, byI]
  · intro t h1 h2
    simp [nx, byI, toI_zero]
theorem nx_set (X : F) (q : List F) (j : Nat) (_ : j < q.length) : (byI (nx X q j)).set j (toI (mul (q.getD j 0#8) X ^^^ (if 0 < j then q.getD (j - 1) 0#8 else 0#8))) = byI (nx X q (j + 1)) := by
  apply List.ext_getElem
  · simp [byI, nx]
  · intro t h1 h2
    by_cases e : j = t
    · subst e
      simp [byI, nx]
    · have h3 : (t < j + 1) ↔ (t < j) := by omega
      simp [byI, nx, e, h3]
theorem step_q (S : List S54) (at_ : Int) (p q : List F) (X : F) (i : Nat) (hi : i < 2 ^ 40) (r : Option (List Int)) (K : Nat) (hq2 : q.length < 2 ^ 40) : ∀ (d j k : Nat), j + d = q.length → K + d + 40 ≤ k →
    (∀ k', K ≤ k' → chatelaineref45_Newton.l0 k' S at_ (byI p) (byI (nx X q q.length)) ((i + 1 : Nat) : Int) = r) →
    chatelaineref45_Newton.l2 k S at_ (byI p) (byI q) (i : Int) (toI X) (byI (nx X q j)) (j : Int) = r
  | 0, j, k, hd, hk, h => by
    obtain ⟨k, rfl⟩ : ∃ m, k = m + 1 := ⟨k - 1, by omega⟩
    obtain rfl : j = q.length := by omega
    rw [chatelaineref45_Newton.l2, if_neg (by rw [byI_length]; omega), show wrap64 ((i : Int) + 1) = ((i + 1 : Nat) : Int) by unfold wrap64; omega]
    exact h k (by omega)
  | d + 1, j, k, hd, hk, h => by
    obtain ⟨k, rfl⟩ : ∃ m, k = m + 1 := ⟨k - 1, by omega⟩
    have hj : j < q.length := by omega
    have ej : wrap64 ((j : Int) + 1) = ((j + 1 : Nat) : Int) := by unfold wrap64; omega
    rw [chatelaineref45_Newton.l2, if_pos (by rw [byI_length]; omega), if_pos (by omega), rd_byI q j (by omega), wrap64_toI, refTimes k (by omega), Option.bind_some, ej]
    have e2 : q[j]'(by omega) = q.getD j 0#8 := by simp [show j < q.length by omega]
    have hs := nx_set X q j hj
    by_cases h0 : 0 < j
    · have ej1 : wrap64 ((j : Int) - 1) = ((j - 1 : Nat) : Int) := by unfold wrap64; omega
      have e3 : q[j - 1]'(by omega) = q.getD (j - 1) 0#8 := by simp [show j - 1 < q.length by omega]
      rw [if_pos h0] at hs
      rw [if_pos (by omega), ej1, if_pos (by omega), if_pos (by rw [byI_length]; omega), if_pos (by rw [byI_length, nx_length]; omega), rd_byI q (j - 1) (by omega), wrap64_toI, xor_i64_toI, mod_toI, e2, e3, Int.toNat_natCast, hs]
      exact step_q S at_ p q X i hi r K hq2 d (j + 1) k (by omega) (by omega) h
    · rw [if_neg h0, BitVec.xor_zero] at hs
      rw [if_neg (by omega), if_pos (by rw [byI_length, nx_length]; omega), mod_toI, e2, Int.toNat_natCast, hs]
      exact step_q S at_ p q X i hi r K hq2 d (j + 1) k (by omega) (by omega) h
/-- The polynomial and the product after i shares. -/
def newt (l : List (F × List F)) (t : Nat) : Nat → List F × List F
  | 0 => (List.replicate l.length 0#8, 1#8 :: List.replicate l.length 0#8)
  | i + 1 =>
    let s := newt l t i
    let a := l.getD i (0#8, [])
    (mix (mul (ev s.1 a.1 ^^^ a.2.getD t 0#8) (inv (ev s.2 a.1))) s.1 s.2 s.1.length, nx a.1 s.2 s.2.length)
theorem newt_length (l : List (F × List F)) (t : Nat) : ∀ i, (newt l t i).1.length = l.length ∧ (newt l t i).2.length = l.length + 1
  | 0 => by simp [newt]
  | i + 1 => by
    obtain ⟨h1, h2⟩ := newt_length l t i
    simp only [newt, mix_length, nx_length]
    exact ⟨h1, h2⟩
theorem newton_loop (B : Nat) (hB : 500 ≤ B) (l : List (F × List F)) (t : Nat) (hl : l.length < 2 ^ 20) (ht : ∀ i (h : i < l.length), t < l[i].2.length) (hy : ∀ i (h : i < l.length), l[i].2.length < 2 ^ 40) : ∀ (d i k : Nat), i + d = l.length → d * (2 * l.length + B) + 40 ≤ k →
    chatelaineref45_Newton.l0 k (shs l) (t : Int) (byI (newt l t i).1) (byI (newt l t i).2) (i : Int) = some (byI (newt l t l.length).1)
  | 0, i, k, hd, hk => by
    obtain ⟨k, rfl⟩ : ∃ m, k = m + 1 := ⟨k - 1, by omega⟩
    obtain rfl : i = l.length := by omega
    rw [chatelaineref45_Newton.l0, if_neg (by rw [shs_length]; omega)]
  | d + 1, i, k, hd, hk => by
    have hm : (d + 1) * (2 * l.length + B) = d * (2 * l.length + B) + (2 * l.length + B) := Nat.succ_mul _ _
    obtain ⟨k, rfl⟩ : ∃ m, k = m + 1 := ⟨k - 1, by omega⟩
    have hi : i < l.length := by omega
    have hti := ht i hi
    have hyi := hy i hi
    obtain ⟨h1, h2⟩ := newt_length l t i
    have ea : l.getD i (0#8, []) = l[i] := by simp [hi]
    have ey : l[i].2[t]'(by omega) = l[i].2.getD t 0#8 := by simp [hti]
    rw [chatelaineref45_Newton.l0, if_pos (by rw [shs_length]; omega), if_pos (by omega), rd_shs l i hi]
    show (chatelaineref45_Value.f k _ (wrap64 (toI l[i].1))).bind (fun t317 => if (0 : Int) ≤ (t : Int) then (if (t : Int) < ((byI l[i].2).length : Int) then ((chatelaineref45_Value.f k _ (wrap64 (toI l[i].1))).bind fun t320 => ((chatelaineref02_Inverse.f k t320).bind fun t321 => ((chatelaineref02_Times.f k (Go.bits .xor .i64 t317 (wrap64 (rd (byI l[i].2) (t : Int)))) t321).bind fun t322 => (chatelaineref45_Newton.l1 k (shs l) (t : Int) _ _ (i : Int) (wrap64 (toI l[i].1)) t322 0)))) else (none)) else (none)) = _
    rw [wrap64_toI, ref_value_eq _ _ (by omega) k (by omega), Option.bind_some, if_pos (by omega), if_pos (by rw [byI_length]; omega), ref_value_eq _ _ (by omega) k (by omega), Option.bind_some, refInverse k (by omega), Option.bind_some, rd_byI _ t hti, wrap64_toI, xor_i64_toI, refTimes k (by omega), Option.bind_some, ey]
    have h0 := mix_zero (mul (ev (newt l t i).1 l[i].1 ^^^ l[i].2.getD t 0#8) (inv (ev (newt l t i).2 l[i].1))) (newt l t i).1 (newt l t i).2
    have H := step_p (shs l) (t : Int) (newt l t i).1 (newt l t i).2 l[i].1 (mul (ev (newt l t i).1 l[i].1 ^^^ l[i].2.getD t 0#8) (inv (ev (newt l t i).2 l[i].1))) (i : Int) (some (byI (newt l t l.length).1)) (d * (2 * l.length + B) + 40 + l.length + 41) (by omega) (by omega) (by omega) l.length 0 k (by omega) (by omega) (by
      intro k' hk'
      have H2 := step_q (shs l) (t : Int) (newt l t (i + 1)).1 (newt l t i).2 l[i].1 i (by omega) (some (byI (newt l t l.length).1)) (d * (2 * l.length + B) + 40) (by omega) (l.length + 1) 0 k' (by omega) (by omega) (by
        intro k2 hk2
        have e : nx l[i].1 (newt l t i).2 (newt l t i).2.length = (newt l t (i + 1)).2 := by simp only [newt, ea]
        rw [e]
        exact newton_loop B hB l t hl ht hy d (i + 1) k2 (by omega) hk2)
      rw [nx_zero] at H2
      have e : (newt l t (i + 1)).1 = mix (mul (ev (newt l t i).1 l[i].1 ^^^ l[i].2.getD t 0#8) (inv (ev (newt l t i).2 l[i].1))) (newt l t i).1 (newt l t i).2 (newt l t i).1.length := by simp only [newt, ea]
      rw [e] at H2
      exact H2)
    rw [h0] at H
    exact H
theorem newton_eq (l : List (F × List F)) (t : Nat) (hl : l.length < 2 ^ 20) (ht : ∀ i (h : i < l.length), t < l[i].2.length) (hy : ∀ i (h : i < l.length), l[i].2.length < 2 ^ 40) (k : Nat) (hk : l.length * (2 * l.length + 500) + 40 ≤ k) :
    chatelaineref45_Newton.f k (shs l) (t : Int) = some (byI (newt l t l.length).1) := by
  have h := newton_loop 500 (Nat.le_refl _) l t hl ht hy l.length 0 k (by omega) hk
  have ew : wrap64 ((l.length : Int) + 1) = ((l.length + 1 : Nat) : Int) := by unfold wrap64; omega
  unfold chatelaineref45_Newton.f
  rw [shs_length, if_pos (by omega), if_pos (by omega), ew, if_pos (by omega), if_pos (by omega), Option.bind_some, if_pos (by simp), Int.toNat_natCast, Int.toNat_natCast]
  have e1 : byI (newt l t 0).1 = List.replicate l.length 0 := by simp [newt, byI, toI_zero]
  have e2 : byI (newt l t 0).2 = (List.replicate (l.length + 1) 0).set (0 : Int).toNat 1 := by
    simp [newt, byI, toI_zero, List.replicate_succ]
    rfl
  rw [e1, e2] at h
  exact h
end Go.Proofs.Ytphoelhelmnibaa.Nt
