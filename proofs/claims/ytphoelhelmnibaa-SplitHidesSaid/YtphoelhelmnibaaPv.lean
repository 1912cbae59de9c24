/-
The program's value of a polynomial (Horner) is the plain one.
-/
import Derived.Test.YtphoelhelmnibaaPl
import Derived.Test.YtphoelhelmnibaaGlQ
namespace Go.Proofs.Ytphoelhelmnibaa.Pv
open Go.RowKit Go.Proofs.Ytphoelhelmnibaa.Gf Go.Proofs.Ytphoelhelmnibaa.Pl Go.Proofs.Ytphoelhelmnibaa.LQ Go.Proofs.Ytphoelhelmnibaa.PQ Go.Proofs.YtphoelhelmnibaaW.PrintWords Go.Proofs.YtphoelhelmnibaaW.PrintLast
def byI (p : List F) : List Int := p.map toI
theorem byI_length (p : List F) : (byI p).length = p.length := by simp [byI]
theorem rd_byI (p : List F) (n : Nat) (h : n < p.length) : rd (byI p) (n : Int) = toI p[n] := by
  simp [rd, byI, h]
theorem ev_drop (p : List F) (x : F) (n : Nat) (h : n < p.length) : ev (p.drop n) x = p[n] ^^^ mul x (ev (p.drop (n + 1)) x) := by
  rw [List.drop_eq_getElem_cons h]
  rfl
theorem value_loop (p : List F) (x : F) (hl : p.length < 2 ^ 40) : ∀ (n k : Nat), n ≤ p.length → n + 12 ≤ k → split_value.l0 k (byI p) (toI x) (toI (ev (p.drop n) x)) ((n : Int) - 1) = some (toI (ev p x))
  | 0, k, _, hk => by
    obtain ⟨k, rfl⟩ : ∃ m, k = m + 1 := ⟨k - 1, by omega⟩
    rw [split_value.l0, if_neg (by omega), List.drop_zero]
  | n + 1, k, hn, hk => by
    obtain ⟨k, rfl⟩ : ∃ m, k = m + 1 := ⟨k - 1, by omega⟩
    rw [split_value.l0, if_pos (by omega), times k (by omega), Option.bind_some, if_pos (by omega), if_pos (by rw [byI_length]; omega)]
    have e : ((n + 1 : Nat) : Int) - 1 = (n : Int) := by omega
    rw [e, rd_byI p n (by omega), xor_toI]
    have e2 : wrap64 ((n : Int) - 1) = (n : Int) - 1 := by unfold wrap64; omega
    rw [e2, mul_comm, BitVec.xor_comm, ← ev_drop p x n (by omega)]
    exact value_loop p x hl n k (by omega) (by omega)
theorem value_eq (p : List F) (x : F) (hl : p.length < 2 ^ 40) (k : Nat) (hk : p.length + 12 ≤ k) : split_value.f k (byI p) (toI x) = some (toI (ev p x)) := by
  have h := value_loop p x hl p.length k (Nat.le_refl _) hk
  rw [List.drop_length] at h
  unfold split_value.f
  rw [byI_length, show wrap64 ((p.length : Int) - 1) = (p.length : Int) - 1 by unfold wrap64; omega]
  exact h
theorem xor_i64_toI (a b : F) : Go.bits .xor .i64 (toI a) (toI b) = toI (a ^^^ b) := by
  show Go.bits .xor .i64 ((a.toNat : Nat) : Int) ((b.toNat : Nat) : Int) = _
  rw [bits_xor_i64 _ _ (by have := a.isLt; omega) (by have := b.isLt; omega), ← BitVec.toNat_xor]
  rfl
theorem ref_value_loop (p : List F) (x : F) (hl : p.length < 2 ^ 40) : ∀ (d n k : Nat) (A w : F), n + d = p.length → d + 22 ≤ k → A ^^^ mul w (ev (p.drop n) x) = ev p x → chatelaineref45_Value.l0 k (byI p) (toI x) (toI A) (toI w) (n : Int) = some (toI (ev p x))
  | 0, n, k, A, w, hd, hk, h => by
    obtain ⟨k, rfl⟩ : ∃ m, k = m + 1 := ⟨k - 1, by omega⟩
    rw [List.drop_eq_nil_of_le (by omega)] at h
    rw [show ev [] x = 0#8 from rfl, mul_zero, BitVec.xor_zero] at h
    rw [chatelaineref45_Value.l0, if_neg (by rw [byI_length]; omega), h]
  | d + 1, n, k, A, w, hd, hk, h => by
    obtain ⟨k, rfl⟩ : ∃ m, k = m + 1 := ⟨k - 1, by omega⟩
    rw [chatelaineref45_Value.l0, if_pos (by rw [byI_length]; omega), if_pos (by omega), rd_byI p n (by omega), wrap64_toI, refTimes k (by omega), Option.bind_some, refTimes k (by omega), Option.bind_some, xor_i64_toI]
    have e2 : wrap64 ((n : Int) + 1) = ((n + 1 : Nat) : Int) := by unfold wrap64; omega
    rw [e2]
    refine ref_value_loop p x hl d (n + 1) k _ _ (by omega) (by omega) ?_
    rw [← h, ev_drop p x n (by omega), mul_right, BitVec.xor_assoc, mul_comm p[n] w, mul_assoc]
theorem ref_value_eq (p : List F) (x : F) (hl : p.length < 2 ^ 40) (k : Nat) (hk : p.length + 22 ≤ k) : chatelaineref45_Value.f k (byI p) (toI x) = some (toI (ev p x)) := by
  refine ref_value_loop p x hl p.length 0 k 0#8 1#8 (by omega) hk ?_
  rw [List.drop_zero, one_mul, BitVec.zero_xor]
end Go.Proofs.Ytphoelhelmnibaa.Pv
