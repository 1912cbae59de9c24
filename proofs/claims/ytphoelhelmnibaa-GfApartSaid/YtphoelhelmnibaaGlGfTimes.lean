/-
The printed products and inverses (family PGfTimes) are the plain field's.
-/
import Derived.Test.YtphoelhelmnibaaPGfTimesx1
import Derived.Test.YtphoelhelmnibaaGf
namespace Go.Proofs.Ytphoelhelmnibaa.LGfTimes
open Go.RowKit Go.Proofs.Ytphoelhelmnibaa.Gf Go.Proofs.Ytphoelhelmnibaa.PGfTimes Go.Proofs.YtphoelhelmnibaaW.PrintWords Go.Proofs.YtphoelhelmnibaaW.PrintLast
theorem times (k : Nat) (hk : 9 ≤ k) (a b : F) : gf_Times.f k (toI a) (toI b) = some (toI (mul a b)) := by
  have h := times_loop gf_Times.l0 (fun k x0 x1 x5 => by rw [gf_Times.l0]) 8 k a b 0#8 b.isLt hk
  rw [BitVec.zero_xor] at h; exact h
theorem inverse (k : Nat) (hk : 17 ≤ k) (a : F) : gf_Inverse.f k (toI a) = some (toI (inv a)) :=
  inverse_loop gf_Times.f gf_Inverse.l0 9 (fun k hk a b => times k hk a b) (fun k x0 x3 x4 => by rw [gf_Inverse.l0]) 7 k a 1#8 (by omega) (by omega)
theorem refTimes (k : Nat) (hk : 17 ≤ k) (a b : F) : chatelaineref02_Times.f k (toI a) (toI b) = some (toI (mul a b)) :=
  ref_times_loop chatelaineref02_Times.l0 chatelaineref02_Times.l1 (fun k x0 x1 x5 x6 x7 => by rw [chatelaineref02_Times.l0]; rfl) (fun k x5 x8 x9 => by rw [chatelaineref02_Times.l1]; rfl) a b 8 k 0 (by omega) (by omega)
theorem refInverse (k : Nat) (hk : 274 ≤ k) (a : F) : chatelaineref02_Inverse.f k (toI a) = some (toI (inv a)) :=
  ref_inverse_loop chatelaineref02_Times.f chatelaineref02_Inverse.l0 17 (fun k hk a b => refTimes k hk a b) (fun k x0 x3 => by rw [chatelaineref02_Inverse.l0]) a 255 k 1 (by omega) (by omega) (fun h => by
    have := inv_ne a h
    rcases Nat.eq_zero_or_pos (inv a).toNat with e | e
    · exact absurd (BitVec.eq_of_toNat_eq (by rw [e]; rfl)) this
    · exact e)
theorem times_calls (a b : F) (w : World) : Calls Try.prog 20 #[.int .u8 (toI a), .int .u8 (toI b)] w fun e w' => e = .returned (.int .u8 (toI (mul a b))) ∧ Drawn0 w w' :=
  gf_Times.calls 9 _ _ _ w (times 9 (by omega) a b)
theorem inverse_calls (a : F) (w : World) : Calls Try.prog 22 #[.int .u8 (toI a)] w fun e w' => e = .returned (.int .u8 (toI (inv a))) ∧ Drawn0 w w' :=
  gf_Inverse.calls 17 _ _ w (inverse 17 (by omega) a)
theorem power_plain (k : Nat) (hk : 74 ≤ k) (a : F) (n : Nat) (hn : n < 2 ^ 63) : gf_Power.j0 k (toI a) (n : Int) = some (toI (powN a n)) := by
  obtain ⟨k, rfl⟩ : ∃ m, k = m + 1 := ⟨k - 1, by omega⟩
  rw [gf_Power.j0]
  have h := power_loop gf_Times.f gf_Power.l0 9 (fun k hk a b => times k hk a b) (fun k x0 x1 x5 => by rw [gf_Power.l0]) 63 k n a 1#8 (by omega) hn (by omega)
  rw [one_mul] at h; exact h
theorem power (k : Nat) (hk : 74 ≤ k) (a : F) (n : Nat) (hn : n < 2 ^ 63) : gf_Power.f k (toI a) (n : Int) = some (toI (powN a n)) := by
  unfold gf_Power.f; rw [if_neg (by omega)]; exact power_plain k hk a n hn
/-- how often, below 0 -/
def back (n : Int) : Nat := if (-(Int.tmod n 255)).toNat = 0 then 255 else (-(Int.tmod n 255)).toNat
theorem power_below (k : Nat) (hk : 74 ≤ k) (a : F) (n : Int) (hn : n < 0) (hl : -9223372036854775808 ≤ n) : gf_Power.f k (toI a) n = some (toI (powN (inv a) (back n))) := by
  have e1 : Int.tmod n 255 = -(((-n) % 255)) := by
    obtain ⟨m, rfl⟩ : ∃ m : Nat, n = -(m : Int) := ⟨(-n).toNat, by omega⟩
    rw [Int.neg_tmod, Int.neg_neg]; rfl
  have e2 : wrap64 (-(Int.tmod n 255)) = (((-(Int.tmod n 255)).toNat : Nat) : Int) := by rw [e1]; unfold wrap64; omega
  have hlt : (-(Int.tmod n 255)).toNat < 255 := by rw [e1]; omega
  unfold gf_Power.f back
  rw [if_pos hn, inverse k (by omega)]
  rw [Option.bind_some]
  rw [e2]
  generalize (-(Int.tmod n 255)).toNat = m at *
  by_cases h0 : m = 0
  · rw [if_pos (by omega), if_pos h0]; exact power_plain k hk (inv a) 255 (by decide)
  · rw [if_neg (by omega), if_neg h0]; exact power_plain k hk (inv a) m (by omega)
theorem power_calls (a : F) (n : Nat) (hn : n < 2 ^ 63) (w : World) : Calls Try.prog 24 #[.int .u8 (toI a), .int .i64 (n : Int)] w fun e w' => e = .returned (.int .u8 (toI (powN a n))) ∧ Drawn0 w w' :=
  gf_Power.calls 74 _ _ _ w (power 74 (by omega) a n hn)
end Go.Proofs.Ytphoelhelmnibaa.LGfTimes
