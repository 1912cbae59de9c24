/-
The printed products and inverses (family PQ) are the plain field's.
-/
import Derived.Test.YtphoelhelmnibaaPQx3
import Derived.Test.YtphoelhelmnibaaPQx5
import Derived.Test.YtphoelhelmnibaaGf
namespace Go.Proofs.Ytphoelhelmnibaa.LQ
open Go.RowKit Go.Proofs.Ytphoelhelmnibaa.Gf Go.Proofs.Ytphoelhelmnibaa.PQ Go.Proofs.YtphoelhelmnibaaW.PrintWords Go.Proofs.YtphoelhelmnibaaW.PrintLast
theorem times (k : Nat) (hk : 9 ≤ k) (a b : F) : gf_Times.f k (toI a) (toI b) = some (toI (mul a b)) := by
  have h := times_loop gf_Times.l0 (fun k x0 x1 x5 => by rw [gf_Times.l0]) 8 k a b 0#8 b.isLt hk
  rw [BitVec.zero_xor] at h; exact h
theorem inverse (k : Nat) (hk : 17 ≤ k) (a : F) : gf_Inverse.f k (toI a) = some (toI (inv a)) :=
  inverse_loop gf_Times.f gf_Inverse.l0 9 (fun k hk a b => times k hk a b) (fun k x0 x3 x4 => by rw [gf_Inverse.l0]) 7 k a 1#8 (by omega) (by omega)
theorem refTimes (k : Nat) (hk : 17 ≤ k) (a b : F) : chatelaineref02_Times.f k (toI a) (toI b) = some (toI (mul a b)) :=
  ref_times_loop chatelaineref02_Times.l0 chatelaineref02_Times.l1 (fun k x0 x1 x5 x6 x7 => by rw [chatelaineref02_Times.l0]; rfl) (fun k x5 x8 x9 => by rw [chatelaineref02_Times.l1]; rfl) a b 8 k 0 (by omega) (by omega)
theorem times_calls (a b : F) (w : World) : Calls Try.prog 20 #[.int .u8 (toI a), .int .u8 (toI b)] w fun e w' => e = .returned (.int .u8 (toI (mul a b))) ∧ Drawn0 w w' :=
  gf_Times.calls 9 _ _ _ w (times 9 (by omega) a b)
theorem inverse_calls (a : F) (w : World) : Calls Try.prog 22 #[.int .u8 (toI a)] w fun e w' => e = .returned (.int .u8 (toI (inv a))) ∧ Drawn0 w w' :=
  gf_Inverse.calls 17 _ _ w (inverse 17 (by omega) a)
end Go.Proofs.Ytphoelhelmnibaa.LQ
