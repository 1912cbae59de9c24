/-
The chapter's example: it is true.
-/
import Derived.Test.YtphoelhelmnibaaPQx5
namespace Go.Proofs.Ytphoelhelmnibaa.Aw
open Go.RowKit Go.Proofs.Ytphoelhelmnibaa.PQ Go.Proofs.YtphoelhelmnibaaW.PrintWords Go.Proofs.YtphoelhelmnibaaW.PrintLast
theorem awake_100 : chatelainelaw45_awake.f 100 = some true := by decide +kernel
theorem awake_eq (k : Nat) (hk : 100 ≤ k) : chatelainelaw45_awake.f k = some true := by
  induction hk with
  | refl => exact awake_100
  | step _ ih => exact chatelainelaw45_awake.mono _ _ ih
end Go.Proofs.Ytphoelhelmnibaa.Aw
