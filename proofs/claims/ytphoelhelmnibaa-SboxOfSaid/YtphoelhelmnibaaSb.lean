/-
The box in plain Lean, and the printed functions of the box tied to it.
-/
import Derived.Test.YtphoelhelmnibaaPSboxOfx1
import Derived.Test.YtphoelhelmnibaaGlSboxOf
namespace Go.Proofs.Ytphoelhelmnibaa.Sb
open Go.RowKit Go.Proofs.Ytphoelhelmnibaa.Gf Go.Proofs.Ytphoelhelmnibaa.PSboxOf Go.Proofs.Ytphoelhelmnibaa.LSboxOf Go.Proofs.YtphoelhelmnibaaW.PrintWords Go.Proofs.YtphoelhelmnibaaW.PrintLast
def turn (v : F) : F := v ^^^ v.rotateLeft 1 ^^^ v.rotateLeft 2 ^^^ v.rotateLeft 3 ^^^ v.rotateLeft 4 ^^^ 0x63#8
def unturn (v : F) : F := v.rotateLeft 1 ^^^ v.rotateLeft 3 ^^^ v.rotateLeft 6 ^^^ 0x05#8
theorem unturn_turn : ∀ v : F, unturn (turn v) = v := by decide +kernel
theorem turn_unturn : ∀ v : F, turn (unturn v) = v := by decide +kernel
def box (a : F) : F := turn (inv a)
def unbox (a : F) : F := inv (unturn a)
theorem unbox_box (a : F) : unbox (box a) = a := by unfold unbox box; rw [unturn_turn, inv_inv]
theorem box_unbox (a : F) : box (unbox a) = a := by unfold unbox box; rw [inv_inv, turn_unturn]
theorem box_inj {a b : F} (h : box a = box b) : a = b := by rw [← unbox_box a, h, unbox_box]
theorem box_self : ∀ a : F, box a ≠ a := by decide +kernel
theorem box_other : ∀ a : F, box a ≠ ~~~a := by decide +kernel
theorem turned_f : ∀ v : F, sbox_turned.f (toI v) = some (toI (turn v)) := by decide +kernel
theorem of_f (k : Nat) (hk : 17 ≤ k) (a : F) : sbox_Of.f k (toI a) = some (toI (box a)) := by
  unfold sbox_Of.f; rw [inverse k hk, Option.bind_some, turned_f, Option.bind_some]; rfl
theorem awake_f (k : Nat) (hk : 17 ≤ k) : chatelainelaw03_awake.f k = some true := by
  unfold chatelainelaw03_awake.f
  rw [show sbox_Of.f k 0 = some (toI (box 0#8)) from of_f k hk 0#8, Option.bind_some, show toI (box 0#8) = 99 from by decide +kernel]; rfl
theorem of_calls (a : F) (w : World) : Calls Try.prog 15 #[.int .u8 (toI a)] w fun e w' => e = .returned (.int .u8 (toI (box a))) ∧ Drawn0 w w' :=
  sbox_Of.calls 17 _ _ w (of_f 17 (by omega) a)
theorem awake_calls (w : World) : Calls Try.prog 14 #[] w fun e w' => e = .returned (.bool true) ∧ Drawn0 w w' :=
  chatelainelaw03_awake.calls 17 _ w (awake_f 17 (by omega))
theorem turned_calls (v : F) (w : World) : Calls Try.prog 43 #[.int .u8 (toI v)] w fun e w' => e = .returned (.int .u8 (toI (turn v))) ∧ Drawn0 w w' :=
  sbox_turned.calls _ _ w (turned_f v)
end Go.Proofs.Ytphoelhelmnibaa.Sb
