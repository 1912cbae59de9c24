/-
For all bytes a, b: chatelainelaw03.SboxApart returns true: the walk.
-/
import Derived.Test.YtphoelhelmnibaaSb
namespace Go.Proofs.Ytphoelhelmnibaa.WkSboxApart
open Go.RowKit Go.Proofs.Ytphoelhelmnibaa.Gf Go.Proofs.Ytphoelhelmnibaa.Sb Go.Proofs.YtphoelhelmnibaaW.PrintWords Go.Proofs.YtphoelhelmnibaaW.PrintLast
theorem not_spell : ∀ a : F, Go.bits .xor .u8 IntKind.u8.max (toI a) = toI (~~~a) := by decide +kernel
theorem eq_spell (a b : F) : (toI a == toI b) = (a == b) := by
  rw [Bool.eq_iff_iff, beq_iff_eq, beq_iff_eq, toI_eq_iff]
set_option maxHeartbeats 400000 in
theorem walk (a b : F) (w : World) : Calls Try.prog 3 #[.int .u8 (toI a), .int .u8 (toI b)] w fun e w' => e = .returned (.bool true) ∧ Below w.heap.size w w' := by
  have h1 : ((toI a == toI b) == (toI (box a) == toI (box b))) = true := by
    rw [eq_spell, eq_spell, beq_iff_eq, Bool.eq_iff_iff, beq_iff_eq, beq_iff_eq]
    exact ⟨fun h => by rw [h], box_inj⟩
  have h2 : (toI (box a) != toI a) = true := by
    rw [bne_iff_ne]; exact fun h => box_self a (toI_inj h)
  have h3 : (toI (box a) != Go.bits .xor .u8 IntKind.u8.max (toI a)) = true := by
    rw [bne_iff_ne, not_spell]; exact fun h => box_other a (toI_inj h)
  have hs : IntKind.u8.signed = false := rfl
  have ca := fun W => of_calls a W
  have cb := fun W => of_calls b W
  generalize toI (box a) = x at *
  generalize toI (box b) = y at *
  generalize toI a = p at *
  generalize toI b = q at *
  have Ca := Aside0.mk ca
  have Cb := Aside0.mk cb
  clear ca cb
  go_enter Try.func3, Try.ntmps3
  go_wp2_with fail
  refine (awake_calls _).mono ?_
  rintro e w' ⟨rfl, ⟨n, rfl⟩⟩
  go_wp2_with fail
  refine (Ca.out _).mono ?_
  rintro e w' ⟨rfl, ⟨n, rfl⟩⟩
  go_wp2_with fail
  refine (Cb.out _).mono ?_
  rintro e w' ⟨rfl, ⟨n, rfl⟩⟩
  go_wp2_with fail
  go_ret
  exact ⟨rfl, pw_below_drewN (Below.refl _ _) _⟩
theorem walk_int (x y : Int) (w : World) (hx : (Lit.int .u8 x).wf = true) (hy : (Lit.int .u8 y).wf = true) : Calls Try.prog 3 #[.int .u8 x, .int .u8 y] w fun e w' => e = .returned (.bool true) ∧ Below w.heap.size w w' := by
  obtain ⟨a, rfl⟩ := exists_byte x hx
  obtain ⟨b, rfl⟩ := exists_byte y hy
  exact walk a b w
end Go.Proofs.Ytphoelhelmnibaa.WkSboxApart
