/-
For all bytes a, b, c: chatelainelaw02.GfLaws returns true: the walk.
-/
import Derived.Test.YtphoelhelmnibaaPureGfTimes
namespace Go.Proofs.Ytphoelhelmnibaa.WkGfLaws
open Go.RowKit Go.Proofs.Ytphoelhelmnibaa.Gf Go.Proofs.Ytphoelhelmnibaa.PGfTimes Go.Proofs.Ytphoelhelmnibaa.LGfTimes Go.Proofs.Ytphoelhelmnibaa.Pure Go.Proofs.YtphoelhelmnibaaW.PrintWords Go.Proofs.YtphoelhelmnibaaW.PrintLast
theorem awake_calls (w : World) : Calls Try.prog 16 #[] w fun e w' => e = .returned (.bool true) ∧ Drawn0 w w' :=
  chatelainelaw02_awake.calls 17 _ w (awake_gf 17 (by omega))
theorem t_is (a b c : F) (h : mul a b = c) (w : World) : Calls Try.prog 20 #[.int .u8 (toI a), .int .u8 (toI b)] w fun e w' => e = .returned (.int .u8 (toI c)) ∧ Drawn0 w w' := by
  rw [← h]; exact times_calls a b w
theorem t_one (a : F) (w : World) : Calls Try.prog 20 #[.int .u8 (toI a), .int .u8 1] w fun e w' => e = .returned (.int .u8 (toI a)) ∧ Drawn0 w w' :=
  t_is a 1#8 a (mul_one a) w
theorem t_zero (a : F) (w : World) : Calls Try.prog 20 #[.int .u8 (toI a), .int .u8 0] w fun e w' => e = .returned (.int .u8 0) ∧ Drawn0 w w' :=
  t_is a 0#8 0#8 (mul_zero a) w
theorem t_inv (a : F) (h : a ≠ 0#8) (w : World) : Calls Try.prog 20 #[.int .u8 (toI a), .int .u8 (toI (inv a))] w fun e w' => e = .returned (.int .u8 1) ∧ Drawn0 w w' :=
  t_is a (inv a) 1#8 (mul_inv a h) w
theorem i_inv (a : F) (w : World) : Calls Try.prog 22 #[.int .u8 (toI (inv a))] w fun e w' => e = .returned (.int .u8 (toI a)) ∧ Drawn0 w w' := by
  have h := inverse_calls (inv a) w; rwa [inv_inv] at h
theorem p_0 (a : F) (w : World) : Calls Try.prog 24 #[.int .u8 (toI a), .int .i64 0] w fun e w' => e = .returned (.int .u8 1) ∧ Drawn0 w w' :=
  power_calls a 0 (by decide) w
theorem p_5 (w : World) : Calls Try.prog 24 #[.int .u8 (toI 0#8), .int .i64 5] w fun e w' => e = .returned (.int .u8 0) ∧ Drawn0 w w' := by
  have h := power_calls 0#8 5 (by decide) w; rwa [powN_zero 5 (by decide)] at h
theorem p_255 (a : F) (h : a ≠ 0#8) (w : World) : Calls Try.prog 24 #[.int .u8 (toI a), .int .i64 255] w fun e w' => e = .returned (.int .u8 1) ∧ Drawn0 w w' := by
  have h := power_calls a 255 (by decide) w; rwa [powSq a ‹_›] at h
theorem p_back (a : F) (w : World) : Calls Try.prog 24 #[.int .u8 (toI a), .int .i64 (-1)] w fun e w' => e = .returned (.int .u8 (toI (inv a))) ∧ Drawn0 w w' := by
  have h := gf_Power.calls 74 _ _ _ w (power_below 74 (by omega) a (-1) (by decide) (by decide))
  rwa [show back (-1) = 1 from by decide, powN_one] at h
theorem p_n (a b : F) (w : World) : Calls Try.prog 24 #[.int .u8 (toI a), .int .i64 (toI b)] w fun e w' => e = .returned (.int .u8 (toI (powN a b.toNat))) ∧ Drawn0 w w' :=
  power_calls a b.toNat (by have := b.isLt; omega) w
theorem p_sum (a b c : F) (w : World) : Calls Try.prog 24 #[.int .u8 (toI a), .int .i64 (toI b + toI c)] w fun e w' => e = .returned (.int .u8 (toI (powN a (b.toNat + c.toNat)))) ∧ Drawn0 w w' :=
  power_calls a (b.toNat + c.toNat) (by have := b.isLt; have := c.isLt; omega) w
theorem zero_spell (a : F) : (toI a == 0) = (a == 0#8) := by
  rw [Bool.eq_iff_iff, beq_iff_eq, beq_iff_eq]; exact toI_eq_iff a 0#8
set_option maxHeartbeats 1000000 in
set_option maxRecDepth 100000 in
theorem walk_zero (b c : F) (w : World) : Calls Try.prog 7 #[.int .u8 (toI 0#8), .int .u8 (toI b), .int .u8 (toI c)] w fun e w' => e = .returned (.bool true) ∧ Below w.heap.size w w' := by
    have x1 := xor_toI b c
    have x2 := xor_toI (mul 0#8 b) (mul 0#8 c)
    have hz' : (toI 0#8 == 0) = true := rfl
    have hi : (toI (inv 0#8) == 0) = true := by rw [inv_zero]; rfl
    go_enter Try.func7, Try.ntmps7
    go_wp2_with fail
    refine (awake_calls _).mono ?_
    rintro e w' ⟨rfl, ⟨n, rfl⟩⟩
    go_wp2_with fail
    refine (t_is 0#8 b _ rfl _).mono ?_
    rintro e w' ⟨rfl, ⟨n, rfl⟩⟩
    go_wp2_with fail
    refine (t_is b 0#8 (mul 0#8 b) (mul_comm _ _) _).mono ?_
    rintro e w' ⟨rfl, ⟨n, rfl⟩⟩
    go_wp2_with fail
    refine (t_is 0#8 b _ rfl _).mono ?_
    rintro e w' ⟨rfl, ⟨n, rfl⟩⟩
    go_wp2_with fail
    refine (t_is (mul 0#8 b) c _ rfl _).mono ?_
    rintro e w' ⟨rfl, ⟨n, rfl⟩⟩
    go_wp2_with fail
    refine (t_is b c _ rfl _).mono ?_
    rintro e w' ⟨rfl, ⟨n, rfl⟩⟩
    go_wp2_with fail
    refine (t_is 0#8 (mul b c) (mul (mul 0#8 b) c) (mul_assoc _ _ _).symm _).mono ?_
    rintro e w' ⟨rfl, ⟨n, rfl⟩⟩
    go_wp2_with fail
    refine (t_is 0#8 (b ^^^ c) (mul 0#8 b ^^^ mul 0#8 c) (mul_right _ _ _) _).mono ?_
    rintro e w' ⟨rfl, ⟨n, rfl⟩⟩
    go_wp2_with fail
    refine (t_is 0#8 b _ rfl _).mono ?_
    rintro e w' ⟨rfl, ⟨n, rfl⟩⟩
    go_wp2_with fail
    refine (t_is 0#8 c _ rfl _).mono ?_
    rintro e w' ⟨rfl, ⟨n, rfl⟩⟩
    go_wp2_with fail
    refine (t_one 0#8 _).mono ?_
    rintro e w' ⟨rfl, ⟨n, rfl⟩⟩
    go_wp2_with fail
    refine (t_zero 0#8 _).mono ?_
    rintro e w' ⟨rfl, ⟨n, rfl⟩⟩
    go_wp2_with fail
    refine (inverse_calls 0#8 _).mono ?_
    rintro e w' ⟨rfl, ⟨n, rfl⟩⟩
    go_wp2_with fail
    refine (p_0 0#8 _).mono ?_
    rintro e w' ⟨rfl, ⟨n, rfl⟩⟩
    go_wp2_with fail
    refine (p_5 _).mono ?_
    rintro e w' ⟨rfl, ⟨n, rfl⟩⟩
    go_wp2_with fail
    go_ret
    exact ⟨rfl, pw_below_drewN (Below.refl _ _) _⟩
set_option maxHeartbeats 1000000 in
set_option maxRecDepth 100000 in
theorem walk_other (a b c : F) (ha : a ≠ 0#8) (w : World) : Calls Try.prog 7 #[.int .u8 (toI a), .int .u8 (toI b), .int .u8 (toI c)] w fun e w' => e = .returned (.bool true) ∧ Below w.heap.size w w' := by
    have x1 := xor_toI b c
    have x2 := xor_toI (mul a b) (mul a c)
    have b0 := toI_lo b
    have b1 := toI_hi b
    have c0 := toI_lo c
    have c1 := toI_hi c
    have hz' : (toI a == 0) = false := by rw [zero_spell]; exact beq_eq_false_iff_ne.2 ha
    go_enter Try.func7, Try.ntmps7
    go_wp2_with fail
    refine (awake_calls _).mono ?_
    rintro e w' ⟨rfl, ⟨n, rfl⟩⟩
    go_wp2_with fail
    refine (t_is a b _ rfl _).mono ?_
    rintro e w' ⟨rfl, ⟨n, rfl⟩⟩
    go_wp2_with fail
    refine (t_is b a (mul a b) (mul_comm _ _) _).mono ?_
    rintro e w' ⟨rfl, ⟨n, rfl⟩⟩
    go_wp2_with fail
    refine (t_is a b _ rfl _).mono ?_
    rintro e w' ⟨rfl, ⟨n, rfl⟩⟩
    go_wp2_with fail
    refine (t_is (mul a b) c _ rfl _).mono ?_
    rintro e w' ⟨rfl, ⟨n, rfl⟩⟩
    go_wp2_with fail
    refine (t_is b c _ rfl _).mono ?_
    rintro e w' ⟨rfl, ⟨n, rfl⟩⟩
    go_wp2_with fail
    refine (t_is a (mul b c) (mul (mul a b) c) (mul_assoc _ _ _).symm _).mono ?_
    rintro e w' ⟨rfl, ⟨n, rfl⟩⟩
    go_wp2_with fail
    refine (t_is a (b ^^^ c) (mul a b ^^^ mul a c) (mul_right _ _ _) _).mono ?_
    rintro e w' ⟨rfl, ⟨n, rfl⟩⟩
    go_wp2_with fail
    refine (t_is a b _ rfl _).mono ?_
    rintro e w' ⟨rfl, ⟨n, rfl⟩⟩
    go_wp2_with fail
    refine (t_is a c _ rfl _).mono ?_
    rintro e w' ⟨rfl, ⟨n, rfl⟩⟩
    go_wp2_with fail
    refine (t_one a _).mono ?_
    rintro e w' ⟨rfl, ⟨n, rfl⟩⟩
    go_wp2_with fail
    refine (t_zero a _).mono ?_
    rintro e w' ⟨rfl, ⟨n, rfl⟩⟩
    go_wp2_with fail
    refine (inverse_calls a _).mono ?_
    rintro e w' ⟨rfl, ⟨n, rfl⟩⟩
    go_wp2_with fail
    refine (t_inv a ha _).mono ?_
    rintro e w' ⟨rfl, ⟨n, rfl⟩⟩
    go_wp2_with fail
    refine (i_inv a _).mono ?_
    rintro e w' ⟨rfl, ⟨n, rfl⟩⟩
    go_wp2_with fail
    refine (p_255 a ha _).mono ?_
    rintro e w' ⟨rfl, ⟨n, rfl⟩⟩
    go_wp2_with fail
    refine (p_back a _).mono ?_
    rintro e w' ⟨rfl, ⟨n, rfl⟩⟩
    go_wp2_with fail
    refine (p_sum a b c _).mono ?_
    rintro e w' ⟨rfl, ⟨n, rfl⟩⟩
    go_wp2_with fail
    refine (p_n a b _).mono ?_
    rintro e w' ⟨rfl, ⟨n, rfl⟩⟩
    go_wp2_with fail
    refine (p_n a c _).mono ?_
    rintro e w' ⟨rfl, ⟨n, rfl⟩⟩
    go_wp2_with fail
    refine (t_is (powN a b.toNat) (powN a c.toNat) _ (powN_add a b.toNat c.toNat).symm _).mono ?_
    rintro e w' ⟨rfl, ⟨n, rfl⟩⟩
    go_wp2_with fail
    go_ret
    exact ⟨rfl, pw_below_drewN (Below.refl _ _) _⟩
theorem walk_int (x y z : Int) (w : World) (hx : (Lit.int .u8 x).wf = true) (hy : (Lit.int .u8 y).wf = true) (hz : (Lit.int .u8 z).wf = true) : Calls Try.prog 7 #[.int .u8 x, .int .u8 y, .int .u8 z] w fun e w' => e = .returned (.bool true) ∧ Below w.heap.size w w' := by
  obtain ⟨a, rfl⟩ := exists_byte x hx
  obtain ⟨b, rfl⟩ := exists_byte y hy
  obtain ⟨c, rfl⟩ := exists_byte z hz
  by_cases ha : a = 0#8
  · subst ha; exact walk_zero b c w
  · exact walk_other a b c ha w
end Go.Proofs.Ytphoelhelmnibaa.WkGfLaws
