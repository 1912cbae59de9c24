-- PRINTED BY print.sh 35421559b90ae4d0a3588c463048766b98c2df88dd9212a6774a882060cdf62d: not written by this session
import Derived.Test.YtphoelhelmnibaaPGfTimesx0
import Derived.Test.YtphoelhelmnibaaPGfTimesx1
namespace Go.Proofs.Ytphoelhelmnibaa.PGfTimes
open Go.RowKit Go.Proofs.YtphoelhelmnibaaW.PrintWords Go.Proofs.YtphoelhelmnibaaW.PrintLast Go.Proofs.YtphoelhelmnibaaW.PrintMore
attribute [local go_sem] max2_int min2_int max_two min_two max_three min_three max_four min_four   -- for this text's walks alone
set_option linter.unusedVariables false
set_option linter.unusedSimpArgs false

/-! ### chatelainelaw02_GfTimes: function 6 -/
mutual
def chatelainelaw02_GfTimes.j0 : Nat → Int → Int → Bool → Option (Bool)
  | 0, _, _, _ => none
  | k + 1, x0, x2, x30 => if x30 = true then (some false) else (if x2 < 0 then ((chatelaineref02_Inverse.f k (wrap64 (x0))).bind fun t116 => (if x0 = 0 then (chatelainelaw02_GfTimes.j1 k x0 x2 t116 (wrap64 (-(Int.tmod x2 255))) false) else (chatelainelaw02_GfTimes.j1 k x0 x2 t116 (wrap64 (-(Int.tmod x2 255))) ((wrap64 (-(Int.tmod x2 255))) == 0)))) else (chatelainelaw02_GfTimes.j2 k x0 x2 (wrap64 (x0)) x2))
def chatelainelaw02_GfTimes.j2 : Nat → Int → Int → Int → Int → Option (Bool)
  | 0, _, _, _, _ => none
  | k + 1, x0, x2, x7, x8 => if x8 > 300 then (some true) else (chatelainelaw02_GfTimes.l0 k x0 x2 x7 1 x8 0)
def chatelainelaw02_GfTimes.l0 : Nat → Int → Int → Int → Int → Int → Int → Option (Bool)
  | 0, _, _, _, _, _, _ => none
  | k + 1, x0, x2, x7, x9, x60, x61 => if x61 < x60 then ((chatelaineref02_Times.f k x9 x7).bind fun t119 => (chatelainelaw02_GfTimes.l0 k x0 x2 x7 t119 x60 (wrap64 (x61 + 1)))) else ((gf_Power.f k x0 x2).bind fun t120 => (some ((wrap64 (t120)) == x9)))
def chatelainelaw02_GfTimes.j1 : Nat → Int → Int → Int → Int → Bool → Option (Bool)
  | 0, _, _, _, _, _ => none
  | k + 1, x0, x2, x7, x8, x47 => if x47 = true then ((gf_Power.f k x0 x2).bind fun t117 => (some (t117 == 1))) else (if x0 = 0 then ((gf_Power.f k x0 x2).bind fun t118 => (some (t118 == 0))) else (chatelainelaw02_GfTimes.j2 k x0 x2 x7 x8))
end
def chatelainelaw02_GfTimes.f (k : Nat) (a0 : Int) (a1 : Int) (a2 : Int) : Option (Bool) := (chatelainelaw02_awake.f k).bind fun t111 => (if t111 = true then ((gf_Times.f k a0 a1).bind fun t112 => ((chatelaineref02_Times.f k (wrap64 (a0)) (wrap64 (a1))).bind fun t113 => (if (wrap64 (t112)) = t113 then ((gf_Inverse.f k a0).bind fun t114 => ((chatelaineref02_Inverse.f k (wrap64 (a0))).bind fun t115 => (chatelainelaw02_GfTimes.j0 k a0 a2 ((wrap64 (t114)) != t115)))) else (chatelainelaw02_GfTimes.j0 k a0 a2 true)))) else (some false))
theorem chatelainelaw02_GfTimes.mono_l : ∀ k, (∀ y0 y1 y2, LeO (chatelainelaw02_GfTimes.j0 k y0 y1 y2) (chatelainelaw02_GfTimes.j0 (k + 1) y0 y1 y2)) ∧ (∀ y0 y1 y2 y3, LeO (chatelainelaw02_GfTimes.j2 k y0 y1 y2 y3) (chatelainelaw02_GfTimes.j2 (k + 1) y0 y1 y2 y3)) ∧ (∀ y0 y1 y2 y3 y4 y5, LeO (chatelainelaw02_GfTimes.l0 k y0 y1 y2 y3 y4 y5) (chatelainelaw02_GfTimes.l0 (k + 1) y0 y1 y2 y3 y4 y5)) ∧ (∀ y0 y1 y2 y3 y4, LeO (chatelainelaw02_GfTimes.j1 k y0 y1 y2 y3 y4) (chatelainelaw02_GfTimes.j1 (k + 1) y0 y1 y2 y3 y4))
  | 0 => ⟨fun _ _ _ r h => by simp [chatelainelaw02_GfTimes.j0] at h, fun _ _ _ _ r h => by simp [chatelainelaw02_GfTimes.j2] at h, fun _ _ _ _ _ _ r h => by simp [chatelainelaw02_GfTimes.l0] at h, fun _ _ _ _ _ r h => by simp [chatelainelaw02_GfTimes.j1] at h⟩
  | k + 1 => by
    obtain ⟨ih0, ih1, ih2, ih3⟩ := chatelainelaw02_GfTimes.mono_l k
    refine ⟨?_, ?_, ?_, ?_⟩
    · intro y0 y1 y2
      unfold chatelainelaw02_GfTimes.j0
      repeat' first
      | (with_reducible exact ih0 _ _ _)
      | (with_reducible exact ih1 _ _ _ _)
      | (with_reducible exact ih2 _ _ _ _ _ _)
      | (with_reducible exact ih3 _ _ _ _ _)
      | (with_reducible exact chatelainelaw02_awake.mono _)
      | (with_reducible exact chatelaineref02_Inverse.mono _ _)
      | (with_reducible exact chatelaineref02_Times.mono _ _ _)
      | (with_reducible exact gf_Inverse.mono _ _)
      | (with_reducible exact gf_Power.mono _ _ _)
      | (with_reducible exact gf_Times.mono _ _ _)
      | (with_reducible exact LeO.refl _)
      | (with_reducible exact LeO.none _)
      | (with_reducible refine LeO.ite ?_ ?_)
      | (with_reducible refine LeO.bind ?_ (fun _ => ?_))
      | exact ih0 _ _ _
      | exact ih1 _ _ _ _
      | exact ih2 _ _ _ _ _ _
      | exact ih3 _ _ _ _ _
      | exact chatelainelaw02_awake.mono _
      | exact chatelaineref02_Inverse.mono _ _
      | exact chatelaineref02_Times.mono _ _ _
      | exact gf_Inverse.mono _ _
      | exact gf_Power.mono _ _ _
      | exact gf_Times.mono _ _ _
      | exact LeO.none _
      | refine LeO.ite ?_ ?_
      | refine LeO.bind ?_ (fun _ => ?_)
    · intro y0 y1 y2 y3
      unfold chatelainelaw02_GfTimes.j2
      repeat' first
      | (with_reducible exact ih0 _ _ _)
      | (with_reducible exact ih1 _ _ _ _)
      | (with_reducible exact ih2 _ _ _ _ _ _)
      | (with_reducible exact ih3 _ _ _ _ _)
      | (with_reducible exact chatelainelaw02_awake.mono _)
      | (with_reducible exact chatelaineref02_Inverse.mono _ _)
      | (with_reducible exact chatelaineref02_Times.mono _ _ _)
      | (with_reducible exact gf_Inverse.mono _ _)
      | (with_reducible exact gf_Power.mono _ _ _)
      | (with_reducible exact gf_Times.mono _ _ _)
      | (with_reducible exact LeO.refl _)
      | (with_reducible exact LeO.none _)
      | (with_reducible refine LeO.ite ?_ ?_)
      | (with_reducible refine LeO.bind ?_ (fun _ => ?_))
      | exact ih0 _ _ _
      | exact ih1 _ _ _ _
      | exact ih2 _ _ _ _ _ _
      | exact ih3 _ _ _ _ _
      | exact chatelainelaw02_awake.mono _
      | exact chatelaineref02_Inverse.mono _ _
      | exact chatelaineref02_Times.mono _ _ _
      | exact gf_Inverse.mono _ _
      | exact gf_Power.mono _ _ _
      | exact gf_Times.mono _ _ _
      | exact LeO.none _
      | refine LeO.ite ?_ ?_
      | refine LeO.bind ?_ (fun _ => ?_)
    · intro y0 y1 y2 y3 y4 y5
      unfold chatelainelaw02_GfTimes.l0
      repeat' first
      | (with_reducible exact ih0 _ _ _)
      | (with_reducible exact ih1 _ _ _ _)
      | (with_reducible exact ih2 _ _ _ _ _ _)
      | (with_reducible exact ih3 _ _ _ _ _)
      | (with_reducible exact chatelainelaw02_awake.mono _)
      | (with_reducible exact chatelaineref02_Inverse.mono _ _)
      | (with_reducible exact chatelaineref02_Times.mono _ _ _)
      | (with_reducible exact gf_Inverse.mono _ _)
      | (with_reducible exact gf_Power.mono _ _ _)
      | (with_reducible exact gf_Times.mono _ _ _)
      | (with_reducible exact LeO.refl _)
      | (with_reducible exact LeO.none _)
      | (with_reducible refine LeO.ite ?_ ?_)
      | (with_reducible refine LeO.bind ?_ (fun _ => ?_))
      | exact ih0 _ _ _
      | exact ih1 _ _ _ _
      | exact ih2 _ _ _ _ _ _
      | exact ih3 _ _ _ _ _
      | exact chatelainelaw02_awake.mono _
      | exact chatelaineref02_Inverse.mono _ _
      | exact chatelaineref02_Times.mono _ _ _
      | exact gf_Inverse.mono _ _
      | exact gf_Power.mono _ _ _
      | exact gf_Times.mono _ _ _
      | exact LeO.none _
      | refine LeO.ite ?_ ?_
      | refine LeO.bind ?_ (fun _ => ?_)
    · intro y0 y1 y2 y3 y4
      unfold chatelainelaw02_GfTimes.j1
      repeat' first
      | (with_reducible exact ih0 _ _ _)
      | (with_reducible exact ih1 _ _ _ _)
      | (with_reducible exact ih2 _ _ _ _ _ _)
      | (with_reducible exact ih3 _ _ _ _ _)
      | (with_reducible exact chatelainelaw02_awake.mono _)
      | (with_reducible exact chatelaineref02_Inverse.mono _ _)
      | (with_reducible exact chatelaineref02_Times.mono _ _ _)
      | (with_reducible exact gf_Inverse.mono _ _)
      | (with_reducible exact gf_Power.mono _ _ _)
      | (with_reducible exact gf_Times.mono _ _ _)
      | (with_reducible exact LeO.refl _)
      | (with_reducible exact LeO.none _)
      | (with_reducible refine LeO.ite ?_ ?_)
      | (with_reducible refine LeO.bind ?_ (fun _ => ?_))
      | exact ih0 _ _ _
      | exact ih1 _ _ _ _
      | exact ih2 _ _ _ _ _ _
      | exact ih3 _ _ _ _ _
      | exact chatelainelaw02_awake.mono _
      | exact chatelaineref02_Inverse.mono _ _
      | exact chatelaineref02_Times.mono _ _ _
      | exact gf_Inverse.mono _ _
      | exact gf_Power.mono _ _ _
      | exact gf_Times.mono _ _ _
      | exact LeO.none _
      | refine LeO.ite ?_ ?_
      | refine LeO.bind ?_ (fun _ => ?_)
theorem chatelainelaw02_GfTimes.mono : ∀ a0 a1 a2 k, LeO (chatelainelaw02_GfTimes.f k a0 a1 a2) (chatelainelaw02_GfTimes.f (k + 1) a0 a1 a2) := by
  intro a0 a1 a2 k
  obtain ⟨ih0, ih1, ih2, ih3⟩ := chatelainelaw02_GfTimes.mono_l k
  unfold chatelainelaw02_GfTimes.f
  repeat' first
      | (with_reducible exact ih0 _ _ _)
      | (with_reducible exact ih1 _ _ _ _)
      | (with_reducible exact ih2 _ _ _ _ _ _)
      | (with_reducible exact ih3 _ _ _ _ _)
      | (with_reducible exact chatelainelaw02_awake.mono _)
      | (with_reducible exact chatelaineref02_Inverse.mono _ _)
      | (with_reducible exact chatelaineref02_Times.mono _ _ _)
      | (with_reducible exact gf_Inverse.mono _ _)
      | (with_reducible exact gf_Power.mono _ _ _)
      | (with_reducible exact gf_Times.mono _ _ _)
      | (with_reducible exact LeO.refl _)
      | (with_reducible exact LeO.none _)
      | (with_reducible refine LeO.ite ?_ ?_)
      | (with_reducible refine LeO.bind ?_ (fun _ => ?_))
      | exact ih0 _ _ _
      | exact ih1 _ _ _ _
      | exact ih2 _ _ _ _ _ _
      | exact ih3 _ _ _ _ _
      | exact chatelainelaw02_awake.mono _
      | exact chatelaineref02_Inverse.mono _ _
      | exact chatelaineref02_Times.mono _ _ _
      | exact gf_Inverse.mono _ _
      | exact gf_Power.mono _ _ _
      | exact gf_Times.mono _ _ _
      | exact LeO.none _
      | refine LeO.ite ?_ ?_
      | refine LeO.bind ?_ (fun _ => ?_)
set_option maxHeartbeats 8000000 in
set_option maxRecDepth 100000 in
theorem chatelainelaw02_GfTimes.calls (k : Nat) (a0 : Int) (a1 : Int) (a2 : Int) (r : Bool) (w : World) (h : chatelainelaw02_GfTimes.f k a0 a1 a2 = some r) :
    Calls Try.prog 6 #[.int .u8 a0, .int .u8 a1, .int .i64 a2] w fun e w' => e = .returned (.bool r) ∧ Drawn0 w w' := by
  have H : ((chatelainelaw02_awake.f k).bind fun t111 => (if t111 = true then ((gf_Times.f k a0 a1).bind fun t112 => ((chatelaineref02_Times.f k (wrap64 (a0)) (wrap64 (a1))).bind fun t113 => (if (wrap64 (t112)) = t113 then ((gf_Inverse.f k a0).bind fun t114 => ((chatelaineref02_Inverse.f k (wrap64 (a0))).bind fun t115 => (chatelainelaw02_GfTimes.j0 k a0 a2 ((wrap64 (t114)) != t115)))) else (chatelainelaw02_GfTimes.j0 k a0 a2 true)))) else (some false))) = some r := h
  clear h
  replace H := Option.bind_eq_some_iff.mp H
  obtain ⟨t111, A40, H⟩ := H
  replace H : (if t111 = true then ((gf_Times.f k a0 a1).bind fun t112 => ((chatelaineref02_Times.f k (wrap64 (a0)) (wrap64 (a1))).bind fun t113 => (if (wrap64 (t112)) = t113 then ((gf_Inverse.f k a0).bind fun t114 => ((chatelaineref02_Inverse.f k (wrap64 (a0))).bind fun t115 => (chatelainelaw02_GfTimes.j0 k a0 a2 ((wrap64 (t114)) != t115)))) else (chatelainelaw02_GfTimes.j0 k a0 a2 true)))) else (some false)) = some r := H
  have A4 := Aside0.mk A40
  clear A40
  by_cases c5 : t111 = true
  · subst c5
    have H1 : ((gf_Times.f k a0 a1).bind fun t112 => ((chatelaineref02_Times.f k (wrap64 (a0)) (wrap64 (a1))).bind fun t113 => (if (wrap64 (t112)) = t113 then ((gf_Inverse.f k a0).bind fun t114 => ((chatelaineref02_Inverse.f k (wrap64 (a0))).bind fun t115 => (chatelainelaw02_GfTimes.j0 k a0 a2 ((wrap64 (t114)) != t115)))) else (chatelainelaw02_GfTimes.j0 k a0 a2 true)))) = some r := by rw [if_pos rfl] at H; exact H
    clear H
    have H := H1
    clear H1
    have HC6 := Aside0.mk H
    clear H
    go_enter Try.func6, Try.ntmps6
    go_upto_region 3 with (first | ((with_reducible refine gate_callee (f := 16) rfl ?_); refine goesL_ (some 10) rfl rfl Try.func16 (by kernel_rfl) rfl #[] rfl (by (try simp only [List.map_toArray, List.map_cons, List.map_nil]); first | done | rfl | (simp only [List.length_drop, List.length_take]; rfl)) ?_; (with_reducible refine (chatelainelaw02_awake.calls k  true _ A4.out).mono ?_); rintro e w' ⟨rfl, ⟨nd, rfl⟩⟩; refine ⟨_, rfl, ?_⟩))
    (try simp only [Act.put, List.setIfInBounds_toArray, List.set_cons_zero, List.set_cons_succ])
    go_cut [30] (fun v30 wc => ∃ (kq : Nat) (x30_5 : Bool), v30 = .bool x30_5 ∧ Aside0 (chatelainelaw02_GfTimes.j0 kq a0 a2 x30_5 = some r) ∧ Aside0 (kq ≤ k) ∧ Drawn0 w wc)
    case first =>
      have H := HC6.out
      clear HC6
      replace H := Option.bind_eq_some_iff.mp H
      obtain ⟨t112, A70, H⟩ := H
      replace H : ((chatelaineref02_Times.f k (wrap64 (a0)) (wrap64 (a1))).bind fun t113 => (if (wrap64 (t112)) = t113 then ((gf_Inverse.f k a0).bind fun t114 => ((chatelaineref02_Inverse.f k (wrap64 (a0))).bind fun t115 => (chatelainelaw02_GfTimes.j0 k a0 a2 ((wrap64 (t114)) != t115)))) else (chatelainelaw02_GfTimes.j0 k a0 a2 true))) = some r := H
      have A7 := Aside0.mk A70
      clear A70
      replace H := Option.bind_eq_some_iff.mp H
      obtain ⟨t113, A80, H⟩ := H
      replace H : (if (wrap64 (t112)) = t113 then ((gf_Inverse.f k a0).bind fun t114 => ((chatelaineref02_Inverse.f k (wrap64 (a0))).bind fun t115 => (chatelainelaw02_GfTimes.j0 k a0 a2 ((wrap64 (t114)) != t115)))) else (chatelainelaw02_GfTimes.j0 k a0 a2 true)) = some r := H
      have A8 := Aside0.mk A80
      clear A80
      by_cases c9 : (wrap64 (t112)) = t113
      · rw [if_pos c9] at H
        have c9b0 : ((wrap64 (t112)) == t113) = true := beq_iff_eq.mpr c9
        have c9b1 : ((wrap64 (t112)) != t113) = false := bne_eq_false_iff_eq.mpr c9
        clear c9
        (first | rw [c9b0] | (simp only [i64_w, i32_w]; rw [c9b0]) | skip)
        replace H := Option.bind_eq_some_iff.mp H
        obtain ⟨t114, A100, H⟩ := H
        replace H : ((chatelaineref02_Inverse.f k (wrap64 (a0))).bind fun t115 => (chatelainelaw02_GfTimes.j0 k a0 a2 ((wrap64 (t114)) != t115))) = some r := H
        have A10 := Aside0.mk A100
        clear A100
        replace H := Option.bind_eq_some_iff.mp H
        obtain ⟨t115, A110, H⟩ := H
        replace H : (chatelainelaw02_GfTimes.j0 k a0 a2 ((wrap64 (t114)) != t115)) = some r := H
        have A11 := Aside0.mk A110
        clear A110
        have H' := Aside0.mk H
        clear H
        go_wp2_with (first | ((with_reducible refine gate_callee (f := 20) rfl ?_); refine goesL_ (some 14) rfl rfl Try.func20 (by kernel_rfl) rfl #[.int .u8 a0, .int .u8 a1] rfl (by (try simp only [List.map_toArray, List.map_cons, List.map_nil]); first | done | rfl | (simp only [List.length_drop, List.length_take]; rfl)) ?_; (with_reducible refine (gf_Times.calls k a0 a1 t112 _ A7.out).mono ?_); rintro e w' ⟨rfl, ⟨nd, rfl⟩⟩; refine ⟨_, rfl, ?_⟩) | ((with_reducible refine gate_callee (f := 21) rfl ?_); refine goesL_ (some 20) rfl rfl Try.func21 (by kernel_rfl) rfl #[.int .i64 (wrap64 (a0)), .int .i64 (wrap64 (a1))] rfl (by (try simp only [List.map_toArray, List.map_cons, List.map_nil]); first | done | rfl | (simp only [List.length_drop, List.length_take]; rfl)) ?_; (with_reducible refine (chatelaineref02_Times.calls k (wrap64 (a0)) (wrap64 (a1)) t113 _ A8.out).mono ?_); rintro e w' ⟨rfl, ⟨nd, rfl⟩⟩; refine ⟨_, rfl, ?_⟩) | (go_at_call 22; (with_reducible refine (gf_Inverse.calls k a0 t114 _ A10.out).mono ?_); rintro e w' ⟨rfl, ⟨nd, rfl⟩⟩) | (go_at_call 23; (with_reducible refine (chatelaineref02_Inverse.calls k (wrap64 (a0)) t115 _ A11.out).mono ?_); rintro e w' ⟨rfl, ⟨nd, rfl⟩⟩))
        go_meet
        case rel => exact ⟨_, (((wrap64 (t114)) != t115)), (by first | rfl | (simp; done) | (simp [*]; done)), H', ⟨by first | omega | exact Nat.le_refl _⟩, by repeat (first | exact Drawn0.refl _ | apply Drawn0.step)⟩
      · rw [if_neg c9] at H
        have c9b0 : ((wrap64 (t112)) == t113) = false := beq_eq_false_iff_ne.mpr c9
        have c9b1 : ((wrap64 (t112)) != t113) = true := bne_iff_ne.mpr c9
        (first | rw [c9b0] | (simp only [i64_w, i32_w]; rw [c9b0]) | skip)
        have H' := Aside0.mk H
        clear H
        go_wp2_with (first | ((with_reducible refine gate_callee (f := 20) rfl ?_); refine goesL_ (some 14) rfl rfl Try.func20 (by kernel_rfl) rfl #[.int .u8 a0, .int .u8 a1] rfl (by (try simp only [List.map_toArray, List.map_cons, List.map_nil]); first | done | rfl | (simp only [List.length_drop, List.length_take]; rfl)) ?_; (with_reducible refine (gf_Times.calls k a0 a1 t112 _ A7.out).mono ?_); rintro e w' ⟨rfl, ⟨nd, rfl⟩⟩; refine ⟨_, rfl, ?_⟩) | ((with_reducible refine gate_callee (f := 21) rfl ?_); refine goesL_ (some 20) rfl rfl Try.func21 (by kernel_rfl) rfl #[.int .i64 (wrap64 (a0)), .int .i64 (wrap64 (a1))] rfl (by (try simp only [List.map_toArray, List.map_cons, List.map_nil]); first | done | rfl | (simp only [List.length_drop, List.length_take]; rfl)) ?_; (with_reducible refine (chatelaineref02_Times.calls k (wrap64 (a0)) (wrap64 (a1)) t113 _ A8.out).mono ?_); rintro e w' ⟨rfl, ⟨nd, rfl⟩⟩; refine ⟨_, rfl, ?_⟩))
        go_meet
        case rel => exact ⟨_, (true), (by first | rfl | (simp; done) | (simp [*]; done)), H', ⟨by first | omega | exact Nat.le_refl _⟩, by repeat (first | exact Drawn0.refl _ | apply Drawn0.step)⟩
    case rest =>
      clear HC6
      try clear c1
      try clear c2
      try clear p2
      try clear c5
      try clear c6
      try clear p6
      try clear c9
      try clear c9b0
      try clear c9b1
      obtain ⟨kq, x30_5, rfl, HA, HJ5, ⟨mc5, rfl⟩⟩ := hcut
      cases kq with
      | zero => exact absurd HA.out (by simp [chatelainelaw02_GfTimes.j0])
      | succ kj5 =>
        have H := HA.out
        clear HA
        simp only [chatelainelaw02_GfTimes.j0] at H
        by_cases c12 : x30_5 = true
        · subst c12
          have H1 : (some false) = some r := by rw [if_pos rfl] at H; exact H
          clear H
          have H := H1
          clear H1
          obtain rfl := Option.some.inj H
          go_wp2
          go_ret
          exact ⟨by first | rfl | (simp; done) | (simp [*]; done), by repeat (first | exact Drawn0.refl _ | apply Drawn0.step)⟩
        · replace c12 := Bool.eq_false_iff.mpr c12
          subst c12
          have H1 : (if a2 < 0 then ((chatelaineref02_Inverse.f kj5 (wrap64 (a0))).bind fun t116 => (if a0 = 0 then (chatelainelaw02_GfTimes.j1 kj5 a0 a2 t116 (wrap64 (-(Int.tmod a2 255))) false) else (chatelainelaw02_GfTimes.j1 kj5 a0 a2 t116 (wrap64 (-(Int.tmod a2 255))) ((wrap64 (-(Int.tmod a2 255))) == 0)))) else (chatelainelaw02_GfTimes.j2 kj5 a0 a2 (wrap64 (a0)) a2)) = some r := by rw [if_neg (show ¬ (false = true) by decide)] at H; exact H
          clear H
          have H := H1
          clear H1
          have HC13 := Aside0.mk H
          clear H
          go_upto_if 35 with (fail)
          go_cut [7, 8] (fun v7 v8 wc => ∃ (kq : Nat) (x7_12 : Int) (x8_12 : Int), v7 = .int .i64 x7_12 ∧ v8 = .int .i64 x8_12 ∧ Aside0 (chatelainelaw02_GfTimes.j2 kq a0 a2 x7_12 x8_12 = some r) ∧ Aside0 (kq ≤ kj5) ∧ Drawn0 w wc)
          case first =>
            have H := HC13.out
            clear HC13
            by_cases c14 : a2 < 0
            · rw [if_pos c14] at H
              have c14b0 : decide (a2 < 0) = true := decide_eq_true c14
              clear c14
              (first | rw [c14b0] | (simp only [i64_w, i32_w]; rw [c14b0]) | skip)
              replace H := Option.bind_eq_some_iff.mp H
              obtain ⟨t116, A150, H⟩ := H
              replace H : (if a0 = 0 then (chatelainelaw02_GfTimes.j1 kj5 a0 a2 t116 (wrap64 (-(Int.tmod a2 255))) false) else (chatelainelaw02_GfTimes.j1 kj5 a0 a2 t116 (wrap64 (-(Int.tmod a2 255))) ((wrap64 (-(Int.tmod a2 255))) == 0))) = some r := H
              have A15 := Aside0.mk A150
              clear A150
              have HC16 := Aside0.mk H
              clear H
              go_upto_region 9 with (first | ((with_reducible refine gate_callee (f := 23) rfl ?_); refine goesL_ (some 38) rfl rfl Try.func23 (by kernel_rfl) rfl #[.int .i64 (wrap64 (a0))] rfl (by (try simp only [List.map_toArray, List.map_cons, List.map_nil]); first | done | rfl | (simp only [List.length_drop, List.length_take]; rfl)) ?_; (with_reducible refine (chatelaineref02_Inverse.calls kj5 (wrap64 (a0)) t116 _ A15.out).mono ?_); rintro e w' ⟨rfl, ⟨nd, rfl⟩⟩; refine ⟨_, rfl, ?_⟩))
              (try simp only [Act.put, List.setIfInBounds_toArray, List.set_cons_zero, List.set_cons_succ])
              go_cut [47] (fun v47 wc => ∃ (kq : Nat) (x47_15 : Bool), v47 = .bool x47_15 ∧ Aside0 (chatelainelaw02_GfTimes.j1 kq a0 a2 t116 (wrap64 (-(Int.tmod a2 255))) x47_15 = some r) ∧ Aside0 (kq ≤ kj5) ∧ Drawn0 w wc)
              case first =>
                have H := HC16.out
                clear HC16
                by_cases c17 : a0 = 0
                · rw [if_pos c17] at H
                  have c17b0 : (a0 == 0) = true := beq_iff_eq.mpr c17
                  have c17b1 : (a0 != 0) = false := bne_eq_false_iff_eq.mpr c17
                  clear c17
                  (first | rw [c17b0] | (simp only [i64_w, i32_w]; rw [c17b0]) | skip)
                  have H' := Aside0.mk H
                  clear H
                  go_wp2
                  go_meet
                  case rel => exact ⟨_, (false), (by first | rfl | (simp; done) | (simp [*]; done)), H', ⟨by have := HJ5.out; first | omega | exact Nat.le_refl _⟩, by repeat (first | exact Drawn0.refl _ | apply Drawn0.step)⟩
                · rw [if_neg c17] at H
                  have c17b0 : (a0 == 0) = false := beq_eq_false_iff_ne.mpr c17
                  have c17b1 : (a0 != 0) = true := bne_iff_ne.mpr c17
                  (first | rw [c17b0] | (simp only [i64_w, i32_w]; rw [c17b0]) | skip)
                  have H' := Aside0.mk H
                  clear H
                  go_wp2
                  go_meet
                  case rel => exact ⟨_, (((wrap64 (-(Int.tmod a2 255))) == 0)), (by first | rfl | (simp; done) | (simp [*]; done)), H', ⟨by have := HJ5.out; first | omega | exact Nat.le_refl _⟩, by repeat (first | exact Drawn0.refl _ | apply Drawn0.step)⟩
              case rest =>
                clear HC16
                try clear c1
                try clear c2
                try clear p2
                try clear c5
                try clear c6
                try clear p6
                try clear c9
                try clear c9b0
                try clear c9b1
                try clear c12
                try clear c14
                try clear c14b0
                try clear c16
                try clear c17
                try clear c17b0
                try clear c17b1
                try clear p2
                try clear p6
                obtain ⟨kq, x47_15, rfl, HA, HJ15, ⟨mc15, rfl⟩⟩ := hcut
                cases kq with
                | zero => exact absurd HA.out (by simp [chatelainelaw02_GfTimes.j1])
                | succ kj15 =>
                  have H := HA.out
                  clear HA
                  simp only [chatelainelaw02_GfTimes.j1] at H
                  by_cases c18 : x47_15 = true
                  · subst c18
                    have H1 : ((gf_Power.f kj15 a0 a2).bind fun t117 => (some (t117 == 1))) = some r := by rw [if_pos rfl] at H; exact H
                    clear H
                    have H := H1
                    clear H1
                    replace H := Option.bind_eq_some_iff.mp H
                    obtain ⟨t117, A190, H⟩ := H
                    replace H : (some (t117 == 1)) = some r := H
                    have A19 := Aside0.mk A190
                    clear A190
                    obtain rfl := Option.some.inj H
                    go_wp2_with (first | ((with_reducible refine gate_callee (f := 24) rfl ?_); refine goesL_ (some 50) rfl rfl Try.func24 (by kernel_rfl) rfl #[.int .u8 a0, .int .i64 a2] rfl (by (try simp only [List.map_toArray, List.map_cons, List.map_nil]); first | done | rfl | (simp only [List.length_drop, List.length_take]; rfl)) ?_; (with_reducible refine (gf_Power.calls kj15 a0 a2 t117 _ A19.out).mono ?_); rintro e w' ⟨rfl, ⟨nd, rfl⟩⟩; refine ⟨_, rfl, ?_⟩))
                    go_ret
                    exact ⟨by first | rfl | (simp; done) | (simp [*]; done), by repeat (first | exact Drawn0.refl _ | apply Drawn0.step)⟩
                  · replace c18 := Bool.eq_false_iff.mpr c18
                    subst c18
                    have H1 : (if a0 = 0 then ((gf_Power.f kj15 a0 a2).bind fun t118 => (some (t118 == 0))) else (chatelainelaw02_GfTimes.j2 kj15 a0 a2 t116 (wrap64 (-(Int.tmod a2 255))))) = some r := by rw [if_neg (show ¬ (false = true) by decide)] at H; exact H
                    clear H
                    have H := H1
                    clear H1
                    by_cases c20 : a0 = 0
                    · rw [if_pos c20] at H
                      have c20b0 : (a0 == 0) = true := beq_iff_eq.mpr c20
                      have c20b1 : (a0 != 0) = false := bne_eq_false_iff_eq.mpr c20
                      clear c20
                      replace H := Option.bind_eq_some_iff.mp H
                      obtain ⟨t118, A210, H⟩ := H
                      replace H : (some (t118 == 0)) = some r := H
                      have A21 := Aside0.mk A210
                      clear A210
                      obtain rfl := Option.some.inj H
                      go_wp2_with (first | ((with_reducible refine gate_callee (f := 24) rfl ?_); refine goesL_ (some 56) rfl rfl Try.func24 (by kernel_rfl) rfl #[.int .u8 a0, .int .i64 a2] rfl (by (try simp only [List.map_toArray, List.map_cons, List.map_nil]); first | done | rfl | (simp only [List.length_drop, List.length_take]; rfl)) ?_; (with_reducible refine (gf_Power.calls kj15 a0 a2 t118 _ A21.out).mono ?_); rintro e w' ⟨rfl, ⟨nd, rfl⟩⟩; refine ⟨_, rfl, ?_⟩))
                      go_ret
                      exact ⟨by first | rfl | (simp; done) | (simp [*]; done), by repeat (first | exact Drawn0.refl _ | apply Drawn0.step)⟩
                    · rw [if_neg c20] at H
                      have c20b0 : (a0 == 0) = false := beq_eq_false_iff_ne.mpr c20
                      have c20b1 : (a0 != 0) = true := bne_iff_ne.mpr c20
                      have H' := Aside0.mk H
                      clear H
                      go_wp2
                      go_meet
                      case rel => exact ⟨_, (t116), ((wrap64 (-(Int.tmod a2 255)))), (by first | rfl | (simp; done) | (simp [*]; done)), (by first | rfl | (simp; done) | (simp [*]; done)), H', ⟨by have := HJ5.out; have := HJ15.out; first | omega | exact Nat.le_refl _⟩, by repeat (first | exact Drawn0.refl _ | apply Drawn0.step)⟩
            · rw [if_neg c14] at H
              have c14b0 : decide (a2 < 0) = false := decide_eq_false c14
              clear c14
              (first | rw [c14b0] | (simp only [i64_w, i32_w]; rw [c14b0]) | skip)
              have H' := Aside0.mk H
              clear H
              go_wp2
              go_meet
              case rel => exact ⟨_, (wrap64 (a0)), (a2), (by first | rfl | (simp; done) | (simp [*]; done)), (by first | rfl | (simp; done) | (simp [*]; done)), H', ⟨by have := HJ5.out; first | omega | exact Nat.le_refl _⟩, by repeat (first | exact Drawn0.refl _ | apply Drawn0.step)⟩
          case rest =>
            clear HC13
            try clear c1
            try clear c2
            try clear p2
            try clear c5
            try clear c6
            try clear p6
            try clear c9
            try clear c9b0
            try clear c9b1
            try clear c12
            try clear c14
            try clear c14b0
            try clear c15
            try clear c16
            try clear c17
            try clear c17b0
            try clear c17b1
            try clear c18
            try clear c20
            try clear c20b0
            try clear c20b1
            try clear c21
            try clear p2
            try clear p6
            obtain ⟨kq, x7_12, x8_12, rfl, rfl, HA, HJ12, ⟨mc12, rfl⟩⟩ := hcut
            cases kq with
            | zero => exact absurd HA.out (by simp [chatelainelaw02_GfTimes.j2])
            | succ kj12 =>
              have H := HA.out
              clear HA
              simp only [chatelainelaw02_GfTimes.j2] at H
              by_cases c22 : x8_12 > 300
              · rw [if_pos c22] at H
                have c22b0 : decide (300 < x8_12) = true := decide_eq_true c22
                clear c22
                obtain rfl := Option.some.inj H
                go_wp2
                go_ret
                exact ⟨by first | rfl | (simp; done) | (simp [*]; done), by repeat (first | exact Drawn0.refl _ | apply Drawn0.step)⟩
              · rw [if_neg c22] at H
                have c22b0 : decide (300 < x8_12) = false := decide_eq_false c22
                clear c22
                have H' := Aside0.mk H
                clear H
                go_wp2
                go_loopg [9, 61] kj12 (fun kq v9 v61 w' => ∃ (x9_3 : Int) (x61_3 : Int), v9 = .int .i64 x9_3 ∧ v61 = .int .i64 x61_3 ∧ Aside0 (chatelainelaw02_GfTimes.l0 kq a0 a2 x7_12 x9_3 x8_12 x61_3 = some r) ∧ Aside0 (kq ≤ kj12) ∧ Drawn0 w w')
                case atStart => exact ⟨(1), (0), (by first | rfl | (simp; done) | (simp [*]; done)), (by first | rfl | (simp; done) | (simp [*]; done)), H', ⟨Nat.le_refl _⟩, by repeat (first | exact Drawn0.refl _ | apply Drawn0.step)⟩
                case round =>
                  clear H'
                  try clear c1
                  try clear c2
                  try clear p2
                  try clear c5
                  try clear c6
                  try clear p6
                  try clear c9
                  try clear c9b0
                  try clear c9b1
                  try clear c12
                  try clear c14
                  try clear c14b0
                  try clear c15
                  try clear c16
                  try clear c17
                  try clear c17b0
                  try clear c17b1
                  try clear c18
                  try clear c20
                  try clear c20b0
                  try clear c20b1
                  try clear c21
                  try clear c22
                  try clear c22b0
                  try clear p2
                  try clear p6
                  obtain ⟨x9_3, x61_3, rfl, rfl, HA, HK3, ⟨m3, rfl⟩⟩ := hrel
                  cases gk with
                  | zero => exact absurd HA.out (by simp [chatelainelaw02_GfTimes.l0])
                  | succ k3 =>
                    have H := HA.out
                    clear HA
                    simp only [chatelainelaw02_GfTimes.l0] at H
                    by_cases c23 : x61_3 < x8_12
                    · rw [if_pos c23] at H
                      have c23b0 : decide (x61_3 < x8_12) = true := decide_eq_true c23
                      clear c23
                      replace H := Option.bind_eq_some_iff.mp H
                      obtain ⟨t119, A240, H⟩ := H
                      replace H : (chatelainelaw02_GfTimes.l0 k3 a0 a2 x7_12 t119 x8_12 (wrap64 (x61_3 + 1))) = some r := H
                      have A24 := Aside0.mk A240
                      clear A240
                      have H' := Aside0.mk H
                      clear H
                      go_wp2_with (first | ((with_reducible refine gate_callee (f := 21) rfl ?_); refine goesL_ (some 65) rfl rfl Try.func21 (by kernel_rfl) rfl #[.int .i64 x9_3, .int .i64 x7_12] rfl (by (try simp only [List.map_toArray, List.map_cons, List.map_nil]); first | done | rfl | (simp only [List.length_drop, List.length_take]; rfl)) ?_; (with_reducible refine (chatelaineref02_Times.calls k3 x9_3 x7_12 t119 _ A24.out).mono ?_); rintro e w' ⟨rfl, ⟨nd, rfl⟩⟩; refine ⟨_, rfl, ?_⟩))
                      go_roundg k3
                      case measure => have := HJ5.out; have := HJ12.out; have := HK3.out; omega
                      case rel => exact ⟨(t119), (wrap64 (x61_3 + 1)), (by first | rfl | (simp; done) | (simp [*]; done)), (by first | rfl | (simp; done) | (simp [*]; done)), H', ⟨by have := HJ5.out; have := HJ12.out; have := HK3.out; omega⟩, by repeat (first | exact Drawn0.refl _ | apply Drawn0.step)⟩
                    · rw [if_neg c23] at H
                      have c23b0 : decide (x61_3 < x8_12) = false := decide_eq_false c23
                      clear c23
                      replace H := Option.bind_eq_some_iff.mp H
                      obtain ⟨t120, A250, H⟩ := H
                      replace H : (some ((wrap64 (t120)) == x9_3)) = some r := H
                      have A25 := Aside0.mk A250
                      clear A250
                      obtain rfl := Option.some.inj H
                      go_wp2_with (first | ((with_reducible refine gate_callee (f := 24) rfl ?_); refine goesL_ (some 69) rfl rfl Try.func24 (by kernel_rfl) rfl #[.int .u8 a0, .int .i64 a2] rfl (by (try simp only [List.map_toArray, List.map_cons, List.map_nil]); first | done | rfl | (simp only [List.length_drop, List.length_take]; rfl)) ?_; (with_reducible refine (gf_Power.calls k3 a0 a2 t120 _ A25.out).mono ?_); rintro e w' ⟨rfl, ⟨nd, rfl⟩⟩; refine ⟨_, rfl, ?_⟩))
                      go_ret
                      exact ⟨by first | rfl | (simp; done) | (simp [*]; done), by repeat (first | exact Drawn0.refl _ | apply Drawn0.step)⟩
  · replace c5 := Bool.eq_false_iff.mpr c5
    subst c5
    have H1 : (some false) = some r := by rw [if_neg (show ¬ (false = true) by decide)] at H; exact H
    clear H
    have H := H1
    clear H1
    obtain rfl := Option.some.inj H
    go_enter Try.func6, Try.ntmps6
    go_wp2_with (first | ((with_reducible refine gate_callee (f := 16) rfl ?_); refine goesL_ (some 10) rfl rfl Try.func16 (by kernel_rfl) rfl #[] rfl (by (try simp only [List.map_toArray, List.map_cons, List.map_nil]); first | done | rfl | (simp only [List.length_drop, List.length_take]; rfl)) ?_; (with_reducible refine (chatelainelaw02_awake.calls k  false _ A4.out).mono ?_); rintro e w' ⟨rfl, ⟨nd, rfl⟩⟩; refine ⟨_, rfl, ?_⟩))
    go_ret
    exact ⟨by first | rfl | (simp; done) | (simp [*]; done), by repeat (first | exact Drawn0.refl _ | apply Drawn0.step)⟩

/-- THE ONE PURE STATEMENT of chatelainelaw02_GfTimes: yours. -/
def chatelainelaw02_GfTimes.Pure : Prop := ∀ (a0 : Int) (a1 : Int) (a2 : Int), (Lit.int .u8 a0).wf = true → (Lit.int .u8 a1).wf = true → (Lit.int .i64 a2).wf = true → ∃ k, chatelainelaw02_GfTimes.f k a0 a1 a2 = some true
theorem chatelainelaw02_GfTimes.walk (P : chatelainelaw02_GfTimes.Pure) (a0 : Int) (a1 : Int) (a2 : Int) (w : World) (w0 : (Lit.int .u8 a0).wf = true) (w1 : (Lit.int .u8 a1).wf = true) (w2 : (Lit.int .i64 a2).wf = true) :
    Calls Try.prog 6 #[.int .u8 a0, .int .u8 a1, .int .i64 a2] w fun e w' => e = .returned (.bool true) ∧ Below w.heap.size w w' := by
  obtain ⟨k, h⟩ := P a0 a1 a2 w0 w1 w2
  refine (chatelainelaw02_GfTimes.calls k a0 a1 a2 true w h).mono ?_
  rintro e w' ⟨rfl, hd⟩
  exact ⟨rfl, hd.below⟩

end Go.Proofs.Ytphoelhelmnibaa.PGfTimes
