/- The walks of the functions of layer 45, one by one, and what they answer. -/
import Derived.Test.YtphoelhelmnibaaPQx0
import Derived.Test.YtphoelhelmnibaaPQx5
namespace Go.Proofs.Ytphoelhelmnibaa.PQ
open Go.RowKit Go.Proofs.YtphoelhelmnibaaW.PrintWords Go.Proofs.YtphoelhelmnibaaW.PrintLast Go.Proofs.YtphoelhelmnibaaW.PrintMore
attribute [local go_sem] max2_int min2_int max_two min_two max_three min_three max_four min_four   -- for this text's walks alone
set_option linter.unusedVariables false
set_option linter.unusedSimpArgs false

/-! ### chatelaineref45_Right: function 41 -/
mutual
def chatelaineref45_Right.j0 : Nat → List (S54) → Bool → Option (Bool)
  | 0, _, _ => none
  | k + 1, x0, x12 => if x12 = true then (some false) else (chatelaineref45_Right.l0 k x0 0)
def chatelaineref45_Right.l0 : Nat → List (S54) → Int → Option (Bool)
  | 0, _, _ => none
  | k + 1, x0, x3 => if x3 < (x0.length : Int) then (if 0 ≤ x3 then (if ((rd_T54 x0 x3).f0) = 0 then (chatelaineref45_Right.j2 k x0 x3 true) else (if 0 < (x0.length : Int) then (if (((rd_T54 x0 x3).f1).length : Int) = (((rd_T54 x0 0).f1).length : Int) then (if (((rd_T54 x0 x3).f1).length : Int) = 0 then (chatelaineref45_Right.j2 k x0 x3 true) else (chatelaineref45_Right.j2 k x0 x3 (decide ((((rd_T54 x0 x3).f1).length : Int) > 256)))) else (chatelaineref45_Right.j2 k x0 x3 true)) else (none))) else (none)) else (some true)
def chatelaineref45_Right.j2 : Nat → List (S54) → Int → Bool → Option (Bool)
  | 0, _, _, _ => none
  | k + 1, x0, x3, x56 => if x56 = true then (some false) else (chatelaineref45_Right.l1 k x0 x3 0)
def chatelaineref45_Right.l1 : Nat → List (S54) → Int → Int → Option (Bool)
  | 0, _, _, _ => none
  | k + 1, x0, x3, x4 => if x4 < x3 then (if 0 ≤ x4 then (if x4 < (x0.length : Int) then (if 0 ≤ x3 then (if x3 < (x0.length : Int) then (if ((rd_T54 x0 x4).f0) = ((rd_T54 x0 x3).f0) then (some false) else (chatelaineref45_Right.l1 k x0 x3 (wrap64 (x4 + 1)))) else (none)) else (none)) else (none)) else (none)) else (chatelaineref45_Right.l0 k x0 (wrap64 (x3 + 1)))
end
def chatelaineref45_Right.f (k : Nat) (l0 : List (S54)) : Option (Bool) := if (l0.length : Int) = 0 then (chatelaineref45_Right.j0 k l0 true) else (chatelaineref45_Right.j0 k l0 (decide ((l0.length : Int) > 255)))
theorem chatelaineref45_Right.mono_l : ∀ k, (∀ y0 y1, LeO (chatelaineref45_Right.j0 k y0 y1) (chatelaineref45_Right.j0 (k + 1) y0 y1)) ∧ (∀ y0 y1, LeO (chatelaineref45_Right.l0 k y0 y1) (chatelaineref45_Right.l0 (k + 1) y0 y1)) ∧ (∀ y0 y1 y2, LeO (chatelaineref45_Right.j2 k y0 y1 y2) (chatelaineref45_Right.j2 (k + 1) y0 y1 y2)) ∧ (∀ y0 y1 y2, LeO (chatelaineref45_Right.l1 k y0 y1 y2) (chatelaineref45_Right.l1 (k + 1) y0 y1 y2))
  | 0 => ⟨fun _ _ r h => by simp [chatelaineref45_Right.j0] at h, fun _ _ r h => by simp [chatelaineref45_Right.l0] at h, fun _ _ _ r h => by simp [chatelaineref45_Right.j2] at h, fun _ _ _ r h => by simp [chatelaineref45_Right.l1] at h⟩
  | k + 1 => by
    obtain ⟨ih0, ih1, ih2, ih3⟩ := chatelaineref45_Right.mono_l k
    refine ⟨?_, ?_, ?_, ?_⟩
    · intro y0 y1
      unfold chatelaineref45_Right.j0
      repeat' first
      | (with_reducible exact ih0 _ _)
      | (with_reducible exact ih1 _ _)
      | (with_reducible exact ih2 _ _ _)
      | (with_reducible exact ih3 _ _ _)
      | (with_reducible exact LeO.refl _)
      | (with_reducible exact LeO.none _)
      | (with_reducible refine LeO.ite ?_ ?_)
      | (with_reducible refine LeO.bind ?_ (fun _ => ?_))
      | exact ih0 _ _
      | exact ih1 _ _
      | exact ih2 _ _ _
      | exact ih3 _ _ _
      | exact LeO.none _
      | refine LeO.ite ?_ ?_
      | refine LeO.bind ?_ (fun _ => ?_)
    · intro y0 y1
      unfold chatelaineref45_Right.l0
      repeat' first
      | (with_reducible exact ih0 _ _)
      | (with_reducible exact ih1 _ _)
      | (with_reducible exact ih2 _ _ _)
      | (with_reducible exact ih3 _ _ _)
      | (with_reducible exact LeO.refl _)
      | (with_reducible exact LeO.none _)
      | (with_reducible refine LeO.ite ?_ ?_)
      | (with_reducible refine LeO.bind ?_ (fun _ => ?_))
      | exact ih0 _ _
      | exact ih1 _ _
      | exact ih2 _ _ _
      | exact ih3 _ _ _
      | exact LeO.none _
      | refine LeO.ite ?_ ?_
      | refine LeO.bind ?_ (fun _ => ?_)
    · intro y0 y1 y2
      unfold chatelaineref45_Right.j2
      repeat' first
      | (with_reducible exact ih0 _ _)
      | (with_reducible exact ih1 _ _)
      | (with_reducible exact ih2 _ _ _)
      | (with_reducible exact ih3 _ _ _)
      | (with_reducible exact LeO.refl _)
      | (with_reducible exact LeO.none _)
      | (with_reducible refine LeO.ite ?_ ?_)
      | (with_reducible refine LeO.bind ?_ (fun _ => ?_))
      | exact ih0 _ _
      | exact ih1 _ _
      | exact ih2 _ _ _
      | exact ih3 _ _ _
      | exact LeO.none _
      | refine LeO.ite ?_ ?_
      | refine LeO.bind ?_ (fun _ => ?_)
    · intro y0 y1 y2
      unfold chatelaineref45_Right.l1
      repeat' first
      | (with_reducible exact ih0 _ _)
      | (with_reducible exact ih1 _ _)
      | (with_reducible exact ih2 _ _ _)
      | (with_reducible exact ih3 _ _ _)
      | (with_reducible exact LeO.refl _)
      | (with_reducible exact LeO.none _)
      | (with_reducible refine LeO.ite ?_ ?_)
      | (with_reducible refine LeO.bind ?_ (fun _ => ?_))
      | exact ih0 _ _
      | exact ih1 _ _
      | exact ih2 _ _ _
      | exact ih3 _ _ _
      | exact LeO.none _
      | refine LeO.ite ?_ ?_
      | refine LeO.bind ?_ (fun _ => ?_)
theorem chatelaineref45_Right.mono : ∀ a0 k, LeO (chatelaineref45_Right.f k a0) (chatelaineref45_Right.f (k + 1) a0) := by
  intro a0 k
  obtain ⟨ih0, ih1, ih2, ih3⟩ := chatelaineref45_Right.mono_l k
  unfold chatelaineref45_Right.f
  repeat' first
      | (with_reducible exact ih0 _ _)
      | (with_reducible exact ih1 _ _)
      | (with_reducible exact ih2 _ _ _)
      | (with_reducible exact ih3 _ _ _)
      | (with_reducible exact LeO.refl _)
      | (with_reducible exact LeO.none _)
      | (with_reducible refine LeO.ite ?_ ?_)
      | (with_reducible refine LeO.bind ?_ (fun _ => ?_))
      | exact ih0 _ _
      | exact ih1 _ _
      | exact ih2 _ _ _
      | exact ih3 _ _ _
      | exact LeO.none _
      | refine LeO.ite ?_ ?_
      | refine LeO.bind ?_ (fun _ => ?_)
set_option maxHeartbeats 8000000 in
set_option maxRecDepth 100000 in
theorem chatelaineref45_Right.calls (k : Nat) (A0 : Option Addr) (c0 : Nat) (l0 : List (S54)) (r : Bool) (w : World) (hr0 : Kd.C k54 w A0 l0.length l0) (hc0 : l0.length ≤ c0) (h : chatelaineref45_Right.f k l0 = some r) :
    Calls Try.prog 41 #[.slice A0 l0.length c0] w fun e w' => e = .returned (.bool r) ∧ Drawn0 w w' := by
  have HR0 := Aside0.mk hr0
  have HC0 := Aside0.mk hc0
  clear hr0 hc0
  have H : (if (l0.length : Int) = 0 then (chatelaineref45_Right.j0 k l0 true) else (chatelaineref45_Right.j0 k l0 (decide ((l0.length : Int) > 255)))) = some r := h
  clear h
  have HC2 := Aside0.mk H
  clear H
  go_enter Try.func41, Try.ntmps41
  go_upto_region 1 with (fail)
  repeat (go_quiet (fail); go_upto_region 1 with (fail))
  go_cut [12] (fun v12 wc => ∃ (kq : Nat) (x12_1 : Bool), v12 = .bool x12_1 ∧ Aside0 (chatelaineref45_Right.j0 kq l0 x12_1 = some r) ∧ Aside0 (kq ≤ k) ∧ Drawn0 w wc)
  case first =>
    have H := HC2.out
    clear HC2
    by_cases c3 : (l0.length : Int) = 0
    · rw [if_pos c3] at H
      have c3b0 : ((l0.length : Int) == 0) = true := beq_iff_eq.mpr c3
      have c3b1 : ((l0.length : Int) != 0) = false := bne_eq_false_iff_eq.mpr c3
      clear c3
      (first | rw [c3b0] | (simp only [i64_w, i32_w]; rw [c3b0]) | skip)
      have H' := Aside0.mk H
      clear H
      go_wp2
      repeat (go_quiet (fail); try go_wp2)
      go_meet
      case rel => exact ⟨_, (true), (by first | rfl | (simp; done) | (simp [*]; done)), H', ⟨by first | omega | exact Nat.le_refl _⟩, by repeat (first | exact Drawn0.refl _ | apply Drawn0.step)⟩
    · rw [if_neg c3] at H
      have c3b0 : ((l0.length : Int) == 0) = false := beq_eq_false_iff_ne.mpr c3
      have c3b1 : ((l0.length : Int) != 0) = true := bne_iff_ne.mpr c3
      have c3b2 : ¬ (l0 = []) := fun h_ => c3 (by rw [h_]; rfl)
      (first | rw [c3b0] | (simp only [i64_w, i32_w]; rw [c3b0]) | skip)
      have H' := Aside0.mk H
      clear H
      go_wp2
      repeat (go_quiet (fail); try go_wp2)
      go_meet
      case rel => exact ⟨_, (decide ((l0.length : Int) > 255)), (by first | rfl | (simp; done) | (simp [*]; done)), H', ⟨by first | omega | exact Nat.le_refl _⟩, by repeat (first | exact Drawn0.refl _ | apply Drawn0.step)⟩
  case rest =>
    clear HC2
    try clear p2
    try clear c3
    try clear c3b0
    try clear c3b1
    try clear c3b2
    obtain ⟨kq, x12_1, rfl, HA, HJ1, ⟨mc1, rfl⟩⟩ := hcut
    cases kq with
    | zero => exact absurd HA.out (by simp [chatelaineref45_Right.j0])
    | succ kj1 =>
      have H := HA.out
      clear HA
      simp only [chatelaineref45_Right.j0] at H
      by_cases c4 : x12_1 = true
      · subst c4
        have H1 : (some false) = some r := by rw [if_pos rfl] at H; exact H
        clear H
        have H := H1
        clear H1
        obtain rfl := Option.some.inj H
        go_wp2
        repeat (go_quiet (fail); try go_wp2)
        go_ret
        exact ⟨by first | rfl | (simp; done) | (simp [*]; done), by repeat (first | exact Drawn0.refl _ | apply Drawn0.step)⟩
      · replace c4 := Bool.eq_false_iff.mpr c4
        subst c4
        have H1 : (chatelaineref45_Right.l0 kj1 l0 0) = some r := by rw [if_neg (show ¬ (false = true) by decide)] at H; exact H
        clear H
        have H := H1
        clear H1
        have H' := Aside0.mk H
        clear H
        go_wp2
        repeat (go_quiet (fail); try go_wp2)
        go_loopg [3] kj1 (fun kq v3 w' => ∃ (x3_2 : Int), v3 = .int .i64 x3_2 ∧ Aside0 (chatelaineref45_Right.l0 kq l0 x3_2 = some r) ∧ Aside0 (kq ≤ kj1) ∧ Drawn0 w w')
        case atStart => exact ⟨(0), (by first | rfl | (simp; done) | (simp [*]; done)), H', ⟨Nat.le_refl _⟩, by repeat (first | exact Drawn0.refl _ | apply Drawn0.step)⟩
        case round =>
          clear H'
          try clear c1
          try clear p2
          try clear c3
          try clear c3b0
          try clear c3b1
          try clear c3b2
          try clear c4
          try clear p2
          obtain ⟨x3_2, rfl, HA, HK2, ⟨m2, rfl⟩⟩ := hrel
          cases gk with
          | zero => exact absurd HA.out (by simp [chatelaineref45_Right.l0])
          | succ k2 =>
            have H := HA.out
            clear HA
            simp only [chatelaineref45_Right.l0] at H
            by_cases c5 : x3_2 < (l0.length : Int)
            · rw [if_pos c5] at H
              have c5b0 : decide (x3_2 < (l0.length : Int)) = true := decide_eq_true c5
              clear c5
              have HC6 := Aside0.mk H
              clear H
              go_upto_region 6 with (fail)
              repeat (go_quiet (fail); go_upto_region 6 with (fail))
              go_cut [56] (fun v56 wc => ∃ (kq : Nat) (x56_5 : Bool), v56 = .bool x56_5 ∧ Aside0 (chatelaineref45_Right.j2 kq l0 x3_2 x56_5 = some r) ∧ Aside0 (kq ≤ k2) ∧ Drawn0 w wc)
              case first =>
                have H := HC6.out
                clear HC6
                by_cases c7 : 0 ≤ x3_2
                · rw [if_pos c7] at H
                  have c7b0 : decide (0 ≤ x3_2) = true := decide_eq_true c7
                  clear c7
                  (first | rw [c7b0] | (simp only [i64_w, i32_w]; rw [c7b0]) | skip)
                  by_cases c8 : ((rd_T54 l0 x3_2).f0) = 0
                  · rw [if_pos c8] at H
                    have c8b0 : (((rd_T54 l0 x3_2).f0) == 0) = true := beq_iff_eq.mpr c8
                    have c8b1 : (((rd_T54 l0 x3_2).f0) != 0) = false := bne_eq_false_iff_eq.mpr c8
                    clear c8
                    have H' := Aside0.mk H
                    clear H
                    have p301 : 0 ≤ (x3_2 : Int) := of_decide_eq_true (by first | (with_reducible assumption) | assumption)
                    have q301 : x3_2 < (l0.length : Int) := of_decide_eq_true (by first | (with_reducible assumption) | assumption)
                    obtain ⟨ad301, A301_1, c301_1, e301, hx301_0, hx301_1, hl301_1, hi301_1⟩ := at_T54 HR0.out x3_2 p301 q301
                    cases e301
                    have HR301_1 := Aside0.mk hi301_1
                    have HC301_1 := Aside0.mk hl301_1
                    clear hi301_1 hl301_1
                    replace p301 := eq_true p301
                    replace q301 := eq_true q301
                    go_wp2
                    repeat (go_quiet (fail); try go_wp2)
                    go_meet
                    case rel => exact ⟨_, (true), (by first | rfl | (simp; done) | (simp [*]; done)), H', ⟨by have := HJ1.out; have := HK2.out; first | omega | exact Nat.le_refl _⟩, by repeat (first | exact Drawn0.refl _ | apply Drawn0.step)⟩
                  · rw [if_neg c8] at H
                    have c8b0 : (((rd_T54 l0 x3_2).f0) == 0) = false := beq_eq_false_iff_ne.mpr c8
                    have c8b1 : (((rd_T54 l0 x3_2).f0) != 0) = true := bne_iff_ne.mpr c8
                    by_cases c9 : 0 < (l0.length : Int)
                    · rw [if_pos c9] at H
                      have c9b0 : decide (0 < (l0.length : Int)) = true := decide_eq_true c9
                      have c9b1 : decide (0 < l0.length) = true := decide_eq_true (by omega)
                      clear c9
                      by_cases c10 : (((rd_T54 l0 x3_2).f1).length : Int) = (((rd_T54 l0 0).f1).length : Int)
                      · rw [if_pos c10] at H
                        have c10b0 : ((((rd_T54 l0 x3_2).f1).length : Int) == (((rd_T54 l0 0).f1).length : Int)) = true := beq_iff_eq.mpr c10
                        have c10b1 : ((((rd_T54 l0 x3_2).f1).length : Int) != (((rd_T54 l0 0).f1).length : Int)) = false := bne_eq_false_iff_eq.mpr c10
                        have c10b2 : (((rd_T54 l0 x3_2).f1).length == ((rd_T54 l0 0).f1).length) = true := by first | simpa using c10 | (simp at c10 ⊢; omega)
                        clear c10
                        by_cases c11 : (((rd_T54 l0 x3_2).f1).length : Int) = 0
                        · rw [if_pos c11] at H
                          have c11b0 : ((((rd_T54 l0 x3_2).f1).length : Int) == 0) = true := beq_iff_eq.mpr c11
                          have c11b1 : ((((rd_T54 l0 x3_2).f1).length : Int) != 0) = false := bne_eq_false_iff_eq.mpr c11
                          clear c11
                          have H' := Aside0.mk H
                          clear H
                          have p301 : 0 ≤ (x3_2 : Int) := of_decide_eq_true (by first | (with_reducible assumption) | assumption)
                          have q301 : x3_2 < (l0.length : Int) := of_decide_eq_true (by first | (with_reducible assumption) | assumption)
                          obtain ⟨ad301, A301_1, c301_1, e301, hx301_0, hx301_1, hl301_1, hi301_1⟩ := at_T54 HR0.out x3_2 p301 q301
                          cases e301
                          have HR301_1 := Aside0.mk hi301_1
                          have HC301_1 := Aside0.mk hl301_1
                          clear hi301_1 hl301_1
                          replace p301 := eq_true p301
                          replace q301 := eq_true q301
                          have p302 : 0 ≤ (x3_2 : Int) := of_decide_eq_true (by first | (with_reducible assumption) | assumption)
                          have q302 : x3_2 < (l0.length : Int) := of_decide_eq_true (by first | (with_reducible assumption) | assumption)
                          obtain ⟨ad302, A302_1, c302_1, e302, hx302_0, hx302_1, hl302_1, hi302_1⟩ := at_T54 HR0.out x3_2 p302 q302
                          obtain rfl : ad301 = ad302 := (by injection e302)
                          have HR302_1 := Aside0.mk hi302_1
                          have HC302_1 := Aside0.mk hl302_1
                          clear hi302_1 hl302_1
                          replace p302 := eq_true p302
                          replace q302 := eq_true q302
                          have ea_ := Option.some.inj (hx301_1.symm.trans hx302_1)
                          injection ea_ with ea_ en_ ec_
                          subst ea_
                          subst ec_
                          clear en_
                          have p303 : 0 ≤ (0 : Int) := (by omega)
                          have q303 : 0 < (l0.length : Int) := of_decide_eq_true (by first | (with_reducible assumption) | assumption)
                          obtain ⟨ad303, A303_1, c303_1, e303, hx303_0, hx303_1, hl303_1, hi303_1⟩ := at_T54 HR0.out 0 p303 q303
                          obtain rfl : ad301 = ad303 := (by injection e303)
                          have qi303 : (0 < l0.length) = True := eq_true (by omega)
                          (try rw [show ((0 : Int)).toNat = 0 from rfl] at hx303_0)
                          (try rw [show 0 * 2 = 0 from rfl] at hx303_0)
                          (try rw [Addr.add_zero'] at hx303_0)
                          (try rw [show ((0 : Int)).toNat = 0 from rfl] at hx303_1)
                          (try rw [show 0 * 2 = 0 from rfl] at hx303_1)
                          (try rw [Addr.add_zero'] at hx303_1)
                          have HR303_1 := Aside0.mk hi303_1
                          have HC303_1 := Aside0.mk hl303_1
                          clear hi303_1 hl303_1
                          replace p303 := eq_true p303
                          replace q303 := eq_true q303
                          have p304 : 0 ≤ (x3_2 : Int) := of_decide_eq_true (by first | (with_reducible assumption) | assumption)
                          have q304 : x3_2 < (l0.length : Int) := of_decide_eq_true (by first | (with_reducible assumption) | assumption)
                          obtain ⟨ad304, A304_1, c304_1, e304, hx304_0, hx304_1, hl304_1, hi304_1⟩ := at_T54 HR0.out x3_2 p304 q304
                          obtain rfl : ad301 = ad304 := (by injection e304)
                          have HR304_1 := Aside0.mk hi304_1
                          have HC304_1 := Aside0.mk hl304_1
                          clear hi304_1 hl304_1
                          replace p304 := eq_true p304
                          replace q304 := eq_true q304
                          have ea_ := Option.some.inj (hx301_1.symm.trans hx304_1)
                          injection ea_ with ea_ en_ ec_
                          subst ea_
                          subst ec_
                          clear en_
                          go_wp2
                          repeat (go_quiet (fail); try go_wp2)
                          go_meet
                          case rel => exact ⟨_, (true), (by first | rfl | (simp; done) | (simp [*]; done)), H', ⟨by have := HJ1.out; have := HK2.out; first | omega | exact Nat.le_refl _⟩, by repeat (first | exact Drawn0.refl _ | apply Drawn0.step)⟩
                        · rw [if_neg c11] at H
                          have c11b0 : ((((rd_T54 l0 x3_2).f1).length : Int) == 0) = false := beq_eq_false_iff_ne.mpr c11
                          have c11b1 : ((((rd_T54 l0 x3_2).f1).length : Int) != 0) = true := bne_iff_ne.mpr c11
                          have c11b2 : ¬ (((rd_T54 l0 x3_2).f1) = []) := fun h_ => c11 (by rw [h_]; rfl)
                          have H' := Aside0.mk H
                          clear H
                          have p301 : 0 ≤ (x3_2 : Int) := of_decide_eq_true (by first | (with_reducible assumption) | assumption)
                          have q301 : x3_2 < (l0.length : Int) := of_decide_eq_true (by first | (with_reducible assumption) | assumption)
                          obtain ⟨ad301, A301_1, c301_1, e301, hx301_0, hx301_1, hl301_1, hi301_1⟩ := at_T54 HR0.out x3_2 p301 q301
                          cases e301
                          have HR301_1 := Aside0.mk hi301_1
                          have HC301_1 := Aside0.mk hl301_1
                          clear hi301_1 hl301_1
                          replace p301 := eq_true p301
                          replace q301 := eq_true q301
                          have p302 : 0 ≤ (x3_2 : Int) := of_decide_eq_true (by first | (with_reducible assumption) | assumption)
                          have q302 : x3_2 < (l0.length : Int) := of_decide_eq_true (by first | (with_reducible assumption) | assumption)
                          obtain ⟨ad302, A302_1, c302_1, e302, hx302_0, hx302_1, hl302_1, hi302_1⟩ := at_T54 HR0.out x3_2 p302 q302
                          obtain rfl : ad301 = ad302 := (by injection e302)
                          have HR302_1 := Aside0.mk hi302_1
                          have HC302_1 := Aside0.mk hl302_1
                          clear hi302_1 hl302_1
                          replace p302 := eq_true p302
                          replace q302 := eq_true q302
                          have ea_ := Option.some.inj (hx301_1.symm.trans hx302_1)
                          injection ea_ with ea_ en_ ec_
                          subst ea_
                          subst ec_
                          clear en_
                          have p303 : 0 ≤ (0 : Int) := (by omega)
                          have q303 : 0 < (l0.length : Int) := of_decide_eq_true (by first | (with_reducible assumption) | assumption)
                          obtain ⟨ad303, A303_1, c303_1, e303, hx303_0, hx303_1, hl303_1, hi303_1⟩ := at_T54 HR0.out 0 p303 q303
                          obtain rfl : ad301 = ad303 := (by injection e303)
                          have qi303 : (0 < l0.length) = True := eq_true (by omega)
                          (try rw [show ((0 : Int)).toNat = 0 from rfl] at hx303_0)
                          (try rw [show 0 * 2 = 0 from rfl] at hx303_0)
                          (try rw [Addr.add_zero'] at hx303_0)
                          (try rw [show ((0 : Int)).toNat = 0 from rfl] at hx303_1)
                          (try rw [show 0 * 2 = 0 from rfl] at hx303_1)
                          (try rw [Addr.add_zero'] at hx303_1)
                          have HR303_1 := Aside0.mk hi303_1
                          have HC303_1 := Aside0.mk hl303_1
                          clear hi303_1 hl303_1
                          replace p303 := eq_true p303
                          replace q303 := eq_true q303
                          have p304 : 0 ≤ (x3_2 : Int) := of_decide_eq_true (by first | (with_reducible assumption) | assumption)
                          have q304 : x3_2 < (l0.length : Int) := of_decide_eq_true (by first | (with_reducible assumption) | assumption)
                          obtain ⟨ad304, A304_1, c304_1, e304, hx304_0, hx304_1, hl304_1, hi304_1⟩ := at_T54 HR0.out x3_2 p304 q304
                          obtain rfl : ad301 = ad304 := (by injection e304)
                          have HR304_1 := Aside0.mk hi304_1
                          have HC304_1 := Aside0.mk hl304_1
                          clear hi304_1 hl304_1
                          replace p304 := eq_true p304
                          replace q304 := eq_true q304
                          have ea_ := Option.some.inj (hx301_1.symm.trans hx304_1)
                          injection ea_ with ea_ en_ ec_
                          subst ea_
                          subst ec_
                          clear en_
                          have p305 : 0 ≤ (x3_2 : Int) := of_decide_eq_true (by first | (with_reducible assumption) | assumption)
                          have q305 : x3_2 < (l0.length : Int) := of_decide_eq_true (by first | (with_reducible assumption) | assumption)
                          obtain ⟨ad305, A305_1, c305_1, e305, hx305_0, hx305_1, hl305_1, hi305_1⟩ := at_T54 HR0.out x3_2 p305 q305
                          obtain rfl : ad301 = ad305 := (by injection e305)
                          have HR305_1 := Aside0.mk hi305_1
                          have HC305_1 := Aside0.mk hl305_1
                          clear hi305_1 hl305_1
                          replace p305 := eq_true p305
                          replace q305 := eq_true q305
                          have ea_ := Option.some.inj (hx301_1.symm.trans hx305_1)
                          injection ea_ with ea_ en_ ec_
                          subst ea_
                          subst ec_
                          clear en_
                          go_wp2
                          repeat (go_quiet (fail); try go_wp2)
                          go_meet
                          case rel => exact ⟨_, (decide ((((rd_T54 l0 x3_2).f1).length : Int) > 256)), (by first | rfl | (simp; done) | (simp [*]; done)), H', ⟨by have := HJ1.out; have := HK2.out; first | omega | exact Nat.le_refl _⟩, by repeat (first | exact Drawn0.refl _ | apply Drawn0.step)⟩
                      · rw [if_neg c10] at H
                        have c10b0 : ((((rd_T54 l0 x3_2).f1).length : Int) == (((rd_T54 l0 0).f1).length : Int)) = false := beq_eq_false_iff_ne.mpr c10
                        have c10b1 : ((((rd_T54 l0 x3_2).f1).length : Int) != (((rd_T54 l0 0).f1).length : Int)) = true := bne_iff_ne.mpr c10
                        have c10b2 : (((rd_T54 l0 x3_2).f1).length == ((rd_T54 l0 0).f1).length) = false := by first | simpa using c10 | (simp at c10 ⊢; omega)
                        have H' := Aside0.mk H
                        clear H
                        have p301 : 0 ≤ (x3_2 : Int) := of_decide_eq_true (by first | (with_reducible assumption) | assumption)
                        have q301 : x3_2 < (l0.length : Int) := of_decide_eq_true (by first | (with_reducible assumption) | assumption)
                        obtain ⟨ad301, A301_1, c301_1, e301, hx301_0, hx301_1, hl301_1, hi301_1⟩ := at_T54 HR0.out x3_2 p301 q301
                        cases e301
                        have HR301_1 := Aside0.mk hi301_1
                        have HC301_1 := Aside0.mk hl301_1
                        clear hi301_1 hl301_1
                        replace p301 := eq_true p301
                        replace q301 := eq_true q301
                        have p302 : 0 ≤ (x3_2 : Int) := of_decide_eq_true (by first | (with_reducible assumption) | assumption)
                        have q302 : x3_2 < (l0.length : Int) := of_decide_eq_true (by first | (with_reducible assumption) | assumption)
                        obtain ⟨ad302, A302_1, c302_1, e302, hx302_0, hx302_1, hl302_1, hi302_1⟩ := at_T54 HR0.out x3_2 p302 q302
                        obtain rfl : ad301 = ad302 := (by injection e302)
                        have HR302_1 := Aside0.mk hi302_1
                        have HC302_1 := Aside0.mk hl302_1
                        clear hi302_1 hl302_1
                        replace p302 := eq_true p302
                        replace q302 := eq_true q302
                        have ea_ := Option.some.inj (hx301_1.symm.trans hx302_1)
                        injection ea_ with ea_ en_ ec_
                        subst ea_
                        subst ec_
                        clear en_
                        have p303 : 0 ≤ (0 : Int) := (by omega)
                        have q303 : 0 < (l0.length : Int) := of_decide_eq_true (by first | (with_reducible assumption) | assumption)
                        obtain ⟨ad303, A303_1, c303_1, e303, hx303_0, hx303_1, hl303_1, hi303_1⟩ := at_T54 HR0.out 0 p303 q303
                        obtain rfl : ad301 = ad303 := (by injection e303)
                        have qi303 : (0 < l0.length) = True := eq_true (by omega)
                        (try rw [show ((0 : Int)).toNat = 0 from rfl] at hx303_0)
                        (try rw [show 0 * 2 = 0 from rfl] at hx303_0)
                        (try rw [Addr.add_zero'] at hx303_0)
                        (try rw [show ((0 : Int)).toNat = 0 from rfl] at hx303_1)
                        (try rw [show 0 * 2 = 0 from rfl] at hx303_1)
                        (try rw [Addr.add_zero'] at hx303_1)
                        have HR303_1 := Aside0.mk hi303_1
                        have HC303_1 := Aside0.mk hl303_1
                        clear hi303_1 hl303_1
                        replace p303 := eq_true p303
                        replace q303 := eq_true q303
                        go_wp2
                        repeat (go_quiet (fail); try go_wp2)
                        go_meet
                        case rel => exact ⟨_, (true), (by first | rfl | (simp; done) | (simp [*]; done)), H', ⟨by have := HJ1.out; have := HK2.out; first | omega | exact Nat.le_refl _⟩, by repeat (first | exact Drawn0.refl _ | apply Drawn0.step)⟩
                    · rw [if_neg c9] at H
                      exact absurd H (by simp)
                · rw [if_neg c7] at H
                  exact absurd H (by simp)
              case rest =>
                clear HC6
                try clear c1
                try clear p2
                try clear c3
                try clear c3b0
                try clear c3b1
                try clear c3b2
                try clear p3
                try clear q3
                try clear hx3
                try clear qi3
                try clear c4
                try clear c5
                try clear c5b0
                try clear c7
                try clear c7b0
                try clear c8
                try clear c8b0
                try clear c8b1
                try clear c9
                try clear c9b0
                try clear c9b1
                try clear c10
                try clear c10b0
                try clear c10b1
                try clear c10b2
                try clear c11
                try clear c11b0
                try clear c11b1
                try clear c11b2
                try clear hx301_0
                try clear hx301_1
                try clear hx302_0
                try clear hx302_1
                try clear hx303_0
                try clear hx303_1
                try clear hx304_0
                try clear hx304_1
                try clear hx305_0
                try clear hx305_1
                try clear p2
                try clear p301
                try clear p302
                try clear p303
                try clear p304
                try clear p305
                try clear q301
                try clear q302
                try clear q303
                try clear q304
                try clear q305
                obtain ⟨kq, x56_5, rfl, HA, HJ5, ⟨mc5, rfl⟩⟩ := hcut
                cases kq with
                | zero => exact absurd HA.out (by simp [chatelaineref45_Right.j2])
                | succ kj5 =>
                  have H := HA.out
                  clear HA
                  simp only [chatelaineref45_Right.j2] at H
                  by_cases c12 : x56_5 = true
                  · subst c12
                    have H1 : (some false) = some r := by rw [if_pos rfl] at H; exact H
                    clear H
                    have H := H1
                    clear H1
                    obtain rfl := Option.some.inj H
                    go_wp2
                    repeat (go_quiet (fail); try go_wp2)
                    go_ret
                    exact ⟨by first | rfl | (simp; done) | (simp [*]; done), by repeat (first | exact Drawn0.refl _ | apply Drawn0.step)⟩
                  · replace c12 := Bool.eq_false_iff.mpr c12
                    subst c12
                    have H1 : (chatelaineref45_Right.l1 kj5 l0 x3_2 0) = some r := by rw [if_neg (show ¬ (false = true) by decide)] at H; exact H
                    clear H
                    have H := H1
                    clear H1
                    have H' := Aside0.mk H
                    clear H
                    go_wp2
                    repeat (go_quiet (fail); try go_wp2)
                    go_loopg [4] kj5 (fun kq v4 w' => ∃ (x4_4 : Int), v4 = .int .i64 x4_4 ∧ Aside0 (chatelaineref45_Right.l1 kq l0 x3_2 x4_4 = some r) ∧ Aside0 (kq ≤ kj5) ∧ Drawn0 w w')
                    case atStart => exact ⟨(0), (by first | rfl | (simp; done) | (simp [*]; done)), H', ⟨Nat.le_refl _⟩, by repeat (first | exact Drawn0.refl _ | apply Drawn0.step)⟩
                    case round =>
                      clear H'
                      try clear c1
                      try clear p2
                      try clear c3
                      try clear c3b0
                      try clear c3b1
                      try clear c3b2
                      try clear p3
                      try clear q3
                      try clear hx3
                      try clear qi3
                      try clear c4
                      try clear c5
                      try clear c5b0
                      try clear c7
                      try clear c7b0
                      try clear c8
                      try clear c8b0
                      try clear c8b1
                      try clear c9
                      try clear c9b0
                      try clear c9b1
                      try clear c10
                      try clear c10b0
                      try clear c10b1
                      try clear c10b2
                      try clear c11
                      try clear c11b0
                      try clear c11b1
                      try clear c11b2
                      try clear c12
                      try clear hx301_0
                      try clear hx301_1
                      try clear hx302_0
                      try clear hx302_1
                      try clear hx303_0
                      try clear hx303_1
                      try clear hx304_0
                      try clear hx304_1
                      try clear hx305_0
                      try clear hx305_1
                      try clear p2
                      try clear p3
                      try clear p301
                      try clear p302
                      try clear p303
                      try clear p304
                      try clear p305
                      try clear q3
                      try clear q301
                      try clear q302
                      try clear q303
                      try clear q304
                      try clear q305
                      obtain ⟨x4_4, rfl, HA, HK4, ⟨m4, rfl⟩⟩ := hrel
                      cases gk with
                      | zero => exact absurd HA.out (by simp [chatelaineref45_Right.l1])
                      | succ k4 =>
                        have H := HA.out
                        clear HA
                        simp only [chatelaineref45_Right.l1] at H
                        by_cases c13 : x4_4 < x3_2
                        · rw [if_pos c13] at H
                          have c13b0 : decide (x4_4 < x3_2) = true := decide_eq_true c13
                          clear c13
                          by_cases c14 : 0 ≤ x4_4
                          · rw [if_pos c14] at H
                            have c14b0 : decide (0 ≤ x4_4) = true := decide_eq_true c14
                            clear c14
                            by_cases c15 : x4_4 < (l0.length : Int)
                            · rw [if_pos c15] at H
                              have c15b0 : decide (x4_4 < (l0.length : Int)) = true := decide_eq_true c15
                              clear c15
                              by_cases c16 : 0 ≤ x3_2
                              · rw [if_pos c16] at H
                                have c16b0 : decide (0 ≤ x3_2) = true := decide_eq_true c16
                                clear c16
                                by_cases c17 : x3_2 < (l0.length : Int)
                                · rw [if_pos c17] at H
                                  have c17b0 : decide (x3_2 < (l0.length : Int)) = true := decide_eq_true c17
                                  clear c17
                                  by_cases c18 : ((rd_T54 l0 x4_4).f0) = ((rd_T54 l0 x3_2).f0)
                                  · rw [if_pos c18] at H
                                    have c18b0 : (((rd_T54 l0 x4_4).f0) == ((rd_T54 l0 x3_2).f0)) = true := beq_iff_eq.mpr c18
                                    have c18b1 : (((rd_T54 l0 x4_4).f0) != ((rd_T54 l0 x3_2).f0)) = false := bne_eq_false_iff_eq.mpr c18
                                    clear c18
                                    obtain rfl := Option.some.inj H
                                    have p306 : 0 ≤ (x4_4 : Int) := of_decide_eq_true (by first | (with_reducible assumption) | assumption)
                                    have q306 : x4_4 < (l0.length : Int) := of_decide_eq_true (by first | (with_reducible assumption) | assumption)
                                    obtain ⟨ad306, A306_1, c306_1, e306, hx306_0, hx306_1, hl306_1, hi306_1⟩ := at_T54 HR0.out x4_4 p306 q306
                                    cases e306
                                    have HR306_1 := Aside0.mk hi306_1
                                    have HC306_1 := Aside0.mk hl306_1
                                    clear hi306_1 hl306_1
                                    replace p306 := eq_true p306
                                    replace q306 := eq_true q306
                                    have p307 : 0 ≤ (x3_2 : Int) := of_decide_eq_true (by first | (with_reducible assumption) | assumption)
                                    have q307 : x3_2 < (l0.length : Int) := of_decide_eq_true (by first | (with_reducible assumption) | assumption)
                                    obtain ⟨ad307, A307_1, c307_1, e307, hx307_0, hx307_1, hl307_1, hi307_1⟩ := at_T54 HR0.out x3_2 p307 q307
                                    obtain rfl : ad306 = ad307 := (by injection e307)
                                    have HR307_1 := Aside0.mk hi307_1
                                    have HC307_1 := Aside0.mk hl307_1
                                    clear hi307_1 hl307_1
                                    replace p307 := eq_true p307
                                    replace q307 := eq_true q307
                                    go_wp2
                                    repeat (go_quiet (fail); try go_wp2)
                                    go_ret
                                    exact ⟨by first | rfl | (simp; done) | (simp [*]; done), by repeat (first | exact Drawn0.refl _ | apply Drawn0.step)⟩
                                  · rw [if_neg c18] at H
                                    have c18b0 : (((rd_T54 l0 x4_4).f0) == ((rd_T54 l0 x3_2).f0)) = false := beq_eq_false_iff_ne.mpr c18
                                    have c18b1 : (((rd_T54 l0 x4_4).f0) != ((rd_T54 l0 x3_2).f0)) = true := bne_iff_ne.mpr c18
                                    have H' := Aside0.mk H
                                    clear H
                                    have p306 : 0 ≤ (x4_4 : Int) := of_decide_eq_true (by first | (with_reducible assumption) | assumption)
                                    have q306 : x4_4 < (l0.length : Int) := of_decide_eq_true (by first | (with_reducible assumption) | assumption)
                                    obtain ⟨ad306, A306_1, c306_1, e306, hx306_0, hx306_1, hl306_1, hi306_1⟩ := at_T54 HR0.out x4_4 p306 q306
                                    cases e306
                                    have HR306_1 := Aside0.mk hi306_1
                                    have HC306_1 := Aside0.mk hl306_1
                                    clear hi306_1 hl306_1
                                    replace p306 := eq_true p306
                                    replace q306 := eq_true q306
                                    have p307 : 0 ≤ (x3_2 : Int) := of_decide_eq_true (by first | (with_reducible assumption) | assumption)
                                    have q307 : x3_2 < (l0.length : Int) := of_decide_eq_true (by first | (with_reducible assumption) | assumption)
                                    obtain ⟨ad307, A307_1, c307_1, e307, hx307_0, hx307_1, hl307_1, hi307_1⟩ := at_T54 HR0.out x3_2 p307 q307
                                    obtain rfl : ad306 = ad307 := (by injection e307)
                                    have HR307_1 := Aside0.mk hi307_1
                                    have HC307_1 := Aside0.mk hl307_1
                                    clear hi307_1 hl307_1
                                    replace p307 := eq_true p307
                                    replace q307 := eq_true q307
                                    go_wp2
                                    repeat (go_quiet (fail); try go_wp2)
                                    go_roundg k4
                                    case measure => have := HJ1.out; have := HK2.out; have := HJ5.out; have := HK4.out; omega
                                    case rel => exact ⟨(wrap64 (x4_4 + 1)), (by first | rfl | (simp; done) | (simp [*]; done)), H', ⟨by have := HJ1.out; have := HK2.out; have := HJ5.out; have := HK4.out; omega⟩, by repeat (first | exact Drawn0.refl _ | apply Drawn0.step)⟩
                                · rw [if_neg c17] at H
                                  exact absurd H (by simp)
                              · rw [if_neg c16] at H
                                exact absurd H (by simp)
                            · rw [if_neg c15] at H
                              exact absurd H (by simp)
                          · rw [if_neg c14] at H
                            exact absurd H (by simp)
                        · rw [if_neg c13] at H
                          have c13b0 : decide (x4_4 < x3_2) = false := decide_eq_false c13
                          clear c13
                          have H' := Aside0.mk H
                          clear H
                          go_wp2
                          repeat (go_quiet (fail); try go_wp2)
                          go_roundg k4
                          case measure => have := HJ1.out; have := HK2.out; have := HJ5.out; have := HK4.out; omega
                          case rel => exact ⟨(wrap64 (x3_2 + 1)), (by first | rfl | (simp; done) | (simp [*]; done)), H', ⟨by have := HJ1.out; have := HK2.out; have := HJ5.out; have := HK4.out; omega⟩, by repeat (first | exact Drawn0.refl _ | apply Drawn0.step)⟩
            · rw [if_neg c5] at H
              have c5b0 : decide (x3_2 < (l0.length : Int)) = false := decide_eq_false c5
              clear c5
              obtain rfl := Option.some.inj H
              go_wp2
              repeat (go_quiet (fail); try go_wp2)
              go_ret
              exact ⟨by first | rfl | (simp; done) | (simp [*]; done), by repeat (first | exact Drawn0.refl _ | apply Drawn0.step)⟩

/-! ### chatelaineref02_Inverse: function 23 -/
def chatelaineref02_Inverse.l0 : Nat → Int → Int → Option (Int)
  | 0, _, _ => none
  | k + 1, x0, x3 => if x3 < 256 then ((chatelaineref02_Times.f k x0 x3).bind fun t308 => (if t308 = 1 then (some x3) else (chatelaineref02_Inverse.l0 k x0 (wrap64 (x3 + 1))))) else (some 0)
def chatelaineref02_Inverse.f (k : Nat) (a0 : Int) : Option (Int) := chatelaineref02_Inverse.l0 k a0 1
theorem chatelaineref02_Inverse.mono_l : ∀ k, (∀ y0 y1, LeO (chatelaineref02_Inverse.l0 k y0 y1) (chatelaineref02_Inverse.l0 (k + 1) y0 y1))
  | 0 => fun _ _ r h => by simp [chatelaineref02_Inverse.l0] at h
  | k + 1 => by
    have ih0 := chatelaineref02_Inverse.mono_l k
    · intro y0 y1
      unfold chatelaineref02_Inverse.l0
      repeat' first
      | (with_reducible exact ih0 _ _)
      | (with_reducible exact chatelaineref02_Times.mono _ _ _)
      | (with_reducible exact LeO.refl _)
      | (with_reducible exact LeO.none _)
      | (with_reducible refine LeO.ite ?_ ?_)
      | (with_reducible refine LeO.bind ?_ (fun _ => ?_))
      | exact ih0 _ _
      | exact chatelaineref02_Times.mono _ _ _
      | exact LeO.none _
      | refine LeO.ite ?_ ?_
      | refine LeO.bind ?_ (fun _ => ?_)
theorem chatelaineref02_Inverse.mono : ∀ a0 k, LeO (chatelaineref02_Inverse.f k a0) (chatelaineref02_Inverse.f (k + 1) a0) := by
  intro a0 k
  have ih0 := chatelaineref02_Inverse.mono_l k
  unfold chatelaineref02_Inverse.f
  repeat' first
      | (with_reducible exact ih0 _ _)
      | (with_reducible exact chatelaineref02_Times.mono _ _ _)
      | (with_reducible exact LeO.refl _)
      | (with_reducible exact LeO.none _)
      | (with_reducible refine LeO.ite ?_ ?_)
      | (with_reducible refine LeO.bind ?_ (fun _ => ?_))
      | exact ih0 _ _
      | exact chatelaineref02_Times.mono _ _ _
      | exact LeO.none _
      | refine LeO.ite ?_ ?_
      | refine LeO.bind ?_ (fun _ => ?_)
set_option maxHeartbeats 8000000 in
set_option maxRecDepth 100000 in
theorem chatelaineref02_Inverse.calls (k : Nat) (a0 : Int) (r : Int) (w : World) (h : chatelaineref02_Inverse.f k a0 = some r) :
    Calls Try.prog 23 #[.int .i64 a0] w fun e w' => e = .returned (.int .i64 r) ∧ Drawn0 w w' := by
  have H : (chatelaineref02_Inverse.l0 k a0 1) = some r := h
  clear h
  have H' := Aside0.mk H
  clear H
  go_enter Try.func23, Try.ntmps23
  go_wp2
  go_loopg [3] k (fun kq v3 w' => ∃ (x3_1 : Int), v3 = .int .i64 x3_1 ∧ Aside0 (chatelaineref02_Inverse.l0 kq a0 x3_1 = some r) ∧ Aside0 (kq ≤ k) ∧ Drawn0 w w')
  case atStart => exact ⟨(1), (by first | rfl | (simp; done) | (simp [*]; done)), H', ⟨Nat.le_refl _⟩, by repeat (first | exact Drawn0.refl _ | apply Drawn0.step)⟩
  case round =>
    clear H'
    obtain ⟨x3_1, rfl, HA, HK1, ⟨m1, rfl⟩⟩ := hrel
    cases gk with
    | zero => exact absurd HA.out (by simp [chatelaineref02_Inverse.l0])
    | succ k1 =>
      have H := HA.out
      clear HA
      simp only [chatelaineref02_Inverse.l0] at H
      by_cases c2 : x3_1 < 256
      · rw [if_pos c2] at H
        have c2b0 : decide (x3_1 < 256) = true := decide_eq_true c2
        clear c2
        replace H := Option.bind_eq_some_iff.mp H
        obtain ⟨t308, A30, H⟩ := H
        replace H : (if t308 = 1 then (some x3_1) else (chatelaineref02_Inverse.l0 k1 a0 (wrap64 (x3_1 + 1)))) = some r := H
        have A3 := Aside0.mk A30
        clear A30
        by_cases c4 : t308 = 1
        · rw [if_pos c4] at H
          have c4b0 : (t308 == 1) = true := beq_iff_eq.mpr c4
          have c4b1 : (t308 != 1) = false := bne_eq_false_iff_eq.mpr c4
          clear c4
          obtain rfl := Option.some.inj H
          go_wp2_with (first | ((with_reducible refine gate_callee (f := 21) rfl ?_); refine goesL_ (some 10) rfl rfl Try.func21 (by kernel_rfl) rfl #[.int .i64 a0, .int .i64 x3_1] rfl (by (try simp only [List.map_toArray, List.map_cons, List.map_nil]); first | done | rfl | (simp only [List.length_drop, List.length_take]; rfl)) ?_; (with_reducible refine (chatelaineref02_Times.calls k1 a0 x3_1 t308 _ A3.out).mono ?_); rintro e w' ⟨rfl, ⟨nd, rfl⟩⟩; refine ⟨_, rfl, ?_⟩))
          go_ret
          exact ⟨by first | rfl | (simp; done) | (simp [*]; done), by repeat (first | exact Drawn0.refl _ | apply Drawn0.step)⟩
        · rw [if_neg c4] at H
          have c4b0 : (t308 == 1) = false := beq_eq_false_iff_ne.mpr c4
          have c4b1 : (t308 != 1) = true := bne_iff_ne.mpr c4
          have H' := Aside0.mk H
          clear H
          go_wp2_with (first | ((with_reducible refine gate_callee (f := 21) rfl ?_); refine goesL_ (some 10) rfl rfl Try.func21 (by kernel_rfl) rfl #[.int .i64 a0, .int .i64 x3_1] rfl (by (try simp only [List.map_toArray, List.map_cons, List.map_nil]); first | done | rfl | (simp only [List.length_drop, List.length_take]; rfl)) ?_; (with_reducible refine (chatelaineref02_Times.calls k1 a0 x3_1 t308 _ A3.out).mono ?_); rintro e w' ⟨rfl, ⟨nd, rfl⟩⟩; refine ⟨_, rfl, ?_⟩))
          go_roundg k1
          case measure => have := HK1.out; omega
          case rel => exact ⟨(wrap64 (x3_1 + 1)), (by first | rfl | (simp; done) | (simp [*]; done)), H', ⟨by have := HK1.out; omega⟩, by repeat (first | exact Drawn0.refl _ | apply Drawn0.step)⟩
      · rw [if_neg c2] at H
        have c2b0 : decide (x3_1 < 256) = false := decide_eq_false c2
        clear c2
        obtain rfl := Option.some.inj H
        go_wp2
        go_ret
        exact ⟨by first | rfl | (simp; done) | (simp [*]; done), by repeat (first | exact Drawn0.refl _ | apply Drawn0.step)⟩

end Go.Proofs.Ytphoelhelmnibaa.PQ
