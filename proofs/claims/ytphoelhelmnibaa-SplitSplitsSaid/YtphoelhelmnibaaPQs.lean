/- The walk of SplitSplits, and what it answers. -/
import Derived.Test.YtphoelhelmnibaaPQx5
namespace Go.Proofs.Ytphoelhelmnibaa.PQ
open Go.RowKit Go.Proofs.YtphoelhelmnibaaW.PrintWords Go.Proofs.YtphoelhelmnibaaW.PrintLast Go.Proofs.YtphoelhelmnibaaW.PrintMore
attribute [local go_sem] max2_int min2_int max_two min_two max_three min_three max_four min_four   -- for this text's walks alone
set_option linter.unusedVariables false
set_option linter.unusedSimpArgs false

/-! ### chatelainelaw45_SplitSplits: function 10 -/
mutual
def chatelainelaw45_SplitSplits.j0 : Nat → List Int → Int → List (List Int) → List (S54) → Int → Int → Bool → Option (Bool)
  | 0, _, _, _, _, _, _, _ => none
  | k + 1, x0, x1, x2, x3, x4, x5, x30 => if x30 = true then (some true) else (if (x0.length : Int) ≥ 1 then (if x1 ≥ 1 then (if x1 ≤ 255 then (if x4 ≥ 1 then (if x4 ≤ x1 then (chatelainelaw45_SplitSplits.j1 k x0 x1 x2 x3 x5 ((x2.length : Int) == (wrap64 (x4 - 1)))) else (chatelainelaw45_SplitSplits.j1 k x0 x1 x2 x3 x5 false)) else (chatelainelaw45_SplitSplits.j1 k x0 x1 x2 x3 x5 false)) else (chatelainelaw45_SplitSplits.j1 k x0 x1 x2 x3 x5 false)) else (chatelainelaw45_SplitSplits.j1 k x0 x1 x2 x3 x5 false)) else (chatelainelaw45_SplitSplits.j1 k x0 x1 x2 x3 x5 false))
def chatelainelaw45_SplitSplits.j1 : Nat → List Int → Int → List (List Int) → List (S54) → Int → Bool → Option (Bool)
  | 0, _, _, _, _, _, _ => none
  | k + 1, x0, x1, x2, x7, x8, x9 => chatelainelaw45_SplitSplits.l0 k x0 x1 x2 x7 x8 x9 x2 (x2.length : Int) 0
def chatelainelaw45_SplitSplits.l0 : Nat → List Int → Int → List (List Int) → List (S54) → Int → Bool → List (List Int) → Int → Int → Option (Bool)
  | 0, _, _, _, _, _, _, _, _, _ => none
  | k + 1, x0, x1, x2, x7, x8, x9, x74, x75, x76 => if x76 < x75 then (if 0 ≤ x76 then (if x76 < (x74.length : Int) then (if x9 = true then (chatelainelaw45_SplitSplits.l0 k x0 x1 x2 x7 x8 (((rd_L1 x74 x76).length : Int) == (x0.length : Int)) x74 x75 (wrap64 (x76 + 1))) else (chatelainelaw45_SplitSplits.l0 k x0 x1 x2 x7 x8 false x74 x75 (wrap64 (x76 + 1)))) else (none)) else (none)) else (if x9 = true then (if x8 = 0 then (chatelainelaw45_SplitSplits.j3 k x0 x2 x7 ((x7.length : Int) != x1)) else (chatelainelaw45_SplitSplits.j3 k x0 x2 x7 true)) else (if x8 = 2 then (some ((x7.length : Int) == 0)) else (some false)))
def chatelainelaw45_SplitSplits.j3 : Nat → List Int → List (List Int) → List (S54) → Bool → Option (Bool)
  | 0, _, _, _, _ => none
  | k + 1, x0, x2, x7, x106 => if x106 = true then (some false) else (chatelainelaw45_SplitSplits.l1 k x0 x2 x7 (x7.length : Int) 0)
def chatelainelaw45_SplitSplits.l1 : Nat → List Int → List (List Int) → List (S54) → Int → Int → Option (Bool)
  | 0, _, _, _, _, _ => none
  | k + 1, x0, x2, x107, x108, x109 => if x109 < x108 then (if 0 ≤ x109 then (if x109 < (x107.length : Int) then (if (wrap64 ((rd_T54 x107 x109).f0)) = (wrap64 (x109 + 1)) then (chatelainelaw45_SplitSplits.j5 k x0 x2 x109 x107 x108 x109 ((((rd_T54 x107 x109).f1).length : Int) != (x0.length : Int)) ((rd_T54 x107 x109).f0) ((rd_T54 x107 x109).f1)) else (chatelainelaw45_SplitSplits.j5 k x0 x2 x109 x107 x108 x109 true ((rd_T54 x107 x109).f0) ((rd_T54 x107 x109).f1))) else (none)) else (none)) else (some true)
def chatelainelaw45_SplitSplits.j5 : Nat → List Int → List (List Int) → Int → List (S54) → Int → Int → Bool → Int → List Int → Option (Bool)
  | 0, _, _, _, _, _, _, _, _, _ => none
  | k + 1, x0, x2, x12, x107, x108, x109, x127, x223000, x223001 => if x127 = true then (some false) else (chatelainelaw45_SplitSplits.l2 k x0 x2 x12 x107 x108 x109 (x0.length : Int) 0 x223000 x223001)
def chatelainelaw45_SplitSplits.l2 : Nat → List Int → List (List Int) → Int → List (S54) → Int → Int → Int → Int → Int → List Int → Option (Bool)
  | 0, _, _, _, _, _, _, _, _, _, _ => none
  | k + 1, x0, x2, x12, x107, x108, x109, x129, x130, x223000, x223001 => if x130 < x129 then (if 0 ≤ x130 then (if x130 < (x223001.length : Int) then ((chatelaineref45_Row.f k x0 x2 x130).bind fun t224 => ((chatelaineref45_Value.f k t224 (wrap64 (x12 + 1))).bind fun t227 => (if (wrap64 (rd x223001 x130)) = t227 then (chatelainelaw45_SplitSplits.l2 k x0 x2 x12 x107 x108 x109 x129 (wrap64 (x130 + 1)) x223000 x223001) else (some false)))) else (none)) else (none)) else (chatelainelaw45_SplitSplits.l1 k x0 x2 x107 x108 (wrap64 (x109 + 1)))
end
def chatelainelaw45_SplitSplits.f (k : Nat) (l0 : List Int) (a1 : Int) (l2 : List (List Int)) (l3 : List (S54)) (a4 : Int) (a5 : Int) : Option (Bool) := (chatelainelaw45_awake.f k).bind fun t218 => (if t218 = true then ((chatelainelaw45_few.f k l0 l2).bind fun t219 => (if t219 = true then (if a1 > 20 then (chatelainelaw45_SplitSplits.j0 k l0 a1 l2 l3 a4 a5 (decide (a1 ≤ 255))) else (chatelainelaw45_SplitSplits.j0 k l0 a1 l2 l3 a4 a5 false)) else (chatelainelaw45_SplitSplits.j0 k l0 a1 l2 l3 a4 a5 true))) else (some false))
theorem chatelainelaw45_SplitSplits.mono_l : ∀ k, (∀ y0 y1 y2 y3 y4 y5 y6, LeO (chatelainelaw45_SplitSplits.j0 k y0 y1 y2 y3 y4 y5 y6) (chatelainelaw45_SplitSplits.j0 (k + 1) y0 y1 y2 y3 y4 y5 y6)) ∧ (∀ y0 y1 y2 y3 y4 y5, LeO (chatelainelaw45_SplitSplits.j1 k y0 y1 y2 y3 y4 y5) (chatelainelaw45_SplitSplits.j1 (k + 1) y0 y1 y2 y3 y4 y5)) ∧ (∀ y0 y1 y2 y3 y4 y5 y6 y7 y8, LeO (chatelainelaw45_SplitSplits.l0 k y0 y1 y2 y3 y4 y5 y6 y7 y8) (chatelainelaw45_SplitSplits.l0 (k + 1) y0 y1 y2 y3 y4 y5 y6 y7 y8)) ∧ (∀ y0 y1 y2 y3, LeO (chatelainelaw45_SplitSplits.j3 k y0 y1 y2 y3) (chatelainelaw45_SplitSplits.j3 (k + 1) y0 y1 y2 y3)) ∧ (∀ y0 y1 y2 y3 y4, LeO (chatelainelaw45_SplitSplits.l1 k y0 y1 y2 y3 y4) (chatelainelaw45_SplitSplits.l1 (k + 1) y0 y1 y2 y3 y4)) ∧ (∀ y0 y1 y2 y3 y4 y5 y6 y7 y8, LeO (chatelainelaw45_SplitSplits.j5 k y0 y1 y2 y3 y4 y5 y6 y7 y8) (chatelainelaw45_SplitSplits.j5 (k + 1) y0 y1 y2 y3 y4 y5 y6 y7 y8)) ∧ (∀ y0 y1 y2 y3 y4 y5 y6 y7 y8 y9, LeO (chatelainelaw45_SplitSplits.l2 k y0 y1 y2 y3 y4 y5 y6 y7 y8 y9) (chatelainelaw45_SplitSplits.l2 (k + 1) y0 y1 y2 y3 y4 y5 y6 y7 y8 y9))
  | 0 => ⟨fun _ _ _ _ _ _ _ r h => by simp [chatelainelaw45_SplitSplits.j0] at h, fun _ _ _ _ _ _ r h => by simp [chatelainelaw45_SplitSplits.j1] at h, fun _ _ _ _ _ _ _ _ _ r h => by simp [chatelainelaw45_SplitSplits.l0] at h, fun _ _ _ _ r h => by simp [chatelainelaw45_SplitSplits.j3] at h, fun _ _ _ _ _ r h => by simp [chatelainelaw45_SplitSplits.l1] at h, fun _ _ _ _ _ _ _ _ _ r h => by simp [chatelainelaw45_SplitSplits.j5] at h, fun _ _ _ _ _ _ _ _ _ _ r h => by simp [chatelainelaw45_SplitSplits.l2] at h⟩
  | k + 1 => by
    obtain ⟨ih0, ih1, ih2, ih3, ih4, ih5, ih6⟩ := chatelainelaw45_SplitSplits.mono_l k
    refine ⟨?_, ?_, ?_, ?_, ?_, ?_, ?_⟩
    · intro y0 y1 y2 y3 y4 y5 y6
      unfold chatelainelaw45_SplitSplits.j0
      repeat' first
      | (with_reducible exact ih0 _ _ _ _ _ _ _)
      | (with_reducible exact ih1 _ _ _ _ _ _)
      | (with_reducible exact ih2 _ _ _ _ _ _ _ _ _)
      | (with_reducible exact ih3 _ _ _ _)
      | (with_reducible exact ih4 _ _ _ _ _)
      | (with_reducible exact ih5 _ _ _ _ _ _ _ _ _)
      | (with_reducible exact ih6 _ _ _ _ _ _ _ _ _ _)
      | (with_reducible exact chatelainelaw45_awake.mono _)
      | (with_reducible exact chatelainelaw45_few.mono _ _ _)
      | (with_reducible exact chatelaineref45_Row.mono _ _ _ _)
      | (with_reducible exact chatelaineref45_Value.mono _ _ _)
      | (with_reducible exact LeO.refl _)
      | (with_reducible exact LeO.none _)
      | (with_reducible refine LeO.ite ?_ ?_)
      | (with_reducible refine LeO.bind ?_ (fun _ => ?_))
      | exact ih0 _ _ _ _ _ _ _
      | exact ih1 _ _ _ _ _ _
      | exact ih2 _ _ _ _ _ _ _ _ _
      | exact ih3 _ _ _ _
      | exact ih4 _ _ _ _ _
      | exact ih5 _ _ _ _ _ _ _ _ _
      | exact ih6 _ _ _ _ _ _ _ _ _ _
      | exact chatelainelaw45_awake.mono _
      | exact chatelainelaw45_few.mono _ _ _
      | exact chatelaineref45_Row.mono _ _ _ _
      | exact chatelaineref45_Value.mono _ _ _
      | exact LeO.none _
      | refine LeO.ite ?_ ?_
      | refine LeO.bind ?_ (fun _ => ?_)
    · intro y0 y1 y2 y3 y4 y5
      unfold chatelainelaw45_SplitSplits.j1
      repeat' first
      | (with_reducible exact ih0 _ _ _ _ _ _ _)
      | (with_reducible exact ih1 _ _ _ _ _ _)
      | (with_reducible exact ih2 _ _ _ _ _ _ _ _ _)
      | (with_reducible exact ih3 _ _ _ _)
      | (with_reducible exact ih4 _ _ _ _ _)
      | (with_reducible exact ih5 _ _ _ _ _ _ _ _ _)
      | (with_reducible exact ih6 _ _ _ _ _ _ _ _ _ _)
      | (with_reducible exact chatelainelaw45_awake.mono _)
      | (with_reducible exact chatelainelaw45_few.mono _ _ _)
      | (with_reducible exact chatelaineref45_Row.mono _ _ _ _)
      | (with_reducible exact chatelaineref45_Value.mono _ _ _)
      | (with_reducible exact LeO.refl _)
      | (with_reducible exact LeO.none _)
      | (with_reducible refine LeO.ite ?_ ?_)
      | (with_reducible refine LeO.bind ?_ (fun _ => ?_))
      | exact ih0 _ _ _ _ _ _ _
      | exact ih1 _ _ _ _ _ _
      | exact ih2 _ _ _ _ _ _ _ _ _
      | exact ih3 _ _ _ _
      | exact ih4 _ _ _ _ _
      | exact ih5 _ _ _ _ _ _ _ _ _
      | exact ih6 _ _ _ _ _ _ _ _ _ _
      | exact chatelainelaw45_awake.mono _
      | exact chatelainelaw45_few.mono _ _ _
      | exact chatelaineref45_Row.mono _ _ _ _
      | exact chatelaineref45_Value.mono _ _ _
      | exact LeO.none _
      | refine LeO.ite ?_ ?_
      | refine LeO.bind ?_ (fun _ => ?_)
    · intro y0 y1 y2 y3 y4 y5 y6 y7 y8
      unfold chatelainelaw45_SplitSplits.l0
      repeat' first
      | (with_reducible exact ih0 _ _ _ _ _ _ _)
      | (with_reducible exact ih1 _ _ _ _ _ _)
      | (with_reducible exact ih2 _ _ _ _ _ _ _ _ _)
      | (with_reducible exact ih3 _ _ _ _)
      | (with_reducible exact ih4 _ _ _ _ _)
      | (with_reducible exact ih5 _ _ _ _ _ _ _ _ _)
      | (with_reducible exact ih6 _ _ _ _ _ _ _ _ _ _)
      | (with_reducible exact chatelainelaw45_awake.mono _)
      | (with_reducible exact chatelainelaw45_few.mono _ _ _)
      | (with_reducible exact chatelaineref45_Row.mono _ _ _ _)
      | (with_reducible exact chatelaineref45_Value.mono _ _ _)
      | (with_reducible exact LeO.refl _)
      | (with_reducible exact LeO.none _)
      | (with_reducible refine LeO.ite ?_ ?_)
      | (with_reducible refine LeO.bind ?_ (fun _ => ?_))
      | exact ih0 _ _ _ _ _ _ _
      | exact ih1 _ _ _ _ _ _
      | exact ih2 _ _ _ _ _ _ _ _ _
      | exact ih3 _ _ _ _
      | exact ih4 _ _ _ _ _
      | exact ih5 _ _ _ _ _ _ _ _ _
      | exact ih6 _ _ _ _ _ _ _ _ _ _
      | exact chatelainelaw45_awake.mono _
      | exact chatelainelaw45_few.mono _ _ _
      | exact chatelaineref45_Row.mono _ _ _ _
      | exact chatelaineref45_Value.mono _ _ _
      | exact LeO.none _
      | refine LeO.ite ?_ ?_
      | refine LeO.bind ?_ (fun _ => ?_)
    · intro y0 y1 y2 y3
      unfold chatelainelaw45_SplitSplits.j3
      repeat' first
      | (with_reducible exact ih0 _ _ _ _ _ _ _)
      | (with_reducible exact ih1 _ _ _ _ _ _)
      | (with_reducible exact ih2 _ _ _ _ _ _ _ _ _)
      | (with_reducible exact ih3 _ _ _ _)
      | (with_reducible exact ih4 _ _ _ _ _)
      | (with_reducible exact ih5 _ _ _ _ _ _ _ _ _)
      | (with_reducible exact ih6 _ _ _ _ _ _ _ _ _ _)
      | (with_reducible exact chatelainelaw45_awake.mono _)
      | (with_reducible exact chatelainelaw45_few.mono _ _ _)
      | (with_reducible exact chatelaineref45_Row.mono _ _ _ _)
      | (with_reducible exact chatelaineref45_Value.mono _ _ _)
      | (with_reducible exact LeO.refl _)
      | (with_reducible exact LeO.none _)
      | (with_reducible refine LeO.ite ?_ ?_)
      | (with_reducible refine LeO.bind ?_ (fun _ => ?_))
      | exact ih0 _ _ _ _ _ _ _
      | exact ih1 _ _ _ _ _ _
      | exact ih2 _ _ _ _ _ _ _ _ _
      | exact ih3 _ _ _ _
      | exact ih4 _ _ _ _ _
      | exact ih5 _ _ _ _ _ _ _ _ _
      | exact ih6 _ _ _ _ _ _ _ _ _ _
      | exact chatelainelaw45_awake.mono _
      | exact chatelainelaw45_few.mono _ _ _
      | exact chatelaineref45_Row.mono _ _ _ _
      | exact chatelaineref45_Value.mono _ _ _
      | exact LeO.none _
      | refine LeO.ite ?_ ?_
      | refine LeO.bind ?_ (fun _ => ?_)
    · intro y0 y1 y2 y3 y4
      unfold chatelainelaw45_SplitSplits.l1
      repeat' first
      | (with_reducible exact ih0 _ _ _ _ _ _ _)
      | (with_reducible exact ih1 _ _ _ _ _ _)
      | (with_reducible exact ih2 _ _ _ _ _ _ _ _ _)
      | (with_reducible exact ih3 _ _ _ _)
      | (with_reducible exact ih4 _ _ _ _ _)
      | (with_reducible exact ih5 _ _ _ _ _ _ _ _ _)
      | (with_reducible exact ih6 _ _ _ _ _ _ _ _ _ _)
      | (with_reducible exact chatelainelaw45_awake.mono _)
      | (with_reducible exact chatelainelaw45_few.mono _ _ _)
      | (with_reducible exact chatelaineref45_Row.mono _ _ _ _)
      | (with_reducible exact chatelaineref45_Value.mono _ _ _)
      | (with_reducible exact LeO.refl _)
      | (with_reducible exact LeO.none _)
      | (with_reducible refine LeO.ite ?_ ?_)
      | (with_reducible refine LeO.bind ?_ (fun _ => ?_))
      | exact ih0 _ _ _ _ _ _ _
      | exact ih1 _ _ _ _ _ _
      | exact ih2 _ _ _ _ _ _ _ _ _
      | exact ih3 _ _ _ _
      | exact ih4 _ _ _ _ _
      | exact ih5 _ _ _ _ _ _ _ _ _
      | exact ih6 _ _ _ _ _ _ _ _ _ _
      | exact chatelainelaw45_awake.mono _
      | exact chatelainelaw45_few.mono _ _ _
      | exact chatelaineref45_Row.mono _ _ _ _
      | exact chatelaineref45_Value.mono _ _ _
      | exact LeO.none _
      | refine LeO.ite ?_ ?_
      | refine LeO.bind ?_ (fun _ => ?_)
    · intro y0 y1 y2 y3 y4 y5 y6 y7 y8
      unfold chatelainelaw45_SplitSplits.j5
      repeat' first
      | (with_reducible exact ih0 _ _ _ _ _ _ _)
      | (with_reducible exact ih1 _ _ _ _ _ _)
      | (with_reducible exact ih2 _ _ _ _ _ _ _ _ _)
      | (with_reducible exact ih3 _ _ _ _)
      | (with_reducible exact ih4 _ _ _ _ _)
      | (with_reducible exact ih5 _ _ _ _ _ _ _ _ _)
      | (with_reducible exact ih6 _ _ _ _ _ _ _ _ _ _)
      | (with_reducible exact chatelainelaw45_awake.mono _)
      | (with_reducible exact chatelainelaw45_few.mono _ _ _)
      | (with_reducible exact chatelaineref45_Row.mono _ _ _ _)
      | (with_reducible exact chatelaineref45_Value.mono _ _ _)
      | (with_reducible exact LeO.refl _)
      | (with_reducible exact LeO.none _)
      | (with_reducible refine LeO.ite ?_ ?_)
      | (with_reducible refine LeO.bind ?_ (fun _ => ?_))
      | exact ih0 _ _ _ _ _ _ _
      | exact ih1 _ _ _ _ _ _
      | exact ih2 _ _ _ _ _ _ _ _ _
      | exact ih3 _ _ _ _
      | exact ih4 _ _ _ _ _
      | exact ih5 _ _ _ _ _ _ _ _ _
      | exact ih6 _ _ _ _ _ _ _ _ _ _
      | exact chatelainelaw45_awake.mono _
      | exact chatelainelaw45_few.mono _ _ _
      | exact chatelaineref45_Row.mono _ _ _ _
      | exact chatelaineref45_Value.mono _ _ _
      | exact LeO.none _
      | refine LeO.ite ?_ ?_
      | refine LeO.bind ?_ (fun _ => ?_)
    · intro y0 y1 y2 y3 y4 y5 y6 y7 y8 y9
      unfold chatelainelaw45_SplitSplits.l2
      repeat' first
      | (with_reducible exact ih0 _ _ _ _ _ _ _)
      | (with_reducible exact ih1 _ _ _ _ _ _)
      | (with_reducible exact ih2 _ _ _ _ _ _ _ _ _)
      | (with_reducible exact ih3 _ _ _ _)
      | (with_reducible exact ih4 _ _ _ _ _)
      | (with_reducible exact ih5 _ _ _ _ _ _ _ _ _)
      | (with_reducible exact ih6 _ _ _ _ _ _ _ _ _ _)
      | (with_reducible exact chatelainelaw45_awake.mono _)
      | (with_reducible exact chatelainelaw45_few.mono _ _ _)
      | (with_reducible exact chatelaineref45_Row.mono _ _ _ _)
      | (with_reducible exact chatelaineref45_Value.mono _ _ _)
      | (with_reducible exact LeO.refl _)
      | (with_reducible exact LeO.none _)
      | (with_reducible refine LeO.ite ?_ ?_)
      | (with_reducible refine LeO.bind ?_ (fun _ => ?_))
      | exact ih0 _ _ _ _ _ _ _
      | exact ih1 _ _ _ _ _ _
      | exact ih2 _ _ _ _ _ _ _ _ _
      | exact ih3 _ _ _ _
      | exact ih4 _ _ _ _ _
      | exact ih5 _ _ _ _ _ _ _ _ _
      | exact ih6 _ _ _ _ _ _ _ _ _ _
      | exact chatelainelaw45_awake.mono _
      | exact chatelainelaw45_few.mono _ _ _
      | exact chatelaineref45_Row.mono _ _ _ _
      | exact chatelaineref45_Value.mono _ _ _
      | exact LeO.none _
      | refine LeO.ite ?_ ?_
      | refine LeO.bind ?_ (fun _ => ?_)
theorem chatelainelaw45_SplitSplits.mono : ∀ a0 a1 a2 a3 a4 a5 k, LeO (chatelainelaw45_SplitSplits.f k a0 a1 a2 a3 a4 a5) (chatelainelaw45_SplitSplits.f (k + 1) a0 a1 a2 a3 a4 a5) := by
  intro a0 a1 a2 a3 a4 a5 k
  obtain ⟨ih0, ih1, ih2, ih3, ih4, ih5, ih6⟩ := chatelainelaw45_SplitSplits.mono_l k
  unfold chatelainelaw45_SplitSplits.f
  repeat' first
      | (with_reducible exact ih0 _ _ _ _ _ _ _)
      | (with_reducible exact ih1 _ _ _ _ _ _)
      | (with_reducible exact ih2 _ _ _ _ _ _ _ _ _)
      | (with_reducible exact ih3 _ _ _ _)
      | (with_reducible exact ih4 _ _ _ _ _)
      | (with_reducible exact ih5 _ _ _ _ _ _ _ _ _)
      | (with_reducible exact ih6 _ _ _ _ _ _ _ _ _ _)
      | (with_reducible exact chatelainelaw45_awake.mono _)
      | (with_reducible exact chatelainelaw45_few.mono _ _ _)
      | (with_reducible exact chatelaineref45_Row.mono _ _ _ _)
      | (with_reducible exact chatelaineref45_Value.mono _ _ _)
      | (with_reducible exact LeO.refl _)
      | (with_reducible exact LeO.none _)
      | (with_reducible refine LeO.ite ?_ ?_)
      | (with_reducible refine LeO.bind ?_ (fun _ => ?_))
      | exact ih0 _ _ _ _ _ _ _
      | exact ih1 _ _ _ _ _ _
      | exact ih2 _ _ _ _ _ _ _ _ _
      | exact ih3 _ _ _ _
      | exact ih4 _ _ _ _ _
      | exact ih5 _ _ _ _ _ _ _ _ _
      | exact ih6 _ _ _ _ _ _ _ _ _ _
      | exact chatelainelaw45_awake.mono _
      | exact chatelainelaw45_few.mono _ _ _
      | exact chatelaineref45_Row.mono _ _ _ _
      | exact chatelaineref45_Value.mono _ _ _
      | exact LeO.none _
      | refine LeO.ite ?_ ?_
      | refine LeO.bind ?_ (fun _ => ?_)
def chatelainelaw45_SplitSplits.T24 : Bool × List (List Nat × List Nat) := (true, [([], []), ([0], [0]), ([], []), ([1, 2], [1, 2]), ([3], [3]), ([4], [4]), ([], []), ([], []), ([], []), ([6, 7, 8], [6, 7, 8]), ([], []), ([10], [10]), ([9, 11, 9], [9, 11]), ([5, 12], [5, 12])])
def chatelainelaw45_SplitSplits.B24 : List Nat := [0, 1, 0, 7, 15, 31, 0, 0, 0, 448, 0, 1024, 4032, 8191]
theorem chatelainelaw45_SplitSplits.tab24 : rtab .any (opsOf Try.f10 24) = chatelainelaw45_SplitSplits.T24 := by kernel_rfl
theorem chatelainelaw45_SplitSplits.bits24 : waitsOk chatelainelaw45_SplitSplits.T24.2 chatelainelaw45_SplitSplits.B24 = true := by kernel_rfl
set_option maxHeartbeats 8000000 in
set_option maxRecDepth 100000 in
theorem chatelainelaw45_SplitSplits.calls (k : Nat) (A0 : Option Addr) (c0 : Nat) (l0 : List Int) (a1 : Int) (A2 : Option Addr) (c2 : Nat) (l2 : List (List Int)) (l3 : List (S54)) (a4 : Int) (a5 : Int) (r : Bool) (w00 : World) (hr0 : Kd.C (Kd.int .u8) w00 A0 l0.length l0) (hc0 : l0.length ≤ c0) (hr2 : Kd.C (Kd.slice 5 (Kd.int .u8)) w00 A2 l2.length l2) (hc2 : l2.length ≤ c2) (hS : split_Split.f k l0 a1 a4 l2 = some (l3, a5)) (h : chatelainelaw45_SplitSplits.f k l0 a1 l2 l3 a4 a5 = some r) :
    Calls Try.prog 10 #[.slice A0 l0.length c0, .agg #[.int .i64 a1, .int .i64 a4], .slice A2 l2.length c2] w00 fun e w' => e = .returned (.bool r) ∧ Below w00.heap.size w00 w' := by
  have hu54 := Try.underlying54
  have HR0 := Aside0.mk hr0
  have HC0 := Aside0.mk hc0
  clear hr0 hc0
  have HR2 := Aside0.mk hr2
  have HC2 := Aside0.mk hc2
  clear hr2 hc2
  have HF := Aside0.mk h
  have HFS := Aside0.mk hS
  clear h hS
  go_enter Try.func10, Try.ntmps10
  go_upto_region 1 with (fail)
  have hblk_ : (w00.alloc (Obj.cells #[.int .i64 a1, .int .i64 a4] 46)).heap[w00.heap.size]? = some (.cells #[.int .i64 a1, .int .i64 a4] 46 (0, 0)) := by
    show (w00.heap.push _)[w00.heap.size]? = _
    exact Array.getElem?_push_size
  have HW := Aside0.mk (below_alloc (Below.refl w00.heap.size w00) (Obj.cells #[.int .i64 a1, .int .i64 a4] 46))
  have n0_ := Aside0.mk (Kd.C_below HR0.out HW.out)
  have n2_ := Aside0.mk (Kd.C_below HR2.out HW.out)
  clear HR0 HR2
  have HR0 := n0_
  have HR2 := n2_
  clear n0_ n2_
  generalize hw_ : w00.alloc (Obj.cells #[.int .i64 a1, .int .i64 a4] 46) = w at *
  clear hw_
  generalize hgb_ : w00.heap.size = gb at hblk_ ⊢
  clear hgb_
  have HS1 : Aside0 (w.cell? ⟨gb, 0, none⟩ = some (.int .i64 a1)) := ⟨(blk_cell hblk_ 0).trans rfl⟩
  have HS2 : Aside0 (w.cell? ⟨gb, 1, none⟩ = some (.int .i64 a4)) := ⟨(blk_cell hblk_ 1).trans rfl⟩
  clear hblk_
  have h := HF.out
  have HB := Aside0.mk (Below.refl w.heap.size w)
  have H : ((chatelainelaw45_awake.f k).bind fun t218 => (if t218 = true then ((chatelainelaw45_few.f k l0 l2).bind fun t219 => (if t219 = true then (if a1 > 20 then (chatelainelaw45_SplitSplits.j0 k l0 a1 l2 l3 a4 a5 (decide (a1 ≤ 255))) else (chatelainelaw45_SplitSplits.j0 k l0 a1 l2 l3 a4 a5 false)) else (chatelainelaw45_SplitSplits.j0 k l0 a1 l2 l3 a4 a5 true))) else (some false))) = some r := h
  clear h
  replace H := Option.bind_eq_some_iff.mp H
  obtain ⟨t218, A70, H⟩ := H
  replace H : (if t218 = true then ((chatelainelaw45_few.f k l0 l2).bind fun t219 => (if t219 = true then (if a1 > 20 then (chatelainelaw45_SplitSplits.j0 k l0 a1 l2 l3 a4 a5 (decide (a1 ≤ 255))) else (chatelainelaw45_SplitSplits.j0 k l0 a1 l2 l3 a4 a5 false)) else (chatelainelaw45_SplitSplits.j0 k l0 a1 l2 l3 a4 a5 true))) else (some false)) = some r := H
  have A7 := Aside0.mk A70
  clear A70
  by_cases c8 : t218 = true
  · subst c8
    have H1 : ((chatelainelaw45_few.f k l0 l2).bind fun t219 => (if t219 = true then (if a1 > 20 then (chatelainelaw45_SplitSplits.j0 k l0 a1 l2 l3 a4 a5 (decide (a1 ≤ 255))) else (chatelainelaw45_SplitSplits.j0 k l0 a1 l2 l3 a4 a5 false)) else (chatelainelaw45_SplitSplits.j0 k l0 a1 l2 l3 a4 a5 true))) = some r := by rw [if_pos rfl] at H; exact H
    clear H
    have H := H1
    clear H1
    have HC9 := Aside0.mk H
    clear H
    go_upto_region 3 with (first | ((with_reducible refine gate_callee (f := 30) rfl ?_); refine goesL_ (some 15) rfl rfl Try.func30 (by kernel_rfl) rfl #[] rfl (by (try simp only [List.map_toArray, List.map_cons, List.map_nil]); first | done | rfl | (simp only [List.length_drop, List.length_take]; rfl)) ?_; (with_reducible refine (chatelainelaw45_awake.calls k  true _ A7.out).mono ?_); rintro e w10 ⟨rfl, hb⟩; refine ⟨_, rfl, ?_⟩; have n0_ := Aside0.mk (below_step (by repeat (first | (with_reducible first | exact HB.out | apply below_alloc | apply pw_below_drewN | apply below_drew1) | exact HB.out)) hb); clear HB; have HB := n0_; clear n0_; (try clear hb); (try clear hb2); (try clear hk); (try clear hi)))
    (try simp only [Act.put, List.setIfInBounds_toArray, List.set_cons_zero, List.set_cons_succ])
    go_cut [30] (fun v30 wc => ∃ (kq : Nat) (x30_8 : Bool), v30 = .bool x30_8 ∧ Aside0 (chatelainelaw45_SplitSplits.j0 kq l0 a1 l2 l3 a4 a5 x30_8 = some r) ∧ Aside0 (kq ≤ k) ∧ Aside0 (Below w.heap.size w wc))
    case first =>
      (try clear hs1 hs2)
      have hs1 := pw_cell_below HB.out HS1.out; have hs2 := pw_cell_below HB.out HS2.out
      have H := HC9.out
      clear HC9
      replace H := Option.bind_eq_some_iff.mp H
      obtain ⟨t219, A110, H⟩ := H
      replace H : (if t219 = true then (if a1 > 20 then (chatelainelaw45_SplitSplits.j0 k l0 a1 l2 l3 a4 a5 (decide (a1 ≤ 255))) else (chatelainelaw45_SplitSplits.j0 k l0 a1 l2 l3 a4 a5 false)) else (chatelainelaw45_SplitSplits.j0 k l0 a1 l2 l3 a4 a5 true)) = some r := H
      have A11 := Aside0.mk A110
      clear A110
      by_cases c12 : t219 = true
      · subst c12
        have H1 : (if a1 > 20 then (chatelainelaw45_SplitSplits.j0 k l0 a1 l2 l3 a4 a5 (decide (a1 ≤ 255))) else (chatelainelaw45_SplitSplits.j0 k l0 a1 l2 l3 a4 a5 false)) = some r := by rw [if_pos rfl] at H; exact H
        clear H
        have H := H1
        clear H1
        by_cases c13 : a1 > 20
        · rw [if_pos c13] at H
          have c13b0 : decide (20 < a1) = true := decide_eq_true c13
          clear c13
          (first | rw [c13b0] | (simp only [i64_w, i32_w]; rw [c13b0]) | skip)
          have H' := Aside0.mk H
          clear H
          go_wp2_with (first | ((with_reducible refine gate_callee (f := 31) rfl ?_); refine goesL_ (some 19) rfl rfl Try.func31 (by kernel_rfl) rfl #[.slice A0 l0.length c0, .slice A2 l2.length c2] rfl (by (try simp only [List.map_toArray, List.map_cons, List.map_nil]); first | done | rfl | (simp only [List.length_drop, List.length_take]; rfl)) ?_; (with_reducible refine (chatelainelaw45_few.calls k _ _ l0 _ _ l2 true _ ?side1 ?side2 ?side3 ?side4 A11.out).mono ?_); (case side1 => repeat (first | exact (Kd.C_below HR0.out HB.out) | (with_reducible refine Kd.C_alloc ?_ _) | (with_reducible refine Kd.C_drewN ?_ _) | (with_reducible refine Kd.C_drew ?_))); (case side2 => exact HC0.out); (case side3 => repeat (first | exact (Kd.C_below HR2.out HB.out) | (with_reducible refine Kd.C_alloc ?_ _) | (with_reducible refine Kd.C_drewN ?_ _) | (with_reducible refine Kd.C_drew ?_))); (case side4 => exact HC2.out); rintro e w' ⟨rfl, ⟨nd, rfl⟩⟩; refine ⟨_, rfl, ?_⟩))
          go_meet
          case rel => exact ⟨_, (decide (a1 ≤ 255)), (by first | rfl | (simp; done) | (simp [*]; done)), H', ⟨by first | omega | exact Nat.le_refl _⟩, ⟨by repeat (first | (with_reducible first | exact HB.out | apply below_alloc | apply pw_below_drewN | apply below_drew1) | exact HB.out)⟩⟩
        · rw [if_neg c13] at H
          have c13b0 : decide (20 < a1) = false := decide_eq_false c13
          clear c13
          (first | rw [c13b0] | (simp only [i64_w, i32_w]; rw [c13b0]) | skip)
          have H' := Aside0.mk H
          clear H
          go_wp2_with (first | ((with_reducible refine gate_callee (f := 31) rfl ?_); refine goesL_ (some 19) rfl rfl Try.func31 (by kernel_rfl) rfl #[.slice A0 l0.length c0, .slice A2 l2.length c2] rfl (by (try simp only [List.map_toArray, List.map_cons, List.map_nil]); first | done | rfl | (simp only [List.length_drop, List.length_take]; rfl)) ?_; (with_reducible refine (chatelainelaw45_few.calls k _ _ l0 _ _ l2 true _ ?side1 ?side2 ?side3 ?side4 A11.out).mono ?_); (case side1 => repeat (first | exact (Kd.C_below HR0.out HB.out) | (with_reducible refine Kd.C_alloc ?_ _) | (with_reducible refine Kd.C_drewN ?_ _) | (with_reducible refine Kd.C_drew ?_))); (case side2 => exact HC0.out); (case side3 => repeat (first | exact (Kd.C_below HR2.out HB.out) | (with_reducible refine Kd.C_alloc ?_ _) | (with_reducible refine Kd.C_drewN ?_ _) | (with_reducible refine Kd.C_drew ?_))); (case side4 => exact HC2.out); rintro e w' ⟨rfl, ⟨nd, rfl⟩⟩; refine ⟨_, rfl, ?_⟩))
          go_meet
          case rel => exact ⟨_, (false), (by first | rfl | (simp; done) | (simp [*]; done)), H', ⟨by first | omega | exact Nat.le_refl _⟩, ⟨by repeat (first | (with_reducible first | exact HB.out | apply below_alloc | apply pw_below_drewN | apply below_drew1) | exact HB.out)⟩⟩
      · replace c12 := Bool.eq_false_iff.mpr c12
        subst c12
        have H1 : (chatelainelaw45_SplitSplits.j0 k l0 a1 l2 l3 a4 a5 true) = some r := by rw [if_neg (show ¬ (false = true) by decide)] at H; exact H
        clear H
        have H := H1
        clear H1
        have H' := Aside0.mk H
        clear H
        go_wp2_with (first | ((with_reducible refine gate_callee (f := 31) rfl ?_); refine goesL_ (some 19) rfl rfl Try.func31 (by kernel_rfl) rfl #[.slice A0 l0.length c0, .slice A2 l2.length c2] rfl (by (try simp only [List.map_toArray, List.map_cons, List.map_nil]); first | done | rfl | (simp only [List.length_drop, List.length_take]; rfl)) ?_; (with_reducible refine (chatelainelaw45_few.calls k _ _ l0 _ _ l2 false _ ?side1 ?side2 ?side3 ?side4 A11.out).mono ?_); (case side1 => repeat (first | exact (Kd.C_below HR0.out HB.out) | (with_reducible refine Kd.C_alloc ?_ _) | (with_reducible refine Kd.C_drewN ?_ _) | (with_reducible refine Kd.C_drew ?_))); (case side2 => exact HC0.out); (case side3 => repeat (first | exact (Kd.C_below HR2.out HB.out) | (with_reducible refine Kd.C_alloc ?_ _) | (with_reducible refine Kd.C_drewN ?_ _) | (with_reducible refine Kd.C_drew ?_))); (case side4 => exact HC2.out); rintro e w' ⟨rfl, ⟨nd, rfl⟩⟩; refine ⟨_, rfl, ?_⟩))
        go_meet
        case rel => exact ⟨_, (true), (by first | rfl | (simp; done) | (simp [*]; done)), H', ⟨by first | omega | exact Nat.le_refl _⟩, ⟨by repeat (first | (with_reducible first | exact HB.out | apply below_alloc | apply pw_below_drewN | apply below_drew1) | exact HB.out)⟩⟩
    case rest =>
      clear HC9
      try clear c1
      try clear c2
      try clear p2
      try clear c3
      try clear c8
      try clear c10
      try clear c12
      try clear c13
      try clear c13b0
      obtain ⟨kq, x30_8, rfl, HA, HJ8, HB⟩ := hcut
      (try clear hs1 hs2)
      have hs1 := pw_cell_below HB.out HS1.out; have hs2 := pw_cell_below HB.out HS2.out
      cases kq with
      | zero => exact absurd HA.out (by simp [chatelainelaw45_SplitSplits.j0])
      | succ kj8 =>
        have H := HA.out
        clear HA
        simp only [chatelainelaw45_SplitSplits.j0] at H
        by_cases c14 : x30_8 = true
        · subst c14
          have H1 : (some true) = some r := by rw [if_pos rfl] at H; exact H
          clear H
          have H := H1
          clear H1
          obtain rfl := Option.some.inj H
          go_wp2
          go_ret
          exact ⟨by first | rfl | (simp [errW_none, errW_some] <;> rfl) | (simp [*, errW_none, errW_some] <;> rfl), below_step HW.out (by repeat (first | (with_reducible first | exact HB.out | apply below_alloc | apply pw_below_drewN | apply below_drew1) | exact HB.out))⟩
        · replace c14 := Bool.eq_false_iff.mpr c14
          subst c14
          have H1 : (if (l0.length : Int) ≥ 1 then (if a1 ≥ 1 then (if a1 ≤ 255 then (if a4 ≥ 1 then (if a4 ≤ a1 then (chatelainelaw45_SplitSplits.j1 kj8 l0 a1 l2 l3 a5 ((l2.length : Int) == (wrap64 (a4 - 1)))) else (chatelainelaw45_SplitSplits.j1 kj8 l0 a1 l2 l3 a5 false)) else (chatelainelaw45_SplitSplits.j1 kj8 l0 a1 l2 l3 a5 false)) else (chatelainelaw45_SplitSplits.j1 kj8 l0 a1 l2 l3 a5 false)) else (chatelainelaw45_SplitSplits.j1 kj8 l0 a1 l2 l3 a5 false)) else (chatelainelaw45_SplitSplits.j1 kj8 l0 a1 l2 l3 a5 false)) = some r := by rw [if_neg (show ¬ (false = true) by decide)] at H; exact H
          clear H
          have H := H1
          clear H1
          have HC15 := Aside0.mk H
          clear H
          go_upto_region 6 with (first | ((with_reducible refine gate_callee (f := 32) rfl ?_); refine goesL_ (some 38) rfl rfl Try.func32 (by kernel_rfl) rfl #[.slice A0 l0.length c0, .int .i64 a1, .int .i64 a4, .slice A2 l2.length c2] rfl (by (try simp only [List.map_toArray, List.map_cons, List.map_nil]); first | done | rfl | (simp only [List.length_drop, List.length_take]; rfl)) ?_; (refine (split_Split.calls k _ _ l0 a1 a4 _ _ l2 l3 a5 _ ?side1 ?side2 ?side3 ?side4 HFS.out).mono ?_); (case side1 => repeat (first | exact (Kd.C_below HR0.out HB.out) | (with_reducible refine Kd.C_alloc ?_ _) | (with_reducible refine Kd.C_drewN ?_ _) | (with_reducible refine Kd.C_drew ?_))); (case side2 => exact HC0.out); (case side3 => repeat (first | exact (Kd.C_below HR2.out HB.out) | (with_reducible refine Kd.C_alloc ?_ _) | (with_reducible refine Kd.C_drewN ?_ _) | (with_reducible refine Kd.C_drew ?_))); (case side4 => exact HC2.out); rintro e u ⟨v_, rfl, ho0, hb⟩; refine ⟨_, rfl, ?_⟩; have HV := Aside0.mk (below_step (by repeat (first | (with_reducible first | exact HB.out | apply below_alloc | apply pw_below_drewN | apply below_drew1) | exact HB.out)) hb); obtain ⟨A3, c3, ev_, hl3_, hr3_⟩ := Kd.S_reads ho0; subst ev_; have HR3 := Aside0.mk hr3_; have HC3 := Aside0.mk hl3_; clear hr3_ hl3_ ho0 hb))
          have n0_ := Aside0.mk (Kd.C_below HR0.out HV.out)
          have n2_ := Aside0.mk (Kd.C_below HR2.out HV.out)
          have n3_ := Aside0.mk (pw_cell_below HV.out HS1.out)
          have n4_ := Aside0.mk (pw_cell_below HV.out HS2.out)
          clear HR0 HR2 HS1 HS2 hs1 hs2 HB
          have HR0 := n0_
          have HR2 := n2_
          have HS1 := n3_
          have HS2 := n4_
          clear n0_ n2_ n3_ n4_
          have HB := Aside0.mk (Below.refl u.heap.size u)
          go_cut [9] (fun v9 wc => ∃ (kq : Nat) (x9_14 : Bool), v9 = .bool x9_14 ∧ Aside0 (chatelainelaw45_SplitSplits.j1 kq l0 a1 l2 l3 a5 x9_14 = some r) ∧ Aside0 (kq ≤ kj8) ∧ Aside0 (Below u.heap.size u wc))
          case first =>
            (try clear hs1 hs2)
            have hs1 := pw_cell_below HB.out HS1.out; have hs2 := pw_cell_below HB.out HS2.out
            have H := HC15.out
            clear HC15
            by_cases c16 : (l0.length : Int) ≥ 1
            · rw [if_pos c16] at H
              have c16b0 : decide (1 ≤ (l0.length : Int)) = true := decide_eq_true c16
              have c16b1 : decide (1 ≤ l0.length) = true := decide_eq_true (by omega)
              clear c16
              (first | rw [c16b0] | (simp only [i64_w, i32_w]; rw [c16b0]) | skip)
              by_cases c17 : a1 ≥ 1
              · rw [if_pos c17] at H
                have c17b0 : decide (1 ≤ a1) = true := decide_eq_true c17
                clear c17
                by_cases c18 : a1 ≤ 255
                · rw [if_pos c18] at H
                  have c18b0 : decide (a1 ≤ 255) = true := decide_eq_true c18
                  clear c18
                  by_cases c19 : a4 ≥ 1
                  · rw [if_pos c19] at H
                    have c19b0 : decide (1 ≤ a4) = true := decide_eq_true c19
                    clear c19
                    by_cases c20 : a4 ≤ a1
                    · rw [if_pos c20] at H
                      have c20b0 : decide (a4 ≤ a1) = true := decide_eq_true c20
                      clear c20
                      have H' := Aside0.mk H
                      clear H
                      go_wp2
                      go_meet
                      case rel => exact ⟨_, (((l2.length : Int) == (wrap64 (a4 - 1)))), (by first | rfl | (simp; done) | (simp [*]; done)), H', ⟨by have := HJ8.out; first | omega | exact Nat.le_refl _⟩, ⟨by repeat (first | (with_reducible first | exact HB.out | apply below_alloc | apply pw_below_drewN | apply below_drew1) | exact HB.out)⟩⟩
                    · rw [if_neg c20] at H
                      have c20b0 : decide (a4 ≤ a1) = false := decide_eq_false c20
                      clear c20
                      have H' := Aside0.mk H
                      clear H
                      go_wp2
                      go_meet
                      case rel => exact ⟨_, (false), (by first | rfl | (simp; done) | (simp [*]; done)), H', ⟨by have := HJ8.out; first | omega | exact Nat.le_refl _⟩, ⟨by repeat (first | (with_reducible first | exact HB.out | apply below_alloc | apply pw_below_drewN | apply below_drew1) | exact HB.out)⟩⟩
                  · rw [if_neg c19] at H
                    have c19b0 : decide (1 ≤ a4) = false := decide_eq_false c19
                    clear c19
                    have H' := Aside0.mk H
                    clear H
                    go_wp2
                    go_meet
                    case rel => exact ⟨_, (false), (by first | rfl | (simp; done) | (simp [*]; done)), H', ⟨by have := HJ8.out; first | omega | exact Nat.le_refl _⟩, ⟨by repeat (first | (with_reducible first | exact HB.out | apply below_alloc | apply pw_below_drewN | apply below_drew1) | exact HB.out)⟩⟩
                · rw [if_neg c18] at H
                  have c18b0 : decide (a1 ≤ 255) = false := decide_eq_false c18
                  clear c18
                  have H' := Aside0.mk H
                  clear H
                  go_wp2
                  go_meet
                  case rel => exact ⟨_, (false), (by first | rfl | (simp; done) | (simp [*]; done)), H', ⟨by have := HJ8.out; first | omega | exact Nat.le_refl _⟩, ⟨by repeat (first | (with_reducible first | exact HB.out | apply below_alloc | apply pw_below_drewN | apply below_drew1) | exact HB.out)⟩⟩
              · rw [if_neg c17] at H
                have c17b0 : decide (1 ≤ a1) = false := decide_eq_false c17
                clear c17
                have H' := Aside0.mk H
                clear H
                go_wp2
                go_meet
                case rel => exact ⟨_, (false), (by first | rfl | (simp; done) | (simp [*]; done)), H', ⟨by have := HJ8.out; first | omega | exact Nat.le_refl _⟩, ⟨by repeat (first | (with_reducible first | exact HB.out | apply below_alloc | apply pw_below_drewN | apply below_drew1) | exact HB.out)⟩⟩
            · rw [if_neg c16] at H
              have c16b0 : decide (1 ≤ (l0.length : Int)) = false := decide_eq_false c16
              have c16b1 : decide (1 ≤ l0.length) = false := decide_eq_false (by omega)
              clear c16
              (first | rw [c16b0] | (simp only [i64_w, i32_w]; rw [c16b0]) | skip)
              have H' := Aside0.mk H
              clear H
              go_wp2
              go_meet
              case rel => exact ⟨_, (false), (by first | rfl | (simp; done) | (simp [*]; done)), H', ⟨by have := HJ8.out; first | omega | exact Nat.le_refl _⟩, ⟨by repeat (first | (with_reducible first | exact HB.out | apply below_alloc | apply pw_below_drewN | apply below_drew1) | exact HB.out)⟩⟩
          case rest =>
            clear HC15
            try clear c1
            try clear c2
            try clear p2
            try clear c3
            try clear p6
            try clear c8
            try clear c10
            try clear c12
            try clear c13
            try clear c13b0
            try clear c14
            try clear c16
            try clear c16b0
            try clear c16b1
            try clear c17
            try clear c17b0
            try clear c18
            try clear c18b0
            try clear c19
            try clear c19b0
            try clear c20
            try clear c20b0
            try clear p2
            obtain ⟨kq, x9_14, rfl, HA, HJ14, HB⟩ := hcut
            (try clear hs1 hs2)
            have hs1 := pw_cell_below HB.out HS1.out; have hs2 := pw_cell_below HB.out HS2.out
            cases kq with
            | zero => exact absurd HA.out (by simp [chatelainelaw45_SplitSplits.j1])
            | succ kj14 =>
              have H := HA.out
              clear HA
              simp only [chatelainelaw45_SplitSplits.j1] at H
              have H' := Aside0.mk H
              clear H
              go_wp2
              go_loopg [9, 76] kj14 (fun kq v9 v76 w' => ∃ (x9_3 : Bool) (x76_3 : Int), v9 = .bool x9_3 ∧ v76 = .int .i64 x76_3 ∧ Aside0 (chatelainelaw45_SplitSplits.l0 kq l0 a1 l2 l3 a5 x9_3 l2 (l2.length : Int) x76_3 = some r) ∧ Aside0 (kq ≤ kj14) ∧ Aside0 (Below u.heap.size u w'))
              case atStart => exact ⟨(x9_14), (0), (by first | rfl | (simp; done) | (simp [*]; done)), (by first | rfl | (simp; done) | (simp [*]; done)), H', ⟨Nat.le_refl _⟩, ⟨by repeat (first | (with_reducible first | exact HB.out | apply below_alloc | apply pw_below_drewN | apply below_drew1) | exact HB.out)⟩⟩
              case round =>
                clear H'
                try clear c1
                try clear c2
                try clear p2
                try clear c3
                try clear p6
                try clear c8
                try clear c10
                try clear c12
                try clear c13
                try clear c13b0
                try clear c14
                try clear c16
                try clear c16b0
                try clear c16b1
                try clear c17
                try clear c17b0
                try clear c18
                try clear c18b0
                try clear c19
                try clear c19b0
                try clear c20
                try clear c20b0
                try clear p2
                try clear p6
                obtain ⟨x9_3, x76_3, rfl, rfl, HA, HK3, HB⟩ := hrel
                (try clear hs1 hs2)
                have hs1 := pw_cell_below HB.out HS1.out; have hs2 := pw_cell_below HB.out HS2.out
                cases gk with
                | zero => exact absurd HA.out (by simp [chatelainelaw45_SplitSplits.l0])
                | succ k3 =>
                  have H := HA.out
                  clear HA
                  simp only [chatelainelaw45_SplitSplits.l0] at H
                  by_cases c21 : x76_3 < (l2.length : Int)
                  · rw [if_pos c21] at H
                    have c21b0 : decide (x76_3 < (l2.length : Int)) = true := decide_eq_true c21
                    clear c21
                    by_cases c22 : 0 ≤ x76_3
                    · rw [if_pos c22] at H
                      have c22b0 : decide (0 ≤ x76_3) = true := decide_eq_true c22
                      clear c22
                      by_cases c23 : x76_3 < (l2.length : Int)
                      · rw [if_pos c23] at H
                        have c23b0 : decide (x76_3 < (l2.length : Int)) = true := decide_eq_true c23
                        clear c23
                        by_cases c24 : x9_3 = true
                        · subst c24
                          have H1 : (chatelainelaw45_SplitSplits.l0 k3 l0 a1 l2 l3 a5 (((rd_L1 l2 x76_3).length : Int) == (l0.length : Int)) l2 (l2.length : Int) (wrap64 (x76_3 + 1))) = some r := by rw [if_pos rfl] at H; exact H
                          clear H
                          have H := H1
                          clear H1
                          have H' := Aside0.mk H
                          clear H
                          have p220 : 0 ≤ (x76_3 : Int) := of_decide_eq_true (by first | (with_reducible assumption) | assumption)
                          have q220 : x76_3 < (l2.length : Int) := of_decide_eq_true (by first | (with_reducible assumption) | assumption)
                          obtain ⟨ad220, A220_0, c220_0, e220, hx220_0, hl220_0, hi220_0⟩ := at_L1 HR2.out x76_3 p220 q220
                          cases e220
                          replace hx220_0 := (HB.out.cell (World.block_lt_of_cell? u _ hx220_0)).trans hx220_0
                          have HR220_0 := Aside0.mk hi220_0
                          have HC220_0 := Aside0.mk hl220_0
                          clear hi220_0 hl220_0
                          replace p220 := eq_true p220
                          replace q220 := eq_true q220
                          go_wp2
                          go_roundg k3
                          case measure => have := HJ8.out; have := HJ14.out; have := HK3.out; omega
                          case rel => exact ⟨((((rd_L1 l2 x76_3).length : Int) == (l0.length : Int))), (wrap64 (x76_3 + 1)), (by first | rfl | (simp; done) | (simp [*]; done)), (by first | rfl | (simp; done) | (simp [*]; done)), H', ⟨by have := HJ8.out; have := HJ14.out; have := HK3.out; omega⟩, ⟨by repeat (first | (with_reducible first | exact HB.out | apply below_alloc | apply pw_below_drewN | apply below_drew1) | exact HB.out)⟩⟩
                        · replace c24 := Bool.eq_false_iff.mpr c24
                          subst c24
                          have H1 : (chatelainelaw45_SplitSplits.l0 k3 l0 a1 l2 l3 a5 false l2 (l2.length : Int) (wrap64 (x76_3 + 1))) = some r := by rw [if_neg (show ¬ (false = true) by decide)] at H; exact H
                          clear H
                          have H := H1
                          clear H1
                          have H' := Aside0.mk H
                          clear H
                          have p220 : 0 ≤ (x76_3 : Int) := of_decide_eq_true (by first | (with_reducible assumption) | assumption)
                          have q220 : x76_3 < (l2.length : Int) := of_decide_eq_true (by first | (with_reducible assumption) | assumption)
                          obtain ⟨ad220, A220_0, c220_0, e220, hx220_0, hl220_0, hi220_0⟩ := at_L1 HR2.out x76_3 p220 q220
                          cases e220
                          replace hx220_0 := (HB.out.cell (World.block_lt_of_cell? u _ hx220_0)).trans hx220_0
                          have HR220_0 := Aside0.mk hi220_0
                          have HC220_0 := Aside0.mk hl220_0
                          clear hi220_0 hl220_0
                          replace p220 := eq_true p220
                          replace q220 := eq_true q220
                          go_wp2
                          go_roundg k3
                          case measure => have := HJ8.out; have := HJ14.out; have := HK3.out; omega
                          case rel => exact ⟨(false), (wrap64 (x76_3 + 1)), (by first | rfl | (simp; done) | (simp [*]; done)), (by first | rfl | (simp; done) | (simp [*]; done)), H', ⟨by have := HJ8.out; have := HJ14.out; have := HK3.out; omega⟩, ⟨by repeat (first | (with_reducible first | exact HB.out | apply below_alloc | apply pw_below_drewN | apply below_drew1) | exact HB.out)⟩⟩
                      · rw [if_neg c23] at H
                        exact absurd H (by simp)
                    · rw [if_neg c22] at H
                      exact absurd H (by simp)
                  · rw [if_neg c21] at H
                    have c21b0 : decide (x76_3 < (l2.length : Int)) = false := decide_eq_false c21
                    clear c21
                    by_cases c25 : x9_3 = true
                    · subst c25
                      have H1 : (if a5 = 0 then (chatelainelaw45_SplitSplits.j3 k3 l0 l2 l3 ((l3.length : Int) != a1)) else (chatelainelaw45_SplitSplits.j3 k3 l0 l2 l3 true)) = some r := by rw [if_pos rfl] at H; exact H
                      clear H
                      have H := H1
                      clear H1
                      have HC26 := Aside0.mk H
                      clear H
                      go_upto_region 14 with (fail)
                      go_cut [106] (fun v106 wc => ∃ (kq : Nat) (x106_25 : Bool), v106 = .bool x106_25 ∧ Aside0 (chatelainelaw45_SplitSplits.j3 kq l0 l2 l3 x106_25 = some r) ∧ Aside0 (kq ≤ k3) ∧ Aside0 (Below u.heap.size u wc))
                      case first =>
                        (try clear hs1 hs2)
                        have hs1 := pw_cell_below HB.out HS1.out; have hs2 := pw_cell_below HB.out HS2.out
                        have H := HC26.out
                        clear HC26
                        by_cases c27 : a5 = 0
                        · rw [if_pos c27] at H
                          have c27b0 : (a5 == 0) = true := beq_iff_eq.mpr c27
                          have c27b1 : (a5 != 0) = false := bne_eq_false_iff_eq.mpr c27
                          clear c27
                          (first | rw [c27b0] | (simp only [i64_w, i32_w]; rw [c27b0]) | skip)
                          have H' := Aside0.mk H
                          clear H
                          go_wp2
                          go_meet
                          case rel => exact ⟨_, (((l3.length : Int) != a1)), (by first | rfl | (simp; done) | (simp [*]; done)), H', ⟨by have := HJ8.out; have := HJ14.out; have := HK3.out; first | omega | exact Nat.le_refl _⟩, ⟨by repeat (first | (with_reducible first | exact HB.out | apply below_alloc | apply pw_below_drewN | apply below_drew1) | exact HB.out)⟩⟩
                        · rw [if_neg c27] at H
                          have c27b0 : (a5 == 0) = false := beq_eq_false_iff_ne.mpr c27
                          have c27b1 : (a5 != 0) = true := bne_iff_ne.mpr c27
                          (first | rw [c27b0] | (simp only [i64_w, i32_w]; rw [c27b0]) | skip)
                          have H' := Aside0.mk H
                          clear H
                          go_wp2
                          go_meet
                          case rel => exact ⟨_, (true), (by first | rfl | (simp; done) | (simp [*]; done)), H', ⟨by have := HJ8.out; have := HJ14.out; have := HK3.out; first | omega | exact Nat.le_refl _⟩, ⟨by repeat (first | (with_reducible first | exact HB.out | apply below_alloc | apply pw_below_drewN | apply below_drew1) | exact HB.out)⟩⟩
                      case rest =>
                        clear HC26
                        try clear c1
                        try clear c2
                        try clear p2
                        try clear q2
                        try clear hx2
                        try clear c3
                        try clear p6
                        try clear c8
                        try clear c10
                        try clear c12
                        try clear c13
                        try clear c13b0
                        try clear c14
                        try clear c16
                        try clear c16b0
                        try clear c16b1
                        try clear c17
                        try clear c17b0
                        try clear c18
                        try clear c18b0
                        try clear c19
                        try clear c19b0
                        try clear c20
                        try clear c20b0
                        try clear c21
                        try clear c21b0
                        try clear c22
                        try clear c22b0
                        try clear p22
                        try clear q22
                        try clear hx22
                        try clear c23
                        try clear c23b0
                        try clear c24
                        try clear c25
                        try clear c27
                        try clear c27b0
                        try clear c27b1
                        try clear hx220_0
                        try clear p2
                        try clear p220
                        try clear p6
                        try clear q220
                        obtain ⟨kq, x106_25, rfl, HA, HJ25, HB⟩ := hcut
                        (try clear hs1 hs2)
                        have hs1 := pw_cell_below HB.out HS1.out; have hs2 := pw_cell_below HB.out HS2.out
                        cases kq with
                        | zero => exact absurd HA.out (by simp [chatelainelaw45_SplitSplits.j3])
                        | succ kj25 =>
                          have H := HA.out
                          clear HA
                          simp only [chatelainelaw45_SplitSplits.j3] at H
                          by_cases c28 : x106_25 = true
                          · subst c28
                            have H1 : (some false) = some r := by rw [if_pos rfl] at H; exact H
                            clear H
                            have H := H1
                            clear H1
                            obtain rfl := Option.some.inj H
                            go_wp2
                            go_ret
                            exact ⟨by first | rfl | (simp [errW_none, errW_some] <;> rfl) | (simp [*, errW_none, errW_some] <;> rfl), below_step HW.out (below_step HV.out (by repeat (first | (with_reducible first | exact HB.out | apply below_alloc | apply pw_below_drewN | apply below_drew1) | exact HB.out)))⟩
                          · replace c28 := Bool.eq_false_iff.mpr c28
                            subst c28
                            have H1 : (chatelainelaw45_SplitSplits.l1 kj25 l0 l2 l3 (l3.length : Int) 0) = some r := by rw [if_neg (show ¬ (false = true) by decide)] at H; exact H
                            clear H
                            have H := H1
                            clear H1
                            have H' := Aside0.mk H
                            clear H
                            go_wp2
                            go_loopg [109] kj25 (fun kq v109 w' => ∃ (x109_5 : Int), v109 = .int .i64 x109_5 ∧ Aside0 (chatelainelaw45_SplitSplits.l1 kq l0 l2 l3 (l3.length : Int) x109_5 = some r) ∧ Aside0 (kq ≤ kj25) ∧ Aside0 (Below u.heap.size u w'))
                            case atStart => exact ⟨(0), (by first | rfl | (simp; done) | (simp [*]; done)), H', ⟨Nat.le_refl _⟩, ⟨by repeat (first | (with_reducible first | exact HB.out | apply below_alloc | apply pw_below_drewN | apply below_drew1) | exact HB.out)⟩⟩
                            case round =>
                              clear H'
                              try clear c1
                              try clear c2
                              try clear p2
                              try clear q2
                              try clear hx2
                              try clear c3
                              try clear p6
                              try clear c8
                              try clear c10
                              try clear c12
                              try clear c13
                              try clear c13b0
                              try clear c14
                              try clear c16
                              try clear c16b0
                              try clear c16b1
                              try clear c17
                              try clear c17b0
                              try clear c18
                              try clear c18b0
                              try clear c19
                              try clear c19b0
                              try clear c20
                              try clear c20b0
                              try clear c21
                              try clear c21b0
                              try clear c22
                              try clear c22b0
                              try clear p22
                              try clear q22
                              try clear hx22
                              try clear c23
                              try clear c23b0
                              try clear c24
                              try clear c25
                              try clear c27
                              try clear c27b0
                              try clear c27b1
                              try clear c28
                              try clear hx220_0
                              try clear p2
                              try clear p22
                              try clear p220
                              try clear p6
                              try clear q2
                              try clear q22
                              try clear q220
                              obtain ⟨x109_5, rfl, HA, HK5, HB⟩ := hrel
                              (try clear hs1 hs2)
                              have hs1 := pw_cell_below HB.out HS1.out; have hs2 := pw_cell_below HB.out HS2.out
                              cases gk with
                              | zero => exact absurd HA.out (by simp [chatelainelaw45_SplitSplits.l1])
                              | succ k5 =>
                                have H := HA.out
                                clear HA
                                simp only [chatelainelaw45_SplitSplits.l1] at H
                                by_cases c29 : x109_5 < (l3.length : Int)
                                · rw [if_pos c29] at H
                                  have c29b0 : decide (x109_5 < (l3.length : Int)) = true := decide_eq_true c29
                                  clear c29
                                  by_cases c30 : 0 ≤ x109_5
                                  · rw [if_pos c30] at H
                                    have c30b0 : decide (0 ≤ x109_5) = true := decide_eq_true c30
                                    clear c30
                                    by_cases c31 : x109_5 < (l3.length : Int)
                                    · rw [if_pos c31] at H
                                      have c31b0 : decide (x109_5 < (l3.length : Int)) = true := decide_eq_true c31
                                      clear c31
                                      have HC32 := Aside0.mk H
                                      clear H
                                      have p221 : 0 ≤ (x109_5 : Int) := of_decide_eq_true (by first | (with_reducible assumption) | assumption)
                                      have q221 : x109_5 < (l3.length : Int) := of_decide_eq_true (by first | (with_reducible assumption) | assumption)
                                      obtain ⟨ad221, A221_1, c221_1, e221, hx221_0, hx221_1, hl221_1, hi221_1⟩ := at_T54 HR3.out x109_5 p221 q221
                                      cases e221
                                      replace hx221_0 := (HB.out.cell (World.block_lt_of_cell? u _ hx221_0)).trans hx221_0
                                      replace hx221_1 := (HB.out.cell (World.block_lt_of_cell? u _ hx221_1)).trans hx221_1
                                      have HR221_1 := Aside0.mk hi221_1
                                      have HC221_1 := Aside0.mk hl221_1
                                      clear hi221_1 hl221_1
                                      replace p221 := eq_true p221
                                      replace q221 := eq_true q221
                                      go_upto_region 19 with (first | ((with_reducible refine gate_dst (N := 13) rfl ?_); (try (refine gate_guard (by rfl) ?_; dsimp only)); refine box_event ?hg (N := 13) ?hd (cs := #[.int .u8 0, .slice none 0 0]) (t := 54) ?hr ?_; (case hd => rfl); (case hg => rfl); (case hr => first | (go_simp; done) | (go_simp; rfl)); intro gb222 hg w33 hbox hb; have n0_ := Aside0.mk (below_step (by repeat (first | (with_reducible first | exact HB.out | apply below_alloc | apply pw_below_drewN | apply below_drew1) | exact HB.out)) hb); have n1_ := Aside0.mk (hbox); have n2_ := Aside0.mk ((by rw [hg]; exact (below_size (by repeat (first | (with_reducible first | exact HB.out | apply below_alloc | apply pw_below_drewN | apply below_drew1) | exact HB.out))) : u.heap.size ≤ gb222)); have n3_ := Aside0.mk ((by rw [hg]; exact (below_size (by repeat (first | (with_reducible first | exact HB.out | apply below_alloc | apply pw_below_drewN | apply below_drew1) | exact HB.out))) : u.heap.size ≤ gb222)); clear HB; have HB := n0_; have BK222 := n1_; have GW222 := n2_; have GE222 := n3_; clear n0_ n1_ n2_ n3_; clear hb hbox hg; have hcz34_0 : w33.cell? ⟨gb222, 0, none⟩ = some (.int .u8 0) := (blk_cell BK222.out 0).trans rfl; have hcz34_1 : w33.cell? ⟨gb222, 1, none⟩ = some (.slice none 0 0) := (blk_cell BK222.out 1).trans rfl; have hfz34_0 := blk_frozen BK222.out 0; have hfz34_1 := blk_frozen BK222.out 1))
                                      (try simp only [Act.put, List.setIfInBounds_toArray, List.set_cons_zero, List.set_cons_succ])
                                      go_cut [127] (fun v127 wc => ∃ (kq : Nat) (x127_31 : Bool), v127 = .bool x127_31 ∧ Aside0 (chatelainelaw45_SplitSplits.j5 kq l0 l2 x109_5 l3 (l3.length : Int) x109_5 x127_31 ((rd_T54 l3 x109_5).f0) ((rd_T54 l3 x109_5).f1) = some r) ∧ Aside0 (kq ≤ k5) ∧ Aside0 (wc.heap[gb222]? = some (.cells #[.int .u8 ((rd_T54 l3 x109_5).f0), (.slice A221_1 ((rd_T54 l3 x109_5).f1).length c221_1)] 54 (0, 0))) ∧ Aside0 (Below u.heap.size u wc))
                                      case first =>
                                        (try clear hs1 hs2)
                                        have hs1 := pw_cell_below HB.out HS1.out; have hs2 := pw_cell_below HB.out HS2.out
                                        have H := HC32.out
                                        clear HC32
                                        by_cases c35 : (wrap64 ((rd_T54 l3 x109_5).f0)) = (wrap64 (x109_5 + 1))
                                        · rw [if_pos c35] at H
                                          have c35b0 : ((wrap64 ((rd_T54 l3 x109_5).f0)) == (wrap64 (x109_5 + 1))) = true := beq_iff_eq.mpr c35
                                          have c35b1 : ((wrap64 ((rd_T54 l3 x109_5).f0)) != (wrap64 (x109_5 + 1))) = false := bne_eq_false_iff_eq.mpr c35
                                          clear c35
                                          (first | rw [c35b0] | (simp only [i64_w, i32_w]; rw [c35b0]) | skip)
                                          have H' := Aside0.mk H
                                          clear H
                                          have hcz36_0 : w33.cell? ⟨gb222, 0, none⟩ = some (.int .u8 0) := (blk_cell BK222.out 0).trans rfl
                                          have hcz36_1 : w33.cell? ⟨gb222, 1, none⟩ = some (.slice none 0 0) := (blk_cell BK222.out 1).trans rfl
                                          have hfz36_0 := blk_frozen BK222.out 0
                                          have hfz36_1 := blk_frozen BK222.out 1
                                          go_wp2
                                          go_meet
                                          case rel => exact ⟨_, (((((rd_T54 l3 x109_5).f1).length : Int) != (l0.length : Int))), (by first | rfl | (simp; done) | (simp [*]; done)), H', ⟨by have := HJ8.out; have := HJ14.out; have := HK3.out; have := HJ25.out; have := HK5.out; first | omega | exact Nat.le_refl _⟩, ⟨by (with_reducible repeat (first | refine blk_drewN ?_ _ | refine blk_drew ?_ | refine blk_alloc ?_ _)); refine blk_put (cs := #[.int .u8 ((rd_T54 l3 x109_5).f0), .slice none 0 0]) ?_ 1 _ rfl; (with_reducible repeat (first | refine blk_drewN ?_ _ | refine blk_drew ?_ | refine blk_alloc ?_ _)); refine blk_put (cs := #[.int .u8 0, .slice none 0 0]) ?_ 0 _ rfl; (with_reducible repeat (first | refine blk_drewN ?_ _ | refine blk_drew ?_ | refine blk_alloc ?_ _)); exact BK222.out⟩, ⟨by repeat (first | (with_reducible first | exact HB.out | apply below_alloc | apply pw_below_drewN | apply below_drew1 | refine below_set ?_ GE222.out) | exact HB.out)⟩⟩
                                        · rw [if_neg c35] at H
                                          have c35b0 : ((wrap64 ((rd_T54 l3 x109_5).f0)) == (wrap64 (x109_5 + 1))) = false := beq_eq_false_iff_ne.mpr c35
                                          have c35b1 : ((wrap64 ((rd_T54 l3 x109_5).f0)) != (wrap64 (x109_5 + 1))) = true := bne_iff_ne.mpr c35
                                          (first | rw [c35b0] | (simp only [i64_w, i32_w]; rw [c35b0]) | skip)
                                          have H' := Aside0.mk H
                                          clear H
                                          have hcz37_0 : w33.cell? ⟨gb222, 0, none⟩ = some (.int .u8 0) := (blk_cell BK222.out 0).trans rfl
                                          have hcz37_1 : w33.cell? ⟨gb222, 1, none⟩ = some (.slice none 0 0) := (blk_cell BK222.out 1).trans rfl
                                          have hfz37_0 := blk_frozen BK222.out 0
                                          have hfz37_1 := blk_frozen BK222.out 1
                                          go_wp2
                                          go_meet
                                          case rel => exact ⟨_, (true), (by first | rfl | (simp; done) | (simp [*]; done)), H', ⟨by have := HJ8.out; have := HJ14.out; have := HK3.out; have := HJ25.out; have := HK5.out; first | omega | exact Nat.le_refl _⟩, ⟨by (with_reducible repeat (first | refine blk_drewN ?_ _ | refine blk_drew ?_ | refine blk_alloc ?_ _)); refine blk_put (cs := #[.int .u8 ((rd_T54 l3 x109_5).f0), .slice none 0 0]) ?_ 1 _ rfl; (with_reducible repeat (first | refine blk_drewN ?_ _ | refine blk_drew ?_ | refine blk_alloc ?_ _)); refine blk_put (cs := #[.int .u8 0, .slice none 0 0]) ?_ 0 _ rfl; (with_reducible repeat (first | refine blk_drewN ?_ _ | refine blk_drew ?_ | refine blk_alloc ?_ _)); exact BK222.out⟩, ⟨by repeat (first | (with_reducible first | exact HB.out | apply below_alloc | apply pw_below_drewN | apply below_drew1 | refine below_set ?_ GE222.out) | exact HB.out)⟩⟩
                                      case rest =>
                                        clear HC32
                                        try clear c1
                                        try clear c2
                                        try clear p2
                                        try clear q2
                                        try clear hx2
                                        try clear c3
                                        try clear p6
                                        try clear c8
                                        try clear c10
                                        try clear c12
                                        try clear c13
                                        try clear c13b0
                                        try clear c14
                                        try clear c16
                                        try clear c16b0
                                        try clear c16b1
                                        try clear c17
                                        try clear c17b0
                                        try clear c18
                                        try clear c18b0
                                        try clear c19
                                        try clear c19b0
                                        try clear c20
                                        try clear c20b0
                                        try clear c21
                                        try clear c21b0
                                        try clear c22
                                        try clear c22b0
                                        try clear p22
                                        try clear q22
                                        try clear hx22
                                        try clear c23
                                        try clear c23b0
                                        try clear c24
                                        try clear c25
                                        try clear c27
                                        try clear c27b0
                                        try clear c27b1
                                        try clear c28
                                        try clear c29
                                        try clear c29b0
                                        try clear c30
                                        try clear c30b0
                                        try clear c31
                                        try clear c31b0
                                        try clear c35
                                        try clear c35b0
                                        try clear c35b1
                                        try clear hcz34_0
                                        try clear hcz34_1
                                        try clear hcz36_0
                                        try clear hcz36_1
                                        try clear hcz37_0
                                        try clear hcz37_1
                                        try clear hfz34_0
                                        try clear hfz34_1
                                        try clear hfz36_0
                                        try clear hfz36_1
                                        try clear hfz37_0
                                        try clear hfz37_1
                                        try clear hx220_0
                                        try clear hx221_0
                                        try clear hx221_1
                                        try clear p2
                                        try clear p22
                                        try clear p220
                                        try clear p221
                                        try clear p6
                                        try clear q2
                                        try clear q22
                                        try clear q220
                                        try clear q221
                                        obtain ⟨kq, x127_31, rfl, HA, HJ31, BK222, HB⟩ := hcut
                                        (try clear hs1 hs2)
                                        have hs1 := pw_cell_below HB.out HS1.out; have hs2 := pw_cell_below HB.out HS2.out
                                        cases kq with
                                        | zero => exact absurd HA.out (by simp [chatelainelaw45_SplitSplits.j5])
                                        | succ kj31 =>
                                          have H := HA.out
                                          clear HA
                                          simp only [chatelainelaw45_SplitSplits.j5] at H
                                          by_cases c38 : x127_31 = true
                                          · subst c38
                                            have H1 : (some false) = some r := by rw [if_pos rfl] at H; exact H
                                            clear H
                                            have H := H1
                                            clear H1
                                            obtain rfl := Option.some.inj H
                                            go_wp2
                                            go_ret
                                            exact ⟨by first | rfl | (simp [errW_none, errW_some] <;> rfl) | (simp [*, errW_none, errW_some] <;> rfl), below_step HW.out (below_step HV.out (by repeat (first | (with_reducible first | exact HB.out | apply below_alloc | apply pw_below_drewN | apply below_drew1 | refine below_set ?_ GE222.out) | exact HB.out)))⟩
                                          · replace c38 := Bool.eq_false_iff.mpr c38
                                            subst c38
                                            have H1 : (chatelainelaw45_SplitSplits.l2 kj31 l0 l2 x109_5 l3 (l3.length : Int) x109_5 (l0.length : Int) 0 ((rd_T54 l3 x109_5).f0) ((rd_T54 l3 x109_5).f1)) = some r := by rw [if_neg (show ¬ (false = true) by decide)] at H; exact H
                                            clear H
                                            have H := H1
                                            clear H1
                                            have H' := Aside0.mk H
                                            clear H
                                            go_wp2
                                            go_loopg [130] kj31 (fun kq v130 w' => ∃ (x130_7 : Int), v130 = .int .i64 x130_7 ∧ Aside0 (chatelainelaw45_SplitSplits.l2 kq l0 l2 x109_5 l3 (l3.length : Int) x109_5 (l0.length : Int) x130_7 ((rd_T54 l3 x109_5).f0) ((rd_T54 l3 x109_5).f1) = some r) ∧ Aside0 (kq ≤ kj31) ∧ Aside0 (w'.heap[gb222]? = some (.cells #[.int .u8 ((rd_T54 l3 x109_5).f0), (.slice A221_1 ((rd_T54 l3 x109_5).f1).length c221_1)] 54 (0, 0))) ∧ Aside0 (Below u.heap.size u w'))
                                            case atStart => exact ⟨(0), (by first | rfl | (simp; done) | (simp [*]; done)), H', ⟨Nat.le_refl _⟩, ⟨by (with_reducible repeat (first | refine blk_drewN ?_ _ | refine blk_drew ?_ | refine blk_alloc ?_ _)); exact BK222.out⟩, ⟨by repeat (first | (with_reducible first | exact HB.out | apply below_alloc | apply pw_below_drewN | apply below_drew1 | refine below_set ?_ GE222.out) | exact HB.out)⟩⟩
                                            case round =>
                                              clear H'
                                              try clear c1
                                              try clear c2
                                              try clear p2
                                              try clear q2
                                              try clear hx2
                                              try clear c3
                                              try clear p6
                                              try clear c8
                                              try clear c10
                                              try clear c12
                                              try clear c13
                                              try clear c13b0
                                              try clear c14
                                              try clear c16
                                              try clear c16b0
                                              try clear c16b1
                                              try clear c17
                                              try clear c17b0
                                              try clear c18
                                              try clear c18b0
                                              try clear c19
                                              try clear c19b0
                                              try clear c20
                                              try clear c20b0
                                              try clear c21
                                              try clear c21b0
                                              try clear c22
                                              try clear c22b0
                                              try clear p22
                                              try clear q22
                                              try clear hx22
                                              try clear c23
                                              try clear c23b0
                                              try clear c24
                                              try clear c25
                                              try clear c27
                                              try clear c27b0
                                              try clear c27b1
                                              try clear c28
                                              try clear c29
                                              try clear c29b0
                                              try clear c30
                                              try clear c30b0
                                              try clear c31
                                              try clear c31b0
                                              try clear c35
                                              try clear c35b0
                                              try clear c35b1
                                              try clear c38
                                              try clear hcz34_0
                                              try clear hcz34_1
                                              try clear hcz36_0
                                              try clear hcz36_1
                                              try clear hcz37_0
                                              try clear hcz37_1
                                              try clear hfz34_0
                                              try clear hfz34_1
                                              try clear hfz36_0
                                              try clear hfz36_1
                                              try clear hfz37_0
                                              try clear hfz37_1
                                              try clear hx220_0
                                              try clear hx221_0
                                              try clear hx221_1
                                              try clear p2
                                              try clear p22
                                              try clear p220
                                              try clear p221
                                              try clear p6
                                              try clear q2
                                              try clear q22
                                              try clear q220
                                              try clear q221
                                              obtain ⟨x130_7, rfl, HA, HK7, BK222, HB⟩ := hrel
                                              (try clear hs1 hs2)
                                              have hs1 := pw_cell_below HB.out HS1.out; have hs2 := pw_cell_below HB.out HS2.out
                                              cases gk with
                                              | zero => exact absurd HA.out (by simp [chatelainelaw45_SplitSplits.l2])
                                              | succ k7 =>
                                                have H := HA.out
                                                clear HA
                                                simp only [chatelainelaw45_SplitSplits.l2] at H
                                                by_cases c39 : x130_7 < (l0.length : Int)
                                                · rw [if_pos c39] at H
                                                  have c39b0 : decide (x130_7 < (l0.length : Int)) = true := decide_eq_true c39
                                                  clear c39
                                                  by_cases c40 : 0 ≤ x130_7
                                                  · rw [if_pos c40] at H
                                                    have c40b0 : decide (0 ≤ x130_7) = true := decide_eq_true c40
                                                    clear c40
                                                    by_cases c41 : x130_7 < (((rd_T54 l3 x109_5).f1).length : Int)
                                                    · rw [if_pos c41] at H
                                                      have c41b0 : decide (x130_7 < (((rd_T54 l3 x109_5).f1).length : Int)) = true := decide_eq_true c41
                                                      clear c41
                                                      replace H := Option.bind_eq_some_iff.mp H
                                                      obtain ⟨t224, A420, H⟩ := H
                                                      replace H : ((chatelaineref45_Value.f k7 t224 (wrap64 (x109_5 + 1))).bind fun t227 => (if (wrap64 (rd ((rd_T54 l3 x109_5).f1) x130_7)) = t227 then (chatelainelaw45_SplitSplits.l2 k7 l0 l2 x109_5 l3 (l3.length : Int) x109_5 (l0.length : Int) (wrap64 (x130_7 + 1)) ((rd_T54 l3 x109_5).f0) ((rd_T54 l3 x109_5).f1)) else (some false))) = some r := H
                                                      have A42 := Aside0.mk A420
                                                      clear A420
                                                      replace H := Option.bind_eq_some_iff.mp H
                                                      obtain ⟨t227, A430, H⟩ := H
                                                      replace H : (if (wrap64 (rd ((rd_T54 l3 x109_5).f1) x130_7)) = t227 then (chatelainelaw45_SplitSplits.l2 k7 l0 l2 x109_5 l3 (l3.length : Int) x109_5 (l0.length : Int) (wrap64 (x130_7 + 1)) ((rd_T54 l3 x109_5).f0) ((rd_T54 l3 x109_5).f1)) else (some false)) = some r := H
                                                      have A43 := Aside0.mk A430
                                                      clear A430
                                                      by_cases c44 : (wrap64 (rd ((rd_T54 l3 x109_5).f1) x130_7)) = t227
                                                      · rw [if_pos c44] at H
                                                        have c44b0 : ((wrap64 (rd ((rd_T54 l3 x109_5).f1) x130_7)) == t227) = true := beq_iff_eq.mpr c44
                                                        have c44b1 : ((wrap64 (rd ((rd_T54 l3 x109_5).f1) x130_7)) != t227) = false := bne_eq_false_iff_eq.mpr c44
                                                        clear c44
                                                        have H' := Aside0.mk H
                                                        clear H
                                                        try go_wp2
                                                        have n0_ := Aside0.mk (blk_drew BK222.out)
                                                        have n1_ := Aside0.mk (below_drew1 HB.out)
                                                        clear BK222
                                                        clear HB
                                                        have BK222 := n0_
                                                        have HB := n1_
                                                        clear n0_ n1_
                                                        have p223 : 0 ≤ (x130_7 : Int) := of_decide_eq_true (by first | (with_reducible assumption) | assumption)
                                                        have q223 : x130_7 < (((rd_T54 l3 x109_5).f1).length : Int) := of_decide_eq_true (by first | (with_reducible assumption) | assumption)
                                                        obtain ⟨ad223, e223, hx223_0⟩ := Kd.at_int HR221_1.out x130_7 p223 q223
                                                        have hw223_0 := hx223_0
                                                        cases e223
                                                        replace hx223_0 := (HB.out.cell (World.block_lt_of_cell? u _ hx223_0)).trans hx223_0
                                                        replace p223 := eq_true p223
                                                        replace q223 := eq_true q223
                                                        refine start_ (n := 14) (S := fun w' => w'.cell? ⟨gb222, 0, none⟩ = some (.int .u8 ((rd_T54 l3 x109_5).f0)) ∧ w'.cell? ⟨gb222, 1, none⟩ = some (.slice (some ad223) ((rd_T54 l3 x109_5).f1).length c221_1) ∧ w'.cell? (ad223.add (x130_7).toNat) = some (.int .u8 (rd ((rd_T54 l3 x109_5).f1) x130_7))) (ds := []) #[false, false, false, false, false, false, false, false, false, false, false, false, false, false] (by kernel_rfl) rfl rfl ⟨(blk_cell BK222.out 0).trans rfl, (blk_cell BK222.out 1).trans rfl, ((HB.out.cell (World.block_lt_of_cell? u _ hw223_0)).trans hw223_0)⟩ (fun hHeld => ?_); refine with_tabW chatelainelaw45_SplitSplits.tab24 chatelainelaw45_SplitSplits.bits24 (fun HT_ HW_ => ?_)
                                                        generalize wr.drew = w45 at BK222 HB hx223_0 hHeld ⊢
                                                        refine pure_ (i := 0) (N := some 133) (v := ?_) (a' := ?_) #[true, false, false, false, false, false, false, false, false, false, false, false, false, false] rfl rfl (any_of HT_.out (by kernel_rfl)) (fun _ _ _ h => h) (Or.inl ⟨by rfl, ?_⟩) ?_ ?_
                                                        rotate_left
                                                        · intro w'
                                                          go_simp
                                                          with_reducible rfl
                                                        rotate_left
                                                        · simp only [Act.put, List.setIfInBounds_toArray, List.set_cons_zero, List.set_cons_succ, i64_w, i32_w]
                                                          rfl
                                                        refine pure_ (i := 2) (N := some 135) (v := ?_) (a' := ?_) #[true, false, true, false, false, false, false, false, false, false, false, false, false, false] rfl rfl (any_of HT_.out (by kernel_rfl)) (fun _ _ _ h => h) (Or.inl ⟨by rfl, ?_⟩) ?_ ?_
                                                        rotate_left
                                                        · intro w'
                                                          go_simp
                                                          with_reducible rfl
                                                        rotate_left
                                                        · simp only [Act.put, List.setIfInBounds_toArray, List.set_cons_zero, List.set_cons_succ, i64_w, i32_w]
                                                          rfl
                                                        refine pure_ (i := 6) (N := some 139) (v := ?_) (a' := ?_) #[true, false, true, false, false, false, true, false, false, false, false, false, false, false] rfl rfl (any_of HT_.out (by kernel_rfl)) (fun _ _ _ h => h) (Or.inl ⟨by rfl, ?_⟩) ?_ ?_
                                                        rotate_left
                                                        · intro w'
                                                          go_simp
                                                          with_reducible rfl
                                                        rotate_left
                                                        · simp only [Act.put, List.setIfInBounds_toArray, List.set_cons_zero, List.set_cons_succ, i64_w, i32_w]
                                                          rfl
                                                        refine pure_ (i := 7) (N := some 140) (v := ?_) (a' := ?_) #[true, false, true, false, false, false, true, true, false, false, false, false, false, false] rfl rfl (any_of HT_.out (by kernel_rfl)) (fun _ _ _ h => h) (Or.inl ⟨by rfl, ?_⟩) ?_ ?_
                                                        rotate_left
                                                        · intro w'
                                                          go_simp
                                                          with_reducible rfl
                                                        rotate_left
                                                        · simp only [Act.put, List.setIfInBounds_toArray, List.set_cons_zero, List.set_cons_succ, i64_w, i32_w]
                                                          rfl
                                                        refine pure_ (i := 8) (N := some 141) (v := ?_) (a' := ?_) #[true, false, true, false, false, false, true, true, true, false, false, false, false, false] rfl rfl (any_of HT_.out (by kernel_rfl)) (fun _ _ _ h => h) (Or.inl ⟨by rfl, ?_⟩) ?_ ?_
                                                        rotate_left
                                                        · intro w'
                                                          go_simp
                                                          with_reducible rfl
                                                        rotate_left
                                                        · simp only [Act.put, List.setIfInBounds_toArray, List.set_cons_zero, List.set_cons_succ, i64_w, i32_w]
                                                          rfl
                                                        refine pure_ (i := 10) (N := some 143) (v := ?_) (a' := ?_) #[true, false, true, false, false, false, true, true, true, false, true, false, false, false] rfl rfl (any_of HT_.out (by kernel_rfl)) (fun _ _ _ h => h) (Or.inl ⟨by rfl, ?_⟩) ?_ ?_
                                                        rotate_left
                                                        · intro w'
                                                          go_simp
                                                          with_reducible rfl
                                                        rotate_left
                                                        · simp only [Act.put, List.setIfInBounds_toArray, List.set_cons_zero, List.set_cons_succ, i64_w, i32_w]
                                                          rfl
                                                        refine pure_ (i := 11) (N := some 144) (v := ?_) (a' := ?_) #[true, false, true, false, false, false, true, true, true, false, true, true, false, false] rfl rfl (any_of HT_.out (by kernel_rfl)) (fun _ _ _ h => h) (Or.inl ⟨by rfl, ?_⟩) ?_ ?_
                                                        rotate_left
                                                        · intro w'
                                                          go_simp
                                                          with_reducible rfl
                                                        rotate_left
                                                        · simp only [Act.put, List.setIfInBounds_toArray, List.set_cons_zero, List.set_cons_succ, i64_w, i32_w]
                                                          rfl
                                                        refine take_ (i := 1) (N := some 134) (v := ?_) (a' := ?_) #[true, true, true, false, false, false, true, true, true, false, true, true, false, false] rfl rfl (take_ofW HT_.out HW_.out (by kernel_rfl)) (fun _ _ _ h => h) (Or.inl ⟨by rfl, ?_⟩) hHeld ?_ ?_
                                                        rotate_left
                                                        · rintro w' ⟨s0, s1, s2⟩
                                                          go_simp
                                                          with_reducible rfl
                                                        rotate_left
                                                        · simp only [Act.put, List.setIfInBounds_toArray, List.set_cons_zero, List.set_cons_succ, i64_w, i32_w]
                                                          rfl
                                                        refine pure_ (i := 3) (N := some 136) (v := ?_) (a' := ?_) #[true, true, true, true, false, false, true, true, true, false, true, true, false, false] rfl rfl (any_of HT_.out (by kernel_rfl)) (fun _ _ _ h => h) (Or.inl ⟨by rfl, ?_⟩) ?_ ?_
                                                        rotate_left
                                                        · intro w'
                                                          go_simp
                                                          with_reducible rfl
                                                        rotate_left
                                                        · simp only [Act.put, List.setIfInBounds_toArray, List.set_cons_zero, List.set_cons_succ, i64_w, i32_w]
                                                          rfl
                                                        refine take_ (i := 4) (N := some 137) (v := ?_) (a' := ?_) #[true, true, true, true, true, false, true, true, true, false, true, true, false, false] rfl rfl (take_ofW HT_.out HW_.out (by kernel_rfl)) (fun _ _ _ h => h) (Or.inl ⟨by rfl, ?_⟩) hHeld ?_ ?_
                                                        rotate_left
                                                        · rintro w' ⟨s0, s1, s2⟩
                                                          go_simp
                                                          with_reducible rfl
                                                        rotate_left
                                                        · simp only [Act.put, List.setIfInBounds_toArray, List.set_cons_zero, List.set_cons_succ, i64_w, i32_w]
                                                          rfl
                                                        refine pure_ (i := 5) (N := some 138) (v := ?_) (a' := ?_) #[true, true, true, true, true, true, true, true, true, false, true, true, false, false] rfl rfl (any_of HT_.out (by kernel_rfl)) (fun _ _ _ h => h) (Or.inl ⟨by rfl, ?_⟩) ?_ ?_
                                                        rotate_left
                                                        · intro w'
                                                          go_simp
                                                          with_reducible rfl
                                                        rotate_left
                                                        · simp only [Act.put, List.setIfInBounds_toArray, List.set_cons_zero, List.set_cons_succ, i64_w, i32_w]
                                                          rfl
                                                        refine one_ (i := 9) (N := some 142) #[true, true, true, true, true, true, true, true, true, true, true, true, false, false] rfl rfl (one_of HT_.out (by kernel_rfl)) (by decide) (fun K hK => ?_)
                                                        refine goes_ Try.func34 (by kernel_rfl) rfl #[.slice A0 l0.length c0, .slice A2 l2.length c2, .int .i64 x130_7] (by rfl) rfl rfl (by (try simp only [List.map_toArray, List.map_cons, List.map_nil]); first | done | rfl | (simp only [List.length_drop, List.length_take]; rfl)) ?_
                                                        with_reducible refine (chatelaineref45_Row.calls k7 _ _ l0 _ _ l2 x130_7 t224 _ ?side1 ?side2 ?side3 ?side4 A42.out).mono ?_
                                                        (case side1 => repeat (first | exact (Kd.C_below HR0.out HB.out) | (with_reducible refine Kd.C_alloc ?_ _) | (with_reducible refine Kd.C_drewN ?_ _) | (with_reducible refine Kd.C_drew ?_)))
                                                        (case side2 => exact HC0.out)
                                                        (case side3 => repeat (first | exact (Kd.C_below HR2.out HB.out) | (with_reducible refine Kd.C_alloc ?_ _) | (with_reducible refine Kd.C_drewN ?_ _) | (with_reducible refine Kd.C_drew ?_)))
                                                        (case side4 => exact HC2.out)
                                                        rintro e w46 ⟨v225, rfl, ho0, hb⟩
                                                        refine ⟨_, rfl, ?_⟩
                                                        have n0_ := Aside0.mk (Kd.R_lower ho0 (below_size (by repeat (first | (with_reducible first | exact HB.out | apply below_alloc | apply pw_below_drewN | apply below_drew1 | refine below_set ?_ GE222.out) | exact HB.out))))
                                                        have n1_ := Aside0.mk (blk_below (g := gb222) (o := .cells #[.int .u8 ((rd_T54 l3 x109_5).f0), .slice (some ad223) ((rd_T54 l3 x109_5).f1).length c221_1] 54 (0, 0)) (by (with_reducible repeat (first | refine blk_drewN ?_ _ | refine blk_drew ?_ | refine blk_alloc ?_ _)); exact BK222.out) hb)
                                                        have n2_ := Aside0.mk (below_step (by repeat (first | (with_reducible first | exact HB.out | apply below_alloc | apply pw_below_drewN | apply below_drew1 | refine below_set ?_ GE222.out) | exact HB.out)) hb)
                                                        clear BK222
                                                        clear HB
                                                        have HO226 := n0_
                                                        have BK222 := n1_
                                                        have HB := n2_
                                                        clear n0_ n1_ n2_
                                                        (try clear hb)
                                                        (try clear hb2)
                                                        (try clear hk)
                                                        (try clear hi)
                                                        (try clear ho0)
                                                        obtain ⟨Ao47, co47, eo47⟩ := Kd.R_slice HO226.out
                                                        (first | subst eo47 | (injection eo47 with f1_ f2_ f3_; have f4_ := f1_.symm; have f5_ := f3_.symm; clear f1_ f2_ f3_; subst f4_; subst f5_))
                                                        refine hK.out _ _ ⟨(blk_cell BK222.out 0).trans rfl, (blk_cell BK222.out 1).trans rfl, ((HB.out.cell (World.block_lt_of_cell? u _ hw223_0)).trans hw223_0)⟩ (fun hHeld => ?_)
                                                        clear hK K
                                                        refine norm_ (a' := ?_) ?_ ?_
                                                        rotate_left
                                                        · show Act.put _ (some 142) _ = _
                                                          simp only [Act.put, List.setIfInBounds_toArray, List.set_cons_zero, List.set_cons_succ, i64_w, i32_w]
                                                          rfl
                                                        refine one_ (i := 12) (N := some 145) #[true, true, true, true, true, true, true, true, true, true, true, true, true, false] rfl rfl (one_of HT_.out (by kernel_rfl)) (by decide) (fun K hK => ?_)
                                                        refine goes_ Try.func33 (by kernel_rfl) rfl #[.slice Ao47 t224.length co47, .int .i64 (wrap64 (x109_5 + 1))] (by rfl) rfl rfl (by (try simp only [List.map_toArray, List.map_cons, List.map_nil]); first | done | rfl | (simp only [List.length_drop, List.length_take]; rfl)) ?_
                                                        with_reducible refine (chatelaineref45_Value.calls k7 _ _ t224 (wrap64 (x109_5 + 1)) t227 _ ?side1 ?side2 A43.out).mono ?_
                                                        (case side1 => repeat (first | exact (Kd.R_reads' HO226.out).2.2 | (with_reducible refine Kd.C_alloc ?_ _) | (with_reducible refine Kd.C_drewN ?_ _) | (with_reducible refine Kd.C_drew ?_)))
                                                        (case side2 => exact (Kd.R_reads' HO226.out).2.1)
                                                        rintro e w' ⟨rfl, ⟨nd, rfl⟩⟩
                                                        refine ⟨_, rfl, ?_⟩
                                                        refine hK.out _ _ ⟨(blk_cell BK222.out 0).trans rfl, (blk_cell BK222.out 1).trans rfl, ((HB.out.cell (World.block_lt_of_cell? u _ hw223_0)).trans hw223_0)⟩ (fun hHeld => ?_)
                                                        clear hK K
                                                        refine norm_ (a' := ?_) ?_ ?_
                                                        rotate_left
                                                        · show Act.put _ (some 145) _ = _
                                                          simp only [Act.put, List.setIfInBounds_toArray, List.set_cons_zero, List.set_cons_succ, i64_w, i32_w]
                                                          rfl
                                                        refine pure_ (i := 13) (N := some 146) (v := ?_) (a' := ?_) #[true, true, true, true, true, true, true, true, true, true, true, true, true, true] rfl rfl (any_of HT_.out (by kernel_rfl)) (fun _ _ _ h => h) (Or.inl ⟨by rfl, ?_⟩) ?_ ?_
                                                        rotate_left
                                                        · intro w'
                                                          go_simp
                                                          with_reducible rfl
                                                        rotate_left
                                                        · simp only [Act.put, List.setIfInBounds_toArray, List.set_cons_zero, List.set_cons_succ, i64_w, i32_w]
                                                          rfl
                                                        refine done_ (done_of HT_.out (by kernel_rfl)) ?_
                                                        try go_wp2
                                                        go_roundg k7
                                                        case measure => have := HJ8.out; have := HJ14.out; have := HK3.out; have := HJ25.out; have := HK5.out; have := HJ31.out; have := HK7.out; omega
                                                        case rel => exact ⟨(wrap64 (x130_7 + 1)), (by first | rfl | (simp; done) | (simp [*]; done)), H', ⟨by have := HJ8.out; have := HJ14.out; have := HK3.out; have := HJ25.out; have := HK5.out; have := HJ31.out; have := HK7.out; omega⟩, ⟨by (with_reducible repeat (first | refine blk_drewN ?_ _ | refine blk_drew ?_ | refine blk_alloc ?_ _)); exact BK222.out⟩, ⟨by repeat (first | (with_reducible first | exact HB.out | apply below_alloc | apply pw_below_drewN | apply below_drew1 | refine below_set ?_ GE222.out) | exact HB.out)⟩⟩
                                                      · rw [if_neg c44] at H
                                                        have c44b0 : ((wrap64 (rd ((rd_T54 l3 x109_5).f1) x130_7)) == t227) = false := beq_eq_false_iff_ne.mpr c44
                                                        have c44b1 : ((wrap64 (rd ((rd_T54 l3 x109_5).f1) x130_7)) != t227) = true := bne_iff_ne.mpr c44
                                                        obtain rfl := Option.some.inj H
                                                        try go_wp2
                                                        have n0_ := Aside0.mk (blk_drew BK222.out)
                                                        have n1_ := Aside0.mk (below_drew1 HB.out)
                                                        clear BK222
                                                        clear HB
                                                        have BK222 := n0_
                                                        have HB := n1_
                                                        clear n0_ n1_
                                                        have p223 : 0 ≤ (x130_7 : Int) := of_decide_eq_true (by first | (with_reducible assumption) | assumption)
                                                        have q223 : x130_7 < (((rd_T54 l3 x109_5).f1).length : Int) := of_decide_eq_true (by first | (with_reducible assumption) | assumption)
                                                        obtain ⟨ad223, e223, hx223_0⟩ := Kd.at_int HR221_1.out x130_7 p223 q223
                                                        have hw223_0 := hx223_0
                                                        cases e223
                                                        replace hx223_0 := (HB.out.cell (World.block_lt_of_cell? u _ hx223_0)).trans hx223_0
                                                        replace p223 := eq_true p223
                                                        replace q223 := eq_true q223
                                                        refine start_ (n := 14) (S := fun w' => w'.cell? ⟨gb222, 0, none⟩ = some (.int .u8 ((rd_T54 l3 x109_5).f0)) ∧ w'.cell? ⟨gb222, 1, none⟩ = some (.slice (some ad223) ((rd_T54 l3 x109_5).f1).length c221_1) ∧ w'.cell? (ad223.add (x130_7).toNat) = some (.int .u8 (rd ((rd_T54 l3 x109_5).f1) x130_7))) (ds := []) #[false, false, false, false, false, false, false, false, false, false, false, false, false, false] (by kernel_rfl) rfl rfl ⟨(blk_cell BK222.out 0).trans rfl, (blk_cell BK222.out 1).trans rfl, ((HB.out.cell (World.block_lt_of_cell? u _ hw223_0)).trans hw223_0)⟩ (fun hHeld => ?_); refine with_tabW chatelainelaw45_SplitSplits.tab24 chatelainelaw45_SplitSplits.bits24 (fun HT_ HW_ => ?_)
                                                        generalize wr.drew = w48 at BK222 HB hx223_0 hHeld ⊢
                                                        refine pure_ (i := 0) (N := some 133) (v := ?_) (a' := ?_) #[true, false, false, false, false, false, false, false, false, false, false, false, false, false] rfl rfl (any_of HT_.out (by kernel_rfl)) (fun _ _ _ h => h) (Or.inl ⟨by rfl, ?_⟩) ?_ ?_
                                                        rotate_left
                                                        · intro w'
                                                          go_simp
                                                          with_reducible rfl
                                                        rotate_left
                                                        · simp only [Act.put, List.setIfInBounds_toArray, List.set_cons_zero, List.set_cons_succ, i64_w, i32_w]
                                                          rfl
                                                        refine pure_ (i := 2) (N := some 135) (v := ?_) (a' := ?_) #[true, false, true, false, false, false, false, false, false, false, false, false, false, false] rfl rfl (any_of HT_.out (by kernel_rfl)) (fun _ _ _ h => h) (Or.inl ⟨by rfl, ?_⟩) ?_ ?_
                                                        rotate_left
                                                        · intro w'
                                                          go_simp
                                                          with_reducible rfl
                                                        rotate_left
                                                        · simp only [Act.put, List.setIfInBounds_toArray, List.set_cons_zero, List.set_cons_succ, i64_w, i32_w]
                                                          rfl
                                                        refine pure_ (i := 6) (N := some 139) (v := ?_) (a' := ?_) #[true, false, true, false, false, false, true, false, false, false, false, false, false, false] rfl rfl (any_of HT_.out (by kernel_rfl)) (fun _ _ _ h => h) (Or.inl ⟨by rfl, ?_⟩) ?_ ?_
                                                        rotate_left
                                                        · intro w'
                                                          go_simp
                                                          with_reducible rfl
                                                        rotate_left
                                                        · simp only [Act.put, List.setIfInBounds_toArray, List.set_cons_zero, List.set_cons_succ, i64_w, i32_w]
                                                          rfl
                                                        refine pure_ (i := 7) (N := some 140) (v := ?_) (a' := ?_) #[true, false, true, false, false, false, true, true, false, false, false, false, false, false] rfl rfl (any_of HT_.out (by kernel_rfl)) (fun _ _ _ h => h) (Or.inl ⟨by rfl, ?_⟩) ?_ ?_
                                                        rotate_left
                                                        · intro w'
                                                          go_simp
                                                          with_reducible rfl
                                                        rotate_left
                                                        · simp only [Act.put, List.setIfInBounds_toArray, List.set_cons_zero, List.set_cons_succ, i64_w, i32_w]
                                                          rfl
                                                        refine pure_ (i := 8) (N := some 141) (v := ?_) (a' := ?_) #[true, false, true, false, false, false, true, true, true, false, false, false, false, false] rfl rfl (any_of HT_.out (by kernel_rfl)) (fun _ _ _ h => h) (Or.inl ⟨by rfl, ?_⟩) ?_ ?_
                                                        rotate_left
                                                        · intro w'
                                                          go_simp
                                                          with_reducible rfl
                                                        rotate_left
                                                        · simp only [Act.put, List.setIfInBounds_toArray, List.set_cons_zero, List.set_cons_succ, i64_w, i32_w]
                                                          rfl
                                                        refine pure_ (i := 10) (N := some 143) (v := ?_) (a' := ?_) #[true, false, true, false, false, false, true, true, true, false, true, false, false, false] rfl rfl (any_of HT_.out (by kernel_rfl)) (fun _ _ _ h => h) (Or.inl ⟨by rfl, ?_⟩) ?_ ?_
                                                        rotate_left
                                                        · intro w'
                                                          go_simp
                                                          with_reducible rfl
                                                        rotate_left
                                                        · simp only [Act.put, List.setIfInBounds_toArray, List.set_cons_zero, List.set_cons_succ, i64_w, i32_w]
                                                          rfl
                                                        refine pure_ (i := 11) (N := some 144) (v := ?_) (a' := ?_) #[true, false, true, false, false, false, true, true, true, false, true, true, false, false] rfl rfl (any_of HT_.out (by kernel_rfl)) (fun _ _ _ h => h) (Or.inl ⟨by rfl, ?_⟩) ?_ ?_
                                                        rotate_left
                                                        · intro w'
                                                          go_simp
                                                          with_reducible rfl
                                                        rotate_left
                                                        · simp only [Act.put, List.setIfInBounds_toArray, List.set_cons_zero, List.set_cons_succ, i64_w, i32_w]
                                                          rfl
                                                        refine take_ (i := 1) (N := some 134) (v := ?_) (a' := ?_) #[true, true, true, false, false, false, true, true, true, false, true, true, false, false] rfl rfl (take_ofW HT_.out HW_.out (by kernel_rfl)) (fun _ _ _ h => h) (Or.inl ⟨by rfl, ?_⟩) hHeld ?_ ?_
                                                        rotate_left
                                                        · rintro w' ⟨s0, s1, s2⟩
                                                          go_simp
                                                          with_reducible rfl
                                                        rotate_left
                                                        · simp only [Act.put, List.setIfInBounds_toArray, List.set_cons_zero, List.set_cons_succ, i64_w, i32_w]
                                                          rfl
                                                        refine pure_ (i := 3) (N := some 136) (v := ?_) (a' := ?_) #[true, true, true, true, false, false, true, true, true, false, true, true, false, false] rfl rfl (any_of HT_.out (by kernel_rfl)) (fun _ _ _ h => h) (Or.inl ⟨by rfl, ?_⟩) ?_ ?_
                                                        rotate_left
                                                        · intro w'
                                                          go_simp
                                                          with_reducible rfl
                                                        rotate_left
                                                        · simp only [Act.put, List.setIfInBounds_toArray, List.set_cons_zero, List.set_cons_succ, i64_w, i32_w]
                                                          rfl
                                                        refine take_ (i := 4) (N := some 137) (v := ?_) (a' := ?_) #[true, true, true, true, true, false, true, true, true, false, true, true, false, false] rfl rfl (take_ofW HT_.out HW_.out (by kernel_rfl)) (fun _ _ _ h => h) (Or.inl ⟨by rfl, ?_⟩) hHeld ?_ ?_
                                                        rotate_left
                                                        · rintro w' ⟨s0, s1, s2⟩
                                                          go_simp
                                                          with_reducible rfl
                                                        rotate_left
                                                        · simp only [Act.put, List.setIfInBounds_toArray, List.set_cons_zero, List.set_cons_succ, i64_w, i32_w]
                                                          rfl
                                                        refine pure_ (i := 5) (N := some 138) (v := ?_) (a' := ?_) #[true, true, true, true, true, true, true, true, true, false, true, true, false, false] rfl rfl (any_of HT_.out (by kernel_rfl)) (fun _ _ _ h => h) (Or.inl ⟨by rfl, ?_⟩) ?_ ?_
                                                        rotate_left
                                                        · intro w'
                                                          go_simp
                                                          with_reducible rfl
                                                        rotate_left
                                                        · simp only [Act.put, List.setIfInBounds_toArray, List.set_cons_zero, List.set_cons_succ, i64_w, i32_w]
                                                          rfl
                                                        refine one_ (i := 9) (N := some 142) #[true, true, true, true, true, true, true, true, true, true, true, true, false, false] rfl rfl (one_of HT_.out (by kernel_rfl)) (by decide) (fun K hK => ?_)
                                                        refine goes_ Try.func34 (by kernel_rfl) rfl #[.slice A0 l0.length c0, .slice A2 l2.length c2, .int .i64 x130_7] (by rfl) rfl rfl (by (try simp only [List.map_toArray, List.map_cons, List.map_nil]); first | done | rfl | (simp only [List.length_drop, List.length_take]; rfl)) ?_
                                                        with_reducible refine (chatelaineref45_Row.calls k7 _ _ l0 _ _ l2 x130_7 t224 _ ?side1 ?side2 ?side3 ?side4 A42.out).mono ?_
                                                        (case side1 => repeat (first | exact (Kd.C_below HR0.out HB.out) | (with_reducible refine Kd.C_alloc ?_ _) | (with_reducible refine Kd.C_drewN ?_ _) | (with_reducible refine Kd.C_drew ?_)))
                                                        (case side2 => exact HC0.out)
                                                        (case side3 => repeat (first | exact (Kd.C_below HR2.out HB.out) | (with_reducible refine Kd.C_alloc ?_ _) | (with_reducible refine Kd.C_drewN ?_ _) | (with_reducible refine Kd.C_drew ?_)))
                                                        (case side4 => exact HC2.out)
                                                        rintro e w49 ⟨v225, rfl, ho0, hb⟩
                                                        refine ⟨_, rfl, ?_⟩
                                                        have n0_ := Aside0.mk (Kd.R_lower ho0 (below_size (by repeat (first | (with_reducible first | exact HB.out | apply below_alloc | apply pw_below_drewN | apply below_drew1 | refine below_set ?_ GE222.out) | exact HB.out))))
                                                        have n1_ := Aside0.mk (blk_below (g := gb222) (o := .cells #[.int .u8 ((rd_T54 l3 x109_5).f0), .slice (some ad223) ((rd_T54 l3 x109_5).f1).length c221_1] 54 (0, 0)) (by (with_reducible repeat (first | refine blk_drewN ?_ _ | refine blk_drew ?_ | refine blk_alloc ?_ _)); exact BK222.out) hb)
                                                        have n2_ := Aside0.mk (below_step (by repeat (first | (with_reducible first | exact HB.out | apply below_alloc | apply pw_below_drewN | apply below_drew1 | refine below_set ?_ GE222.out) | exact HB.out)) hb)
                                                        clear BK222
                                                        clear HB
                                                        have HO226 := n0_
                                                        have BK222 := n1_
                                                        have HB := n2_
                                                        clear n0_ n1_ n2_
                                                        (try clear hb)
                                                        (try clear hb2)
                                                        (try clear hk)
                                                        (try clear hi)
                                                        (try clear ho0)
                                                        obtain ⟨Ao50, co50, eo50⟩ := Kd.R_slice HO226.out
                                                        (first | subst eo50 | (injection eo50 with f1_ f2_ f3_; have f4_ := f1_.symm; have f5_ := f3_.symm; clear f1_ f2_ f3_; subst f4_; subst f5_))
                                                        refine hK.out _ _ ⟨(blk_cell BK222.out 0).trans rfl, (blk_cell BK222.out 1).trans rfl, ((HB.out.cell (World.block_lt_of_cell? u _ hw223_0)).trans hw223_0)⟩ (fun hHeld => ?_)
                                                        clear hK K
                                                        refine norm_ (a' := ?_) ?_ ?_
                                                        rotate_left
                                                        · show Act.put _ (some 142) _ = _
                                                          simp only [Act.put, List.setIfInBounds_toArray, List.set_cons_zero, List.set_cons_succ, i64_w, i32_w]
                                                          rfl
                                                        refine one_ (i := 12) (N := some 145) #[true, true, true, true, true, true, true, true, true, true, true, true, true, false] rfl rfl (one_of HT_.out (by kernel_rfl)) (by decide) (fun K hK => ?_)
                                                        refine goes_ Try.func33 (by kernel_rfl) rfl #[.slice Ao50 t224.length co50, .int .i64 (wrap64 (x109_5 + 1))] (by rfl) rfl rfl (by (try simp only [List.map_toArray, List.map_cons, List.map_nil]); first | done | rfl | (simp only [List.length_drop, List.length_take]; rfl)) ?_
                                                        with_reducible refine (chatelaineref45_Value.calls k7 _ _ t224 (wrap64 (x109_5 + 1)) t227 _ ?side1 ?side2 A43.out).mono ?_
                                                        (case side1 => repeat (first | exact (Kd.R_reads' HO226.out).2.2 | (with_reducible refine Kd.C_alloc ?_ _) | (with_reducible refine Kd.C_drewN ?_ _) | (with_reducible refine Kd.C_drew ?_)))
                                                        (case side2 => exact (Kd.R_reads' HO226.out).2.1)
                                                        rintro e w' ⟨rfl, ⟨nd, rfl⟩⟩
                                                        refine ⟨_, rfl, ?_⟩
                                                        refine hK.out _ _ ⟨(blk_cell BK222.out 0).trans rfl, (blk_cell BK222.out 1).trans rfl, ((HB.out.cell (World.block_lt_of_cell? u _ hw223_0)).trans hw223_0)⟩ (fun hHeld => ?_)
                                                        clear hK K
                                                        refine norm_ (a' := ?_) ?_ ?_
                                                        rotate_left
                                                        · show Act.put _ (some 145) _ = _
                                                          simp only [Act.put, List.setIfInBounds_toArray, List.set_cons_zero, List.set_cons_succ, i64_w, i32_w]
                                                          rfl
                                                        refine pure_ (i := 13) (N := some 146) (v := ?_) (a' := ?_) #[true, true, true, true, true, true, true, true, true, true, true, true, true, true] rfl rfl (any_of HT_.out (by kernel_rfl)) (fun _ _ _ h => h) (Or.inl ⟨by rfl, ?_⟩) ?_ ?_
                                                        rotate_left
                                                        · intro w'
                                                          go_simp
                                                          with_reducible rfl
                                                        rotate_left
                                                        · simp only [Act.put, List.setIfInBounds_toArray, List.set_cons_zero, List.set_cons_succ, i64_w, i32_w]
                                                          rfl
                                                        refine done_ (done_of HT_.out (by kernel_rfl)) ?_
                                                        try go_wp2
                                                        go_ret
                                                        exact ⟨by first | rfl | (simp [errW_none, errW_some] <;> rfl) | (simp [*, errW_none, errW_some] <;> rfl), below_step HW.out (below_step HV.out (by repeat (first | (with_reducible first | exact HB.out | apply below_alloc | apply pw_below_drewN | apply below_drew1 | refine below_set ?_ GE222.out) | exact HB.out)))⟩
                                                    · rw [if_neg c41] at H
                                                      exact absurd H (by simp)
                                                  · rw [if_neg c40] at H
                                                    exact absurd H (by simp)
                                                · rw [if_neg c39] at H
                                                  have c39b0 : decide (x130_7 < (l0.length : Int)) = false := decide_eq_false c39
                                                  clear c39
                                                  have H' := Aside0.mk H
                                                  clear H
                                                  go_wp2
                                                  go_roundg k7
                                                  case measure => have := HJ8.out; have := HJ14.out; have := HK3.out; have := HJ25.out; have := HK5.out; have := HJ31.out; have := HK7.out; omega
                                                  case rel => exact ⟨(wrap64 (x109_5 + 1)), (by first | rfl | (simp; done) | (simp [*]; done)), H', ⟨by have := HJ8.out; have := HJ14.out; have := HK3.out; have := HJ25.out; have := HK5.out; have := HJ31.out; have := HK7.out; omega⟩, ⟨by repeat (first | (with_reducible first | exact HB.out | apply below_alloc | apply pw_below_drewN | apply below_drew1 | refine below_set ?_ GE222.out) | exact HB.out)⟩⟩
                                    · rw [if_neg c31] at H
                                      exact absurd H (by simp)
                                  · rw [if_neg c30] at H
                                    exact absurd H (by simp)
                                · rw [if_neg c29] at H
                                  have c29b0 : decide (x109_5 < (l3.length : Int)) = false := decide_eq_false c29
                                  clear c29
                                  obtain rfl := Option.some.inj H
                                  go_wp2
                                  go_ret
                                  exact ⟨by first | rfl | (simp [errW_none, errW_some] <;> rfl) | (simp [*, errW_none, errW_some] <;> rfl), below_step HW.out (below_step HV.out (by repeat (first | (with_reducible first | exact HB.out | apply below_alloc | apply pw_below_drewN | apply below_drew1) | exact HB.out)))⟩
                    · replace c25 := Bool.eq_false_iff.mpr c25
                      subst c25
                      have H1 : (if a5 = 2 then (some ((l3.length : Int) == 0)) else (some false)) = some r := by rw [if_neg (show ¬ (false = true) by decide)] at H; exact H
                      clear H
                      have H := H1
                      clear H1
                      by_cases c51 : a5 = 2
                      · rw [if_pos c51] at H
                        have c51b0 : (a5 == 2) = true := beq_iff_eq.mpr c51
                        have c51b1 : (a5 != 2) = false := bne_eq_false_iff_eq.mpr c51
                        clear c51
                        obtain rfl := Option.some.inj H
                        go_wp2
                        go_ret
                        exact ⟨by first | rfl | (simp [errW_none, errW_some] <;> rfl) | (simp [*, errW_none, errW_some] <;> rfl), below_step HW.out (below_step HV.out (by repeat (first | (with_reducible first | exact HB.out | apply below_alloc | apply pw_below_drewN | apply below_drew1) | exact HB.out)))⟩
                      · rw [if_neg c51] at H
                        have c51b0 : (a5 == 2) = false := beq_eq_false_iff_ne.mpr c51
                        have c51b1 : (a5 != 2) = true := bne_iff_ne.mpr c51
                        obtain rfl := Option.some.inj H
                        go_wp2
                        go_ret
                        exact ⟨by first | rfl | (simp [errW_none, errW_some] <;> rfl) | (simp [*, errW_none, errW_some] <;> rfl), below_step HW.out (below_step HV.out (by repeat (first | (with_reducible first | exact HB.out | apply below_alloc | apply pw_below_drewN | apply below_drew1) | exact HB.out)))⟩
  · replace c8 := Bool.eq_false_iff.mpr c8
    subst c8
    have H1 : (some false) = some r := by rw [if_neg (show ¬ (false = true) by decide)] at H; exact H
    clear H
    have H := H1
    clear H1
    obtain rfl := Option.some.inj H
    go_wp2_with (first | ((with_reducible refine gate_callee (f := 30) rfl ?_); refine goesL_ (some 15) rfl rfl Try.func30 (by kernel_rfl) rfl #[] rfl (by (try simp only [List.map_toArray, List.map_cons, List.map_nil]); first | done | rfl | (simp only [List.length_drop, List.length_take]; rfl)) ?_; (with_reducible refine (chatelainelaw45_awake.calls k  false _ A7.out).mono ?_); rintro e w52 ⟨rfl, hb⟩; refine ⟨_, rfl, ?_⟩; have n0_ := Aside0.mk (below_step (by repeat (first | (with_reducible first | exact HB.out | apply below_alloc | apply pw_below_drewN | apply below_drew1) | exact HB.out)) hb); clear HB; have HB := n0_; clear n0_; (try clear hb); (try clear hb2); (try clear hk); (try clear hi)))
    go_ret
    exact ⟨by first | rfl | (simp [errW_none, errW_some] <;> rfl) | (simp [*, errW_none, errW_some] <;> rfl), below_step HW.out (by repeat (first | (with_reducible first | exact HB.out | apply below_alloc | apply pw_below_drewN | apply below_drew1) | exact HB.out))⟩

end Go.Proofs.Ytphoelhelmnibaa.PQ
