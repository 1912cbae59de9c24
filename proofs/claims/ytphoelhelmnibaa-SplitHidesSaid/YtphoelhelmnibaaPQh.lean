/- The walk of SplitHides, and what it answers. -/
import Derived.Test.YtphoelhelmnibaaPQx5
namespace Go.Proofs.Ytphoelhelmnibaa.PQ
open Go.RowKit Go.Proofs.YtphoelhelmnibaaW.PrintWords Go.Proofs.YtphoelhelmnibaaW.PrintLast Go.Proofs.YtphoelhelmnibaaW.PrintMore
attribute [local go_sem] max2_int min2_int max_two min_two max_three min_three max_four min_four   -- for this text's walks alone
set_option linter.unusedVariables false
set_option linter.unusedSimpArgs false
/-- A row whose elements were known in an elder world is read now. -/
theorem fixed_read {w0 w : World} {A : Option Addr} {n : Nat} {xs : List S54} (hb : Below w0.heap.size w0 w) (h : (Kd.fixed k54 w0).C w A n xs) : k54.C w A n xs :=
  ReadsRow.imp_ h (Below.refl w.heap.size w) (fun _ _ hp => k54.K_below hb hp)
/-- One element in a block of its own is a row that is read. -/
theorem row_one {w0 w : World} {g : Nat} {p : S54} {x y : Value} (hg : w.heap[g]? = some (.cells #[x, y] 54 (0, 0))) (hp : k54.K w0 p [x, y]) : ReadsRow (k54.K w0) 2 w (some ⟨g, 0, none⟩) 1 [p] := by
  refine ⟨rfl, by omega, fun _ => ⟨⟨g, 0, none⟩, rfl, fun j q hj => ?_⟩⟩
  obtain rfl : j = 0 := by
    have := (List.getElem?_eq_some_iff.1 hj).1
    simpa using this
  obtain rfl : p = q := by simpa using hj
  refine ⟨[x, y], rfl, hp, fun i u hu => ?_⟩
  rw [add_plain, blk_cell hg]
  match i, hu with
  | 0, hu => simpa using hu
  | 1, hu => simpa using hu
  | i + 2, hu => simp at hu

/-! ### chatelainelaw45_SplitHides: function 11 -/
mutual
def chatelainelaw45_SplitHides.j0 : Nat → List Int → List (List Int) → List (S54) → Int → Bool → Option (Bool)
  | 0, _, _, _, _, _ => none
  | k + 1, x1, x2, x3, x4, x33 => if x33 = true then (some true) else (if x4 = 0 then (if 0 ≤ (wrap64 ((wrap64 ((x2.length : Int) + 1)) - 1)) then (if (wrap64 ((wrap64 ((x2.length : Int) + 1)) - 1)) ≤ (x3.length : Int) then (chatelainelaw45_SplitHides.l0 k x1 (wrap64 ((x2.length : Int) + 1)) x3 (x3.take ((wrap64 ((wrap64 ((x2.length : Int) + 1)) - 1)) : Int).toNat) ([] : List Int) (x1.length : Int) 0) else (none)) else (none)) else (some ((x3.length : Int) == 0)))
def chatelainelaw45_SplitHides.l0 : Nat → List Int → Int → List (S54) → List (S54) → List Int → Int → Int → Option (Bool)
  | 0, _, _, _, _, _, _, _ => none
  | k + 1, x1, x7, x8, x10, x11, x55, x56 => if x56 < x55 then (chatelainelaw45_SplitHides.l1 k x1 x7 x8 x10 x11 x56 ([] : List (S54)) x55 x56 x10 (x10.length : Int) 0) else ((some (([] : List (S54)) : List (S54))).bind fun y211 => (if y211.length + x10.length < 4398046511104 then ((some (y211 ++ x10 : List (S54))).bind fun y214 => (if 0 ≤ (wrap64 (x7 - 1)) then (if (wrap64 (x7 - 1)) < (x8.length : Int) then (if y214.length < 4398046511104 then ((split_Join.f k (y214 ++ [(⟨(rd_T54 x8 (wrap64 (x7 - 1))).f0, x11⟩ : S54)])).bind fun bt221 => (if bt221.2 = 0 then ((chatelaineref01_Same.f k bt221.1 x1).bind fun t225 => (some t225)) else (some false))) else (none)) else (none)) else (none))) else (none)))
def chatelainelaw45_SplitHides.l1 : Nat → List Int → Int → List (S54) → List (S54) → List Int → Int → List (S54) → Int → Int → List (S54) → Int → Int → Option (Bool)
  | 0, _, _, _, _, _, _, _, _, _, _, _, _ => none
  | k + 1, x1, x7, x8, x10, x11, x12, x13, x55, x56, x59, x60, x61 => if x61 < x60 then (if 0 ≤ x61 then (if x61 < (x59.length : Int) then (if 0 ≤ x12 then (if x12 < (((rd_T54 x59 x61).f1).length : Int) then (if x13.length < 4398046511104 then (chatelainelaw45_SplitHides.l1 k x1 x7 x8 x10 x11 x12 (x13 ++ [(⟨Go.bits .xor .u8 ((rd_T54 x59 x61).f0) 128, (([rd ((rd_T54 x59 x61).f1) x12] : List Int))⟩ : S54)]) x55 x56 x59 x60 (wrap64 (x61 + 1))) else (none)) else (none)) else (none)) else (none)) else (none)) else (if 0 ≤ x12 then (if x12 < (x1.length : Int) then (if x13.length < 4398046511104 then (if 0 ≤ (wrap64 (x7 - 1)) then (if (wrap64 (x7 - 1)) < (x8.length : Int) then ((split_At.f k (x13 ++ [(⟨128, (([rd x1 x12] : List Int))⟩ : S54)]) (Go.bits .xor .u8 ((rd_T54 x8 (wrap64 (x7 - 1))).f0) 128)).bind fun bt243 => (if bt243.2 = 0 then (if (bt243.1.length : Int) = 1 then (if 0 < (bt243.1.length : Int) then (if x11.length < 140737488355328 then (chatelainelaw45_SplitHides.l0 k x1 x7 x8 x10 (x11 ++ [rd bt243.1 0]) x55 (wrap64 (x56 + 1))) else (none)) else (none)) else (some false)) else (some false))) else (none)) else (none)) else (none)) else (none)) else (none))
end
def chatelainelaw45_SplitHides.f (k : Nat) (l0 : List Int) (l1 : List Int) (l2 : List (List Int)) (l3 : List (S54)) (a4 : Int) : Option (Bool) := (chatelainelaw45_awake.f k).bind fun t204 => (if t204 = true then ((chatelainelaw45_few.f k l0 l2).bind fun t205 => (if t205 = true then (chatelainelaw45_SplitHides.j0 k l1 l2 l3 a4 ((l1.length : Int) != (l0.length : Int))) else (chatelainelaw45_SplitHides.j0 k l1 l2 l3 a4 true))) else (some false))
theorem chatelainelaw45_SplitHides.mono_l : ∀ k, (∀ y0 y1 y2 y3 y4, LeO (chatelainelaw45_SplitHides.j0 k y0 y1 y2 y3 y4) (chatelainelaw45_SplitHides.j0 (k + 1) y0 y1 y2 y3 y4)) ∧ (∀ y0 y1 y2 y3 y4 y5 y6, LeO (chatelainelaw45_SplitHides.l0 k y0 y1 y2 y3 y4 y5 y6) (chatelainelaw45_SplitHides.l0 (k + 1) y0 y1 y2 y3 y4 y5 y6)) ∧ (∀ y0 y1 y2 y3 y4 y5 y6 y7 y8 y9 y10 y11, LeO (chatelainelaw45_SplitHides.l1 k y0 y1 y2 y3 y4 y5 y6 y7 y8 y9 y10 y11) (chatelainelaw45_SplitHides.l1 (k + 1) y0 y1 y2 y3 y4 y5 y6 y7 y8 y9 y10 y11))
  | 0 => ⟨fun _ _ _ _ _ r h => by simp [chatelainelaw45_SplitHides.j0] at h, fun _ _ _ _ _ _ _ r h => by simp [chatelainelaw45_SplitHides.l0] at h, fun _ _ _ _ _ _ _ _ _ _ _ _ r h => by simp [chatelainelaw45_SplitHides.l1] at h⟩
  | k + 1 => by
    obtain ⟨ih0, ih1, ih2⟩ := chatelainelaw45_SplitHides.mono_l k
    refine ⟨?_, ?_, ?_⟩
    · intro y0 y1 y2 y3 y4
      unfold chatelainelaw45_SplitHides.j0
      repeat' first
      | (with_reducible exact ih0 _ _ _ _ _)
      | (with_reducible exact ih1 _ _ _ _ _ _ _)
      | (with_reducible exact ih2 _ _ _ _ _ _ _ _ _ _ _ _)
      | (with_reducible exact chatelainelaw45_awake.mono _)
      | (with_reducible exact chatelainelaw45_few.mono _ _ _)
      | (with_reducible exact chatelaineref01_Same.mono _ _ _)
      | (with_reducible exact split_At.mono _ _ _)
      | (with_reducible exact split_Join.mono _ _)
      | (with_reducible exact LeO.refl _)
      | (with_reducible exact LeO.none _)
      | (with_reducible refine LeO.ite ?_ ?_)
      | (with_reducible refine LeO.bind ?_ (fun _ => ?_))
      | exact ih0 _ _ _ _ _
      | exact ih1 _ _ _ _ _ _ _
      | exact ih2 _ _ _ _ _ _ _ _ _ _ _ _
      | exact chatelainelaw45_awake.mono _
      | exact chatelainelaw45_few.mono _ _ _
      | exact chatelaineref01_Same.mono _ _ _
      | exact split_At.mono _ _ _
      | exact split_Join.mono _ _
      | exact LeO.none _
      | refine LeO.ite ?_ ?_
      | refine LeO.bind ?_ (fun _ => ?_)
    · intro y0 y1 y2 y3 y4 y5 y6
      unfold chatelainelaw45_SplitHides.l0
      repeat' first
      | (with_reducible exact ih0 _ _ _ _ _)
      | (with_reducible exact ih1 _ _ _ _ _ _ _)
      | (with_reducible exact ih2 _ _ _ _ _ _ _ _ _ _ _ _)
      | (with_reducible exact chatelainelaw45_awake.mono _)
      | (with_reducible exact chatelainelaw45_few.mono _ _ _)
      | (with_reducible exact chatelaineref01_Same.mono _ _ _)
      | (with_reducible exact split_At.mono _ _ _)
      | (with_reducible exact split_Join.mono _ _)
      | (with_reducible exact LeO.refl _)
      | (with_reducible exact LeO.none _)
      | (with_reducible refine LeO.ite ?_ ?_)
      | (with_reducible refine LeO.bind ?_ (fun _ => ?_))
      | exact ih0 _ _ _ _ _
      | exact ih1 _ _ _ _ _ _ _
      | exact ih2 _ _ _ _ _ _ _ _ _ _ _ _
      | exact chatelainelaw45_awake.mono _
      | exact chatelainelaw45_few.mono _ _ _
      | exact chatelaineref01_Same.mono _ _ _
      | exact split_At.mono _ _ _
      | exact split_Join.mono _ _
      | exact LeO.none _
      | refine LeO.ite ?_ ?_
      | refine LeO.bind ?_ (fun _ => ?_)
    · intro y0 y1 y2 y3 y4 y5 y6 y7 y8 y9 y10 y11
      unfold chatelainelaw45_SplitHides.l1
      repeat' first
      | (with_reducible exact ih0 _ _ _ _ _)
      | (with_reducible exact ih1 _ _ _ _ _ _ _)
      | (with_reducible exact ih2 _ _ _ _ _ _ _ _ _ _ _ _)
      | (with_reducible exact chatelainelaw45_awake.mono _)
      | (with_reducible exact chatelainelaw45_few.mono _ _ _)
      | (with_reducible exact chatelaineref01_Same.mono _ _ _)
      | (with_reducible exact split_At.mono _ _ _)
      | (with_reducible exact split_Join.mono _ _)
      | (with_reducible exact LeO.refl _)
      | (with_reducible exact LeO.none _)
      | (with_reducible refine LeO.ite ?_ ?_)
      | (with_reducible refine LeO.bind ?_ (fun _ => ?_))
      | exact ih0 _ _ _ _ _
      | exact ih1 _ _ _ _ _ _ _
      | exact ih2 _ _ _ _ _ _ _ _ _ _ _ _
      | exact chatelainelaw45_awake.mono _
      | exact chatelainelaw45_few.mono _ _ _
      | exact chatelaineref01_Same.mono _ _ _
      | exact split_At.mono _ _ _
      | exact split_Join.mono _ _
      | exact LeO.none _
      | refine LeO.ite ?_ ?_
      | refine LeO.bind ?_ (fun _ => ?_)
theorem chatelainelaw45_SplitHides.mono : ∀ a0 a1 a2 a3 a4 k, LeO (chatelainelaw45_SplitHides.f k a0 a1 a2 a3 a4) (chatelainelaw45_SplitHides.f (k + 1) a0 a1 a2 a3 a4) := by
  intro a0 a1 a2 a3 a4 k
  obtain ⟨ih0, ih1, ih2⟩ := chatelainelaw45_SplitHides.mono_l k
  unfold chatelainelaw45_SplitHides.f
  repeat' first
      | (with_reducible exact ih0 _ _ _ _ _)
      | (with_reducible exact ih1 _ _ _ _ _ _ _)
      | (with_reducible exact ih2 _ _ _ _ _ _ _ _ _ _ _ _)
      | (with_reducible exact chatelainelaw45_awake.mono _)
      | (with_reducible exact chatelainelaw45_few.mono _ _ _)
      | (with_reducible exact chatelaineref01_Same.mono _ _ _)
      | (with_reducible exact split_At.mono _ _ _)
      | (with_reducible exact split_Join.mono _ _)
      | (with_reducible exact LeO.refl _)
      | (with_reducible exact LeO.none _)
      | (with_reducible refine LeO.ite ?_ ?_)
      | (with_reducible refine LeO.bind ?_ (fun _ => ?_))
      | exact ih0 _ _ _ _ _
      | exact ih1 _ _ _ _ _ _ _
      | exact ih2 _ _ _ _ _ _ _ _ _ _ _ _
      | exact chatelainelaw45_awake.mono _
      | exact chatelainelaw45_few.mono _ _ _
      | exact chatelaineref01_Same.mono _ _ _
      | exact split_At.mono _ _ _
      | exact split_Join.mono _ _
      | exact LeO.none _
      | refine LeO.ite ?_ ?_
      | refine LeO.bind ?_ (fun _ => ?_)
def chatelainelaw45_SplitHides.T18 : Bool × List (List Nat × List Nat) := (true, [([], []), ([], []), ([1], [1]), ([2], [2]), ([], []), ([4], [4]), ([], []), ([5, 6], [5, 6]), ([7], [7]), ([8], [8]), ([3, 9], [3, 9]), ([10], [10]), ([0, 11], [0, 11]), ([12, 12, 0, 1, 2, 3, 4, 5, 6, 7, 8, 9, 10, 11, 12], [0, 12])])
def chatelainelaw45_SplitHides.B18 : List Nat := [0, 0, 2, 6, 0, 16, 0, 112, 240, 496, 1022, 2046, 4095, 8191]
theorem chatelainelaw45_SplitHides.tab18 : rtab .any (opsOf Try.f11 18) = chatelainelaw45_SplitHides.T18 := by kernel_rfl
theorem chatelainelaw45_SplitHides.bits18 : waitsOk chatelainelaw45_SplitHides.T18.2 chatelainelaw45_SplitHides.B18 = true := by kernel_rfl
set_option maxHeartbeats 8000000 in
set_option maxRecDepth 100000 in
theorem chatelainelaw45_SplitHides.calls (k : Nat) (A0 : Option Addr) (c0 : Nat) (l0 : List Int) (A1 : Option Addr) (c1 : Nat) (l1 : List Int) (A2 : Option Addr) (c2 : Nat) (l2 : List (List Int)) (P3_ : Nat → Prop) (hP3 : ∀ k_, P3_ k_) (l3 : List (S54)) (a4 : Int) (r : Bool) (w00 : World) (hr0 : Kd.C (Kd.int .u8) w00 A0 l0.length l0) (hc0 : l0.length ≤ c0) (hr1 : Kd.C (Kd.int .u8) w00 A1 l1.length l1) (hc1 : l1.length ≤ c1) (hr2 : Kd.C (Kd.slice 5 (Kd.int .u8)) w00 A2 l2.length l2) (hc2 : l2.length ≤ c2) (hS : split_Split.f k l0 (wrap64 ((l2.length : Int) + 1)) (wrap64 ((l2.length : Int) + 1)) l2 = some (l3, a4)) (h : chatelainelaw45_SplitHides.f k l0 l1 l2 l3 a4 = some r) :
    Calls Try.prog 11 #[.slice A0 l0.length c0, .slice A1 l1.length c1, .slice A2 l2.length c2] w00 fun e w' => e = .returned (.bool r) ∧ Below w00.heap.size w00 w' := by
  have hu54 := Try.underlying54
  have HR0 := Aside0.mk hr0
  have HC0 := Aside0.mk hc0
  clear hr0 hc0
  have HR1 := Aside0.mk hr1
  have HC1 := Aside0.mk hc1
  clear hr1 hc1
  have HR2 := Aside0.mk hr2
  have HC2 := Aside0.mk hc2
  clear hr2 hc2
  have HFS := Aside0.mk hS
  clear hS
  have HB := Aside0.mk (Below.refl w00.heap.size w00)
  have H : ((chatelainelaw45_awake.f k).bind fun t204 => (if t204 = true then ((chatelainelaw45_few.f k l0 l2).bind fun t205 => (if t205 = true then (chatelainelaw45_SplitHides.j0 k l1 l2 l3 a4 ((l1.length : Int) != (l0.length : Int))) else (chatelainelaw45_SplitHides.j0 k l1 l2 l3 a4 true))) else (some false))) = some r := h
  clear h
  replace H := Option.bind_eq_some_iff.mp H
  obtain ⟨t204, A60, H⟩ := H
  replace H : (if t204 = true then ((chatelainelaw45_few.f k l0 l2).bind fun t205 => (if t205 = true then (chatelainelaw45_SplitHides.j0 k l1 l2 l3 a4 ((l1.length : Int) != (l0.length : Int))) else (chatelainelaw45_SplitHides.j0 k l1 l2 l3 a4 true))) else (some false)) = some r := H
  have A6 := Aside0.mk A60
  clear A60
  by_cases c7 : t204 = true
  · subst c7
    have H1 : ((chatelainelaw45_few.f k l0 l2).bind fun t205 => (if t205 = true then (chatelainelaw45_SplitHides.j0 k l1 l2 l3 a4 ((l1.length : Int) != (l0.length : Int))) else (chatelainelaw45_SplitHides.j0 k l1 l2 l3 a4 true))) = some r := by rw [if_pos rfl] at H; exact H
    clear H
    have H := H1
    clear H1
    have HC8 := Aside0.mk H
    clear H
    go_enter Try.func11, Try.ntmps11
    go_upto_region 3 with (first | ((with_reducible refine gate_callee (f := 30) rfl ?_); refine goesL_ (some 21) rfl rfl Try.func30 (by kernel_rfl) rfl #[] rfl (by (try simp only [List.map_toArray, List.map_cons, List.map_nil]); first | done | rfl | (simp only [List.length_drop, List.length_take]; rfl)) ?_; (with_reducible refine (chatelainelaw45_awake.calls k  true _ A6.out).mono ?_); rintro e w9 ⟨rfl, hb⟩; refine ⟨_, rfl, ?_⟩; have n1_ := Aside0.mk (below_step (by repeat (first | (with_reducible first | exact HB.out | apply below_alloc | apply pw_below_drewN | apply below_drew1) | exact HB.out)) hb); clear HB; have HB := n1_; clear n1_; (try clear hb); (try clear hb2); (try clear hk); (try clear hi)))
    (try simp only [Act.put, List.setIfInBounds_toArray, List.set_cons_zero, List.set_cons_succ])
    go_cut [33] (fun v33 wc => ∃ (kq : Nat) (x33_7 : Bool), v33 = .bool x33_7 ∧ Aside0 (chatelainelaw45_SplitHides.j0 kq l1 l2 l3 a4 x33_7 = some r) ∧ Aside0 (kq ≤ k) ∧ Aside0 (Below w00.heap.size w00 wc))
    case first =>
      have H := HC8.out
      clear HC8
      replace H := Option.bind_eq_some_iff.mp H
      obtain ⟨t205, A100, H⟩ := H
      replace H : (if t205 = true then (chatelainelaw45_SplitHides.j0 k l1 l2 l3 a4 ((l1.length : Int) != (l0.length : Int))) else (chatelainelaw45_SplitHides.j0 k l1 l2 l3 a4 true)) = some r := H
      have A10 := Aside0.mk A100
      clear A100
      by_cases c11 : t205 = true
      · subst c11
        have H1 : (chatelainelaw45_SplitHides.j0 k l1 l2 l3 a4 ((l1.length : Int) != (l0.length : Int))) = some r := by rw [if_pos rfl] at H; exact H
        clear H
        have H := H1
        clear H1
        have H' := Aside0.mk H
        clear H
        go_wp2_with (first | ((with_reducible refine gate_callee (f := 31) rfl ?_); refine goesL_ (some 25) rfl rfl Try.func31 (by kernel_rfl) rfl #[.slice A0 l0.length c0, .slice A2 l2.length c2] rfl (by (try simp only [List.map_toArray, List.map_cons, List.map_nil]); first | done | rfl | (simp only [List.length_drop, List.length_take]; rfl)) ?_; (with_reducible refine (chatelainelaw45_few.calls k _ _ l0 _ _ l2 true _ ?side1 ?side2 ?side3 ?side4 A10.out).mono ?_); (case side1 => repeat (first | exact (Kd.C_below HR0.out HB.out) | (with_reducible refine Kd.C_alloc ?_ _) | (with_reducible refine Kd.C_drewN ?_ _) | (with_reducible refine Kd.C_drew ?_))); (case side2 => exact HC0.out); (case side3 => repeat (first | exact (Kd.C_below HR2.out HB.out) | (with_reducible refine Kd.C_alloc ?_ _) | (with_reducible refine Kd.C_drewN ?_ _) | (with_reducible refine Kd.C_drew ?_))); (case side4 => exact HC2.out); rintro e w' ⟨rfl, ⟨nd, rfl⟩⟩; refine ⟨_, rfl, ?_⟩))
        go_meet
        case rel => exact ⟨_, (((l1.length : Int) != (l0.length : Int))), (by first | rfl | (simp; done) | (simp [*]; done)), H', ⟨by first | omega | exact Nat.le_refl _⟩, ⟨by repeat (first | (with_reducible first | exact HB.out | apply below_alloc | apply pw_below_drewN | apply below_drew1) | exact HB.out)⟩⟩
      · replace c11 := Bool.eq_false_iff.mpr c11
        subst c11
        have H1 : (chatelainelaw45_SplitHides.j0 k l1 l2 l3 a4 true) = some r := by rw [if_neg (show ¬ (false = true) by decide)] at H; exact H
        clear H
        have H := H1
        clear H1
        have H' := Aside0.mk H
        clear H
        go_wp2_with (first | ((with_reducible refine gate_callee (f := 31) rfl ?_); refine goesL_ (some 25) rfl rfl Try.func31 (by kernel_rfl) rfl #[.slice A0 l0.length c0, .slice A2 l2.length c2] rfl (by (try simp only [List.map_toArray, List.map_cons, List.map_nil]); first | done | rfl | (simp only [List.length_drop, List.length_take]; rfl)) ?_; (with_reducible refine (chatelainelaw45_few.calls k _ _ l0 _ _ l2 false _ ?side1 ?side2 ?side3 ?side4 A10.out).mono ?_); (case side1 => repeat (first | exact (Kd.C_below HR0.out HB.out) | (with_reducible refine Kd.C_alloc ?_ _) | (with_reducible refine Kd.C_drewN ?_ _) | (with_reducible refine Kd.C_drew ?_))); (case side2 => exact HC0.out); (case side3 => repeat (first | exact (Kd.C_below HR2.out HB.out) | (with_reducible refine Kd.C_alloc ?_ _) | (with_reducible refine Kd.C_drewN ?_ _) | (with_reducible refine Kd.C_drew ?_))); (case side4 => exact HC2.out); rintro e w' ⟨rfl, ⟨nd, rfl⟩⟩; refine ⟨_, rfl, ?_⟩))
        go_meet
        case rel => exact ⟨_, (true), (by first | rfl | (simp; done) | (simp [*]; done)), H', ⟨by first | omega | exact Nat.le_refl _⟩, ⟨by repeat (first | (with_reducible first | exact HB.out | apply below_alloc | apply pw_below_drewN | apply below_drew1) | exact HB.out)⟩⟩
    case rest =>
      clear HC8
      try clear c1
      try clear c2
      try clear p2
      try clear c3
      try clear c7
      try clear c11
      obtain ⟨kq, x33_7, rfl, HA, HJ7, HB⟩ := hcut
      cases kq with
      | zero => exact absurd HA.out (by simp [chatelainelaw45_SplitHides.j0])
      | succ kj7 =>
        have H := HA.out
        clear HA
        simp only [chatelainelaw45_SplitHides.j0] at H
        by_cases c12 : x33_7 = true
        · subst c12
          have H1 : (some true) = some r := by rw [if_pos rfl] at H; exact H
          clear H
          have H := H1
          clear H1
          obtain rfl := Option.some.inj H
          go_wp2
          go_ret
          exact ⟨by first | rfl | (simp [errW_none, errW_some] <;> rfl) | (simp [*, errW_none, errW_some] <;> rfl), by repeat (first | (with_reducible first | exact HB.out | apply below_alloc | apply pw_below_drewN | apply below_drew1) | exact HB.out)⟩
        · replace c12 := Bool.eq_false_iff.mpr c12
          subst c12
          have H1 : (if a4 = 0 then (if 0 ≤ (wrap64 ((wrap64 ((l2.length : Int) + 1)) - 1)) then (if (wrap64 ((wrap64 ((l2.length : Int) + 1)) - 1)) ≤ (l3.length : Int) then (chatelainelaw45_SplitHides.l0 kj7 l1 (wrap64 ((l2.length : Int) + 1)) l3 (l3.take ((wrap64 ((wrap64 ((l2.length : Int) + 1)) - 1)) : Int).toNat) ([] : List Int) (l1.length : Int) 0) else (none)) else (none)) else (some ((l3.length : Int) == 0))) = some r := by rw [if_neg (show ¬ (false = true) by decide)] at H; exact H
          clear H
          have H := H1
          clear H1
          have HZ := Aside0.mk H
          clear H
          go_upto_region 7 with (first | ((with_reducible refine gate_callee (f := 32) rfl ?_); refine goesL_ (some 42) rfl rfl Try.func32 (by kernel_rfl) rfl #[.slice A0 l0.length c0, .int .i64 (wrap64 ((l2.length : Int) + 1)), .int .i64 (wrap64 ((l2.length : Int) + 1)), .slice A2 l2.length c2] rfl (by (try simp only [List.map_toArray, List.map_cons, List.map_nil]); first | done | rfl | (simp only [List.length_drop, List.length_take]; rfl)) ?_; (refine (split_Split.calls k _ _ l0 _ _ _ _ l2 l3 a4 _ ?side1 ?side2 ?side3 ?side4 HFS.out).mono ?_); (case side1 => repeat (first | exact (Kd.C_below HR0.out HB.out) | (with_reducible refine Kd.C_alloc ?_ _) | (with_reducible refine Kd.C_drewN ?_ _) | (with_reducible refine Kd.C_drew ?_))); (case side2 => exact HC0.out); (case side3 => repeat (first | exact (Kd.C_below HR2.out HB.out) | (with_reducible refine Kd.C_alloc ?_ _) | (with_reducible refine Kd.C_drewN ?_ _) | (with_reducible refine Kd.C_drew ?_))); (case side4 => exact HC2.out); rintro e u ⟨v_, rfl, ho0, hb⟩; refine ⟨_, rfl, ?_⟩; have HV := Aside0.mk (below_step (by repeat (first | (with_reducible first | exact HB.out | apply below_alloc | apply pw_below_drewN | apply below_drew1) | exact HB.out)) hb); obtain ⟨A3, c3, ev_⟩ := Kd.S_slice ho0; subst ev_; have HO_3 := Aside0.mk (show Kd.V k54 54 u u.heap.size (fun k_ => (P3_ k_ ∨ u.heap.size ≤ k_)) (.slice A3 l3.length c3) l3 from Kd.V_mono (Kd.S_V ho0) (fun k_ _ => .inl (hP3 k_))); clear ho0 hb))
          have n0_ := Aside0.mk (Kd.C_below HR0.out HV.out)
          have n1_ := Aside0.mk (Kd.C_below HR1.out HV.out)
          have n2_ := Aside0.mk (Kd.C_below HR2.out HV.out)
          clear HR0 HR1 HR2 HB
          have HR0 := n0_
          have HR1 := n1_
          have HR2 := n2_
          clear n0_ n1_ n2_
          have HB := Aside0.mk (Below.refl u.heap.size u)
          have H := HZ.out
          clear HZ
          by_cases c13 : a4 = 0
          · rw [if_pos c13] at H
            have c13b0 : (a4 == 0) = true := beq_iff_eq.mpr c13
            have c13b1 : (a4 != 0) = false := bne_eq_false_iff_eq.mpr c13
            clear c13
            obtain ⟨ji14, hji14⟩ : ∃ j_ : Int, (wrap64 ((wrap64 ((l2.length : Int) + 1)) - 1)) = j_ := ⟨_, rfl⟩
            replace H : (if 0 ≤ (ji14) then (if (ji14) ≤ (l3.length : Int) then (chatelainelaw45_SplitHides.l0 kj7 l1 (wrap64 ((l2.length : Int) + 1)) l3 (l3.take ((ji14) : Int).toNat) ([] : List Int) (l1.length : Int) 0) else (none)) else (none)) = some r := by first | (rw [hji14] at H; exact H) | (simp only [hji14] at H ⊢; exact H)
            have hji14w : (IntKind.i64.wrap ((wrap64 ((l2.length : Int) + 1)) - 1)) = ji14 := (i64_w _).trans hji14
            by_cases c15 : 0 ≤ (ji14)
            · rw [if_pos c15] at H
              have c15b0 := eq_true c15
              have c15b1 : decide (0 ≤ (ji14)) = true := decide_eq_true c15
              clear c15
              by_cases c16 : (ji14) ≤ (l3.length : Int)
              · rw [if_pos c16] at H
                have c16b0 := eq_true c16
                have c16b1 : decide ((ji14) ≤ (l3.length : Int)) = true := decide_eq_true c16
                clear c16
                obtain ⟨y206, hy206⟩ : ∃ y_ : List (S54), y_ = (l3.take ((ji14) : Int).toNat) := ⟨_, rfl⟩
                replace H : (chatelainelaw45_SplitHides.l0 kj7 l1 (wrap64 ((l2.length : Int) + 1)) l3 y206 ([] : List Int) (l1.length : Int) 0) = some r := by first | (rw [hy206]; with_reducible exact H) | (have H2_ := (Option.bind_some _ _).symm.trans H; rw [hy206]; with_reducible exact H2_) | (have H2_ := (Option.bind_some _ _).symm.trans H; with_reducible exact H2_) | with_reducible exact H | (rw [hy206]; exact H) | exact H
                have Ny206 := Aside0.mk hy206
                clear hy206
                have H' := Aside0.mk H
                clear H
                have q17 : ((ji14) : Int) ≤ ((l3.length : Int) : Int) := of_decide_eq_true (by first | (with_reducible assumption) | assumption)
                obtain ⟨i017, hi017, _, hsz17, _⟩ := info_parts info54
                have hroom17 : l3.length ≤ c3 := (Kd.V_reads' HO_3.out).2.1
                have hC17 : Kd.F k54 _ _ A3 l3.length l3 := (Kd.V_at (base := u.heap.size) HO_3.out).2.2
                have hcut17 := cut_to (P := Try.prog) 49 54 .i64 Try.underlying49 hi017 A3 l3.length c3 (ji14) (of_decide_eq_true (by first | (with_reducible assumption) | assumption)) q17 hroom17
                have hr17 := Kd.F_take (m := ((ji14) : Int).toNat) hC17 (by omega)
                have hy17 : y206.length = ((ji14) : Int).toNat := (by rw [Ny206.out, List.length_take]; omega)
                rw [← Ny206.out] at hr17
                rw [← hy17] at hcut17
                have HO210 := Aside0.mk (show Kd.V k54 54 _ u.heap.size _ (.slice A3 y206.length c3) y206 from Kd.V_mk (by omega) hr17)
                have HC210 := Aside0.mk (show y206.length ≤ c3 from by omega)
                clear hr17 hC17 hroom17 hi017 hsz17
                have KY17 := Aside0.mk hy17
                clear hy17
                replace q17 := eq_true q17
                go_wp2
                go_loopg [11, 56] kj7 (fun kq v11 v56 w' => ∃ (x11_2 : List Int) (x56_2 : Int), v56 = .int .i64 x56_2 ∧ Aside0 (chatelainelaw45_SplitHides.l0 kq l1 (wrap64 ((l2.length : Int) + 1)) l3 y206 x11_2 (l1.length : Int) x56_2 = some r) ∧ Aside0 (kq ≤ kj7) ∧ Aside0 (Kd.V k54 54 w' u.heap.size (fun k_ => (P3_ k_ ∨ u.heap.size ≤ k_) ∧ some k_ ≠ (v11 : Value).ownBlock) (.slice A3 l3.length c3) l3) ∧ Aside0 (Kd.V k54 54 w' u.heap.size (fun k_ => (P3_ k_ ∨ u.heap.size ≤ k_) ∧ some k_ ≠ (v11 : Value).ownBlock) (.slice A3 y206.length c3) y206) ∧ Aside0 (Kd.R (Kd.int .u8) 5 w' u.heap.size (fun k_ => (u.heap.size ≤ k_)) v11 x11_2) ∧ Aside0 (Below u.heap.size u w'))
                case atStart => exact ⟨(([] : List Int)), (0), (by first | rfl | (simp; done) | (simp [*]; done)), H', ⟨Nat.le_refl _⟩, ⟨by (with_reducible repeat (first | apply Kd.V_alloc | apply Kd.V_drewN | apply Kd.V_drew)); exact Kd.V_mono HO_3.out (fun _ hk => ⟨hk, (by simp [Value.ownBlock])⟩)⟩, ⟨by (with_reducible repeat (first | apply Kd.V_alloc | apply Kd.V_drewN | apply Kd.V_drew)); exact Kd.V_mono HO210.out (fun _ hk => ⟨hk, (by simp [Value.ownBlock])⟩)⟩, ⟨by first | exact Kd.R_nil _ _ _ _ _ | exact Kd.N_nil _ _ _ _ _ | exact Kd.V_nil _ _ _ _ _ | exact Kd.Q_nil _ _ _ _ _ | exact Kd.S_nil _ _ _ _ _⟩, ⟨by repeat (first | (with_reducible first | exact HB.out | apply below_alloc | apply pw_below_drewN | apply below_drew1) | exact HB.out)⟩⟩
                case round =>
                  clear H'
                  try clear c1
                  try clear q1
                  try clear c2
                  try clear p2
                  try clear c3
                  try clear p6
                  try clear c7
                  try clear c11
                  try clear c12
                  try clear c13
                  try clear c13b0
                  try clear c13b1
                  try clear c15
                  try clear c15b0
                  try clear c15b1
                  try clear c16
                  try clear c16b0
                  try clear c16b1
                  try clear q17
                  try clear p2
                  try clear q17
                  obtain ⟨x11_2, x56_2, rfl, HA, HK2, HO_8, HO_10, HO_11, HB⟩ := hrel
                  cases gk with
                  | zero => exact absurd HA.out (by simp [chatelainelaw45_SplitHides.l0])
                  | succ k2 =>
                    have H := HA.out
                    clear HA
                    simp only [chatelainelaw45_SplitHides.l0] at H
                    by_cases c18 : x56_2 < (l1.length : Int)
                    · rw [if_pos c18] at H
                      have c18b0 : decide (x56_2 < (l1.length : Int)) = true := decide_eq_true c18
                      clear c18
                      have H' := Aside0.mk H
                      clear H
                      go_wp2
                      go_loopg [13, 61] k2 (fun kq v13 v61 w' => ∃ (x13_3 : List (S54)) (x61_3 : Int), v61 = .int .i64 x61_3 ∧ Aside0 (chatelainelaw45_SplitHides.l1 kq l1 (wrap64 ((l2.length : Int) + 1)) l3 y206 x11_2 x56_2 x13_3 (l1.length : Int) x56_2 y206 (y206.length : Int) x61_3 = some r) ∧ Aside0 (kq ≤ k2) ∧ Aside0 (Kd.V k54 54 w' u.heap.size (fun k_ => (P3_ k_ ∨ u.heap.size ≤ k_) ∧ some k_ ≠ (u11 : Value).ownBlock ∧ some k_ ≠ (v13 : Value).ownBlock) (.slice A3 l3.length c3) l3) ∧ Aside0 (Kd.V k54 54 w' u.heap.size (fun k_ => (P3_ k_ ∨ u.heap.size ≤ k_) ∧ some k_ ≠ (u11 : Value).ownBlock ∧ some k_ ≠ (v13 : Value).ownBlock) (.slice A3 y206.length c3) y206) ∧ Aside0 (Kd.R (Kd.int .u8) 5 w' u.heap.size (fun k_ => (u.heap.size ≤ k_)) u11 x11_2) ∧ Aside0 (Kd.N k54 54 w' u.heap.size (fun k_ => (P3_ k_ ∨ u.heap.size ≤ k_) ∧ some k_ ≠ (u11 : Value).ownBlock) v13 x13_3) ∧ Aside0 (Kd.V k54 54 w' u.heap.size (fun k_ => (P3_ k_ ∨ u.heap.size ≤ k_) ∧ some k_ ≠ (u11 : Value).ownBlock ∧ some k_ ≠ (v13 : Value).ownBlock) (.slice A3 y206.length c3) y206) ∧ Aside0 (Below u.heap.size u w'))
                      case atStart => exact ⟨(([] : List (S54))), (0), (by first | rfl | (simp; done) | (simp [*]; done)), H', ⟨Nat.le_refl _⟩, ⟨by (with_reducible repeat (first | apply Kd.V_alloc | apply Kd.V_drewN | apply Kd.V_drew)); exact Kd.V_mono HO_8.out (fun _ hk => ⟨hk.1, ⟨hk.2, (by simp [Value.ownBlock])⟩⟩)⟩, ⟨by (with_reducible repeat (first | apply Kd.V_alloc | apply Kd.V_drewN | apply Kd.V_drew)); exact Kd.V_mono HO_10.out (fun _ hk => ⟨hk.1, ⟨hk.2, (by simp [Value.ownBlock])⟩⟩)⟩, ⟨by (with_reducible repeat (first | apply Kd.R_alloc | apply Kd.R_drewN | apply Kd.R_drew)); exact HO_11.out⟩, ⟨by first | exact Kd.S_nil _ _ _ _ _ | exact Kd.N_nil _ _ _ _ _ | exact Kd.V_nil _ _ _ _ _ | exact Kd.Q_nil _ _ _ _ _ | exact Kd.R_nil _ _ _ _ _⟩, ⟨by (with_reducible repeat (first | apply Kd.V_alloc | apply Kd.V_drewN | apply Kd.V_drew)); exact Kd.V_mono HO_10.out (fun _ hk => ⟨hk.1, ⟨hk.2, (by simp [Value.ownBlock])⟩⟩)⟩, ⟨by repeat (first | (with_reducible first | exact HB.out | apply below_alloc | apply pw_below_drewN | apply below_drew1) | exact HB.out)⟩⟩
                      case round =>
                        clear H'
                        try clear c1
                        try clear q1
                        try clear c2
                        try clear p2
                        try clear c3
                        try clear p6
                        try clear c7
                        try clear c11
                        try clear c12
                        try clear c13
                        try clear c13b0
                        try clear c13b1
                        try clear c15
                        try clear c15b0
                        try clear c15b1
                        try clear c16
                        try clear c16b0
                        try clear c16b1
                        try clear q17
                        try clear c18
                        try clear c18b0
                        try clear p2
                        try clear p6
                        try clear q1
                        try clear q17
                        obtain ⟨x13_3, x61_3, rfl, HA, HK3, HO_8, HO_10, HO_11, HO_13, HO_59, HB⟩ := hrel
                        cases gk with
                        | zero => exact absurd HA.out (by simp [chatelainelaw45_SplitHides.l1])
                        | succ k3 =>
                          have H := HA.out
                          clear HA
                          simp only [chatelainelaw45_SplitHides.l1] at H
                          by_cases c19 : x61_3 < (y206.length : Int)
                          · rw [if_pos c19] at H
                            have c19b0 : decide (x61_3 < (y206.length : Int)) = true := decide_eq_true c19
                            clear c19
                            by_cases c20 : 0 ≤ x61_3
                            · rw [if_pos c20] at H
                              have c20b0 : decide (0 ≤ x61_3) = true := decide_eq_true c20
                              clear c20
                              by_cases c21 : x61_3 < (y206.length : Int)
                              · rw [if_pos c21] at H
                                have c21b0 : decide (x61_3 < (y206.length : Int)) = true := decide_eq_true c21
                                clear c21
                                by_cases c22 : 0 ≤ x56_2
                                · rw [if_pos c22] at H
                                  have c22b0 : decide (0 ≤ x56_2) = true := decide_eq_true c22
                                  clear c22
                                  by_cases c23 : x56_2 < (((rd_T54 y206 x61_3).f1).length : Int)
                                  · rw [if_pos c23] at H
                                    have c23b0 : decide (x56_2 < (((rd_T54 y206 x61_3).f1).length : Int)) = true := decide_eq_true c23
                                    clear c23
                                    obtain ⟨y229, hy229⟩ : ∃ y_ : List Int, y_ = (([rd ((rd_T54 y206 x61_3).f1) x56_2] : List Int)) := ⟨_, rfl⟩
                                    replace H : (if x13_3.length < 4398046511104 then (chatelainelaw45_SplitHides.l1 k3 l1 (wrap64 ((l2.length : Int) + 1)) l3 y206 x11_2 x56_2 (x13_3 ++ [(⟨Go.bits .xor .u8 ((rd_T54 y206 x61_3).f0) 128, y229⟩ : S54)]) (l1.length : Int) x56_2 y206 (y206.length : Int) (wrap64 (x61_3 + 1))) else (none)) = some r := by first | (rw [hy229]; with_reducible exact H) | (have H2_ := (Option.bind_some _ _).symm.trans H; rw [hy229]; with_reducible exact H2_) | (have H2_ := (Option.bind_some _ _).symm.trans H; with_reducible exact H2_) | with_reducible exact H | (rw [hy229]; exact H) | exact H
                                    have Ny229 := Aside0.mk hy229
                                    clear hy229
                                    by_cases c24 : x13_3.length < 4398046511104
                                    · rw [if_pos c24] at H
                                      have LMc24 := Aside0.mk c24
                                      clear c24
                                      obtain ⟨y232, hy232⟩ : ∃ y_ : List (S54), y_ = (x13_3 ++ [(⟨Go.bits .xor .u8 ((rd_T54 y206 x61_3).f0) 128, y229⟩ : S54)]) := ⟨_, rfl⟩
                                      replace H : (chatelainelaw45_SplitHides.l1 k3 l1 (wrap64 ((l2.length : Int) + 1)) l3 y206 x11_2 x56_2 y232 (l1.length : Int) x56_2 y206 (y206.length : Int) (wrap64 (x61_3 + 1))) = some r := by first | (rw [hy232]; with_reducible exact H) | (have H2_ := (Option.bind_some _ _).symm.trans H; rw [hy232]; with_reducible exact H2_) | (have H2_ := (Option.bind_some _ _).symm.trans H; with_reducible exact H2_) | with_reducible exact H | (rw [hy232]; exact H) | exact H
                                      have Ny232 := Aside0.mk hy232
                                      clear hy232
                                      have H' := Aside0.mk H
                                      clear H
                                      have p226 : 0 ≤ (x61_3 : Int) := of_decide_eq_true (by first | (with_reducible assumption) | assumption)
                                      have q226 : x61_3 < (y206.length : Int) := of_decide_eq_true (by first | (with_reducible assumption) | assumption)
                                      obtain ⟨ad226, A226_1, c226_1, e226, hx226_0, hx226_1, hl226_1, hi226_1⟩ := at_T54 (Kd.V_reads' HO_59.out).2.2 x61_3 p226 q226
                                      cases e226
                                      obtain ⟨ce226, hce226, hMe226, hcc226⟩ := Kd.V_get HO_59.out z54 x61_3 p226 (by first | exact q226 | exact of_decide_eq_true (by first | (with_reducible assumption) | assumption) | (have e_ := (Kd.V_reads' HO_59.out).1; omega))
                                      obtain ⟨ua226_1, uc226_1, rfl, ul226_1, ge226_1⟩ := k54_openF hMe226
                                      have hv226_1 := hcc226 1 _ rfl
                                      rw [add_field _ _ 1 (by omega)] at hv226_1
                                      replace hv226_1 := Option.some.inj (hv226_1.symm.trans hx226_1)
                                      injection hv226_1 with hva_ hvn_ hvc_
                                      rw [hva_] at ge226_1
                                      rw [hvc_] at ul226_1
                                      have HL226_1 := Aside0.mk (show Kd.V (Kd.int .u8) 5 _ u.heap.size _ _ ((rd_T54 y206 x61_3).f1) from Kd.V_mk ul226_1 ge226_1)
                                      clear hva_ hvn_ hvc_ ge226_1 ul226_1
                                      clear hcc226 hce226
                                      have HR226_1 := Aside0.mk hi226_1
                                      have HC226_1 := Aside0.mk hl226_1
                                      clear hi226_1 hl226_1
                                      replace p226 := eq_true p226
                                      replace q226 := eq_true q226
                                      try go_wp2_with (first | ((with_reducible refine gate_dst (N := 15) rfl ?_); (try (refine gate_guard (by rfl) ?_; dsimp only)); refine box_event ?hg (N := 15) ?hd (cs := #[.int .u8 0, .slice none 0 0]) (t := 54) ?hr ?_; (case hd => rfl); (case hg => rfl); (case hr => first | (go_simp; done) | (go_simp; rfl)); intro gb227 hg w25 hbox hb; have n0_ := Aside0.mk (Kd.V_below (Kd.V_elderB (by (with_reducible repeat (first | apply Kd.V_alloc | apply Kd.V_drewN | apply Kd.V_drew)); exact HO_8.out) gb227 (Nat.le_of_eq hg.symm)) hb); have n1_ := Aside0.mk (Kd.V_below (Kd.V_elderB (by (with_reducible repeat (first | apply Kd.V_alloc | apply Kd.V_drewN | apply Kd.V_drew)); exact HO_10.out) gb227 (Nat.le_of_eq hg.symm)) hb); have n2_ := Aside0.mk (Kd.R_below (by (with_reducible repeat (first | apply Kd.R_alloc | apply Kd.R_drewN | apply Kd.R_drew)); exact HO_11.out) hb); have n3_ := Aside0.mk (Kd.N_below (Kd.N_elderB (by (with_reducible repeat (first | apply Kd.N_alloc | apply Kd.N_drewN | apply Kd.N_drew)); exact HO_13.out) gb227 (Nat.le_of_eq hg.symm)) hb); have n4_ := Aside0.mk (Kd.V_below (Kd.V_elderB (by (with_reducible repeat (first | apply Kd.V_alloc | apply Kd.V_drewN | apply Kd.V_drew)); exact HO_59.out) gb227 (Nat.le_of_eq hg.symm)) hb); have n5_ := Aside0.mk (Kd.V_below (Kd.V_elderB (by (with_reducible repeat (first | apply Kd.V_alloc | apply Kd.V_drewN | apply Kd.V_drew)); exact HL226_1.out) gb227 (Nat.le_of_eq hg.symm)) hb); have n6_ := Aside0.mk (Kd.C_below (by repeat (first | (with_reducible exact HR226_1.out) | (with_reducible refine Kd.C_alloc ?_ _) | (with_reducible refine Kd.C_drewN ?_ _) | (with_reducible refine Kd.C_drew ?_) | exact HR226_1.out)) hb); have n7_ := Aside0.mk (below_step (by repeat (first | (with_reducible first | exact HB.out | apply below_alloc | apply pw_below_drewN | apply below_drew1) | exact HB.out)) hb); have n8_ := Aside0.mk (hbox); have n9_ := Aside0.mk ((by rw [hg]; exact (below_size (by repeat (first | (with_reducible first | exact HB.out | apply below_alloc | apply pw_below_drewN | apply below_drew1) | exact HB.out))) : u.heap.size ≤ gb227)); have n10_ := Aside0.mk ((by rw [hg]; exact (below_size (by repeat (first | (with_reducible first | exact HB.out | apply below_alloc | apply pw_below_drewN | apply below_drew1) | exact HB.out))) : u.heap.size ≤ gb227)); clear HO_8; clear HO_10; clear HO_11; clear HO_13; clear HO_59; clear HL226_1; clear HR226_1; clear HB; have HO_8 := n0_; have HO_10 := n1_; have HO_11 := n2_; have HO_13 := n3_; have HO_59 := n4_; have HL226_1 := n5_; have HR226_1 := n6_; have HB := n7_; have BK227 := n8_; have GW227 := n9_; have GE227 := n10_; clear n0_ n1_ n2_ n3_ n4_ n5_ n6_ n7_ n8_ n9_ n10_; clear hb hbox hg; have hcz26_0 : w25.cell? ⟨gb227, 0, none⟩ = some (.int .u8 0) := (blk_cell BK227.out 0).trans rfl; have hcz26_1 : w25.cell? ⟨gb227, 1, none⟩ = some (.slice none 0 0) := (blk_cell BK227.out 1).trans rfl; have hfz26_0 := blk_frozen BK227.out 0; have hfz26_1 := blk_frozen BK227.out 1))
                                      have n0_ : Aside0 (Kd.V k54 54 ((w25.setCell ⟨gb227, 0, none⟩ (.int .u8 ((rd_T54 y206 x61_3).f0))).setCell ⟨gb227, 1, none⟩ (.slice A226_1 ((rd_T54 y206 x61_3).f1).length c226_1)) u.heap.size (fun k_ => (P3_ k_ ∨ u.heap.size ≤ k_) ∧ some k_ ≠ (u11 : Value).ownBlock ∧ some k_ ≠ (u13 : Value).ownBlock ∧ k_ ≠ gb227) (.slice (some ad226) l3.length c3) l3) := ⟨by (with_reducible repeat (first | apply Kd.V_alloc | apply Kd.V_drewN | apply Kd.V_drew)); exact Kd.V_mono (Kd.V_far (p := ⟨gb227, 1, none⟩) (Kd.V_far (p := ⟨gb227, 0, none⟩) (Kd.V_mono HO_8.out (fun k_ hk => (⟨hk, hk.2⟩ : _ ∧ k_ ≠ gb227))) (fun _ hk => hk.2) (.int .u8 ((rd_T54 y206 x61_3).f0))) (fun _ hk => hk.2) (.slice A226_1 ((rd_T54 y206 x61_3).f1).length c226_1)) (fun _ hk => ⟨hk.1.1.1, ⟨hk.1.1.2.1, ⟨hk.1.1.2.2, hk.1.2⟩⟩⟩)⟩
                                      have n1_ : Aside0 (Kd.V k54 54 ((w25.setCell ⟨gb227, 0, none⟩ (.int .u8 ((rd_T54 y206 x61_3).f0))).setCell ⟨gb227, 1, none⟩ (.slice A226_1 ((rd_T54 y206 x61_3).f1).length c226_1)) u.heap.size (fun k_ => (P3_ k_ ∨ u.heap.size ≤ k_) ∧ some k_ ≠ (u11 : Value).ownBlock ∧ some k_ ≠ (u13 : Value).ownBlock ∧ k_ ≠ gb227) (.slice (some ad226) y206.length c3) y206) := ⟨by (with_reducible repeat (first | apply Kd.V_alloc | apply Kd.V_drewN | apply Kd.V_drew)); exact Kd.V_mono (Kd.V_far (p := ⟨gb227, 1, none⟩) (Kd.V_far (p := ⟨gb227, 0, none⟩) (Kd.V_mono HO_10.out (fun k_ hk => (⟨hk, hk.2⟩ : _ ∧ k_ ≠ gb227))) (fun _ hk => hk.2) (.int .u8 ((rd_T54 y206 x61_3).f0))) (fun _ hk => hk.2) (.slice A226_1 ((rd_T54 y206 x61_3).f1).length c226_1)) (fun _ hk => ⟨hk.1.1.1, ⟨hk.1.1.2.1, ⟨hk.1.1.2.2, hk.1.2⟩⟩⟩)⟩
                                      have n2_ : Aside0 (Kd.R (Kd.int .u8) 5 ((w25.setCell ⟨gb227, 0, none⟩ (.int .u8 ((rd_T54 y206 x61_3).f0))).setCell ⟨gb227, 1, none⟩ (.slice A226_1 ((rd_T54 y206 x61_3).f1).length c226_1)) u.heap.size (fun k_ => (u.heap.size ≤ k_)) u11 x11_2) := ⟨by (with_reducible repeat (first | apply Kd.R_alloc | apply Kd.R_drewN | apply Kd.R_drew)); exact Kd.R_mono (Kd.R_far (p := ⟨gb227, 1, none⟩) (Kd.R_far (p := ⟨gb227, 0, none⟩) (Kd.R_types HO_11.out BK227.out (by decide)) (fun _ hk => hk.2) (.int .u8 ((rd_T54 y206 x61_3).f0))) (fun _ hk => hk.2) (.slice A226_1 ((rd_T54 y206 x61_3).f1).length c226_1)) (fun _ hk => hk.1)⟩
                                      have n3_ : Aside0 (Kd.N k54 54 ((w25.setCell ⟨gb227, 0, none⟩ (.int .u8 ((rd_T54 y206 x61_3).f0))).setCell ⟨gb227, 1, none⟩ (.slice A226_1 ((rd_T54 y206 x61_3).f1).length c226_1)) u.heap.size (fun k_ => (P3_ k_ ∨ u.heap.size ≤ k_) ∧ some k_ ≠ (u11 : Value).ownBlock ∧ k_ ≠ gb227) u13 x13_3) := ⟨by (with_reducible repeat (first | apply Kd.N_alloc | apply Kd.N_drewN | apply Kd.N_drew)); exact Kd.N_mono (Kd.N_far (p := ⟨gb227, 1, none⟩) (Kd.N_far (p := ⟨gb227, 0, none⟩) (Kd.N_mono HO_13.out (fun k_ hk => (⟨hk, hk.2⟩ : _ ∧ k_ ≠ gb227))) (fun _ hk => hk.2) (.int .u8 ((rd_T54 y206 x61_3).f0))) (fun _ hk => hk.2) (.slice A226_1 ((rd_T54 y206 x61_3).f1).length c226_1)) (fun _ hk => ⟨hk.1.1.1, ⟨hk.1.1.2, hk.1.2⟩⟩)⟩
                                      have n4_ : Aside0 (Kd.V k54 54 ((w25.setCell ⟨gb227, 0, none⟩ (.int .u8 ((rd_T54 y206 x61_3).f0))).setCell ⟨gb227, 1, none⟩ (.slice A226_1 ((rd_T54 y206 x61_3).f1).length c226_1)) u.heap.size (fun k_ => (P3_ k_ ∨ u.heap.size ≤ k_) ∧ some k_ ≠ (u11 : Value).ownBlock ∧ some k_ ≠ (u13 : Value).ownBlock ∧ k_ ≠ gb227) (.slice (some ad226) y206.length c3) y206) := ⟨by (with_reducible repeat (first | apply Kd.V_alloc | apply Kd.V_drewN | apply Kd.V_drew)); exact Kd.V_mono (Kd.V_far (p := ⟨gb227, 1, none⟩) (Kd.V_far (p := ⟨gb227, 0, none⟩) (Kd.V_mono HO_59.out (fun k_ hk => (⟨hk, hk.2⟩ : _ ∧ k_ ≠ gb227))) (fun _ hk => hk.2) (.int .u8 ((rd_T54 y206 x61_3).f0))) (fun _ hk => hk.2) (.slice A226_1 ((rd_T54 y206 x61_3).f1).length c226_1)) (fun _ hk => ⟨hk.1.1.1, ⟨hk.1.1.2.1, ⟨hk.1.1.2.2, hk.1.2⟩⟩⟩)⟩
                                      have n5_ : Aside0 (Kd.V (Kd.int .u8) 5 ((w25.setCell ⟨gb227, 0, none⟩ (.int .u8 ((rd_T54 y206 x61_3).f0))).setCell ⟨gb227, 1, none⟩ (.slice A226_1 ((rd_T54 y206 x61_3).f1).length c226_1)) u.heap.size (fun k_ => (P3_ k_ ∨ u.heap.size ≤ k_) ∧ some k_ ≠ (u11 : Value).ownBlock ∧ some k_ ≠ (u13 : Value).ownBlock ∧ k_ ≠ gb227) (.slice A226_1 ((rd_T54 y206 x61_3).f1).length c226_1) ((rd_T54 y206 x61_3).f1)) := ⟨by (with_reducible repeat (first | apply Kd.V_alloc | apply Kd.V_drewN | apply Kd.V_drew)); exact Kd.V_mono (Kd.V_far (p := ⟨gb227, 1, none⟩) (Kd.V_far (p := ⟨gb227, 0, none⟩) (Kd.V_mono HL226_1.out (fun k_ hk => (⟨hk, hk.2⟩ : _ ∧ k_ ≠ gb227))) (fun _ hk => hk.2) (.int .u8 ((rd_T54 y206 x61_3).f0))) (fun _ hk => hk.2) (.slice A226_1 ((rd_T54 y206 x61_3).f1).length c226_1)) (fun _ hk => ⟨hk.1.1.1, ⟨hk.1.1.2.1, ⟨hk.1.1.2.2, hk.1.2⟩⟩⟩)⟩
                                      have n6_ : Aside0 (((w25.setCell ⟨gb227, 0, none⟩ (.int .u8 ((rd_T54 y206 x61_3).f0))).setCell ⟨gb227, 1, none⟩ (.slice A226_1 ((rd_T54 y206 x61_3).f1).length c226_1)).heap[gb227]? = some (.cells #[.int .u8 ((rd_T54 y206 x61_3).f0), .slice A226_1 ((rd_T54 y206 x61_3).f1).length c226_1] 54 (0, 0))) := ⟨by (with_reducible repeat (first | refine blk_drewN ?_ _ | refine blk_drew ?_ | refine blk_alloc ?_ _)); refine blk_put (cs := #[.int .u8 ((rd_T54 y206 x61_3).f0), .slice none 0 0]) ?_ 1 _ rfl; (with_reducible repeat (first | refine blk_drewN ?_ _ | refine blk_drew ?_ | refine blk_alloc ?_ _)); refine blk_put (cs := #[.int .u8 0, .slice none 0 0]) ?_ 0 _ rfl; (with_reducible repeat (first | refine blk_drewN ?_ _ | refine blk_drew ?_ | refine blk_alloc ?_ _)); exact BK227.out⟩
                                      have n7_ : Aside0 (Below u.heap.size u ((w25.setCell ⟨gb227, 0, none⟩ (.int .u8 ((rd_T54 y206 x61_3).f0))).setCell ⟨gb227, 1, none⟩ (.slice A226_1 ((rd_T54 y206 x61_3).f1).length c226_1))) := ⟨by repeat (first | (with_reducible first | exact HB.out | apply below_alloc | apply pw_below_drewN | apply below_drew1 | refine below_set ?_ GE227.out) | exact HB.out)⟩
                                      (try clear HO_8)
                                      (try clear HO_10)
                                      (try clear HO_11)
                                      (try clear HO_13)
                                      (try clear HO_59)
                                      (try clear HL226_1)
                                      (try clear BK227)
                                      (try clear HB)
                                      generalize ((w25.setCell ⟨gb227, 0, none⟩ (.int .u8 ((rd_T54 y206 x61_3).f0))).setCell ⟨gb227, 1, none⟩ (.slice A226_1 ((rd_T54 y206 x61_3).f1).length c226_1)) = w27 at n0_ n1_ n2_ n3_ n4_ n5_ n6_ n7_ ⊢
                                      have HO_8 := n0_
                                      have HO_10 := n1_
                                      have HO_11 := n2_
                                      have HO_13 := n3_
                                      have HO_59 := n4_
                                      have HL226_1 := n5_
                                      have BK227 := n6_
                                      have HB := n7_
                                      clear n0_ n1_ n2_ n3_ n4_ n5_ n6_ n7_
                                      have n0_ := Aside0.mk (Kd.V_drew HO_8.out)
                                      have n1_ := Aside0.mk (Kd.V_drew HO_10.out)
                                      have n2_ := Aside0.mk (Kd.R_drew HO_11.out)
                                      have n3_ := Aside0.mk (Kd.N_drew HO_13.out)
                                      have n4_ := Aside0.mk (Kd.V_drew HO_59.out)
                                      have n5_ := Aside0.mk (Kd.V_drew HL226_1.out)
                                      have n6_ := Aside0.mk (blk_drew BK227.out)
                                      have n7_ := Aside0.mk (below_drew1 HB.out)
                                      clear HO_8
                                      clear HO_10
                                      clear HO_11
                                      clear HO_13
                                      clear HO_59
                                      clear HL226_1
                                      clear BK227
                                      clear HB
                                      have HO_8 := n0_
                                      have HO_10 := n1_
                                      have HO_11 := n2_
                                      have HO_13 := n3_
                                      have HO_59 := n4_
                                      have HL226_1 := n5_
                                      have BK227 := n6_
                                      have HB := n7_
                                      clear n0_ n1_ n2_ n3_ n4_ n5_ n6_ n7_
                                      have p228 : 0 ≤ (x56_2 : Int) := of_decide_eq_true (by first | (with_reducible assumption) | assumption)
                                      have q228 : x56_2 < (((rd_T54 y206 x61_3).f1).length : Int) := of_decide_eq_true (by first | (with_reducible assumption) | assumption)
                                      obtain ⟨ad228, e228, hx228_0⟩ := Kd.at_int ((Kd.V_reads' HL226_1.out).2.2) x56_2 p228 q228
                                      cases e228
                                      replace p228 := eq_true p228
                                      replace q228 := eq_true q228
                                      refine start_ (n := 14) (S := fun w' => w'.cell? ⟨gb227, 0, none⟩ = some (.int .u8 ((rd_T54 y206 x61_3).f0)) ∧ w'.cell? ⟨gb227, 1, none⟩ = some (.slice (some ad228) ((rd_T54 y206 x61_3).f1).length c226_1) ∧ w'.cell? (ad228.add (x56_2).toNat) = some (.int .u8 (rd ((rd_T54 y206 x61_3).f1) x56_2))) (ds := [11, 12]) #[false, false, false, false, false, false, false, false, false, false, false, false, false, false] (by kernel_rfl) rfl rfl ⟨(blk_cell BK227.out 0).trans rfl, (blk_cell BK227.out 1).trans rfl, hx228_0⟩ (fun hHeld => ?_); refine with_tabW chatelainelaw45_SplitHides.tab18 chatelainelaw45_SplitHides.bits18 (fun HT_ HW_ => ?_)
                                      generalize w27.drew = w28 at HO_8 HO_10 HO_11 HO_13 HO_59 HL226_1 BK227 HB hx228_0 hHeld ⊢
                                      refine pure_ (i := 0) (N := some 65) (v := ?_) (a' := ?_) #[true, false, false, false, false, false, false, false, false, false, false, false, false, false] rfl rfl (any_of HT_.out (by kernel_rfl)) (fun _ _ _ h => h) (Or.inl ⟨by rfl, ?_⟩) ?_ ?_
                                      rotate_left
                                      · intro w'
                                        go_simp
                                        with_reducible rfl
                                      rotate_left
                                      · simp only [Act.put, List.setIfInBounds_toArray, List.set_cons_zero, List.set_cons_succ, i64_w, i32_w]
                                        rfl
                                      refine pure_ (i := 1) (N := some 66) (v := ?_) (a' := ?_) #[true, true, false, false, false, false, false, false, false, false, false, false, false, false] rfl rfl (any_of HT_.out (by kernel_rfl)) (fun _ _ _ h => h) (Or.inl ⟨by rfl, ?_⟩) ?_ ?_
                                      rotate_left
                                      · intro w'
                                        go_simp
                                        with_reducible rfl
                                      rotate_left
                                      · simp only [Act.put, List.setIfInBounds_toArray, List.set_cons_zero, List.set_cons_succ, i64_w, i32_w]
                                        rfl
                                      refine pure_ (i := 4) (N := some 69) (v := ?_) (a' := ?_) #[true, true, false, false, true, false, false, false, false, false, false, false, false, false] rfl rfl (any_of HT_.out (by kernel_rfl)) (fun _ _ _ h => h) (Or.inl ⟨by rfl, ?_⟩) ?_ ?_
                                      rotate_left
                                      · intro w'
                                        go_simp
                                        with_reducible rfl
                                      rotate_left
                                      · simp only [Act.put, List.setIfInBounds_toArray, List.set_cons_zero, List.set_cons_succ, i64_w, i32_w]
                                        rfl
                                      refine pure_ (i := 6) (N := some 71) (v := ?_) (a' := ?_) #[true, true, false, false, true, false, true, false, false, false, false, false, false, false] rfl rfl (any_of HT_.out (by kernel_rfl)) (fun _ _ _ h => h) (Or.inl ⟨by rfl, ?_⟩) ?_ ?_
                                      rotate_left
                                      · intro w'
                                        go_simp
                                        with_reducible rfl
                                      rotate_left
                                      · simp only [Act.put, List.setIfInBounds_toArray, List.set_cons_zero, List.set_cons_succ, i64_w, i32_w]
                                        rfl
                                      refine take_ (i := 2) (N := some 67) (v := ?_) (a' := ?_) #[true, true, true, false, true, false, true, false, false, false, false, false, false, false] rfl rfl (take_ofW HT_.out HW_.out (by kernel_rfl)) (fun _ _ _ h => h) (Or.inl ⟨by rfl, ?_⟩) hHeld ?_ ?_
                                      rotate_left
                                      · rintro w' ⟨s0, s1, s2⟩
                                        go_simp
                                        with_reducible rfl
                                      rotate_left
                                      · simp only [Act.put, List.setIfInBounds_toArray, List.set_cons_zero, List.set_cons_succ, i64_w, i32_w]
                                        rfl
                                      refine pure_ (i := 3) (N := some 68) (v := ?_) (a' := ?_) #[true, true, true, true, true, false, true, false, false, false, false, false, false, false] rfl rfl (any_of HT_.out (by kernel_rfl)) (fun _ _ _ h => h) (Or.inl ⟨by rfl, ?_⟩) ?_ ?_
                                      rotate_left
                                      · intro w'
                                        go_simp
                                        with_reducible rfl
                                      rotate_left
                                      · simp only [Act.put, List.setIfInBounds_toArray, List.set_cons_zero, List.set_cons_succ, i64_w, i32_w]
                                        rfl
                                      refine take_ (i := 5) (N := some 70) (v := ?_) (a' := ?_) #[true, true, true, true, true, true, true, false, false, false, false, false, false, false] rfl rfl (take_ofW HT_.out HW_.out (by kernel_rfl)) (fun _ _ _ h => h) (Or.inl ⟨by rfl, ?_⟩) hHeld ?_ ?_
                                      rotate_left
                                      · rintro w' ⟨s0, s1, s2⟩
                                        go_simp
                                        with_reducible rfl
                                      rotate_left
                                      · simp only [Act.put, List.setIfInBounds_toArray, List.set_cons_zero, List.set_cons_succ, i64_w, i32_w]
                                        rfl
                                      refine pure_ (i := 7) (N := some 72) (v := ?_) (a' := ?_) #[true, true, true, true, true, true, true, true, false, false, false, false, false, false] rfl rfl (any_of HT_.out (by kernel_rfl)) (fun _ _ _ h => h) (Or.inl ⟨by rfl, ?_⟩) ?_ ?_
                                      rotate_left
                                      · intro w'
                                        go_simp
                                        with_reducible rfl
                                      rotate_left
                                      · simp only [Act.put, List.setIfInBounds_toArray, List.set_cons_zero, List.set_cons_succ, i64_w, i32_w]
                                        rfl
                                      refine take_ (i := 8) (N := some 73) (v := ?_) (a' := ?_) #[true, true, true, true, true, true, true, true, true, false, false, false, false, false] rfl rfl (take_ofW HT_.out HW_.out (by kernel_rfl)) (fun _ _ _ h => h) (Or.inl ⟨by rfl, ?_⟩) hHeld ?_ ?_
                                      rotate_left
                                      · rintro w' ⟨s0, s1, s2⟩
                                        go_simp
                                        with_reducible rfl
                                      rotate_left
                                      · simp only [Act.put, List.setIfInBounds_toArray, List.set_cons_zero, List.set_cons_succ, i64_w, i32_w]
                                        rfl
                                      refine one_ (i := 9) (N := some 74) #[true, true, true, true, true, true, true, true, true, true, false, false, false, false] rfl rfl (one_of HT_.out (by kernel_rfl)) (by decide) (fun K hK => ?_)
                                      refine Kd.R_lit_step (Kd.int .u8) _ 5 ?hg (N := 74) ?hd (xs := ([rd ((rd_T54 y206 x61_3).f1) x56_2] : List Int)) (inner := [.int .u8 (rd ((rd_T54 y206 x61_3).f1) x56_2)]) (ok := fun _ => True) (okp := fun _ => True) ?hr ?hp (fun _ hk => hk) trivial (Below.refl _ _) (Nat.le_refl _) (by simp) ?_; (case hd => rfl); (case hg => rfl); (case hr => first | (go_simp; done) | (go_simp; rfl)); (case hp => exact (Reps.one (show Kd.M (Kd.int .u8) _ _ _ (rd ((rd_T54 y206 x61_3).f1) x56_2) [.int .u8 (rd ((rd_T54 y206 x61_3).f1) x56_2)] from rfl) (Reps.none _ _)))
                                      intro v230 w29 ho30 hb hg_ hnew_
                                      have HS2_ := (hb.cell (World.block_lt_of_cell? _ _ (hHeld.2.2))).trans (hHeld.2.2)
                                      clear hg_ hnew_
                                      (first | rw [← Ny229.out] at ho30 | (simp only [Int.reduceToNat] at ho30; rw [← Ny229.out] at ho30))
                                      have n0_ := Aside0.mk (Kd.V_elder' (by (with_reducible repeat (first | apply Kd.V_alloc | apply Kd.V_drewN | apply Kd.V_drew)); exact HO_8.out) (Kd.R_base ho30) hb)
                                      have n1_ := Aside0.mk (Kd.V_elder' (by (with_reducible repeat (first | apply Kd.V_alloc | apply Kd.V_drewN | apply Kd.V_drew)); exact HO_10.out) (Kd.R_base ho30) hb)
                                      have n2_ := Aside0.mk (Kd.R_elder' (by (with_reducible repeat (first | apply Kd.R_alloc | apply Kd.R_drewN | apply Kd.R_drew)); exact HO_11.out) (Kd.R_base ho30) hb)
                                      have n3_ := Aside0.mk (Kd.N_elder' (by (with_reducible repeat (first | apply Kd.N_alloc | apply Kd.N_drewN | apply Kd.N_drew)); exact HO_13.out) (Kd.R_base ho30) hb)
                                      have n4_ := Aside0.mk (Kd.V_elder' (by (with_reducible repeat (first | apply Kd.V_alloc | apply Kd.V_drewN | apply Kd.V_drew)); exact HO_59.out) (Kd.R_base ho30) hb)
                                      have n5_ := Aside0.mk (Kd.V_elder' (by (with_reducible repeat (first | apply Kd.V_alloc | apply Kd.V_drewN | apply Kd.V_drew)); exact HL226_1.out) (Kd.R_base ho30) hb)
                                      have n6_ := Aside0.mk (Kd.R_lower (Kd.R_new' (Kd.R_newM (M := fun k_ => (u.heap.size ≤ k_)) ho30 (below_size (by repeat (first | (with_reducible first | exact HB.out | apply below_alloc | apply pw_below_drewN | apply below_drew1 | refine below_set ?_ GE227.out) | exact HB.out))) (fun k_ h_ => h_)) (Kd.R_lt (by (with_reducible repeat (first | apply Kd.R_alloc | apply Kd.R_drewN | apply Kd.R_drew)); exact HO_11.out))) (below_size (by repeat (first | (with_reducible first | exact HB.out | apply below_alloc | apply pw_below_drewN | apply below_drew1 | refine below_set ?_ GE227.out) | exact HB.out))))
                                      have n7_ := Aside0.mk (blk_below (g := gb227) (o := .cells #[.int .u8 ((rd_T54 y206 x61_3).f0), .slice (some ad228) ((rd_T54 y206 x61_3).f1).length c226_1] 54 (0, 0)) (by (with_reducible repeat (first | refine blk_drewN ?_ _ | refine blk_drew ?_ | refine blk_alloc ?_ _)); exact BK227.out) hb)
                                      have n8_ := Aside0.mk (below_step (by repeat (first | (with_reducible first | exact HB.out | apply below_alloc | apply pw_below_drewN | apply below_drew1 | refine below_set ?_ GE227.out) | exact HB.out)) hb)
                                      clear HO_8
                                      clear HO_10
                                      clear HO_11
                                      clear HO_13
                                      clear HO_59
                                      clear HL226_1
                                      clear BK227
                                      clear HB
                                      have HO_8 := n0_
                                      have HO_10 := n1_
                                      have HO_11 := n2_
                                      have HO_13 := n3_
                                      have HO_59 := n4_
                                      have HL226_1 := n5_
                                      have HO231 := n6_
                                      have BK227 := n7_
                                      have HB := n8_
                                      clear n0_ n1_ n2_ n3_ n4_ n5_ n6_ n7_ n8_
                                      clear hb ho30
                                      obtain ⟨Ao31, co31, eo31⟩ := Kd.R_slice HO231.out
                                      (first | subst eo31 | (injection eo31 with f1_ f2_ f3_; have f4_ := f1_.symm; have f5_ := f3_.symm; clear f1_ f2_ f3_; subst f4_; subst f5_))
                                      refine hK.out _ _ ⟨(blk_cell BK227.out 0).trans rfl, (blk_cell BK227.out 1).trans rfl, HS2_⟩ (fun hHeld => ?_)
                                      clear hK K
                                      refine norm_ (a' := ?_) ?_ ?_
                                      rotate_left
                                      · show Act.put _ (some 74) _ = _
                                        simp only [Act.put, List.setIfInBounds_toArray, List.set_cons_zero, List.set_cons_succ, i64_w, i32_w]
                                        rfl
                                      refine pure_ (i := 10) (N := some 75) (v := ?_) (a' := ?_) #[true, true, true, true, true, true, true, true, true, true, true, false, false, false] rfl rfl (any_of HT_.out (by kernel_rfl)) (fun _ _ _ h => h) (Or.inl ⟨by rfl, ?_⟩) ?_ ?_
                                      rotate_left
                                      · intro w'
                                        go_simp
                                        with_reducible rfl
                                      rotate_left
                                      · simp only [Act.put, List.setIfInBounds_toArray, List.set_cons_zero, List.set_cons_succ, i64_w, i32_w]
                                        rfl
                                      refine last_ (i := 11) (N := some 76) #[true, true, true, true, true, true, true, true, true, true, true, true, false, false] rfl rfl (one_of HT_.out (by kernel_rfl)) (by decide) (fun K hK => ?_)
                                      refine value_ (w1 := ?_) (v := ?_) (by rfl) rfl ?_ ?_
                                      rotate_left 2
                                      · go_simp
                                        constructor
                                        · rfl
                                        · rfl
                                      refine hK.out _ _ ?_
                                      clear hK K
                                      refine norm_ (a' := ?_) ?_ ?_
                                      rotate_left
                                      · show Act.put _ (some 76) _ = _
                                        simp only [Act.put, List.setIfInBounds_toArray, List.set_cons_zero, List.set_cons_succ, i64_w, i32_w]
                                        rfl
                                      refine last_ (i := 12) (N := some 77) #[true, true, true, true, true, true, true, true, true, true, true, true, true, false] rfl rfl (one_of HT_.out (by kernel_rfl)) (by decide) (fun K hK => ?_)
                                      refine Kd.N_append_step k54 (w0 := u) u.heap.size (by rfl) (.tmp 65) (.tmp 76) 49 54 (.agg #[(.int .u8 0), (.slice none 0 0)]) 32 rfl Try.underlying49 info54 rfl (by decide) (by omega) u13 x13_3 (⟨Go.bits .xor .u8 ((rd_T54 y206 x61_3).f0) 128, y229⟩ : S54) [.int .u8 (Go.bits .xor .u8 ((rd_T54 y206 x61_3).f0) 128), .slice Ao31 y229.length co31] (fun k_ => (P3_ k_ ∨ u.heap.size ≤ k_) ∧ some k_ ≠ (u11 : Value).ownBlock ∧ k_ ≠ gb227) (fun k_ => ((fun k_ => (P3_ k_ ∨ u.heap.size ≤ k_) ∧ some k_ ≠ (u11 : Value).ownBlock ∧ k_ ≠ gb227)) k_ ∧ some k_ ≠ (u13 : Value).ownBlock) rfl rfl ?aP (fun _ hk => hk) ?aF ?aO ?aB ?aS ?aL ?_
                                      (case aP => exact (k54_mkF _ _ (⟨Go.bits .xor .u8 ((rd_T54 y206 x61_3).f0) 128, y229⟩ : S54) (Kd.R_reads' (Kd.R_mono (ok' := (fun k_ => ((fun k_ => (P3_ k_ ∨ u.heap.size ≤ k_) ∧ some k_ ≠ (u11 : Value).ownBlock ∧ k_ ≠ gb227)) k_ ∧ some k_ ≠ (u13 : Value).ownBlock)) (Kd.R_types (Kd.R_apart' (HO231.out) (Kd.N_typed HO_13.out) (by decide)) BK227.out (by decide)) (fun k_ hk => ⟨⟨(.inr (hk.1.1.1.1)), ⟨hk.1.1.2, hk.2⟩⟩, hk.1.2⟩))).2.1 (Kd.R_F (Kd.R_mono (ok' := (fun k_ => ((fun k_ => (P3_ k_ ∨ u.heap.size ≤ k_) ∧ some k_ ≠ (u11 : Value).ownBlock ∧ k_ ≠ gb227)) k_ ∧ some k_ ≠ (u13 : Value).ownBlock)) (Kd.R_types (Kd.R_apart' (HO231.out) (Kd.N_typed HO_13.out) (by decide)) BK227.out (by decide)) (fun k_ hk => ⟨⟨(.inr (hk.1.1.1.1)), ⟨hk.1.1.2, hk.2⟩⟩, hk.1.2⟩)))))
                                      (case aB => exact (by repeat (first | (with_reducible first | exact HB.out | apply below_alloc | apply pw_below_drewN | apply below_drew1 | refine below_set ?_ GE227.out) | exact HB.out)))
                                      (case aF => exact (fun k_ hk => ⟨(.inr (Nat.le_trans (below_size (by repeat (first | (with_reducible first | exact HB.out | apply below_alloc | apply pw_below_drewN | apply below_drew1 | refine below_set ?_ GE227.out) | exact HB.out))) hk)), Kd.fresh' (Kd.R_lt (by (with_reducible repeat (first | apply Kd.R_alloc | apply Kd.R_drewN | apply Kd.R_drew)); exact HO_11.out)) k_ hk, Kd.freshB (g := gb227) (o := .cells #[.int .u8 ((rd_T54 y206 x61_3).f0), .slice (some ad228) ((rd_T54 y206 x61_3).f1).length c226_1] 54 (0, 0)) (by (with_reducible repeat (first | refine blk_drewN ?_ _ | refine blk_drew ?_ | refine blk_alloc ?_ _)); exact BK227.out) k_ hk⟩))
                                      (case aO => exact (by (with_reducible repeat (first | apply Kd.N_alloc | apply Kd.N_drewN | apply Kd.N_drew)); exact Kd.N_mono HO_13.out (fun _ hk => ⟨hk.1.1, ⟨hk.1.2.1, hk.1.2.2⟩⟩)))
                                      (case aS => exact (below_size (by repeat (first | (with_reducible first | exact HB.out | apply below_alloc | apply pw_below_drewN | apply below_drew1 | refine below_set ?_ GE227.out) | exact HB.out))))
                                      (case aL => have := LMc24.out; omega)
                                      intro v233 w32 ho hb hg hat
                                      rw [← Ny232.out] at ho
                                      have n0_ := Aside0.mk (Kd.V_afterv (ok := (fun k_ => (P3_ k_ ∨ u.heap.size ≤ k_) ∧ some k_ ≠ (u11 : Value).ownBlock ∧ some k_ ≠ (.slice Ao31 y229.length co31 : Value).ownBlock ∧ k_ ≠ gb227)) (by (with_reducible repeat (first | apply Kd.V_alloc | apply Kd.V_drewN | apply Kd.V_drew)); exact Kd.V_mono HO_8.out (fun _ hk => ⟨⟨hk.1.1, ⟨hk.1.2.1, ⟨hk.2, hk.1.2.2.2⟩⟩⟩, hk.1.2.2.1⟩)) hg hat)
                                      have n1_ := Aside0.mk (Kd.V_afterv (ok := (fun k_ => (P3_ k_ ∨ u.heap.size ≤ k_) ∧ some k_ ≠ (u11 : Value).ownBlock ∧ some k_ ≠ (.slice Ao31 y229.length co31 : Value).ownBlock ∧ k_ ≠ gb227)) (by (with_reducible repeat (first | apply Kd.V_alloc | apply Kd.V_drewN | apply Kd.V_drew)); exact Kd.V_mono HO_10.out (fun _ hk => ⟨⟨hk.1.1, ⟨hk.1.2.1, ⟨hk.2, hk.1.2.2.2⟩⟩⟩, hk.1.2.2.1⟩)) hg hat)
                                      have n2_ := Aside0.mk (Kd.R_over' (by (with_reducible repeat (first | apply Kd.R_alloc | apply Kd.R_drewN | apply Kd.R_drew)); exact HO_11.out) (Kd.N_typed (by (with_reducible repeat (first | apply Kd.N_alloc | apply Kd.N_drewN | apply Kd.N_drew)); exact HO_13.out)) (by decide) hg)
                                      have n3_ := Aside0.mk (Kd.V_afterv (ok := (fun k_ => (P3_ k_ ∨ u.heap.size ≤ k_) ∧ some k_ ≠ (u11 : Value).ownBlock ∧ some k_ ≠ (.slice Ao31 y229.length co31 : Value).ownBlock ∧ k_ ≠ gb227)) (by (with_reducible repeat (first | apply Kd.V_alloc | apply Kd.V_drewN | apply Kd.V_drew)); exact Kd.V_mono HO_59.out (fun _ hk => ⟨⟨hk.1.1, ⟨hk.1.2.1, ⟨hk.2, hk.1.2.2.2⟩⟩⟩, hk.1.2.2.1⟩)) hg hat)
                                      have n4_ := Aside0.mk (Kd.V_afterv (ok := (fun k_ => (P3_ k_ ∨ u.heap.size ≤ k_) ∧ some k_ ≠ (u11 : Value).ownBlock ∧ some k_ ≠ (.slice Ao31 y229.length co31 : Value).ownBlock ∧ k_ ≠ gb227)) (by (with_reducible repeat (first | apply Kd.V_alloc | apply Kd.V_drewN | apply Kd.V_drew)); exact Kd.V_mono HL226_1.out (fun _ hk => ⟨⟨hk.1.1, ⟨hk.1.2.1, ⟨hk.2, hk.1.2.2.2⟩⟩⟩, hk.1.2.2.1⟩)) hg hat)
                                      have n5_ := Aside0.mk (blk_grown (g := gb227) (o := .cells #[.int .u8 ((rd_T54 y206 x61_3).f0), .slice (some ad228) ((rd_T54 y206 x61_3).f1).length c226_1] 54 (0, 0)) (by (with_reducible repeat (first | refine blk_drewN ?_ _ | refine blk_drew ?_ | refine blk_alloc ?_ _)); exact BK227.out) hg (Kd.N_away HO_13.out (fun _ hk => hk.1.2.2)))
                                      have n6_ := Aside0.mk (hb)
                                      have n7_ := Aside0.mk (ho)
                                      clear HO_8
                                      clear HO_10
                                      clear HO_11
                                      clear HO_59
                                      clear HL226_1
                                      clear BK227
                                      clear HB
                                      clear HO_13
                                      clear HO231
                                      have HO_8 := n0_
                                      have HO_10 := n1_
                                      have HO_11 := n2_
                                      have HO_59 := n3_
                                      have HL226_1 := n4_
                                      have BK227 := n5_
                                      have HB := n6_
                                      have HO234 := n7_
                                      clear n0_ n1_ n2_ n3_ n4_ n5_ n6_ n7_
                                      clear ho hb hg hat
                                      refine hK.out _ _ ?_
                                      clear hK K
                                      refine norm_ (a' := ?_) ?_ ?_
                                      rotate_left
                                      · show Act.put _ (some 77) _ = _
                                        simp only [Act.put, List.setIfInBounds_toArray, List.set_cons_zero, List.set_cons_succ, i64_w, i32_w]
                                        rfl
                                      refine pure_ (i := 13) (N := some 13) (v := ?_) (a' := ?_) #[true, true, true, true, true, true, true, true, true, true, true, true, true, true] rfl rfl (any_of HT_.out (by kernel_rfl)) (fun _ _ _ h => h) (Or.inl ⟨by rfl, ?_⟩) ?_ ?_
                                      rotate_left
                                      · intro w'
                                        go_simp
                                        with_reducible rfl
                                      rotate_left
                                      · simp only [Act.put, List.setIfInBounds_toArray, List.set_cons_zero, List.set_cons_succ, i64_w, i32_w]
                                        rfl
                                      refine done_ (done_of HT_.out (by kernel_rfl)) ?_
                                      try go_wp2
                                      go_roundg k3
                                      case measure => have := HJ7.out; have := HK2.out; have := HK3.out; omega
                                      case rel => exact ⟨(y232), (wrap64 (x61_3 + 1)), (by first | rfl | (simp; done) | (simp [*]; done)), H', ⟨by have := HJ7.out; have := HK2.out; have := HK3.out; omega⟩, ⟨by (with_reducible repeat (first | apply Kd.V_alloc | apply Kd.V_drewN | apply Kd.V_drew)); exact Kd.V_mono HO_8.out (fun _ hk => ⟨hk.1.1, ⟨hk.1.2.1, hk.2⟩⟩)⟩, ⟨by (with_reducible repeat (first | apply Kd.V_alloc | apply Kd.V_drewN | apply Kd.V_drew)); exact Kd.V_mono HO_10.out (fun _ hk => ⟨hk.1.1, ⟨hk.1.2.1, hk.2⟩⟩)⟩, ⟨by (with_reducible repeat (first | apply Kd.R_alloc | apply Kd.R_drewN | apply Kd.R_drew)); exact Kd.R_mono HO_11.out (fun _ hk => hk.1)⟩, ⟨by (with_reducible repeat (first | apply Kd.N_alloc | apply Kd.N_drewN | apply Kd.N_drew)); exact Kd.N_mono HO234.out (fun _ hk => ⟨hk.1, hk.2.1⟩)⟩, ⟨by (with_reducible repeat (first | apply Kd.V_alloc | apply Kd.V_drewN | apply Kd.V_drew)); exact Kd.V_mono HO_59.out (fun _ hk => ⟨hk.1.1, ⟨hk.1.2.1, hk.2⟩⟩)⟩, ⟨by repeat (first | (with_reducible first | exact HB.out | apply below_alloc | apply pw_below_drewN | apply below_drew1 | refine below_set ?_ GE227.out) | exact HB.out)⟩⟩
                                    · rw [if_neg c24] at H
                                      exact absurd H (by simp)
                                  · rw [if_neg c23] at H
                                    exact absurd H (by simp)
                                · rw [if_neg c22] at H
                                  exact absurd H (by simp)
                              · rw [if_neg c21] at H
                                exact absurd H (by simp)
                            · rw [if_neg c20] at H
                              exact absurd H (by simp)
                          · rw [if_neg c19] at H
                            have c19b0 : decide (x61_3 < (y206.length : Int)) = false := decide_eq_false c19
                            clear c19
                            by_cases c33 : 0 ≤ x56_2
                            · rw [if_pos c33] at H
                              have c33b0 : decide (0 ≤ x56_2) = true := decide_eq_true c33
                              clear c33
                              by_cases c34 : x56_2 < (l1.length : Int)
                              · rw [if_pos c34] at H
                                have c34b0 : decide (x56_2 < (l1.length : Int)) = true := decide_eq_true c34
                                clear c34
                                obtain ⟨y236, hy236⟩ : ∃ y_ : List Int, y_ = (([rd l1 x56_2] : List Int)) := ⟨_, rfl⟩
                                replace H : (if x13_3.length < 4398046511104 then (if 0 ≤ (wrap64 ((wrap64 ((l2.length : Int) + 1)) - 1)) then (if (wrap64 ((wrap64 ((l2.length : Int) + 1)) - 1)) < (l3.length : Int) then ((split_At.f k3 (x13_3 ++ [(⟨128, y236⟩ : S54)]) (Go.bits .xor .u8 ((rd_T54 l3 (wrap64 ((wrap64 ((l2.length : Int) + 1)) - 1))).f0) 128)).bind fun bt243 => (if bt243.2 = 0 then (if (bt243.1.length : Int) = 1 then (if 0 < (bt243.1.length : Int) then (if x11_2.length < 140737488355328 then (chatelainelaw45_SplitHides.l0 k3 l1 (wrap64 ((l2.length : Int) + 1)) l3 y206 (x11_2 ++ [rd bt243.1 0]) (l1.length : Int) (wrap64 (x56_2 + 1))) else (none)) else (none)) else (some false)) else (some false))) else (none)) else (none)) else (none)) = some r := by first | (rw [hy236]; with_reducible exact H) | (have H2_ := (Option.bind_some _ _).symm.trans H; rw [hy236]; with_reducible exact H2_) | (have H2_ := (Option.bind_some _ _).symm.trans H; with_reducible exact H2_) | with_reducible exact H | (rw [hy236]; exact H) | exact H
                                have Ny236 := Aside0.mk hy236
                                clear hy236
                                by_cases c35 : x13_3.length < 4398046511104
                                · rw [if_pos c35] at H
                                  have LMc35 := Aside0.mk c35
                                  clear c35
                                  obtain ⟨y239, hy239⟩ : ∃ y_ : List (S54), y_ = (x13_3 ++ [(⟨128, y236⟩ : S54)]) := ⟨_, rfl⟩
                                  replace H : (if 0 ≤ (wrap64 ((wrap64 ((l2.length : Int) + 1)) - 1)) then (if (wrap64 ((wrap64 ((l2.length : Int) + 1)) - 1)) < (l3.length : Int) then ((split_At.f k3 y239 (Go.bits .xor .u8 ((rd_T54 l3 (wrap64 ((wrap64 ((l2.length : Int) + 1)) - 1))).f0) 128)).bind fun bt243 => (if bt243.2 = 0 then (if (bt243.1.length : Int) = 1 then (if 0 < (bt243.1.length : Int) then (if x11_2.length < 140737488355328 then (chatelainelaw45_SplitHides.l0 k3 l1 (wrap64 ((l2.length : Int) + 1)) l3 y206 (x11_2 ++ [rd bt243.1 0]) (l1.length : Int) (wrap64 (x56_2 + 1))) else (none)) else (none)) else (some false)) else (some false))) else (none)) else (none)) = some r := by first | (rw [hy239]; with_reducible exact H) | (have H2_ := (Option.bind_some _ _).symm.trans H; rw [hy239]; with_reducible exact H2_) | (have H2_ := (Option.bind_some _ _).symm.trans H; with_reducible exact H2_) | with_reducible exact H | (rw [hy239]; exact H) | exact H
                                  have Ny239 := Aside0.mk hy239
                                  clear hy239
                                  obtain ⟨ji36, hji36⟩ : ∃ j_ : Int, (wrap64 ((wrap64 ((l2.length : Int) + 1)) - 1)) = j_ := ⟨_, rfl⟩
                                  replace H : (if 0 ≤ (ji36) then (if (ji36) < (l3.length : Int) then ((split_At.f k3 y239 (Go.bits .xor .u8 ((rd_T54 l3 (ji36)).f0) 128)).bind fun bt243 => (if bt243.2 = 0 then (if (bt243.1.length : Int) = 1 then (if 0 < (bt243.1.length : Int) then (if x11_2.length < 140737488355328 then (chatelainelaw45_SplitHides.l0 k3 l1 (wrap64 ((l2.length : Int) + 1)) l3 y206 (x11_2 ++ [rd bt243.1 0]) (l1.length : Int) (wrap64 (x56_2 + 1))) else (none)) else (none)) else (some false)) else (some false))) else (none)) else (none)) = some r := by first | (rw [hji36] at H; exact H) | (simp only [hji36] at H ⊢; exact H)
                                  have hji36w : (IntKind.i64.wrap ((wrap64 ((l2.length : Int) + 1)) - 1)) = ji36 := (i64_w _).trans hji36
                                  obtain rfl : ji36 = ji14 := hji36.symm.trans hji14
                                  by_cases c37 : 0 ≤ (ji36)
                                  · rw [if_pos c37] at H
                                    have c37b0 : decide (0 ≤ (ji36)) = true := decide_eq_true c37
                                    clear c37
                                    by_cases c38 : (ji36) < (l3.length : Int)
                                    · rw [if_pos c38] at H
                                      have c38b0 : decide ((ji36) < (l3.length : Int)) = true := decide_eq_true c38
                                      clear c38
                                      replace H := Option.bind_eq_some_iff.mp H
                                      obtain ⟨⟨t243, t244⟩, A390, H⟩ := H
                                      replace H : (if t244 = 0 then (if (t243.length : Int) = 1 then (if 0 < (t243.length : Int) then (if x11_2.length < 140737488355328 then (chatelainelaw45_SplitHides.l0 k3 l1 (wrap64 ((l2.length : Int) + 1)) l3 y206 (x11_2 ++ [rd t243 0]) (l1.length : Int) (wrap64 (x56_2 + 1))) else (none)) else (none)) else (some false)) else (some false)) = some r := H
                                      have A39 := Aside0.mk A390
                                      clear A390
                                      by_cases c40 : t244 = 0
                                      · rw [if_pos c40] at H
                                        have c40b0 : (t244 == 0) = true := beq_iff_eq.mpr c40
                                        have c40b1 : (t244 != 0) = false := bne_eq_false_iff_eq.mpr c40
                                        clear c40
                                        by_cases c41 : (t243.length : Int) = 1
                                        · rw [if_pos c41] at H
                                          have c41b0 : ((t243.length : Int) == 1) = true := beq_iff_eq.mpr c41
                                          have c41b1 : ((t243.length : Int) != 1) = false := bne_eq_false_iff_eq.mpr c41
                                          clear c41
                                          by_cases c42 : 0 < (t243.length : Int)
                                          · rw [if_pos c42] at H
                                            have c42b0 : decide (0 < (t243.length : Int)) = true := decide_eq_true c42
                                            have c42b1 : decide (0 < t243.length) = true := decide_eq_true (by omega)
                                            clear c42
                                            by_cases c43 : x11_2.length < 140737488355328
                                            · rw [if_pos c43] at H
                                              have LMc43 := Aside0.mk c43
                                              clear c43
                                              obtain ⟨y248, hy248⟩ : ∃ y_ : List Int, y_ = (x11_2 ++ [rd t243 0]) := ⟨_, rfl⟩
                                              replace H : (chatelainelaw45_SplitHides.l0 k3 l1 (wrap64 ((l2.length : Int) + 1)) l3 y206 y248 (l1.length : Int) (wrap64 (x56_2 + 1))) = some r := by first | (rw [hy248]; with_reducible exact H) | (have H2_ := (Option.bind_some _ _).symm.trans H; rw [hy248]; with_reducible exact H2_) | (have H2_ := (Option.bind_some _ _).symm.trans H; with_reducible exact H2_) | with_reducible exact H | (rw [hy248]; exact H) | exact H
                                              have Ny248 := Aside0.mk hy248
                                              clear hy248
                                              have H' := Aside0.mk H
                                              clear H
                                              have p235 : 0 ≤ (x56_2 : Int) := of_decide_eq_true (by first | (with_reducible assumption) | assumption)
                                              have q235 : x56_2 < (l1.length : Int) := of_decide_eq_true (by first | (with_reducible assumption) | assumption)
                                              obtain ⟨ad235, e235, hx235_0⟩ := Kd.at_int HR1.out x56_2 p235 q235
                                              cases e235
                                              replace hx235_0 := (HB.out.cell (World.block_lt_of_cell? u _ hx235_0)).trans hx235_0
                                              replace p235 := eq_true p235
                                              replace q235 := eq_true q235
                                              go_wp2_with (first | ((with_reducible refine gate_dst (N := 84) rfl ?_); (try (refine gate_guard (by rfl) ?_; dsimp only)); refine Kd.R_lit (Kd.int .u8) _ 5 ?hg (N := 84) ?hd (xs := ([rd l1 x56_2] : List Int)) (inner := [.int .u8 (rd l1 x56_2)]) (ok := fun _ => True) (okp := fun _ => True) ?hr ?hp (fun _ hk => hk) trivial (Below.refl _ _) (Nat.le_refl _) (by simp) ?_; (case hd => rfl); (case hg => rfl); (case hr => first | (go_simp; done) | (go_simp; rfl)); (case hp => exact (Reps.one (show Kd.M (Kd.int .u8) _ _ _ (rd l1 x56_2) [.int .u8 (rd l1 x56_2)] from rfl) (Reps.none _ _))); intro v237 w44 ho45 hb hg_ hnew_; clear hg_ hnew_; (first | rw [← Ny236.out] at ho45 | (simp only [Int.reduceToNat] at ho45; rw [← Ny236.out] at ho45)); have n0_ := Aside0.mk (Kd.V_elder' (by (with_reducible repeat (first | apply Kd.V_alloc | apply Kd.V_drewN | apply Kd.V_drew)); exact HO_8.out) (Kd.R_base ho45) hb); have n1_ := Aside0.mk (Kd.V_elder' (by (with_reducible repeat (first | apply Kd.V_alloc | apply Kd.V_drewN | apply Kd.V_drew)); exact HO_10.out) (Kd.R_base ho45) hb); have n2_ := Aside0.mk (Kd.R_elder' (by (with_reducible repeat (first | apply Kd.R_alloc | apply Kd.R_drewN | apply Kd.R_drew)); exact HO_11.out) (Kd.R_base ho45) hb); have n3_ := Aside0.mk (Kd.N_elder' (by (with_reducible repeat (first | apply Kd.N_alloc | apply Kd.N_drewN | apply Kd.N_drew)); exact HO_13.out) (Kd.R_base ho45) hb); have n4_ := Aside0.mk (Kd.V_elder' (by (with_reducible repeat (first | apply Kd.V_alloc | apply Kd.V_drewN | apply Kd.V_drew)); exact HO_59.out) (Kd.R_base ho45) hb); have n5_ := Aside0.mk (Kd.R_lower (Kd.R_new' (Kd.R_newM (M := fun k_ => (u.heap.size ≤ k_)) ho45 (below_size (by repeat (first | (with_reducible first | exact HB.out | apply below_alloc | apply pw_below_drewN | apply below_drew1) | exact HB.out))) (fun k_ h_ => h_)) (Kd.R_lt (by (with_reducible repeat (first | apply Kd.R_alloc | apply Kd.R_drewN | apply Kd.R_drew)); exact HO_11.out))) (below_size (by repeat (first | (with_reducible first | exact HB.out | apply below_alloc | apply pw_below_drewN | apply below_drew1) | exact HB.out)))); have n6_ := Aside0.mk (below_step (by repeat (first | (with_reducible first | exact HB.out | apply below_alloc | apply pw_below_drewN | apply below_drew1) | exact HB.out)) hb); clear HO_8; clear HO_10; clear HO_11; clear HO_13; clear HO_59; clear HB; have HO_8 := n0_; have HO_10 := n1_; have HO_11 := n2_; have HO_13 := n3_; have HO_59 := n4_; have HO238 := n5_; have HB := n6_; clear n0_ n1_ n2_ n3_ n4_ n5_ n6_; clear hb ho45; obtain ⟨Ao46, co46, eo46⟩ := Kd.R_slice HO238.out; subst eo46) | ((with_reducible refine gate_builtin (b := .append) (xs := #[.tmp 79, .tmp 86]) rfl ?_); (try (refine gate_guard (by rfl) ?_; dsimp only)); at_builtin; refine Kd.N_append k54 (w0 := u) u.heap.size rfl (.tmp 79) (.tmp 86) 49 54 (.agg #[(.int .u8 0), (.slice none 0 0)]) 32 rfl Try.underlying49 info54 rfl (by decide) (by omega) u13 x13_3 (⟨128, y236⟩ : S54) [.int .u8 128, .slice Ao46 y236.length co46] (fun k_ => (P3_ k_ ∨ u.heap.size ≤ k_) ∧ some k_ ≠ (u11 : Value).ownBlock) (fun k_ => ((fun k_ => (P3_ k_ ∨ u.heap.size ≤ k_) ∧ some k_ ≠ (u11 : Value).ownBlock)) k_ ∧ some k_ ≠ (u13 : Value).ownBlock) rfl rfl ?aP (fun _ hk => hk) ?aF ?aO ?aB ?aS ?aL ?_; (case aP => exact (k54_mkF _ _ (⟨128, y236⟩ : S54) (Kd.R_reads' (Kd.R_mono (ok' := (fun k_ => ((fun k_ => (P3_ k_ ∨ u.heap.size ≤ k_) ∧ some k_ ≠ (u11 : Value).ownBlock)) k_ ∧ some k_ ≠ (u13 : Value).ownBlock)) (Kd.R_apart' (HO238.out) (Kd.N_typed HO_13.out) (by decide)) (fun k_ hk => ⟨⟨(.inr (hk.1.1.1)), hk.1.2⟩, hk.2⟩))).2.1 (Kd.R_F (Kd.R_mono (ok' := (fun k_ => ((fun k_ => (P3_ k_ ∨ u.heap.size ≤ k_) ∧ some k_ ≠ (u11 : Value).ownBlock)) k_ ∧ some k_ ≠ (u13 : Value).ownBlock)) (Kd.R_apart' (HO238.out) (Kd.N_typed HO_13.out) (by decide)) (fun k_ hk => ⟨⟨(.inr (hk.1.1.1)), hk.1.2⟩, hk.2⟩))))); (case aB => exact (by repeat (first | (with_reducible first | exact HB.out | apply below_alloc | apply pw_below_drewN | apply below_drew1) | exact HB.out))); (case aF => exact (fun k_ hk => ⟨(.inr (Nat.le_trans (below_size (by repeat (first | (with_reducible first | exact HB.out | apply below_alloc | apply pw_below_drewN | apply below_drew1) | exact HB.out))) hk)), Kd.fresh' (Kd.R_lt (by (with_reducible repeat (first | apply Kd.R_alloc | apply Kd.R_drewN | apply Kd.R_drew)); exact HO_11.out)) k_ hk⟩)); (case aO => exact (by (with_reducible repeat (first | apply Kd.N_alloc | apply Kd.N_drewN | apply Kd.N_drew)); exact Kd.N_mono HO_13.out (fun _ hk => ⟨hk.1.1, hk.1.2⟩))); (case aS => exact (below_size (by repeat (first | (with_reducible first | exact HB.out | apply below_alloc | apply pw_below_drewN | apply below_drew1) | exact HB.out)))); (case aL => have := LMc35.out; omega); intro v240 w47 ho hb hg hat; rw [← Ny239.out] at ho; have n0_ := Aside0.mk (Kd.V_afterv (ok := (fun k_ => (P3_ k_ ∨ u.heap.size ≤ k_) ∧ some k_ ≠ (u11 : Value).ownBlock ∧ some k_ ≠ (.slice Ao46 y236.length co46 : Value).ownBlock)) (by (with_reducible repeat (first | apply Kd.V_alloc | apply Kd.V_drewN | apply Kd.V_drew)); exact Kd.V_mono HO_8.out (fun _ hk => ⟨⟨hk.1.1, ⟨hk.1.2.1, hk.2⟩⟩, hk.1.2.2⟩)) hg hat); have n1_ := Aside0.mk (Kd.V_afterv (ok := (fun k_ => (P3_ k_ ∨ u.heap.size ≤ k_) ∧ some k_ ≠ (u11 : Value).ownBlock ∧ some k_ ≠ (.slice Ao46 y236.length co46 : Value).ownBlock)) (by (with_reducible repeat (first | apply Kd.V_alloc | apply Kd.V_drewN | apply Kd.V_drew)); exact Kd.V_mono HO_10.out (fun _ hk => ⟨⟨hk.1.1, ⟨hk.1.2.1, hk.2⟩⟩, hk.1.2.2⟩)) hg hat); have n2_ := Aside0.mk (Kd.R_over' (by (with_reducible repeat (first | apply Kd.R_alloc | apply Kd.R_drewN | apply Kd.R_drew)); exact HO_11.out) (Kd.N_typed (by (with_reducible repeat (first | apply Kd.N_alloc | apply Kd.N_drewN | apply Kd.N_drew)); exact HO_13.out)) (by decide) hg); have n3_ := Aside0.mk (Kd.V_afterv (ok := (fun k_ => (P3_ k_ ∨ u.heap.size ≤ k_) ∧ some k_ ≠ (u11 : Value).ownBlock ∧ some k_ ≠ (.slice Ao46 y236.length co46 : Value).ownBlock)) (by (with_reducible repeat (first | apply Kd.V_alloc | apply Kd.V_drewN | apply Kd.V_drew)); exact Kd.V_mono HO_59.out (fun _ hk => ⟨⟨hk.1.1, ⟨hk.1.2.1, hk.2⟩⟩, hk.1.2.2⟩)) hg hat); have n4_ := Aside0.mk (hb); have n5_ := Aside0.mk (ho); clear HO_8; clear HO_10; clear HO_11; clear HO_59; clear HB; clear HO_13; clear HO238; have HO_8 := n0_; have HO_10 := n1_; have HO_11 := n2_; have HO_59 := n3_; have HB := n4_; have HO241 := n5_; clear n0_ n1_ n2_ n3_ n4_ n5_; clear ho hb hg hat; have p242 : 0 ≤ ((ji36) : Int) := of_decide_eq_true (by first | (with_reducible assumption) | assumption); have q242 : (ji36) < (l3.length : Int) := of_decide_eq_true (by first | (with_reducible assumption) | assumption); obtain ⟨ad242, A242_1, c242_1, e242, hx242_0, hx242_1, hl242_1, hi242_1⟩ := at_T54 (Kd.V_reads' HO_8.out).2.2 (ji36) p242 q242; cases e242; obtain ⟨ce242, hce242, hMe242, hcc242⟩ := Kd.V_get HO_8.out z54 (ji36) p242 (by first | exact q242 | exact of_decide_eq_true (by first | (with_reducible assumption) | assumption) | (have e_ := (Kd.V_reads' HO_8.out).1; omega)); obtain ⟨ua242_1, uc242_1, rfl, ul242_1, ge242_1⟩ := k54_openF hMe242; have hv242_1 := hcc242 1 _ rfl; rw [add_field _ _ 1 (by omega)] at hv242_1; replace hv242_1 := Option.some.inj (hv242_1.symm.trans hx242_1); injection hv242_1 with hva_ hvn_ hvc_; rw [hva_] at ge242_1; rw [hvc_] at ul242_1; have HL242_1 := Aside0.mk (show Kd.V (Kd.int .u8) 5 _ u.heap.size _ _ ((rd_T54 l3 (ji36)).f1) from Kd.V_mk ul242_1 ge242_1); clear hva_ hvn_ hvc_ ge242_1 ul242_1; clear hcc242 hce242; have HR242_1 := Aside0.mk hi242_1; have HC242_1 := Aside0.mk hl242_1; clear hi242_1 hl242_1; replace p242 := eq_true p242; replace q242 := eq_true q242; obtain ⟨Ao48, co48, eo48⟩ := Kd.N_slice HO241.out; subst eo48) | ((with_reducible refine gate_callee (f := 35) rfl ?_); refine goesL_ (some 97) rfl rfl Try.func35 (by kernel_rfl) rfl #[.slice Ao48 y239.length co48, .int .u8 (Go.bits .xor .u8 ((rd_T54 l3 (ji36)).f0) 128)] rfl (by (try simp only [List.map_toArray, List.map_cons, List.map_nil]); first | done | (simp only [hji36]; rfl) | rfl | (simp only [List.length_drop, List.length_take]; rfl)) ?_; (with_reducible refine (split_At.calls k3 _ _ y239 (Go.bits .xor .u8 ((rd_T54 l3 (ji36)).f0) 128) t243 t244 _ ?side1 ?side2 A39.out).mono ?_); (case side1 => repeat (first | exact (Kd.N_reads' HO241.out).2.2 | (with_reducible refine Kd.C_alloc ?_ _) | (with_reducible refine Kd.C_drewN ?_ _) | (with_reducible refine Kd.C_drew ?_))); (case side2 => exact (Kd.N_reads' HO241.out).2.1); rintro e w49 ⟨v245, rfl, ho0, hb⟩; refine ⟨_, rfl, ?_⟩; have n0_ := Aside0.mk (Kd.V_elder' (by (with_reducible repeat (first | apply Kd.V_alloc | apply Kd.V_drewN | apply Kd.V_drew)); exact HO_8.out) (Kd.R_base ho0) hb); have n1_ := Aside0.mk (Kd.V_elder' (by (with_reducible repeat (first | apply Kd.V_alloc | apply Kd.V_drewN | apply Kd.V_drew)); exact HO_10.out) (Kd.R_base ho0) hb); have n2_ := Aside0.mk (Kd.R_elder' (by (with_reducible repeat (first | apply Kd.R_alloc | apply Kd.R_drewN | apply Kd.R_drew)); exact HO_11.out) (Kd.R_base ho0) hb); have n3_ := Aside0.mk (Kd.V_elder' (by (with_reducible repeat (first | apply Kd.V_alloc | apply Kd.V_drewN | apply Kd.V_drew)); exact HO_59.out) (Kd.R_base ho0) hb); have n4_ := Aside0.mk (Kd.N_elder' (by (with_reducible repeat (first | apply Kd.N_alloc | apply Kd.N_drewN | apply Kd.N_drew)); exact HO241.out) (Kd.R_base ho0) hb); have n5_ := Aside0.mk (Kd.V_elder' (by (with_reducible repeat (first | apply Kd.V_alloc | apply Kd.V_drewN | apply Kd.V_drew)); exact HL242_1.out) (Kd.R_base ho0) hb); have n6_ := Aside0.mk (Kd.R_lower (Kd.R_new' (Kd.R_newM (M := fun k_ => (u.heap.size ≤ k_)) ho0 (below_size (by repeat (first | (with_reducible first | exact HB.out | apply below_alloc | apply pw_below_drewN | apply below_drew1) | exact HB.out))) (fun k_ h_ => h_)) (Kd.R_lt (by (with_reducible repeat (first | apply Kd.R_alloc | apply Kd.R_drewN | apply Kd.R_drew)); exact HO_11.out))) (below_size (by repeat (first | (with_reducible first | exact HB.out | apply below_alloc | apply pw_below_drewN | apply below_drew1) | exact HB.out)))); have n7_ := Aside0.mk (Kd.C_below (by repeat (first | (with_reducible exact HR242_1.out) | (with_reducible refine Kd.C_alloc ?_ _) | (with_reducible refine Kd.C_drewN ?_ _) | (with_reducible refine Kd.C_drew ?_) | exact HR242_1.out)) hb); have n8_ := Aside0.mk (below_step (by repeat (first | (with_reducible first | exact HB.out | apply below_alloc | apply pw_below_drewN | apply below_drew1) | exact HB.out)) hb); clear HO_8; clear HO_10; clear HO_11; clear HO_59; clear HO241; clear HL242_1; clear HR242_1; clear HB; have HO_8 := n0_; have HO_10 := n1_; have HO_11 := n2_; have HO_59 := n3_; have HO241 := n4_; have HL242_1 := n5_; have HO246 := n6_; have HR242_1 := n7_; have HB := n8_; clear n0_ n1_ n2_ n3_ n4_ n5_ n6_ n7_ n8_; (try clear hb); (try clear hb2); (try clear hk); (try clear hi); (try clear ho0); obtain ⟨Ao50, co50, eo50⟩ := Kd.R_slice HO246.out; subst eo50; have p247 : 0 ≤ (0 : Int) := (by omega); have q247 : 0 < (t243.length : Int) := of_decide_eq_true (by first | (with_reducible assumption) | assumption); obtain ⟨ad247, e247, hx247_0⟩ := Kd.at_int (Kd.R_reads' HO246.out).2.2 0 p247 q247; cases e247; have qi247 : (0 < t243.length) = True := eq_true (by omega); (try rw [show ((0 : Int)).toNat = 0 from rfl] at hx247_0); (try rw [Addr.add_zero'] at hx247_0); replace p247 := eq_true p247; replace q247 := eq_true q247) | ((with_reducible refine gate_builtin (b := .append) (xs := #[.tmp 107, .tmp 111]) rfl ?_); (try (refine gate_guard (by rfl) ?_; dsimp only)); at_builtin; refine Kd.R_append (Kd.int .u8) (w0 := u) u.heap.size rfl (.tmp 107) (.tmp 111) 45 5 (.int .u8 0) 1 rfl Try.underlying45 info5 rfl (by decide) (by omega) u11 x11_2 (rd t243 0) [.int .u8 (rd t243 0)] (fun k_ => (u.heap.size ≤ k_) ∧ some k_ ≠ (.slice (some ad247) t243.length co50 : Value).ownBlock) (fun _ => False) rfl rfl ?aP (fun _ hk => hk.elim) ?aF ?aO ?aB ?aS ?aL ?_; (case aP => exact rfl); (case aB => exact (by repeat (first | (with_reducible first | exact HB.out | apply below_alloc | apply pw_below_drewN | apply below_drew1) | exact HB.out))); (case aF => exact (fun k_ hk => ⟨(Nat.le_trans (below_size (by repeat (first | (with_reducible first | exact HB.out | apply below_alloc | apply pw_below_drewN | apply below_drew1) | exact HB.out))) hk), Kd.fresh' (Kd.R_lt (by (with_reducible repeat (first | apply Kd.R_alloc | apply Kd.R_drewN | apply Kd.R_drew)); exact HO246.out)) k_ hk⟩)); (case aO => exact (by (with_reducible repeat (first | apply Kd.R_alloc | apply Kd.R_drewN | apply Kd.R_drew)); exact Kd.R_mono HO_11.out (fun _ hk => ⟨hk.1.1, hk.2⟩))); (case aS => exact (below_size (by repeat (first | (with_reducible first | exact HB.out | apply below_alloc | apply pw_below_drewN | apply below_drew1) | exact HB.out)))); (case aL => have := LMc43.out; omega); intro v249 w51 ho hb hg hat; rw [← Ny248.out] at ho; have n0_ := Aside0.mk (Kd.V_afterv (ok := (fun k_ => (P3_ k_ ∨ u.heap.size ≤ k_) ∧ some k_ ≠ (.slice Ao48 y239.length co48 : Value).ownBlock ∧ some k_ ≠ (.slice (some ad247) t243.length co50 : Value).ownBlock)) (by (with_reducible repeat (first | apply Kd.V_alloc | apply Kd.V_drewN | apply Kd.V_drew)); exact Kd.V_mono HO_8.out (fun _ hk => ⟨⟨hk.1.1.1, ⟨hk.1.2, hk.2⟩⟩, hk.1.1.2.1⟩)) hg hat); have n1_ := Aside0.mk (Kd.V_afterv (ok := (fun k_ => (P3_ k_ ∨ u.heap.size ≤ k_) ∧ some k_ ≠ (.slice Ao48 y239.length co48 : Value).ownBlock ∧ some k_ ≠ (.slice (some ad247) t243.length co50 : Value).ownBlock)) (by (with_reducible repeat (first | apply Kd.V_alloc | apply Kd.V_drewN | apply Kd.V_drew)); exact Kd.V_mono HO_10.out (fun _ hk => ⟨⟨hk.1.1.1, ⟨hk.1.2, hk.2⟩⟩, hk.1.1.2.1⟩)) hg hat); have n2_ := Aside0.mk (Kd.V_afterv (ok := (fun k_ => (P3_ k_ ∨ u.heap.size ≤ k_) ∧ some k_ ≠ (.slice Ao48 y239.length co48 : Value).ownBlock ∧ some k_ ≠ (.slice (some ad247) t243.length co50 : Value).ownBlock)) (by (with_reducible repeat (first | apply Kd.V_alloc | apply Kd.V_drewN | apply Kd.V_drew)); exact Kd.V_mono HO_59.out (fun _ hk => ⟨⟨hk.1.1.1, ⟨hk.1.2, hk.2⟩⟩, hk.1.1.2.1⟩)) hg hat); have n3_ := Aside0.mk (Kd.N_afterv (ok := (fun k_ => (P3_ k_ ∨ u.heap.size ≤ k_) ∧ some k_ ≠ (.slice (some ad247) t243.length co50 : Value).ownBlock)) (by (with_reducible repeat (first | apply Kd.N_alloc | apply Kd.N_drewN | apply Kd.N_drew)); exact Kd.N_mono HO241.out (fun _ hk => ⟨⟨hk.1.1, hk.2⟩, hk.1.2⟩)) hg hat); have n4_ := Aside0.mk (Kd.V_afterv (ok := (fun k_ => (P3_ k_ ∨ u.heap.size ≤ k_) ∧ some k_ ≠ (.slice Ao48 y239.length co48 : Value).ownBlock ∧ some k_ ≠ (.slice (some ad247) t243.length co50 : Value).ownBlock)) (by (with_reducible repeat (first | apply Kd.V_alloc | apply Kd.V_drewN | apply Kd.V_drew)); exact Kd.V_mono HL242_1.out (fun _ hk => ⟨⟨hk.1.1.1, ⟨hk.1.2, hk.2⟩⟩, hk.1.1.2.1⟩)) hg hat); have n5_ := Aside0.mk (Kd.R_after (ok := (fun k_ => (u.heap.size ≤ k_))) (by (with_reducible repeat (first | apply Kd.R_alloc | apply Kd.R_drewN | apply Kd.R_drew)); exact Kd.R_mono HO246.out (fun _ hk => ⟨hk.1.1, hk.2⟩)) hg hat); have n6_ := Aside0.mk (hb); have n7_ := Aside0.mk (ho); clear HO_8; clear HO_10; clear HO_59; clear HO241; clear HL242_1; clear HO246; clear HB; clear HO_11; have HO_8 := n0_; have HO_10 := n1_; have HO_59 := n2_; have HO241 := n3_; have HL242_1 := n4_; have HO246 := n5_; have HB := n6_; have HO250 := n7_; clear n0_ n1_ n2_ n3_ n4_ n5_ n6_ n7_; clear ho hb hg hat))
                                              go_roundg k3
                                              case measure => have := HJ7.out; have := HK2.out; have := HK3.out; omega
                                              case rel => exact ⟨(y248), (wrap64 (x56_2 + 1)), (by first | rfl | (simp; done) | (simp [*]; done)), H', ⟨by have := HJ7.out; have := HK2.out; have := HK3.out; omega⟩, ⟨by (with_reducible repeat (first | apply Kd.V_alloc | apply Kd.V_drewN | apply Kd.V_drew)); exact Kd.V_mono HO_8.out (fun _ hk => ⟨hk.1.1, hk.2⟩)⟩, ⟨by (with_reducible repeat (first | apply Kd.V_alloc | apply Kd.V_drewN | apply Kd.V_drew)); exact Kd.V_mono HO_10.out (fun _ hk => ⟨hk.1.1, hk.2⟩)⟩, ⟨by (with_reducible repeat (first | apply Kd.R_alloc | apply Kd.R_drewN | apply Kd.R_drew)); exact Kd.R_mono HO250.out (fun _ hk => hk.1)⟩, ⟨by repeat (first | (with_reducible first | exact HB.out | apply below_alloc | apply pw_below_drewN | apply below_drew1) | exact HB.out)⟩⟩
                                            · rw [if_neg c43] at H
                                              exact absurd H (by simp)
                                          · rw [if_neg c42] at H
                                            exact absurd H (by simp)
                                        · rw [if_neg c41] at H
                                          have c41b0 : ((t243.length : Int) == 1) = false := beq_eq_false_iff_ne.mpr c41
                                          have c41b1 : ((t243.length : Int) != 1) = true := bne_iff_ne.mpr c41
                                          obtain rfl := Option.some.inj H
                                          have p235 : 0 ≤ (x56_2 : Int) := of_decide_eq_true (by first | (with_reducible assumption) | assumption)
                                          have q235 : x56_2 < (l1.length : Int) := of_decide_eq_true (by first | (with_reducible assumption) | assumption)
                                          obtain ⟨ad235, e235, hx235_0⟩ := Kd.at_int HR1.out x56_2 p235 q235
                                          cases e235
                                          replace hx235_0 := (HB.out.cell (World.block_lt_of_cell? u _ hx235_0)).trans hx235_0
                                          replace p235 := eq_true p235
                                          replace q235 := eq_true q235
                                          go_wp2_with (first | ((with_reducible refine gate_dst (N := 84) rfl ?_); (try (refine gate_guard (by rfl) ?_; dsimp only)); refine Kd.R_lit (Kd.int .u8) _ 5 ?hg (N := 84) ?hd (xs := ([rd l1 x56_2] : List Int)) (inner := [.int .u8 (rd l1 x56_2)]) (ok := fun _ => True) (okp := fun _ => True) ?hr ?hp (fun _ hk => hk) trivial (Below.refl _ _) (Nat.le_refl _) (by simp) ?_; (case hd => rfl); (case hg => rfl); (case hr => first | (go_simp; done) | (go_simp; rfl)); (case hp => exact (Reps.one (show Kd.M (Kd.int .u8) _ _ _ (rd l1 x56_2) [.int .u8 (rd l1 x56_2)] from rfl) (Reps.none _ _))); intro v237 w52 ho53 hb hg_ hnew_; clear hg_ hnew_; (first | rw [← Ny236.out] at ho53 | (simp only [Int.reduceToNat] at ho53; rw [← Ny236.out] at ho53)); have n0_ := Aside0.mk (Kd.V_elder' (by (with_reducible repeat (first | apply Kd.V_alloc | apply Kd.V_drewN | apply Kd.V_drew)); exact HO_8.out) (Kd.R_base ho53) hb); have n1_ := Aside0.mk (Kd.V_elder' (by (with_reducible repeat (first | apply Kd.V_alloc | apply Kd.V_drewN | apply Kd.V_drew)); exact HO_10.out) (Kd.R_base ho53) hb); have n2_ := Aside0.mk (Kd.R_elder' (by (with_reducible repeat (first | apply Kd.R_alloc | apply Kd.R_drewN | apply Kd.R_drew)); exact HO_11.out) (Kd.R_base ho53) hb); have n3_ := Aside0.mk (Kd.N_elder' (by (with_reducible repeat (first | apply Kd.N_alloc | apply Kd.N_drewN | apply Kd.N_drew)); exact HO_13.out) (Kd.R_base ho53) hb); have n4_ := Aside0.mk (Kd.V_elder' (by (with_reducible repeat (first | apply Kd.V_alloc | apply Kd.V_drewN | apply Kd.V_drew)); exact HO_59.out) (Kd.R_base ho53) hb); have n5_ := Aside0.mk (Kd.R_lower (Kd.R_new' (Kd.R_newM (M := fun k_ => (u.heap.size ≤ k_)) ho53 (below_size (by repeat (first | (with_reducible first | exact HB.out | apply below_alloc | apply pw_below_drewN | apply below_drew1) | exact HB.out))) (fun k_ h_ => h_)) (Kd.R_lt (by (with_reducible repeat (first | apply Kd.R_alloc | apply Kd.R_drewN | apply Kd.R_drew)); exact HO_11.out))) (below_size (by repeat (first | (with_reducible first | exact HB.out | apply below_alloc | apply pw_below_drewN | apply below_drew1) | exact HB.out)))); have n6_ := Aside0.mk (below_step (by repeat (first | (with_reducible first | exact HB.out | apply below_alloc | apply pw_below_drewN | apply below_drew1) | exact HB.out)) hb); clear HO_8; clear HO_10; clear HO_11; clear HO_13; clear HO_59; clear HB; have HO_8 := n0_; have HO_10 := n1_; have HO_11 := n2_; have HO_13 := n3_; have HO_59 := n4_; have HO238 := n5_; have HB := n6_; clear n0_ n1_ n2_ n3_ n4_ n5_ n6_; clear hb ho53; obtain ⟨Ao54, co54, eo54⟩ := Kd.R_slice HO238.out; subst eo54) | ((with_reducible refine gate_builtin (b := .append) (xs := #[.tmp 79, .tmp 86]) rfl ?_); (try (refine gate_guard (by rfl) ?_; dsimp only)); at_builtin; refine Kd.N_append k54 (w0 := u) u.heap.size rfl (.tmp 79) (.tmp 86) 49 54 (.agg #[(.int .u8 0), (.slice none 0 0)]) 32 rfl Try.underlying49 info54 rfl (by decide) (by omega) u13 x13_3 (⟨128, y236⟩ : S54) [.int .u8 128, .slice Ao54 y236.length co54] (fun k_ => (P3_ k_ ∨ u.heap.size ≤ k_) ∧ some k_ ≠ (u11 : Value).ownBlock) (fun k_ => ((fun k_ => (P3_ k_ ∨ u.heap.size ≤ k_) ∧ some k_ ≠ (u11 : Value).ownBlock)) k_ ∧ some k_ ≠ (u13 : Value).ownBlock) rfl rfl ?aP (fun _ hk => hk) ?aF ?aO ?aB ?aS ?aL ?_; (case aP => exact (k54_mkF _ _ (⟨128, y236⟩ : S54) (Kd.R_reads' (Kd.R_mono (ok' := (fun k_ => ((fun k_ => (P3_ k_ ∨ u.heap.size ≤ k_) ∧ some k_ ≠ (u11 : Value).ownBlock)) k_ ∧ some k_ ≠ (u13 : Value).ownBlock)) (Kd.R_apart' (HO238.out) (Kd.N_typed HO_13.out) (by decide)) (fun k_ hk => ⟨⟨(.inr (hk.1.1.1)), hk.1.2⟩, hk.2⟩))).2.1 (Kd.R_F (Kd.R_mono (ok' := (fun k_ => ((fun k_ => (P3_ k_ ∨ u.heap.size ≤ k_) ∧ some k_ ≠ (u11 : Value).ownBlock)) k_ ∧ some k_ ≠ (u13 : Value).ownBlock)) (Kd.R_apart' (HO238.out) (Kd.N_typed HO_13.out) (by decide)) (fun k_ hk => ⟨⟨(.inr (hk.1.1.1)), hk.1.2⟩, hk.2⟩))))); (case aB => exact (by repeat (first | (with_reducible first | exact HB.out | apply below_alloc | apply pw_below_drewN | apply below_drew1) | exact HB.out))); (case aF => exact (fun k_ hk => ⟨(.inr (Nat.le_trans (below_size (by repeat (first | (with_reducible first | exact HB.out | apply below_alloc | apply pw_below_drewN | apply below_drew1) | exact HB.out))) hk)), Kd.fresh' (Kd.R_lt (by (with_reducible repeat (first | apply Kd.R_alloc | apply Kd.R_drewN | apply Kd.R_drew)); exact HO_11.out)) k_ hk⟩)); (case aO => exact (by (with_reducible repeat (first | apply Kd.N_alloc | apply Kd.N_drewN | apply Kd.N_drew)); exact Kd.N_mono HO_13.out (fun _ hk => ⟨hk.1.1, hk.1.2⟩))); (case aS => exact (below_size (by repeat (first | (with_reducible first | exact HB.out | apply below_alloc | apply pw_below_drewN | apply below_drew1) | exact HB.out)))); (case aL => have := LMc35.out; omega); intro v240 w55 ho hb hg hat; rw [← Ny239.out] at ho; have n0_ := Aside0.mk (Kd.V_afterv (ok := (fun k_ => (P3_ k_ ∨ u.heap.size ≤ k_) ∧ some k_ ≠ (u11 : Value).ownBlock ∧ some k_ ≠ (.slice Ao54 y236.length co54 : Value).ownBlock)) (by (with_reducible repeat (first | apply Kd.V_alloc | apply Kd.V_drewN | apply Kd.V_drew)); exact Kd.V_mono HO_8.out (fun _ hk => ⟨⟨hk.1.1, ⟨hk.1.2.1, hk.2⟩⟩, hk.1.2.2⟩)) hg hat); have n1_ := Aside0.mk (Kd.V_afterv (ok := (fun k_ => (P3_ k_ ∨ u.heap.size ≤ k_) ∧ some k_ ≠ (u11 : Value).ownBlock ∧ some k_ ≠ (.slice Ao54 y236.length co54 : Value).ownBlock)) (by (with_reducible repeat (first | apply Kd.V_alloc | apply Kd.V_drewN | apply Kd.V_drew)); exact Kd.V_mono HO_10.out (fun _ hk => ⟨⟨hk.1.1, ⟨hk.1.2.1, hk.2⟩⟩, hk.1.2.2⟩)) hg hat); have n2_ := Aside0.mk (Kd.R_over' (by (with_reducible repeat (first | apply Kd.R_alloc | apply Kd.R_drewN | apply Kd.R_drew)); exact HO_11.out) (Kd.N_typed (by (with_reducible repeat (first | apply Kd.N_alloc | apply Kd.N_drewN | apply Kd.N_drew)); exact HO_13.out)) (by decide) hg); have n3_ := Aside0.mk (Kd.V_afterv (ok := (fun k_ => (P3_ k_ ∨ u.heap.size ≤ k_) ∧ some k_ ≠ (u11 : Value).ownBlock ∧ some k_ ≠ (.slice Ao54 y236.length co54 : Value).ownBlock)) (by (with_reducible repeat (first | apply Kd.V_alloc | apply Kd.V_drewN | apply Kd.V_drew)); exact Kd.V_mono HO_59.out (fun _ hk => ⟨⟨hk.1.1, ⟨hk.1.2.1, hk.2⟩⟩, hk.1.2.2⟩)) hg hat); have n4_ := Aside0.mk (hb); have n5_ := Aside0.mk (ho); clear HO_8; clear HO_10; clear HO_11; clear HO_59; clear HB; clear HO_13; clear HO238; have HO_8 := n0_; have HO_10 := n1_; have HO_11 := n2_; have HO_59 := n3_; have HB := n4_; have HO241 := n5_; clear n0_ n1_ n2_ n3_ n4_ n5_; clear ho hb hg hat; have p242 : 0 ≤ ((ji36) : Int) := of_decide_eq_true (by first | (with_reducible assumption) | assumption); have q242 : (ji36) < (l3.length : Int) := of_decide_eq_true (by first | (with_reducible assumption) | assumption); obtain ⟨ad242, A242_1, c242_1, e242, hx242_0, hx242_1, hl242_1, hi242_1⟩ := at_T54 (Kd.V_reads' HO_8.out).2.2 (ji36) p242 q242; cases e242; obtain ⟨ce242, hce242, hMe242, hcc242⟩ := Kd.V_get HO_8.out z54 (ji36) p242 (by first | exact q242 | exact of_decide_eq_true (by first | (with_reducible assumption) | assumption) | (have e_ := (Kd.V_reads' HO_8.out).1; omega)); obtain ⟨ua242_1, uc242_1, rfl, ul242_1, ge242_1⟩ := k54_openF hMe242; have hv242_1 := hcc242 1 _ rfl; rw [add_field _ _ 1 (by omega)] at hv242_1; replace hv242_1 := Option.some.inj (hv242_1.symm.trans hx242_1); injection hv242_1 with hva_ hvn_ hvc_; rw [hva_] at ge242_1; rw [hvc_] at ul242_1; have HL242_1 := Aside0.mk (show Kd.V (Kd.int .u8) 5 _ u.heap.size _ _ ((rd_T54 l3 (ji36)).f1) from Kd.V_mk ul242_1 ge242_1); clear hva_ hvn_ hvc_ ge242_1 ul242_1; clear hcc242 hce242; have HR242_1 := Aside0.mk hi242_1; have HC242_1 := Aside0.mk hl242_1; clear hi242_1 hl242_1; replace p242 := eq_true p242; replace q242 := eq_true q242; obtain ⟨Ao56, co56, eo56⟩ := Kd.N_slice HO241.out; subst eo56) | ((with_reducible refine gate_callee (f := 35) rfl ?_); refine goesL_ (some 97) rfl rfl Try.func35 (by kernel_rfl) rfl #[.slice Ao56 y239.length co56, .int .u8 (Go.bits .xor .u8 ((rd_T54 l3 (ji36)).f0) 128)] rfl (by (try simp only [List.map_toArray, List.map_cons, List.map_nil]); first | done | (simp only [hji36]; rfl) | rfl | (simp only [List.length_drop, List.length_take]; rfl)) ?_; (with_reducible refine (split_At.calls k3 _ _ y239 (Go.bits .xor .u8 ((rd_T54 l3 (ji36)).f0) 128) t243 t244 _ ?side1 ?side2 A39.out).mono ?_); (case side1 => repeat (first | exact (Kd.N_reads' HO241.out).2.2 | (with_reducible refine Kd.C_alloc ?_ _) | (with_reducible refine Kd.C_drewN ?_ _) | (with_reducible refine Kd.C_drew ?_))); (case side2 => exact (Kd.N_reads' HO241.out).2.1); rintro e w57 ⟨v245, rfl, ho0, hb⟩; refine ⟨_, rfl, ?_⟩; have n0_ := Aside0.mk (Kd.V_elder' (by (with_reducible repeat (first | apply Kd.V_alloc | apply Kd.V_drewN | apply Kd.V_drew)); exact HO_8.out) (Kd.R_base ho0) hb); have n1_ := Aside0.mk (Kd.V_elder' (by (with_reducible repeat (first | apply Kd.V_alloc | apply Kd.V_drewN | apply Kd.V_drew)); exact HO_10.out) (Kd.R_base ho0) hb); have n2_ := Aside0.mk (Kd.R_elder' (by (with_reducible repeat (first | apply Kd.R_alloc | apply Kd.R_drewN | apply Kd.R_drew)); exact HO_11.out) (Kd.R_base ho0) hb); have n3_ := Aside0.mk (Kd.V_elder' (by (with_reducible repeat (first | apply Kd.V_alloc | apply Kd.V_drewN | apply Kd.V_drew)); exact HO_59.out) (Kd.R_base ho0) hb); have n4_ := Aside0.mk (Kd.N_elder' (by (with_reducible repeat (first | apply Kd.N_alloc | apply Kd.N_drewN | apply Kd.N_drew)); exact HO241.out) (Kd.R_base ho0) hb); have n5_ := Aside0.mk (Kd.V_elder' (by (with_reducible repeat (first | apply Kd.V_alloc | apply Kd.V_drewN | apply Kd.V_drew)); exact HL242_1.out) (Kd.R_base ho0) hb); have n6_ := Aside0.mk (Kd.R_lower (Kd.R_new' (Kd.R_newM (M := fun k_ => (u.heap.size ≤ k_)) ho0 (below_size (by repeat (first | (with_reducible first | exact HB.out | apply below_alloc | apply pw_below_drewN | apply below_drew1) | exact HB.out))) (fun k_ h_ => h_)) (Kd.R_lt (by (with_reducible repeat (first | apply Kd.R_alloc | apply Kd.R_drewN | apply Kd.R_drew)); exact HO_11.out))) (below_size (by repeat (first | (with_reducible first | exact HB.out | apply below_alloc | apply pw_below_drewN | apply below_drew1) | exact HB.out)))); have n7_ := Aside0.mk (Kd.C_below (by repeat (first | (with_reducible exact HR242_1.out) | (with_reducible refine Kd.C_alloc ?_ _) | (with_reducible refine Kd.C_drewN ?_ _) | (with_reducible refine Kd.C_drew ?_) | exact HR242_1.out)) hb); have n8_ := Aside0.mk (below_step (by repeat (first | (with_reducible first | exact HB.out | apply below_alloc | apply pw_below_drewN | apply below_drew1) | exact HB.out)) hb); clear HO_8; clear HO_10; clear HO_11; clear HO_59; clear HO241; clear HL242_1; clear HR242_1; clear HB; have HO_8 := n0_; have HO_10 := n1_; have HO_11 := n2_; have HO_59 := n3_; have HO241 := n4_; have HL242_1 := n5_; have HO246 := n6_; have HR242_1 := n7_; have HB := n8_; clear n0_ n1_ n2_ n3_ n4_ n5_ n6_ n7_ n8_; (try clear hb); (try clear hb2); (try clear hk); (try clear hi); (try clear ho0); obtain ⟨Ao58, co58, eo58⟩ := Kd.R_slice HO246.out; subst eo58))
                                          go_ret
                                          exact ⟨by first | rfl | (simp [errW_none, errW_some] <;> rfl) | (simp only [← hji14, ← hji36]; first | rfl | (simp [errW_none, errW_some] <;> rfl)) | (simp [*, errW_none, errW_some] <;> rfl), below_step HV.out (by repeat (first | (with_reducible first | exact HB.out | apply below_alloc | apply pw_below_drewN | apply below_drew1) | exact HB.out))⟩
                                      · rw [if_neg c40] at H
                                        have c40b0 : (t244 == 0) = false := beq_eq_false_iff_ne.mpr c40
                                        have c40b1 : (t244 != 0) = true := bne_iff_ne.mpr c40
                                        obtain rfl := Option.some.inj H
                                        have p235 : 0 ≤ (x56_2 : Int) := of_decide_eq_true (by first | (with_reducible assumption) | assumption)
                                        have q235 : x56_2 < (l1.length : Int) := of_decide_eq_true (by first | (with_reducible assumption) | assumption)
                                        obtain ⟨ad235, e235, hx235_0⟩ := Kd.at_int HR1.out x56_2 p235 q235
                                        cases e235
                                        replace hx235_0 := (HB.out.cell (World.block_lt_of_cell? u _ hx235_0)).trans hx235_0
                                        replace p235 := eq_true p235
                                        replace q235 := eq_true q235
                                        go_wp2_with (first | ((with_reducible refine gate_dst (N := 84) rfl ?_); (try (refine gate_guard (by rfl) ?_; dsimp only)); refine Kd.R_lit (Kd.int .u8) _ 5 ?hg (N := 84) ?hd (xs := ([rd l1 x56_2] : List Int)) (inner := [.int .u8 (rd l1 x56_2)]) (ok := fun _ => True) (okp := fun _ => True) ?hr ?hp (fun _ hk => hk) trivial (Below.refl _ _) (Nat.le_refl _) (by simp) ?_; (case hd => rfl); (case hg => rfl); (case hr => first | (go_simp; done) | (go_simp; rfl)); (case hp => exact (Reps.one (show Kd.M (Kd.int .u8) _ _ _ (rd l1 x56_2) [.int .u8 (rd l1 x56_2)] from rfl) (Reps.none _ _))); intro v237 w59 ho60 hb hg_ hnew_; clear hg_ hnew_; (first | rw [← Ny236.out] at ho60 | (simp only [Int.reduceToNat] at ho60; rw [← Ny236.out] at ho60)); have n0_ := Aside0.mk (Kd.V_elder' (by (with_reducible repeat (first | apply Kd.V_alloc | apply Kd.V_drewN | apply Kd.V_drew)); exact HO_8.out) (Kd.R_base ho60) hb); have n1_ := Aside0.mk (Kd.V_elder' (by (with_reducible repeat (first | apply Kd.V_alloc | apply Kd.V_drewN | apply Kd.V_drew)); exact HO_10.out) (Kd.R_base ho60) hb); have n2_ := Aside0.mk (Kd.R_elder' (by (with_reducible repeat (first | apply Kd.R_alloc | apply Kd.R_drewN | apply Kd.R_drew)); exact HO_11.out) (Kd.R_base ho60) hb); have n3_ := Aside0.mk (Kd.N_elder' (by (with_reducible repeat (first | apply Kd.N_alloc | apply Kd.N_drewN | apply Kd.N_drew)); exact HO_13.out) (Kd.R_base ho60) hb); have n4_ := Aside0.mk (Kd.V_elder' (by (with_reducible repeat (first | apply Kd.V_alloc | apply Kd.V_drewN | apply Kd.V_drew)); exact HO_59.out) (Kd.R_base ho60) hb); have n5_ := Aside0.mk (Kd.R_lower (Kd.R_new' (Kd.R_newM (M := fun k_ => (u.heap.size ≤ k_)) ho60 (below_size (by repeat (first | (with_reducible first | exact HB.out | apply below_alloc | apply pw_below_drewN | apply below_drew1) | exact HB.out))) (fun k_ h_ => h_)) (Kd.R_lt (by (with_reducible repeat (first | apply Kd.R_alloc | apply Kd.R_drewN | apply Kd.R_drew)); exact HO_11.out))) (below_size (by repeat (first | (with_reducible first | exact HB.out | apply below_alloc | apply pw_below_drewN | apply below_drew1) | exact HB.out)))); have n6_ := Aside0.mk (below_step (by repeat (first | (with_reducible first | exact HB.out | apply below_alloc | apply pw_below_drewN | apply below_drew1) | exact HB.out)) hb); clear HO_8; clear HO_10; clear HO_11; clear HO_13; clear HO_59; clear HB; have HO_8 := n0_; have HO_10 := n1_; have HO_11 := n2_; have HO_13 := n3_; have HO_59 := n4_; have HO238 := n5_; have HB := n6_; clear n0_ n1_ n2_ n3_ n4_ n5_ n6_; clear hb ho60; obtain ⟨Ao61, co61, eo61⟩ := Kd.R_slice HO238.out; subst eo61) | ((with_reducible refine gate_builtin (b := .append) (xs := #[.tmp 79, .tmp 86]) rfl ?_); (try (refine gate_guard (by rfl) ?_; dsimp only)); at_builtin; refine Kd.N_append k54 (w0 := u) u.heap.size rfl (.tmp 79) (.tmp 86) 49 54 (.agg #[(.int .u8 0), (.slice none 0 0)]) 32 rfl Try.underlying49 info54 rfl (by decide) (by omega) u13 x13_3 (⟨128, y236⟩ : S54) [.int .u8 128, .slice Ao61 y236.length co61] (fun k_ => (P3_ k_ ∨ u.heap.size ≤ k_) ∧ some k_ ≠ (u11 : Value).ownBlock) (fun k_ => ((fun k_ => (P3_ k_ ∨ u.heap.size ≤ k_) ∧ some k_ ≠ (u11 : Value).ownBlock)) k_ ∧ some k_ ≠ (u13 : Value).ownBlock) rfl rfl ?aP (fun _ hk => hk) ?aF ?aO ?aB ?aS ?aL ?_; (case aP => exact (k54_mkF _ _ (⟨128, y236⟩ : S54) (Kd.R_reads' (Kd.R_mono (ok' := (fun k_ => ((fun k_ => (P3_ k_ ∨ u.heap.size ≤ k_) ∧ some k_ ≠ (u11 : Value).ownBlock)) k_ ∧ some k_ ≠ (u13 : Value).ownBlock)) (Kd.R_apart' (HO238.out) (Kd.N_typed HO_13.out) (by decide)) (fun k_ hk => ⟨⟨(.inr (hk.1.1.1)), hk.1.2⟩, hk.2⟩))).2.1 (Kd.R_F (Kd.R_mono (ok' := (fun k_ => ((fun k_ => (P3_ k_ ∨ u.heap.size ≤ k_) ∧ some k_ ≠ (u11 : Value).ownBlock)) k_ ∧ some k_ ≠ (u13 : Value).ownBlock)) (Kd.R_apart' (HO238.out) (Kd.N_typed HO_13.out) (by decide)) (fun k_ hk => ⟨⟨(.inr (hk.1.1.1)), hk.1.2⟩, hk.2⟩))))); (case aB => exact (by repeat (first | (with_reducible first | exact HB.out | apply below_alloc | apply pw_below_drewN | apply below_drew1) | exact HB.out))); (case aF => exact (fun k_ hk => ⟨(.inr (Nat.le_trans (below_size (by repeat (first | (with_reducible first | exact HB.out | apply below_alloc | apply pw_below_drewN | apply below_drew1) | exact HB.out))) hk)), Kd.fresh' (Kd.R_lt (by (with_reducible repeat (first | apply Kd.R_alloc | apply Kd.R_drewN | apply Kd.R_drew)); exact HO_11.out)) k_ hk⟩)); (case aO => exact (by (with_reducible repeat (first | apply Kd.N_alloc | apply Kd.N_drewN | apply Kd.N_drew)); exact Kd.N_mono HO_13.out (fun _ hk => ⟨hk.1.1, hk.1.2⟩))); (case aS => exact (below_size (by repeat (first | (with_reducible first | exact HB.out | apply below_alloc | apply pw_below_drewN | apply below_drew1) | exact HB.out)))); (case aL => have := LMc35.out; omega); intro v240 w62 ho hb hg hat; rw [← Ny239.out] at ho; have n0_ := Aside0.mk (Kd.V_afterv (ok := (fun k_ => (P3_ k_ ∨ u.heap.size ≤ k_) ∧ some k_ ≠ (u11 : Value).ownBlock ∧ some k_ ≠ (.slice Ao61 y236.length co61 : Value).ownBlock)) (by (with_reducible repeat (first | apply Kd.V_alloc | apply Kd.V_drewN | apply Kd.V_drew)); exact Kd.V_mono HO_8.out (fun _ hk => ⟨⟨hk.1.1, ⟨hk.1.2.1, hk.2⟩⟩, hk.1.2.2⟩)) hg hat); have n1_ := Aside0.mk (Kd.V_afterv (ok := (fun k_ => (P3_ k_ ∨ u.heap.size ≤ k_) ∧ some k_ ≠ (u11 : Value).ownBlock ∧ some k_ ≠ (.slice Ao61 y236.length co61 : Value).ownBlock)) (by (with_reducible repeat (first | apply Kd.V_alloc | apply Kd.V_drewN | apply Kd.V_drew)); exact Kd.V_mono HO_10.out (fun _ hk => ⟨⟨hk.1.1, ⟨hk.1.2.1, hk.2⟩⟩, hk.1.2.2⟩)) hg hat); have n2_ := Aside0.mk (Kd.R_over' (by (with_reducible repeat (first | apply Kd.R_alloc | apply Kd.R_drewN | apply Kd.R_drew)); exact HO_11.out) (Kd.N_typed (by (with_reducible repeat (first | apply Kd.N_alloc | apply Kd.N_drewN | apply Kd.N_drew)); exact HO_13.out)) (by decide) hg); have n3_ := Aside0.mk (Kd.V_afterv (ok := (fun k_ => (P3_ k_ ∨ u.heap.size ≤ k_) ∧ some k_ ≠ (u11 : Value).ownBlock ∧ some k_ ≠ (.slice Ao61 y236.length co61 : Value).ownBlock)) (by (with_reducible repeat (first | apply Kd.V_alloc | apply Kd.V_drewN | apply Kd.V_drew)); exact Kd.V_mono HO_59.out (fun _ hk => ⟨⟨hk.1.1, ⟨hk.1.2.1, hk.2⟩⟩, hk.1.2.2⟩)) hg hat); have n4_ := Aside0.mk (hb); have n5_ := Aside0.mk (ho); clear HO_8; clear HO_10; clear HO_11; clear HO_59; clear HB; clear HO_13; clear HO238; have HO_8 := n0_; have HO_10 := n1_; have HO_11 := n2_; have HO_59 := n3_; have HB := n4_; have HO241 := n5_; clear n0_ n1_ n2_ n3_ n4_ n5_; clear ho hb hg hat; have p242 : 0 ≤ ((ji36) : Int) := of_decide_eq_true (by first | (with_reducible assumption) | assumption); have q242 : (ji36) < (l3.length : Int) := of_decide_eq_true (by first | (with_reducible assumption) | assumption); obtain ⟨ad242, A242_1, c242_1, e242, hx242_0, hx242_1, hl242_1, hi242_1⟩ := at_T54 (Kd.V_reads' HO_8.out).2.2 (ji36) p242 q242; cases e242; obtain ⟨ce242, hce242, hMe242, hcc242⟩ := Kd.V_get HO_8.out z54 (ji36) p242 (by first | exact q242 | exact of_decide_eq_true (by first | (with_reducible assumption) | assumption) | (have e_ := (Kd.V_reads' HO_8.out).1; omega)); obtain ⟨ua242_1, uc242_1, rfl, ul242_1, ge242_1⟩ := k54_openF hMe242; have hv242_1 := hcc242 1 _ rfl; rw [add_field _ _ 1 (by omega)] at hv242_1; replace hv242_1 := Option.some.inj (hv242_1.symm.trans hx242_1); injection hv242_1 with hva_ hvn_ hvc_; rw [hva_] at ge242_1; rw [hvc_] at ul242_1; have HL242_1 := Aside0.mk (show Kd.V (Kd.int .u8) 5 _ u.heap.size _ _ ((rd_T54 l3 (ji36)).f1) from Kd.V_mk ul242_1 ge242_1); clear hva_ hvn_ hvc_ ge242_1 ul242_1; clear hcc242 hce242; have HR242_1 := Aside0.mk hi242_1; have HC242_1 := Aside0.mk hl242_1; clear hi242_1 hl242_1; replace p242 := eq_true p242; replace q242 := eq_true q242; obtain ⟨Ao63, co63, eo63⟩ := Kd.N_slice HO241.out; subst eo63) | ((with_reducible refine gate_callee (f := 35) rfl ?_); refine goesL_ (some 97) rfl rfl Try.func35 (by kernel_rfl) rfl #[.slice Ao63 y239.length co63, .int .u8 (Go.bits .xor .u8 ((rd_T54 l3 (ji36)).f0) 128)] rfl (by (try simp only [List.map_toArray, List.map_cons, List.map_nil]); first | done | (simp only [hji36]; rfl) | rfl | (simp only [List.length_drop, List.length_take]; rfl)) ?_; (with_reducible refine (split_At.calls k3 _ _ y239 (Go.bits .xor .u8 ((rd_T54 l3 (ji36)).f0) 128) t243 t244 _ ?side1 ?side2 A39.out).mono ?_); (case side1 => repeat (first | exact (Kd.N_reads' HO241.out).2.2 | (with_reducible refine Kd.C_alloc ?_ _) | (with_reducible refine Kd.C_drewN ?_ _) | (with_reducible refine Kd.C_drew ?_))); (case side2 => exact (Kd.N_reads' HO241.out).2.1); rintro e w64 ⟨v245, rfl, ho0, hb⟩; refine ⟨_, rfl, ?_⟩; have n0_ := Aside0.mk (Kd.V_elder' (by (with_reducible repeat (first | apply Kd.V_alloc | apply Kd.V_drewN | apply Kd.V_drew)); exact HO_8.out) (Kd.R_base ho0) hb); have n1_ := Aside0.mk (Kd.V_elder' (by (with_reducible repeat (first | apply Kd.V_alloc | apply Kd.V_drewN | apply Kd.V_drew)); exact HO_10.out) (Kd.R_base ho0) hb); have n2_ := Aside0.mk (Kd.R_elder' (by (with_reducible repeat (first | apply Kd.R_alloc | apply Kd.R_drewN | apply Kd.R_drew)); exact HO_11.out) (Kd.R_base ho0) hb); have n3_ := Aside0.mk (Kd.V_elder' (by (with_reducible repeat (first | apply Kd.V_alloc | apply Kd.V_drewN | apply Kd.V_drew)); exact HO_59.out) (Kd.R_base ho0) hb); have n4_ := Aside0.mk (Kd.N_elder' (by (with_reducible repeat (first | apply Kd.N_alloc | apply Kd.N_drewN | apply Kd.N_drew)); exact HO241.out) (Kd.R_base ho0) hb); have n5_ := Aside0.mk (Kd.V_elder' (by (with_reducible repeat (first | apply Kd.V_alloc | apply Kd.V_drewN | apply Kd.V_drew)); exact HL242_1.out) (Kd.R_base ho0) hb); have n6_ := Aside0.mk (Kd.R_lower (Kd.R_new' (Kd.R_newM (M := fun k_ => (u.heap.size ≤ k_)) ho0 (below_size (by repeat (first | (with_reducible first | exact HB.out | apply below_alloc | apply pw_below_drewN | apply below_drew1) | exact HB.out))) (fun k_ h_ => h_)) (Kd.R_lt (by (with_reducible repeat (first | apply Kd.R_alloc | apply Kd.R_drewN | apply Kd.R_drew)); exact HO_11.out))) (below_size (by repeat (first | (with_reducible first | exact HB.out | apply below_alloc | apply pw_below_drewN | apply below_drew1) | exact HB.out)))); have n7_ := Aside0.mk (Kd.C_below (by repeat (first | (with_reducible exact HR242_1.out) | (with_reducible refine Kd.C_alloc ?_ _) | (with_reducible refine Kd.C_drewN ?_ _) | (with_reducible refine Kd.C_drew ?_) | exact HR242_1.out)) hb); have n8_ := Aside0.mk (below_step (by repeat (first | (with_reducible first | exact HB.out | apply below_alloc | apply pw_below_drewN | apply below_drew1) | exact HB.out)) hb); clear HO_8; clear HO_10; clear HO_11; clear HO_59; clear HO241; clear HL242_1; clear HR242_1; clear HB; have HO_8 := n0_; have HO_10 := n1_; have HO_11 := n2_; have HO_59 := n3_; have HO241 := n4_; have HL242_1 := n5_; have HO246 := n6_; have HR242_1 := n7_; have HB := n8_; clear n0_ n1_ n2_ n3_ n4_ n5_ n6_ n7_ n8_; (try clear hb); (try clear hb2); (try clear hk); (try clear hi); (try clear ho0)))
                                        go_ret
                                        exact ⟨by first | rfl | (simp [errW_none, errW_some] <;> rfl) | (simp only [← hji14, ← hji36]; first | rfl | (simp [errW_none, errW_some] <;> rfl)) | (simp [*, errW_none, errW_some] <;> rfl), below_step HV.out (by repeat (first | (with_reducible first | exact HB.out | apply below_alloc | apply pw_below_drewN | apply below_drew1) | exact HB.out))⟩
                                    · rw [if_neg c38] at H
                                      exact absurd H (by simp)
                                  · rw [if_neg c37] at H
                                    exact absurd H (by simp)
                                · rw [if_neg c35] at H
                                  exact absurd H (by simp)
                              · rw [if_neg c34] at H
                                exact absurd H (by simp)
                            · rw [if_neg c33] at H
                              exact absurd H (by simp)
                    · rw [if_neg c18] at H
                      have c18b0 : decide (x56_2 < (l1.length : Int)) = false := decide_eq_false c18
                      clear c18
                      obtain ⟨y211, hy211⟩ : ∃ y_ : List (S54), y_ = (([] : List (S54))) := ⟨_, rfl⟩
                      replace H : (if y211.length + y206.length < 4398046511104 then ((some (y211 ++ y206 : List (S54))).bind fun y214 => (if 0 ≤ (wrap64 ((wrap64 ((l2.length : Int) + 1)) - 1)) then (if (wrap64 ((wrap64 ((l2.length : Int) + 1)) - 1)) < (l3.length : Int) then (if y214.length < 4398046511104 then ((split_Join.f k2 (y214 ++ [(⟨(rd_T54 l3 (wrap64 ((wrap64 ((l2.length : Int) + 1)) - 1))).f0, x11_2⟩ : S54)])).bind fun bt221 => (if bt221.2 = 0 then ((chatelaineref01_Same.f k2 bt221.1 l1).bind fun t225 => (some t225)) else (some false))) else (none)) else (none)) else (none))) else (none)) = some r := by first | (rw [hy211]; with_reducible exact H) | (have H2_ := (Option.bind_some _ _).symm.trans H; rw [hy211]; with_reducible exact H2_) | (have H2_ := (Option.bind_some _ _).symm.trans H; with_reducible exact H2_) | with_reducible exact H | (rw [hy211]; exact H) | exact H
                      have Ny211 := Aside0.mk hy211
                      clear hy211
                      by_cases c65 : y211.length + y206.length < 4398046511104
                      · rw [if_pos c65] at H
                        have LMc65 := Aside0.mk c65
                        clear c65
                        obtain ⟨y214, hy214⟩ : ∃ y_ : List (S54), y_ = (y211 ++ y206) := ⟨_, rfl⟩
                        replace H : (if 0 ≤ (wrap64 ((wrap64 ((l2.length : Int) + 1)) - 1)) then (if (wrap64 ((wrap64 ((l2.length : Int) + 1)) - 1)) < (l3.length : Int) then (if y214.length < 4398046511104 then ((split_Join.f k2 (y214 ++ [(⟨(rd_T54 l3 (wrap64 ((wrap64 ((l2.length : Int) + 1)) - 1))).f0, x11_2⟩ : S54)])).bind fun bt221 => (if bt221.2 = 0 then ((chatelaineref01_Same.f k2 bt221.1 l1).bind fun t225 => (some t225)) else (some false))) else (none)) else (none)) else (none)) = some r := by first | (rw [hy214]; with_reducible exact H) | (have H2_ := (Option.bind_some _ _).symm.trans H; rw [hy214]; with_reducible exact H2_) | (have H2_ := (Option.bind_some _ _).symm.trans H; with_reducible exact H2_) | with_reducible exact H | (rw [hy214]; exact H) | exact H
                        have Ny214 := Aside0.mk hy214
                        clear hy214
                        obtain ⟨ji66, hji66⟩ : ∃ j_ : Int, (wrap64 ((wrap64 ((l2.length : Int) + 1)) - 1)) = j_ := ⟨_, rfl⟩
                        replace H : (if 0 ≤ (ji66) then (if (ji66) < (l3.length : Int) then (if y214.length < 4398046511104 then ((split_Join.f k2 (y214 ++ [(⟨(rd_T54 l3 (ji66)).f0, x11_2⟩ : S54)])).bind fun bt221 => (if bt221.2 = 0 then ((chatelaineref01_Same.f k2 bt221.1 l1).bind fun t225 => (some t225)) else (some false))) else (none)) else (none)) else (none)) = some r := by first | (rw [hji66] at H; exact H) | (simp only [hji66] at H ⊢; exact H)
                        have hji66w : (IntKind.i64.wrap ((wrap64 ((l2.length : Int) + 1)) - 1)) = ji66 := (i64_w _).trans hji66
                        obtain rfl : ji66 = ji14 := hji66.symm.trans hji14
                        by_cases c67 : 0 ≤ (ji66)
                        · rw [if_pos c67] at H
                          have c67b0 : decide (0 ≤ (ji66)) = true := decide_eq_true c67
                          clear c67
                          by_cases c68 : (ji66) < (l3.length : Int)
                          · rw [if_pos c68] at H
                            have c68b0 : decide ((ji66) < (l3.length : Int)) = true := decide_eq_true c68
                            clear c68
                            by_cases c69 : y214.length < 4398046511104
                            · rw [if_pos c69] at H
                              have LMc69 := Aside0.mk c69
                              clear c69
                              obtain ⟨y218, hy218⟩ : ∃ y_ : List (S54), y_ = (y214 ++ [(⟨(rd_T54 l3 (ji66)).f0, x11_2⟩ : S54)]) := ⟨_, rfl⟩
                              replace H : ((split_Join.f k2 y218).bind fun bt221 => (if bt221.2 = 0 then ((chatelaineref01_Same.f k2 bt221.1 l1).bind fun t225 => (some t225)) else (some false))) = some r := by first | (rw [hy218]; with_reducible exact H) | (have H2_ := (Option.bind_some _ _).symm.trans H; rw [hy218]; with_reducible exact H2_) | (have H2_ := (Option.bind_some _ _).symm.trans H; with_reducible exact H2_) | with_reducible exact H | (rw [hy218]; exact H) | exact H
                              have Ny218 := Aside0.mk hy218
                              clear hy218
                              have HZ := Aside0.mk H
                              clear H
                              have p217 : 0 ≤ ((ji66) : Int) := of_decide_eq_true (by first | (with_reducible assumption) | assumption)
                              have q217 : (ji66) < (l3.length : Int) := of_decide_eq_true (by first | (with_reducible assumption) | assumption)
                              obtain ⟨ad217, A217_1, c217_1, e217, hx217_0, hx217_1, hl217_1, hi217_1⟩ := at_T54 (Kd.V_reads' HO_8.out).2.2 (ji66) p217 q217
                              cases e217
                              clear hx217_1 hl217_1 hi217_1
                              replace p217 := eq_true p217
                              replace q217 := eq_true q217
                              obtain ⟨Ao76, co76, eo76⟩ := Kd.R_slice HO_11.out
                              subst eo76
                              go_upto_region 26 with (fail)
                              refine start_ (n := 14) (S := fun w' => w'.cell? (ad217.add (((ji66)).toNat * 2)) = some (.int .u8 ((rd_T54 l3 (ji66)).f0))) (ds := []) #[false, false, false, false, false, false, false, false, false, false, false, false, false, false] (by kernel_rfl) rfl rfl hx217_0 (fun hHeld => ?_)
                              have n0_ := Aside0.mk (below_drew HB.out)
                              have n1_ := Aside0.mk (Kd.V_reads' (Kd.V_drew HO_10.out))
                              have n2_ := Aside0.mk (Kd.R_reads' (Kd.R_drew HO_11.out))
                              clear HB hx217_0 HO_8 HO_10 HO_11
                              have HB := n0_
                              have HK10 := n1_
                              have HK11 := n2_
                              clear n0_ n1_ n2_
                              generalize wr.drew = w26 at HB HK10 HK11 hHeld ⊢
                              have HX := Aside0.mk (Below.refl w26.heap.size w26)
                              have HP : Aside0 (k54.K w26 (⟨(rd_T54 l3 (ji66)).f0, x11_2⟩ : S54) [.int .u8 ((rd_T54 l3 (ji66)).f0), .slice Ao76 x11_2.length co76]) := ⟨[.int .u8 ((rd_T54 l3 (ji66)).f0)], [.slice Ao76 x11_2.length co76], rfl, rfl, ⟨Ao76, co76, rfl, HK11.out.2.1, HK11.out.2.2⟩⟩
                              have HH := Aside0.mk hHeld
                              refine pure_ (i := 1) (N := some 115) (v := ?_) (a' := ?_) #[false, true, false, false, false, false, false, false, false, false, false, false, false, false] rfl rfl (by kernel_rfl) (fun _ _ _ h => h) (Or.inl ⟨by rfl, ?_⟩) ?_ ?_
                              rotate_left
                              · intro w'
                                go_simp
                                with_reducible rfl
                              rotate_left
                              · simp only [Act.put, List.setIfInBounds_toArray, List.set_cons_zero, List.set_cons_succ]
                                rfl
                              refine pure_ (i := 3) (N := some 117) (v := ?_) (a' := ?_) #[false, true, false, true, false, false, false, false, false, false, false, false, false, false] rfl rfl (by kernel_rfl) (fun _ _ _ h => h) (Or.inl ⟨by rfl, ?_⟩) ?_ ?_
                              rotate_left
                              · intro w'
                                go_simp
                                with_reducible rfl
                              rotate_left
                              · simp only [Act.put, List.setIfInBounds_toArray, List.set_cons_zero, List.set_cons_succ]
                                rfl
                              refine pure_ (i := 4) (N := some 118) (v := ?_) (a' := ?_) #[false, true, false, true, true, false, false, false, false, false, false, false, false, false] rfl rfl (by kernel_rfl) (fun _ _ _ h => h) (Or.inl ⟨by rfl, ?_⟩) ?_ ?_
                              rotate_left
                              · intro w'
                                go_simp
                                with_reducible rfl
                              rotate_left
                              · simp only [Act.put, List.setIfInBounds_toArray, List.set_cons_zero, List.set_cons_succ]
                                rfl
                              refine pure_ (i := 5) (N := some 119) (v := ?_) (a' := ?_) #[false, true, false, true, true, true, false, false, false, false, false, false, false, false] rfl rfl (by kernel_rfl) (fun _ _ _ h => h) (Or.inl ⟨by rfl, ?_⟩) ?_ ?_
                              rotate_left
                              · intro w'
                                go_simp
                                with_reducible rfl
                              rotate_left
                              · simp only [Act.put, List.setIfInBounds_toArray, List.set_cons_zero, List.set_cons_succ]
                                rfl
                              refine pure_ (i := 6) (N := some 120) (v := ?_) (a' := ?_) #[false, true, false, true, true, true, true, false, false, false, false, false, false, false] rfl rfl (by kernel_rfl) (fun _ _ _ h => h) (Or.inl ⟨by rfl, ?_⟩) ?_ ?_
                              rotate_left
                              · intro w'
                                go_simp
                                with_reducible rfl
                              rotate_left
                              · simp only [Act.put, List.setIfInBounds_toArray, List.set_cons_zero, List.set_cons_succ]
                                rfl
                              refine pure_ (i := 7) (N := some 121) (v := ?_) (a' := ?_) #[false, true, false, true, true, true, true, true, false, false, false, false, false, false] rfl rfl (by kernel_rfl) (fun _ _ _ h => h) (Or.inl ⟨by rfl, ?_⟩) ?_ ?_
                              rotate_left
                              · intro w'
                                go_simp
                                with_reducible rfl
                              rotate_left
                              · simp only [Act.put, List.setIfInBounds_toArray, List.set_cons_zero, List.set_cons_succ]
                                rfl
                              refine take_ (i := 8) (N := some 122) (v := ?_) (a' := ?_) #[false, true, false, true, true, true, true, true, true, false, false, false, false, false] rfl rfl (by kernel_rfl) (fun _ _ _ h => h) (Or.inl ⟨by rfl, ?_⟩) hHeld ?_ ?_
                              rotate_left
                              · rintro w' s0
                                go_simp
                                with_reducible rfl
                              rotate_left
                              · simp only [Act.put, List.setIfInBounds_toArray, List.set_cons_zero, List.set_cons_succ]
                                rfl
                              refine pure_ (i := 9) (N := some 123) (v := ?_) (a' := ?_) #[false, true, false, true, true, true, true, true, true, true, false, false, false, false] rfl rfl (by kernel_rfl) (fun _ _ _ h => h) (Or.inl ⟨by rfl, ?_⟩) ?_ ?_
                              rotate_left
                              · intro w'
                                go_simp
                                with_reducible rfl
                              rotate_left
                              · simp only [Act.put, List.setIfInBounds_toArray, List.set_cons_zero, List.set_cons_succ]
                                rfl
                              refine pure_ (i := 10) (N := some 124) (v := ?_) (a' := ?_) #[false, true, false, true, true, true, true, true, true, true, true, false, false, false] rfl rfl (by kernel_rfl) (fun _ _ _ h => h) (Or.inl ⟨by rfl, ?_⟩) ?_ ?_
                              rotate_left
                              · intro w'
                                go_simp
                                with_reducible rfl
                              rotate_left
                              · simp only [Act.put, List.setIfInBounds_toArray, List.set_cons_zero, List.set_cons_succ]
                                rfl
                              clear hHeld
                              refine two_ (i := 0) (j := 11) (Ni := some 114) (Nj := some 125) #[true, true, false, true, true, true, true, true, true, true, true, false, false, false] #[false, true, false, true, true, true, true, true, true, true, true, true, false, false] rfl rfl rfl rfl (by kernel_rfl) (by decide) (by decide) (fun K hK => ?_) (fun K hK => ?_)
                              · refine Kd.R_lit_step (Kd.fixed k54 w26) (w0 := w26) w26.heap.size 54 (by rfl) (N := 114) rfl (xs := ([] : List S54)) (inner := []) (ok := fun _ => True) (okp := fun _ => True) (by first | (go_simp; done) | (go_simp; rfl)) (Reps.none _ _) (fun _ _ => trivial) trivial HX.out HX.out.size (by simp) ?_
                                intro v212 wz1 ho hb hg hnew
                                have n0_ := Aside0.mk hb
                                have HO12 := Aside0.mk ho
                                clear HX
                                have HX := n0_
                                clear n0_ ho hb hg hnew
                                refine hK.out _ _ (pw_cell_below HX.out HH.out) (fun hHeld => ?_)
                                clear hHeld hK K
                                refine norm_ (a' := ?_) ?_ ?_
                                rotate_left
                                · show Act.put _ (some 114) _ = _
                                  simp only [Act.put, List.setIfInBounds_toArray, List.set_cons_zero, List.set_cons_succ, i64_w, i32_w]
                                  rfl
                                refine two_ (i := 2) (j := 11) (Ni := some 116) (Nj := some 125) #[true, true, true, true, true, true, true, true, true, true, true, false, false, false] #[true, true, false, true, true, true, true, true, true, true, true, true, false, false] rfl rfl rfl rfl (by kernel_rfl) (by decide) (by decide) (fun K hK => ?_) (fun K hK => ?_)
                                · refine Kd.R_append_rows_step (Kd.fixed k54 w26) (Rr := k54.K w26) (w0 := w26) w26.heap.size (by rfl) (.tmp 114) (.tmp 115) 49 54 (.agg #[(.int .u8 0), (.slice none 0 0)]) 32 rfl Try.underlying49 info54 rfl (show 0 < 2 by omega) (by omega) v212 ([] : List S54) y206 _ _ _ (fun _ => True) (fun _ => False) rfl rfl HO12.out ?aR (fun _ _ h_ => h_) (fun _ h_ => h_.elim) (fun _ _ => trivial) HX.out HX.out.size ?aL ?_
                                  case aR => exact ReadsRow.imp_ HK10.out.2.2 HX.out (fun _ _ h_ => h_)
                                  case aL => (have := LMc65.out; rw [Ny211.out] at this; simp only [List.length_nil] at this ⊢; omega)
                                  intro v215 wz2 ho hb hg hat
                                  have n0_ := Aside0.mk hb
                                  have HO15 := Aside0.mk ho
                                  clear HX HO12
                                  have HX := n0_
                                  clear n0_ ho hb hg hat
                                  refine hK.out _ _ (pw_cell_below HX.out HH.out) (fun hHeld => ?_)
                                  clear hHeld hK K
                                  refine norm_ (a' := ?_) ?_ ?_
                                  rotate_left
                                  · show Act.put _ (some 116) _ = _
                                    simp only [Act.put, List.setIfInBounds_toArray, List.set_cons_zero, List.set_cons_succ, i64_w, i32_w]
                                    rfl
                                  refine one_ (i := 11) (N := some 125) #[true, true, true, true, true, true, true, true, true, true, true, true, false, false] rfl rfl (by kernel_rfl) (by decide) (fun K hK => ?_)
                                  refine event_step (by rfl) (w1 := wz2.alloc (.cells #[.int .u8 ((rd_T54 l3 (ji66)).f0), .slice Ao76 x11_2.length co76] 54)) (v := .slice (some ⟨wz2.heap.size, 0, none⟩) 1 1) (by first | (go_simp; done) | (go_simp; rfl)) ?_
                                  have n0_ := Aside0.mk (blk_new wz2 (.cells #[.int .u8 ((rd_T54 l3 (ji66)).f0), .slice Ao76 x11_2.length co76] 54))
                                  have n1_ := Aside0.mk (below_alloc HX.out (.cells #[.int .u8 ((rd_T54 l3 (ji66)).f0), .slice Ao76 x11_2.length co76] 54))
                                  have BXN : Aside0 (some wz2.heap.size ≠ v215.ownBlock) := ⟨fun he_ => by have := Kd.R_lt HO15.out _ he_.symm; omega⟩
                                  have n2_ := Aside0.mk (Kd.R_alloc HO15.out (.cells #[.int .u8 ((rd_T54 l3 (ji66)).f0), .slice Ao76 x11_2.length co76] 54))
                                  clear HO15
                                  have HO15 := n2_
                                  clear n2_
                                  obtain ⟨gx, hgx⟩ : ∃ g_, g_ = wz2.heap.size := ⟨_, rfl⟩
                                  rw [← hgx] at n0_ BXN ⊢
                                  clear hgx HX
                                  generalize wz2.alloc (.cells #[.int .u8 ((rd_T54 l3 (ji66)).f0), .slice Ao76 x11_2.length co76] 54) = wz3 at n0_ n1_ HO15 ⊢
                                  have BXB := n0_
                                  have HX := n1_
                                  clear n0_ n1_
                                  refine hK.out _ _ (pw_cell_below HX.out HH.out) (fun hHeld => ?_)
                                  clear hHeld hK K
                                  refine norm_ (a' := ?_) ?_ ?_
                                  rotate_left
                                  · show Act.put _ (some 125) _ = _
                                    simp only [Act.put, List.setIfInBounds_toArray, List.set_cons_zero, List.set_cons_succ, i64_w, i32_w]
                                    rfl
                                  refine one_ (i := 12) (N := some 126) #[true, true, true, true, true, true, true, true, true, true, true, true, true, false] rfl rfl (by kernel_rfl) (by decide) (fun K hK => ?_)
                                  refine Kd.R_append_rows_step (Kd.fixed k54 w26) (Rr := k54.K w26) (w0 := w26) w26.heap.size (by rfl) (.tmp 116) (.tmp 125) 49 54 (.agg #[(.int .u8 0), (.slice none 0 0)]) 32 rfl Try.underlying49 info54 rfl (show 0 < 2 by omega) (by omega) v215 ([] ++ y206) [(⟨(rd_T54 l3 (ji66)).f0, x11_2⟩ : S54)] (some ⟨gx, 0, none⟩) 1 1 (fun _ => True) (fun _ => False) rfl rfl HO15.out ?aR (fun _ _ h_ => h_) (fun _ h_ => h_.elim) (fun _ _ => trivial) HX.out HX.out.size ?aL ?_
                                  case aR => exact row_one BXB.out HP.out
                                  case aL => (have := LMc69.out; rw [Ny214.out, Ny211.out] at this; omega)
                                  intro v219 wz4 ho hb hg hat
                                  have n0_ := Aside0.mk hb
                                  have HO19 : Aside0 (Kd.R (Kd.fixed k54 w26) 54 wz4 w26.heap.size (fun _ => True) v219 y218) := ⟨by rw [Ny218.out, Ny214.out, Ny211.out]; exact ho⟩
                                  clear HX HO15 BXB BXN
                                  have HX := n0_
                                  clear n0_ ho hb hg hat
                                  refine hK.out _ _ (pw_cell_below HX.out HH.out) (fun hHeld => ?_)
                                  clear hHeld hK K
                                  refine norm_ (a' := ?_) ?_ ?_
                                  rotate_left
                                  · show Act.put _ (some 126) _ = _
                                    simp only [Act.put, List.setIfInBounds_toArray, List.set_cons_zero, List.set_cons_succ, i64_w, i32_w]
                                    rfl
                                  refine pure_ (i := 13) (N := some 18) (v := ?_) (a' := ?_) #[true, true, true, true, true, true, true, true, true, true, true, true, true, true] rfl rfl (by kernel_rfl) (fun _ _ _ h => h) (Or.inl ⟨by rfl, ?_⟩) ?_ ?_
                                  rotate_left
                                  · intro w'
                                    go_simp
                                    with_reducible rfl
                                  rotate_left
                                  · simp only [Act.put, List.setIfInBounds_toArray, List.set_cons_zero, List.set_cons_succ]
                                    rfl
                                  refine done_ (by kernel_rfl) ?_
                                  obtain ⟨Aw, cw, ew, hlw_, hcw_⟩ := Kd.R_reads HO19.out
                                  subst ew
                                  have HLw := Aside0.mk hlw_
                                  have HCw := Aside0.mk (fixed_read HX.out hcw_)
                                  clear hlw_ hcw_ HO19 HK10 HK11 HP HH
                                  have n0_ := Aside0.mk (below_step HB.out HX.out)
                                  clear HB HX
                                  have HB := n0_
                                  clear n0_
                                  have H := HZ.out
                                  clear HZ
                                  replace H := Option.bind_eq_some_iff.mp H
                                  obtain ⟨⟨t221, t222⟩, A700, H⟩ := H
                                  replace H : (if t222 = 0 then ((chatelaineref01_Same.f k2 t221 l1).bind fun t225 => (some t225)) else (some false)) = some r := H
                                  have A70 := Aside0.mk A700
                                  clear A700
                                  by_cases c71 : t222 = 0
                                  · rw [if_pos c71] at H
                                    have c71b0 : (t222 == 0) = true := beq_iff_eq.mpr c71
                                    have c71b1 : (t222 != 0) = false := bne_eq_false_iff_eq.mpr c71
                                    clear c71
                                    replace H := Option.bind_eq_some_iff.mp H
                                    obtain ⟨t225, A720, H⟩ := H
                                    replace H : (some t225) = some r := H
                                    have A72 := Aside0.mk A720
                                    clear A720
                                    obtain rfl := Option.some.inj H
                                    go_wp2_with (first | ((with_reducible refine gate_callee (f := 36) rfl ?_); refine goesL_ (some 129) rfl rfl Try.func36 (by kernel_rfl) rfl #[.slice Aw y218.length cw] rfl (by (try simp only [List.map_toArray, List.map_cons, List.map_nil]); first | done | rfl | (simp only [List.length_drop, List.length_take]; rfl)) ?_; (with_reducible refine (split_Join.calls k2 _ _ y218 t221 t222 _ ?side1 ?side2 A70.out).mono ?_); (case side1 => exact HCw.out); (case side2 => exact HLw.out); rintro e w79 ⟨v223, rfl, ho0, hb⟩; refine ⟨_, rfl, ?_⟩; have n5_ := Aside0.mk (below_step HB.out hb); have HO224 := Aside0.mk ho0; clear HB; have HB := n5_; clear n5_ hb ho0; obtain ⟨Ao80, co80, eo80⟩ := Kd.R_slice HO224.out; subst eo80) | (go_at_call 37; (with_reducible refine (chatelaineref01_Same.calls k2 _ _ t221 _ _ l1 t225 _ ?side1 ?side2 ?side3 ?side4 A72.out).mono ?_); (case side1 => repeat (first | exact (Kd.R_reads' HO224.out).2.2 | (with_reducible refine Kd.C_alloc ?_ _) | (with_reducible refine Kd.C_drewN ?_ _) | (with_reducible refine Kd.C_drew ?_))); (case side2 => exact (Kd.R_reads' HO224.out).2.1); (case side3 => repeat (first | exact (Kd.C_below HR1.out HB.out) | (with_reducible refine Kd.C_alloc ?_ _) | (with_reducible refine Kd.C_drewN ?_ _) | (with_reducible refine Kd.C_drew ?_))); (case side4 => exact HC1.out); rintro e w' ⟨rfl, ⟨nd, rfl⟩⟩))
                                    go_ret
                                    exact ⟨by first | rfl | (simp [errW_none, errW_some] <;> rfl) | (simp only [← hji14, ← hji66]; first | rfl | (simp [errW_none, errW_some] <;> rfl)) | (simp [*, errW_none, errW_some] <;> rfl), below_step HV.out (by repeat (first | (with_reducible first | exact HB.out | apply below_alloc | apply pw_below_drewN | apply below_drew1) | exact HB.out))⟩
                                  · rw [if_neg c71] at H
                                    have c71b0 : (t222 == 0) = false := beq_eq_false_iff_ne.mpr c71
                                    have c71b1 : (t222 != 0) = true := bne_iff_ne.mpr c71
                                    obtain rfl := Option.some.inj H
                                    go_wp2_with (first | ((with_reducible refine gate_callee (f := 36) rfl ?_); refine goesL_ (some 129) rfl rfl Try.func36 (by kernel_rfl) rfl #[.slice Aw y218.length cw] rfl (by (try simp only [List.map_toArray, List.map_cons, List.map_nil]); first | done | rfl | (simp only [List.length_drop, List.length_take]; rfl)) ?_; (with_reducible refine (split_Join.calls k2 _ _ y218 t221 t222 _ ?side1 ?side2 A70.out).mono ?_); (case side1 => exact HCw.out); (case side2 => exact HLw.out); rintro e w79 ⟨v223, rfl, ho0, hb⟩; refine ⟨_, rfl, ?_⟩; have n5_ := Aside0.mk (below_step HB.out hb); have HO224 := Aside0.mk ho0; clear HB; have HB := n5_; clear n5_ hb ho0; obtain ⟨Ao80, co80, eo80⟩ := Kd.R_slice HO224.out; subst eo80))
                                    go_ret
                                    exact ⟨by first | rfl | (simp [errW_none, errW_some] <;> rfl) | (simp only [← hji14, ← hji66]; first | rfl | (simp [errW_none, errW_some] <;> rfl)) | (simp [*, errW_none, errW_some] <;> rfl), below_step HV.out (by repeat (first | (with_reducible first | exact HB.out | apply below_alloc | apply pw_below_drewN | apply below_drew1) | exact HB.out))⟩
                                · refine event_step (by rfl) (w1 := wz1.alloc (.cells #[.int .u8 ((rd_T54 l3 (ji66)).f0), .slice Ao76 x11_2.length co76] 54)) (v := .slice (some ⟨wz1.heap.size, 0, none⟩) 1 1) (by first | (go_simp; done) | (go_simp; rfl)) ?_
                                  have n0_ := Aside0.mk (blk_new wz1 (.cells #[.int .u8 ((rd_T54 l3 (ji66)).f0), .slice Ao76 x11_2.length co76] 54))
                                  have n1_ := Aside0.mk (below_alloc HX.out (.cells #[.int .u8 ((rd_T54 l3 (ji66)).f0), .slice Ao76 x11_2.length co76] 54))
                                  have BXN : Aside0 (some wz1.heap.size ≠ v212.ownBlock) := ⟨fun he_ => by have := Kd.R_lt HO12.out _ he_.symm; omega⟩
                                  have n2_ := Aside0.mk (Kd.R_alloc HO12.out (.cells #[.int .u8 ((rd_T54 l3 (ji66)).f0), .slice Ao76 x11_2.length co76] 54))
                                  clear HO12
                                  have HO12 := n2_
                                  clear n2_
                                  obtain ⟨gx, hgx⟩ : ∃ g_, g_ = wz1.heap.size := ⟨_, rfl⟩
                                  rw [← hgx] at n0_ BXN ⊢
                                  clear hgx HX
                                  generalize wz1.alloc (.cells #[.int .u8 ((rd_T54 l3 (ji66)).f0), .slice Ao76 x11_2.length co76] 54) = wz2 at n0_ n1_ HO12 ⊢
                                  have BXB := n0_
                                  have HX := n1_
                                  clear n0_ n1_
                                  refine hK.out _ _ (pw_cell_below HX.out HH.out) (fun hHeld => ?_)
                                  clear hHeld hK K
                                  refine norm_ (a' := ?_) ?_ ?_
                                  rotate_left
                                  · show Act.put _ (some 125) _ = _
                                    simp only [Act.put, List.setIfInBounds_toArray, List.set_cons_zero, List.set_cons_succ, i64_w, i32_w]
                                    rfl
                                  refine one_ (i := 2) (N := some 116) #[true, true, true, true, true, true, true, true, true, true, true, true, false, false] rfl rfl (by kernel_rfl) (by decide) (fun K hK => ?_)
                                  refine Kd.R_append_rows_step (Kd.fixed k54 w26) (Rr := k54.K w26) (w0 := w26) w26.heap.size (by rfl) (.tmp 114) (.tmp 115) 49 54 (.agg #[(.int .u8 0), (.slice none 0 0)]) 32 rfl Try.underlying49 info54 rfl (show 0 < 2 by omega) (by omega) v212 ([] : List S54) y206 _ _ _ (fun _ => True) (fun _ => False) rfl rfl HO12.out ?aR (fun _ _ h_ => h_) (fun _ h_ => h_.elim) (fun _ _ => trivial) HX.out HX.out.size ?aL ?_
                                  case aR => exact ReadsRow.imp_ HK10.out.2.2 HX.out (fun _ _ h_ => h_)
                                  case aL => (have := LMc65.out; rw [Ny211.out] at this; simp only [List.length_nil] at this ⊢; omega)
                                  intro v215 wz3 ho hb hg hat
                                  have n1_ := Aside0.mk (blk_grown BXB.out hg BXN.out)
                                  have n2_ : Aside0 (some gx ≠ v215.ownBlock) := ⟨hat.elim (fun hat => by rw [hat]; exact BXN.out) (fun ⟨b_, hb1_, hb2_⟩ => by rw [hb1_]; intro he_; injection he_ with he_; have := blk_lt BXB.out; omega)⟩
                                  clear BXB BXN
                                  have BXB := n1_
                                  have BXN := n2_
                                  clear n1_ n2_
                                  have n0_ := Aside0.mk hb
                                  have HO15 := Aside0.mk ho
                                  clear HX HO12
                                  have HX := n0_
                                  clear n0_ ho hb hg hat
                                  refine hK.out _ _ (pw_cell_below HX.out HH.out) (fun hHeld => ?_)
                                  clear hHeld hK K
                                  refine norm_ (a' := ?_) ?_ ?_
                                  rotate_left
                                  · show Act.put _ (some 116) _ = _
                                    simp only [Act.put, List.setIfInBounds_toArray, List.set_cons_zero, List.set_cons_succ, i64_w, i32_w]
                                    rfl
                                  refine one_ (i := 12) (N := some 126) #[true, true, true, true, true, true, true, true, true, true, true, true, true, false] rfl rfl (by kernel_rfl) (by decide) (fun K hK => ?_)
                                  refine Kd.R_append_rows_step (Kd.fixed k54 w26) (Rr := k54.K w26) (w0 := w26) w26.heap.size (by rfl) (.tmp 116) (.tmp 125) 49 54 (.agg #[(.int .u8 0), (.slice none 0 0)]) 32 rfl Try.underlying49 info54 rfl (show 0 < 2 by omega) (by omega) v215 ([] ++ y206) [(⟨(rd_T54 l3 (ji66)).f0, x11_2⟩ : S54)] (some ⟨gx, 0, none⟩) 1 1 (fun _ => True) (fun _ => False) rfl rfl HO15.out ?aR (fun _ _ h_ => h_) (fun _ h_ => h_.elim) (fun _ _ => trivial) HX.out HX.out.size ?aL ?_
                                  case aR => exact row_one BXB.out HP.out
                                  case aL => (have := LMc69.out; rw [Ny214.out, Ny211.out] at this; omega)
                                  intro v219 wz4 ho hb hg hat
                                  have n0_ := Aside0.mk hb
                                  have HO19 : Aside0 (Kd.R (Kd.fixed k54 w26) 54 wz4 w26.heap.size (fun _ => True) v219 y218) := ⟨by rw [Ny218.out, Ny214.out, Ny211.out]; exact ho⟩
                                  clear HX HO15 BXB BXN
                                  have HX := n0_
                                  clear n0_ ho hb hg hat
                                  refine hK.out _ _ (pw_cell_below HX.out HH.out) (fun hHeld => ?_)
                                  clear hHeld hK K
                                  refine norm_ (a' := ?_) ?_ ?_
                                  rotate_left
                                  · show Act.put _ (some 126) _ = _
                                    simp only [Act.put, List.setIfInBounds_toArray, List.set_cons_zero, List.set_cons_succ, i64_w, i32_w]
                                    rfl
                                  refine pure_ (i := 13) (N := some 18) (v := ?_) (a' := ?_) #[true, true, true, true, true, true, true, true, true, true, true, true, true, true] rfl rfl (by kernel_rfl) (fun _ _ _ h => h) (Or.inl ⟨by rfl, ?_⟩) ?_ ?_
                                  rotate_left
                                  · intro w'
                                    go_simp
                                    with_reducible rfl
                                  rotate_left
                                  · simp only [Act.put, List.setIfInBounds_toArray, List.set_cons_zero, List.set_cons_succ]
                                    rfl
                                  refine done_ (by kernel_rfl) ?_
                                  obtain ⟨Aw, cw, ew, hlw_, hcw_⟩ := Kd.R_reads HO19.out
                                  subst ew
                                  have HLw := Aside0.mk hlw_
                                  have HCw := Aside0.mk (fixed_read HX.out hcw_)
                                  clear hlw_ hcw_ HO19 HK10 HK11 HP HH
                                  have n0_ := Aside0.mk (below_step HB.out HX.out)
                                  clear HB HX
                                  have HB := n0_
                                  clear n0_
                                  have H := HZ.out
                                  clear HZ
                                  replace H := Option.bind_eq_some_iff.mp H
                                  obtain ⟨⟨t221, t222⟩, A700, H⟩ := H
                                  replace H : (if t222 = 0 then ((chatelaineref01_Same.f k2 t221 l1).bind fun t225 => (some t225)) else (some false)) = some r := H
                                  have A70 := Aside0.mk A700
                                  clear A700
                                  by_cases c71 : t222 = 0
                                  · rw [if_pos c71] at H
                                    have c71b0 : (t222 == 0) = true := beq_iff_eq.mpr c71
                                    have c71b1 : (t222 != 0) = false := bne_eq_false_iff_eq.mpr c71
                                    clear c71
                                    replace H := Option.bind_eq_some_iff.mp H
                                    obtain ⟨t225, A720, H⟩ := H
                                    replace H : (some t225) = some r := H
                                    have A72 := Aside0.mk A720
                                    clear A720
                                    obtain rfl := Option.some.inj H
                                    go_wp2_with (first | ((with_reducible refine gate_callee (f := 36) rfl ?_); refine goesL_ (some 129) rfl rfl Try.func36 (by kernel_rfl) rfl #[.slice Aw y218.length cw] rfl (by (try simp only [List.map_toArray, List.map_cons, List.map_nil]); first | done | rfl | (simp only [List.length_drop, List.length_take]; rfl)) ?_; (with_reducible refine (split_Join.calls k2 _ _ y218 t221 t222 _ ?side1 ?side2 A70.out).mono ?_); (case side1 => exact HCw.out); (case side2 => exact HLw.out); rintro e w79 ⟨v223, rfl, ho0, hb⟩; refine ⟨_, rfl, ?_⟩; have n5_ := Aside0.mk (below_step HB.out hb); have HO224 := Aside0.mk ho0; clear HB; have HB := n5_; clear n5_ hb ho0; obtain ⟨Ao80, co80, eo80⟩ := Kd.R_slice HO224.out; subst eo80) | (go_at_call 37; (with_reducible refine (chatelaineref01_Same.calls k2 _ _ t221 _ _ l1 t225 _ ?side1 ?side2 ?side3 ?side4 A72.out).mono ?_); (case side1 => repeat (first | exact (Kd.R_reads' HO224.out).2.2 | (with_reducible refine Kd.C_alloc ?_ _) | (with_reducible refine Kd.C_drewN ?_ _) | (with_reducible refine Kd.C_drew ?_))); (case side2 => exact (Kd.R_reads' HO224.out).2.1); (case side3 => repeat (first | exact (Kd.C_below HR1.out HB.out) | (with_reducible refine Kd.C_alloc ?_ _) | (with_reducible refine Kd.C_drewN ?_ _) | (with_reducible refine Kd.C_drew ?_))); (case side4 => exact HC1.out); rintro e w' ⟨rfl, ⟨nd, rfl⟩⟩))
                                    go_ret
                                    exact ⟨by first | rfl | (simp [errW_none, errW_some] <;> rfl) | (simp only [← hji14, ← hji66]; first | rfl | (simp [errW_none, errW_some] <;> rfl)) | (simp [*, errW_none, errW_some] <;> rfl), below_step HV.out (by repeat (first | (with_reducible first | exact HB.out | apply below_alloc | apply pw_below_drewN | apply below_drew1) | exact HB.out))⟩
                                  · rw [if_neg c71] at H
                                    have c71b0 : (t222 == 0) = false := beq_eq_false_iff_ne.mpr c71
                                    have c71b1 : (t222 != 0) = true := bne_iff_ne.mpr c71
                                    obtain rfl := Option.some.inj H
                                    go_wp2_with (first | ((with_reducible refine gate_callee (f := 36) rfl ?_); refine goesL_ (some 129) rfl rfl Try.func36 (by kernel_rfl) rfl #[.slice Aw y218.length cw] rfl (by (try simp only [List.map_toArray, List.map_cons, List.map_nil]); first | done | rfl | (simp only [List.length_drop, List.length_take]; rfl)) ?_; (with_reducible refine (split_Join.calls k2 _ _ y218 t221 t222 _ ?side1 ?side2 A70.out).mono ?_); (case side1 => exact HCw.out); (case side2 => exact HLw.out); rintro e w79 ⟨v223, rfl, ho0, hb⟩; refine ⟨_, rfl, ?_⟩; have n5_ := Aside0.mk (below_step HB.out hb); have HO224 := Aside0.mk ho0; clear HB; have HB := n5_; clear n5_ hb ho0; obtain ⟨Ao80, co80, eo80⟩ := Kd.R_slice HO224.out; subst eo80))
                                    go_ret
                                    exact ⟨by first | rfl | (simp [errW_none, errW_some] <;> rfl) | (simp only [← hji14, ← hji66]; first | rfl | (simp [errW_none, errW_some] <;> rfl)) | (simp [*, errW_none, errW_some] <;> rfl), below_step HV.out (by repeat (first | (with_reducible first | exact HB.out | apply below_alloc | apply pw_below_drewN | apply below_drew1) | exact HB.out))⟩
                              · refine event_step (by rfl) (w1 := w26.alloc (.cells #[.int .u8 ((rd_T54 l3 (ji66)).f0), .slice Ao76 x11_2.length co76] 54)) (v := .slice (some ⟨w26.heap.size, 0, none⟩) 1 1) (by first | (go_simp; done) | (go_simp; rfl)) ?_
                                have n0_ := Aside0.mk (blk_new w26 (.cells #[.int .u8 ((rd_T54 l3 (ji66)).f0), .slice Ao76 x11_2.length co76] 54))
                                have n1_ := Aside0.mk (below_alloc HX.out (.cells #[.int .u8 ((rd_T54 l3 (ji66)).f0), .slice Ao76 x11_2.length co76] 54))
                                obtain ⟨gx, hgx⟩ : ∃ g_, g_ = w26.heap.size := ⟨_, rfl⟩
                                rw [← hgx] at n0_ ⊢
                                clear hgx HX
                                generalize w26.alloc (.cells #[.int .u8 ((rd_T54 l3 (ji66)).f0), .slice Ao76 x11_2.length co76] 54) = wz1 at n0_ n1_ ⊢
                                have BXB := n0_
                                have HX := n1_
                                clear n0_ n1_
                                refine hK.out _ _ (pw_cell_below HX.out HH.out) (fun hHeld => ?_)
                                clear hHeld hK K
                                refine norm_ (a' := ?_) ?_ ?_
                                rotate_left
                                · show Act.put _ (some 125) _ = _
                                  simp only [Act.put, List.setIfInBounds_toArray, List.set_cons_zero, List.set_cons_succ, i64_w, i32_w]
                                  rfl
                                refine one_ (i := 0) (N := some 114) #[true, true, false, true, true, true, true, true, true, true, true, true, false, false] rfl rfl (by kernel_rfl) (by decide) (fun K hK => ?_)
                                refine Kd.R_lit_step (Kd.fixed k54 w26) (w0 := w26) w26.heap.size 54 (by rfl) (N := 114) rfl (xs := ([] : List S54)) (inner := []) (ok := fun _ => True) (okp := fun _ => True) (by first | (go_simp; done) | (go_simp; rfl)) (Reps.none _ _) (fun _ _ => trivial) trivial HX.out HX.out.size (by simp) ?_
                                intro v212 wz2 ho hb hg hnew
                                have n1_ := Aside0.mk (blk_grown BXB.out hg (by simp))
                                have BXN : Aside0 (some gx ≠ v212.ownBlock) := ⟨by obtain ⟨b_, hb1_, hb2_⟩ := hnew; rw [hb1_]; intro he_; injection he_ with he_; have := blk_lt BXB.out; omega⟩
                                clear BXB
                                have BXB := n1_
                                clear n1_
                                have n0_ := Aside0.mk hb
                                have HO12 := Aside0.mk ho
                                clear HX
                                have HX := n0_
                                clear n0_ ho hb hg hnew
                                refine hK.out _ _ (pw_cell_below HX.out HH.out) (fun hHeld => ?_)
                                clear hHeld hK K
                                refine norm_ (a' := ?_) ?_ ?_
                                rotate_left
                                · show Act.put _ (some 114) _ = _
                                  simp only [Act.put, List.setIfInBounds_toArray, List.set_cons_zero, List.set_cons_succ, i64_w, i32_w]
                                  rfl
                                refine one_ (i := 2) (N := some 116) #[true, true, true, true, true, true, true, true, true, true, true, true, false, false] rfl rfl (by kernel_rfl) (by decide) (fun K hK => ?_)
                                refine Kd.R_append_rows_step (Kd.fixed k54 w26) (Rr := k54.K w26) (w0 := w26) w26.heap.size (by rfl) (.tmp 114) (.tmp 115) 49 54 (.agg #[(.int .u8 0), (.slice none 0 0)]) 32 rfl Try.underlying49 info54 rfl (show 0 < 2 by omega) (by omega) v212 ([] : List S54) y206 _ _ _ (fun _ => True) (fun _ => False) rfl rfl HO12.out ?aR (fun _ _ h_ => h_) (fun _ h_ => h_.elim) (fun _ _ => trivial) HX.out HX.out.size ?aL ?_
                                case aR => exact ReadsRow.imp_ HK10.out.2.2 HX.out (fun _ _ h_ => h_)
                                case aL => (have := LMc65.out; rw [Ny211.out] at this; simp only [List.length_nil] at this ⊢; omega)
                                intro v215 wz3 ho hb hg hat
                                have n1_ := Aside0.mk (blk_grown BXB.out hg BXN.out)
                                have n2_ : Aside0 (some gx ≠ v215.ownBlock) := ⟨hat.elim (fun hat => by rw [hat]; exact BXN.out) (fun ⟨b_, hb1_, hb2_⟩ => by rw [hb1_]; intro he_; injection he_ with he_; have := blk_lt BXB.out; omega)⟩
                                clear BXB BXN
                                have BXB := n1_
                                have BXN := n2_
                                clear n1_ n2_
                                have n0_ := Aside0.mk hb
                                have HO15 := Aside0.mk ho
                                clear HX HO12
                                have HX := n0_
                                clear n0_ ho hb hg hat
                                refine hK.out _ _ (pw_cell_below HX.out HH.out) (fun hHeld => ?_)
                                clear hHeld hK K
                                refine norm_ (a' := ?_) ?_ ?_
                                rotate_left
                                · show Act.put _ (some 116) _ = _
                                  simp only [Act.put, List.setIfInBounds_toArray, List.set_cons_zero, List.set_cons_succ, i64_w, i32_w]
                                  rfl
                                refine one_ (i := 12) (N := some 126) #[true, true, true, true, true, true, true, true, true, true, true, true, true, false] rfl rfl (by kernel_rfl) (by decide) (fun K hK => ?_)
                                refine Kd.R_append_rows_step (Kd.fixed k54 w26) (Rr := k54.K w26) (w0 := w26) w26.heap.size (by rfl) (.tmp 116) (.tmp 125) 49 54 (.agg #[(.int .u8 0), (.slice none 0 0)]) 32 rfl Try.underlying49 info54 rfl (show 0 < 2 by omega) (by omega) v215 ([] ++ y206) [(⟨(rd_T54 l3 (ji66)).f0, x11_2⟩ : S54)] (some ⟨gx, 0, none⟩) 1 1 (fun _ => True) (fun _ => False) rfl rfl HO15.out ?aR (fun _ _ h_ => h_) (fun _ h_ => h_.elim) (fun _ _ => trivial) HX.out HX.out.size ?aL ?_
                                case aR => exact row_one BXB.out HP.out
                                case aL => (have := LMc69.out; rw [Ny214.out, Ny211.out] at this; omega)
                                intro v219 wz4 ho hb hg hat
                                have n0_ := Aside0.mk hb
                                have HO19 : Aside0 (Kd.R (Kd.fixed k54 w26) 54 wz4 w26.heap.size (fun _ => True) v219 y218) := ⟨by rw [Ny218.out, Ny214.out, Ny211.out]; exact ho⟩
                                clear HX HO15 BXB BXN
                                have HX := n0_
                                clear n0_ ho hb hg hat
                                refine hK.out _ _ (pw_cell_below HX.out HH.out) (fun hHeld => ?_)
                                clear hHeld hK K
                                refine norm_ (a' := ?_) ?_ ?_
                                rotate_left
                                · show Act.put _ (some 126) _ = _
                                  simp only [Act.put, List.setIfInBounds_toArray, List.set_cons_zero, List.set_cons_succ, i64_w, i32_w]
                                  rfl
                                refine pure_ (i := 13) (N := some 18) (v := ?_) (a' := ?_) #[true, true, true, true, true, true, true, true, true, true, true, true, true, true] rfl rfl (by kernel_rfl) (fun _ _ _ h => h) (Or.inl ⟨by rfl, ?_⟩) ?_ ?_
                                rotate_left
                                · intro w'
                                  go_simp
                                  with_reducible rfl
                                rotate_left
                                · simp only [Act.put, List.setIfInBounds_toArray, List.set_cons_zero, List.set_cons_succ]
                                  rfl
                                refine done_ (by kernel_rfl) ?_
                                obtain ⟨Aw, cw, ew, hlw_, hcw_⟩ := Kd.R_reads HO19.out
                                subst ew
                                have HLw := Aside0.mk hlw_
                                have HCw := Aside0.mk (fixed_read HX.out hcw_)
                                clear hlw_ hcw_ HO19 HK10 HK11 HP HH
                                have n0_ := Aside0.mk (below_step HB.out HX.out)
                                clear HB HX
                                have HB := n0_
                                clear n0_
                                have H := HZ.out
                                clear HZ
                                replace H := Option.bind_eq_some_iff.mp H
                                obtain ⟨⟨t221, t222⟩, A700, H⟩ := H
                                replace H : (if t222 = 0 then ((chatelaineref01_Same.f k2 t221 l1).bind fun t225 => (some t225)) else (some false)) = some r := H
                                have A70 := Aside0.mk A700
                                clear A700
                                by_cases c71 : t222 = 0
                                · rw [if_pos c71] at H
                                  have c71b0 : (t222 == 0) = true := beq_iff_eq.mpr c71
                                  have c71b1 : (t222 != 0) = false := bne_eq_false_iff_eq.mpr c71
                                  clear c71
                                  replace H := Option.bind_eq_some_iff.mp H
                                  obtain ⟨t225, A720, H⟩ := H
                                  replace H : (some t225) = some r := H
                                  have A72 := Aside0.mk A720
                                  clear A720
                                  obtain rfl := Option.some.inj H
                                  go_wp2_with (first | ((with_reducible refine gate_callee (f := 36) rfl ?_); refine goesL_ (some 129) rfl rfl Try.func36 (by kernel_rfl) rfl #[.slice Aw y218.length cw] rfl (by (try simp only [List.map_toArray, List.map_cons, List.map_nil]); first | done | rfl | (simp only [List.length_drop, List.length_take]; rfl)) ?_; (with_reducible refine (split_Join.calls k2 _ _ y218 t221 t222 _ ?side1 ?side2 A70.out).mono ?_); (case side1 => exact HCw.out); (case side2 => exact HLw.out); rintro e w79 ⟨v223, rfl, ho0, hb⟩; refine ⟨_, rfl, ?_⟩; have n5_ := Aside0.mk (below_step HB.out hb); have HO224 := Aside0.mk ho0; clear HB; have HB := n5_; clear n5_ hb ho0; obtain ⟨Ao80, co80, eo80⟩ := Kd.R_slice HO224.out; subst eo80) | (go_at_call 37; (with_reducible refine (chatelaineref01_Same.calls k2 _ _ t221 _ _ l1 t225 _ ?side1 ?side2 ?side3 ?side4 A72.out).mono ?_); (case side1 => repeat (first | exact (Kd.R_reads' HO224.out).2.2 | (with_reducible refine Kd.C_alloc ?_ _) | (with_reducible refine Kd.C_drewN ?_ _) | (with_reducible refine Kd.C_drew ?_))); (case side2 => exact (Kd.R_reads' HO224.out).2.1); (case side3 => repeat (first | exact (Kd.C_below HR1.out HB.out) | (with_reducible refine Kd.C_alloc ?_ _) | (with_reducible refine Kd.C_drewN ?_ _) | (with_reducible refine Kd.C_drew ?_))); (case side4 => exact HC1.out); rintro e w' ⟨rfl, ⟨nd, rfl⟩⟩))
                                  go_ret
                                  exact ⟨by first | rfl | (simp [errW_none, errW_some] <;> rfl) | (simp only [← hji14, ← hji66]; first | rfl | (simp [errW_none, errW_some] <;> rfl)) | (simp [*, errW_none, errW_some] <;> rfl), below_step HV.out (by repeat (first | (with_reducible first | exact HB.out | apply below_alloc | apply pw_below_drewN | apply below_drew1) | exact HB.out))⟩
                                · rw [if_neg c71] at H
                                  have c71b0 : (t222 == 0) = false := beq_eq_false_iff_ne.mpr c71
                                  have c71b1 : (t222 != 0) = true := bne_iff_ne.mpr c71
                                  obtain rfl := Option.some.inj H
                                  go_wp2_with (first | ((with_reducible refine gate_callee (f := 36) rfl ?_); refine goesL_ (some 129) rfl rfl Try.func36 (by kernel_rfl) rfl #[.slice Aw y218.length cw] rfl (by (try simp only [List.map_toArray, List.map_cons, List.map_nil]); first | done | rfl | (simp only [List.length_drop, List.length_take]; rfl)) ?_; (with_reducible refine (split_Join.calls k2 _ _ y218 t221 t222 _ ?side1 ?side2 A70.out).mono ?_); (case side1 => exact HCw.out); (case side2 => exact HLw.out); rintro e w79 ⟨v223, rfl, ho0, hb⟩; refine ⟨_, rfl, ?_⟩; have n5_ := Aside0.mk (below_step HB.out hb); have HO224 := Aside0.mk ho0; clear HB; have HB := n5_; clear n5_ hb ho0; obtain ⟨Ao80, co80, eo80⟩ := Kd.R_slice HO224.out; subst eo80))
                                  go_ret
                                  exact ⟨by first | rfl | (simp [errW_none, errW_some] <;> rfl) | (simp only [← hji14, ← hji66]; first | rfl | (simp [errW_none, errW_some] <;> rfl)) | (simp [*, errW_none, errW_some] <;> rfl), below_step HV.out (by repeat (first | (with_reducible first | exact HB.out | apply below_alloc | apply pw_below_drewN | apply below_drew1) | exact HB.out))⟩
                            · rw [if_neg c69] at H
                              exact absurd H (by simp)
                          · rw [if_neg c68] at H
                            exact absurd H (by simp)
                        · rw [if_neg c67] at H
                          exact absurd H (by simp)
                      · rw [if_neg c65] at H
                        exact absurd H (by simp)
              · rw [if_neg c16] at H
                exact absurd H (by simp)
            · rw [if_neg c15] at H
              exact absurd H (by simp)
          · rw [if_neg c13] at H
            have c13b0 : (a4 == 0) = false := beq_eq_false_iff_ne.mpr c13
            have c13b1 : (a4 != 0) = true := bne_iff_ne.mpr c13
            obtain rfl := Option.some.inj H
            go_wp2
            go_ret
            exact ⟨by first | rfl | (simp [errW_none, errW_some] <;> rfl) | (simp [*, errW_none, errW_some] <;> rfl), below_step HV.out (by repeat (first | (with_reducible first | exact HB.out | apply below_alloc | apply pw_below_drewN | apply below_drew1) | exact HB.out))⟩
  · replace c7 := Bool.eq_false_iff.mpr c7
    subst c7
    have H1 : (some false) = some r := by rw [if_neg (show ¬ (false = true) by decide)] at H; exact H
    clear H
    have H := H1
    clear H1
    obtain rfl := Option.some.inj H
    go_enter Try.func11, Try.ntmps11
    go_wp2_with (first | ((with_reducible refine gate_callee (f := 30) rfl ?_); refine goesL_ (some 21) rfl rfl Try.func30 (by kernel_rfl) rfl #[] rfl (by (try simp only [List.map_toArray, List.map_cons, List.map_nil]); first | done | rfl | (simp only [List.length_drop, List.length_take]; rfl)) ?_; (with_reducible refine (chatelainelaw45_awake.calls k  false _ A6.out).mono ?_); rintro e w88 ⟨rfl, hb⟩; refine ⟨_, rfl, ?_⟩; have n1_ := Aside0.mk (below_step (by repeat (first | (with_reducible first | exact HB.out | apply below_alloc | apply pw_below_drewN | apply below_drew1) | exact HB.out)) hb); clear HB; have HB := n1_; clear n1_; (try clear hb); (try clear hb2); (try clear hk); (try clear hi)))
    go_ret
    exact ⟨by first | rfl | (simp [errW_none, errW_some] <;> rfl) | (simp [*, errW_none, errW_some] <;> rfl), by repeat (first | (with_reducible first | exact HB.out | apply below_alloc | apply pw_below_drewN | apply below_drew1) | exact HB.out)⟩

end Go.Proofs.Ytphoelhelmnibaa.PQ
