/- The walk of SplitBack, and what it answers. -/
import Derived.Test.YtphoelhelmnibaaPQx5
import Derived.Test.YtphoelhelmnibaaPQx6
namespace Go.Proofs.Ytphoelhelmnibaa.PQ
open Go.RowKit Go.Proofs.YtphoelhelmnibaaW.PrintWords Go.Proofs.YtphoelhelmnibaaW.PrintLast Go.Proofs.YtphoelhelmnibaaW.PrintMore
attribute [local go_sem] max2_int min2_int max_two min_two max_three min_three max_four min_four   -- for this text's walks alone
set_option linter.unusedVariables false
set_option linter.unusedSimpArgs false
/-- A store, as one step of a region that draws. -/
theorem skip_step {P : Program} {ops : Array Oper} {o : Oper} {a : Act} {Q : Exit → Act → World → Prop} {Kc : Act → World → Prop} {W w1 : World} (hw : Region.wanted o (yielded ops a.tmps) = true) (hrun : (execOp a.eval o).run P W = .ok .skip w1) (h : Kc (a.put o.dst undef) w1) : if Region.wanted o (yielded ops a.tmps) = true then Oper.wp P o a W Kc Q else Kc (a.put o.dst undef) W := by
  rw [if_pos hw]
  unfold Oper.wp
  rw [hrun]
  exact h

/-! ### chatelainelaw45_SplitBack: function 13 -/
mutual
def chatelainelaw45_SplitBack.j0 : Nat → List Int → List (S54) → List Int → Int → Int → Bool → Option (Bool)
  | 0, _, _, _, _, _, _ => none
  | k + 1, x0, x1, x2, x3, x4, x38 => if x38 = true then (some true) else (if x4 = 0 then ((some (([] : List (S54)) : List (S54))).bind fun y224 => (if y224.length + x1.length < 4398046511104 then (chatelainelaw45_SplitBack.l0 k x0 x3 (y224 ++ x1) ([] : List (S54)) x2 (x2.length : Int) 0) else (none))) else (some ((x1.length : Int) == 0)))
def chatelainelaw45_SplitBack.j2 : Nat → List Int → Int → List (S54) → Option (Bool)
  | 0, _, _, _ => none
  | k + 1, x0, x10, x14 => if (x14.length : Int) < x10 then (some true) else ((split_Join.f k x14).bind fun bt254 => ((split_Fits.f k x14 x10).bind fun bt258 => (if 0 ≤ x10 then (if x10 ≤ (x14.length : Int) then (if 0 ≤ (wrap64 ((x14.length : Int) - 1)) then (if (wrap64 ((x14.length : Int) - 1)) < (x14.length : Int) then ((split_At.f k (x14.take (x10 : Int).toNat) ((rd_T54 x14 (wrap64 ((x14.length : Int) - 1))).f0)).bind fun bt266 => (if bt254.2 = 0 then ((chatelaineref01_Same.f k bt254.1 x0).bind fun t270 => (if t270 = true then (if bt258.2 = 0 then (if bt258.1 = true then (if bt266.2 = 0 then ((chatelaineref01_Same.f k bt266.1 ((rd_T54 x14 (wrap64 ((x14.length : Int) - 1))).f1)).bind fun t272 => (some t272)) else (some false)) else (some false)) else (some false)) else (some false))) else (some false))) else (none)) else (none)) else (none)) else (none))))
def chatelainelaw45_SplitBack.l0 : Nat → List Int → Int → List (S54) → List (S54) → List Int → Int → Int → Option (Bool)
  | 0, _, _, _, _, _, _, _ => none
  | k + 1, x0, x10, x13, x14, x66, x67, x68 => if x68 < x67 then (if 0 ≤ x68 then (if x68 < (x66.length : Int) then (if (x13.length : Int) = 0 then (chatelainelaw45_SplitBack.j2 k x0 x10 x14) else (if 0 ≤ (Int.tmod (wrap64 ((Int.tmod (rd x66 x68) (x13.length : Int)) + (x13.length : Int))) (x13.length : Int)) then (if (Int.tmod (wrap64 ((Int.tmod (rd x66 x68) (x13.length : Int)) + (x13.length : Int))) (x13.length : Int)) < (x13.length : Int) then (if x14.length < 4398046511104 then ((some (([] : List (S54)) : List (S54))).bind fun y235 => (if (Int.tmod (wrap64 ((Int.tmod (rd x66 x68) (x13.length : Int)) + (x13.length : Int))) (x13.length : Int)) ≤ (x13.length : Int) then ((some (x13.take ((Int.tmod (wrap64 ((Int.tmod (rd x66 x68) (x13.length : Int)) + (x13.length : Int))) (x13.length : Int)) : Int).toNat : List (S54))).bind fun y238 => (if y235.length + y238.length < 4398046511104 then ((some (y235 ++ y238 : List (S54))).bind fun y243 => (if 0 ≤ (wrap64 ((Int.tmod (wrap64 ((Int.tmod (rd x66 x68) (x13.length : Int)) + (x13.length : Int))) (x13.length : Int)) + 1)) then (if (wrap64 ((Int.tmod (wrap64 ((Int.tmod (rd x66 x68) (x13.length : Int)) + (x13.length : Int))) (x13.length : Int)) + 1)) ≤ (x13.length : Int) then ((some (x13.drop ((wrap64 ((Int.tmod (wrap64 ((Int.tmod (rd x66 x68) (x13.length : Int)) + (x13.length : Int))) (x13.length : Int)) + 1)) : Int).toNat : List (S54))).bind fun y246 => (if y243.length + y246.length < 4398046511104 then (chatelainelaw45_SplitBack.l0 k x0 x10 (y243 ++ y246) (x14 ++ [(⟨(rd_T54 x13 (Int.tmod (wrap64 ((Int.tmod (rd x66 x68) (x13.length : Int)) + (x13.length : Int))) (x13.length : Int))).f0, (rd_T54 x13 (Int.tmod (wrap64 ((Int.tmod (rd x66 x68) (x13.length : Int)) + (x13.length : Int))) (x13.length : Int))).f1⟩ : S54)]) x66 x67 (wrap64 (x68 + 1))) else (none))) else (none)) else (none))) else (none))) else (none))) else (none)) else (none)) else (none))) else (none)) else (none)) else (chatelainelaw45_SplitBack.j2 k x0 x10 x14)
end
def chatelainelaw45_SplitBack.f (k : Nat) (l0 : List Int) (l1 : List (S54)) (l2 : List Int) (a3 : Int) (a4 : Int) (l5 : List (List Int)) : Option (Bool) := (chatelainelaw45_awake.f k).bind fun t222 => (if t222 = true then ((chatelainelaw45_few.f k l0 l5).bind fun t223 => (if t223 = true then (chatelainelaw45_SplitBack.j0 k l0 l1 l2 a3 a4 (decide ((l2.length : Int) > 20))) else (chatelainelaw45_SplitBack.j0 k l0 l1 l2 a3 a4 true))) else (some false))
theorem chatelainelaw45_SplitBack.mono_l : ∀ k, (∀ y0 y1 y2 y3 y4 y5, LeO (chatelainelaw45_SplitBack.j0 k y0 y1 y2 y3 y4 y5) (chatelainelaw45_SplitBack.j0 (k + 1) y0 y1 y2 y3 y4 y5)) ∧ (∀ y0 y1 y2, LeO (chatelainelaw45_SplitBack.j2 k y0 y1 y2) (chatelainelaw45_SplitBack.j2 (k + 1) y0 y1 y2)) ∧ (∀ y0 y1 y2 y3 y4 y5 y6, LeO (chatelainelaw45_SplitBack.l0 k y0 y1 y2 y3 y4 y5 y6) (chatelainelaw45_SplitBack.l0 (k + 1) y0 y1 y2 y3 y4 y5 y6))
  | 0 => ⟨fun _ _ _ _ _ _ r h => by simp [chatelainelaw45_SplitBack.j0] at h, fun _ _ _ r h => by simp [chatelainelaw45_SplitBack.j2] at h, fun _ _ _ _ _ _ _ r h => by simp [chatelainelaw45_SplitBack.l0] at h⟩
  | k + 1 => by
    obtain ⟨ih0, ih1, ih2⟩ := chatelainelaw45_SplitBack.mono_l k
    refine ⟨?_, ?_, ?_⟩
    · intro y0 y1 y2 y3 y4 y5
      unfold chatelainelaw45_SplitBack.j0
      repeat' first
      | (with_reducible exact ih0 _ _ _ _ _ _)
      | (with_reducible exact ih1 _ _ _)
      | (with_reducible exact ih2 _ _ _ _ _ _ _)
      | (with_reducible exact chatelainelaw45_awake.mono _)
      | (with_reducible exact chatelainelaw45_few.mono _ _ _)
      | (with_reducible exact chatelaineref01_Same.mono _ _ _)
      | (with_reducible exact split_At.mono _ _ _)
      | (with_reducible exact split_Fits.mono _ _ _)
      | (with_reducible exact split_Join.mono _ _)
      | (with_reducible exact LeO.refl _)
      | (with_reducible exact LeO.none _)
      | (with_reducible refine LeO.ite ?_ ?_)
      | (with_reducible refine LeO.bind ?_ (fun _ => ?_))
      | exact ih0 _ _ _ _ _ _
      | exact ih1 _ _ _
      | exact ih2 _ _ _ _ _ _ _
      | exact chatelainelaw45_awake.mono _
      | exact chatelainelaw45_few.mono _ _ _
      | exact chatelaineref01_Same.mono _ _ _
      | exact split_At.mono _ _ _
      | exact split_Fits.mono _ _ _
      | exact split_Join.mono _ _
      | exact LeO.none _
      | refine LeO.ite ?_ ?_
      | refine LeO.bind ?_ (fun _ => ?_)
    · intro y0 y1 y2
      unfold chatelainelaw45_SplitBack.j2
      repeat' first
      | (with_reducible exact ih0 _ _ _ _ _ _)
      | (with_reducible exact ih1 _ _ _)
      | (with_reducible exact ih2 _ _ _ _ _ _ _)
      | (with_reducible exact chatelainelaw45_awake.mono _)
      | (with_reducible exact chatelainelaw45_few.mono _ _ _)
      | (with_reducible exact chatelaineref01_Same.mono _ _ _)
      | (with_reducible exact split_At.mono _ _ _)
      | (with_reducible exact split_Fits.mono _ _ _)
      | (with_reducible exact split_Join.mono _ _)
      | (with_reducible exact LeO.refl _)
      | (with_reducible exact LeO.none _)
      | (with_reducible refine LeO.ite ?_ ?_)
      | (with_reducible refine LeO.bind ?_ (fun _ => ?_))
      | exact ih0 _ _ _ _ _ _
      | exact ih1 _ _ _
      | exact ih2 _ _ _ _ _ _ _
      | exact chatelainelaw45_awake.mono _
      | exact chatelainelaw45_few.mono _ _ _
      | exact chatelaineref01_Same.mono _ _ _
      | exact split_At.mono _ _ _
      | exact split_Fits.mono _ _ _
      | exact split_Join.mono _ _
      | exact LeO.none _
      | refine LeO.ite ?_ ?_
      | refine LeO.bind ?_ (fun _ => ?_)
    · intro y0 y1 y2 y3 y4 y5 y6
      unfold chatelainelaw45_SplitBack.l0
      repeat' first
      | (with_reducible exact ih0 _ _ _ _ _ _)
      | (with_reducible exact ih1 _ _ _)
      | (with_reducible exact ih2 _ _ _ _ _ _ _)
      | (with_reducible exact chatelainelaw45_awake.mono _)
      | (with_reducible exact chatelainelaw45_few.mono _ _ _)
      | (with_reducible exact chatelaineref01_Same.mono _ _ _)
      | (with_reducible exact split_At.mono _ _ _)
      | (with_reducible exact split_Fits.mono _ _ _)
      | (with_reducible exact split_Join.mono _ _)
      | (with_reducible exact LeO.refl _)
      | (with_reducible exact LeO.none _)
      | (with_reducible refine LeO.ite ?_ ?_)
      | (with_reducible refine LeO.bind ?_ (fun _ => ?_))
      | exact ih0 _ _ _ _ _ _
      | exact ih1 _ _ _
      | exact ih2 _ _ _ _ _ _ _
      | exact chatelainelaw45_awake.mono _
      | exact chatelainelaw45_few.mono _ _ _
      | exact chatelaineref01_Same.mono _ _ _
      | exact split_At.mono _ _ _
      | exact split_Fits.mono _ _ _
      | exact split_Join.mono _ _
      | exact LeO.none _
      | refine LeO.ite ?_ ?_
      | refine LeO.bind ?_ (fun _ => ?_)
theorem chatelainelaw45_SplitBack.mono : ∀ a0 a1 a2 a3 a4 a5 k, LeO (chatelainelaw45_SplitBack.f k a0 a1 a2 a3 a4 a5) (chatelainelaw45_SplitBack.f (k + 1) a0 a1 a2 a3 a4 a5) := by
  intro a0 a1 a2 a3 a4 a5 k
  obtain ⟨ih0, ih1, ih2⟩ := chatelainelaw45_SplitBack.mono_l k
  unfold chatelainelaw45_SplitBack.f
  repeat' first
      | (with_reducible exact ih0 _ _ _ _ _ _)
      | (with_reducible exact ih1 _ _ _)
      | (with_reducible exact ih2 _ _ _ _ _ _ _)
      | (with_reducible exact chatelainelaw45_awake.mono _)
      | (with_reducible exact chatelainelaw45_few.mono _ _ _)
      | (with_reducible exact chatelaineref01_Same.mono _ _ _)
      | (with_reducible exact split_At.mono _ _ _)
      | (with_reducible exact split_Fits.mono _ _ _)
      | (with_reducible exact split_Join.mono _ _)
      | (with_reducible exact LeO.refl _)
      | (with_reducible exact LeO.none _)
      | (with_reducible refine LeO.ite ?_ ?_)
      | (with_reducible refine LeO.bind ?_ (fun _ => ?_))
      | exact ih0 _ _ _ _ _ _
      | exact ih1 _ _ _
      | exact ih2 _ _ _ _ _ _ _
      | exact chatelainelaw45_awake.mono _
      | exact chatelainelaw45_few.mono _ _ _
      | exact chatelaineref01_Same.mono _ _ _
      | exact split_At.mono _ _ _
      | exact split_Fits.mono _ _ _
      | exact split_Join.mono _ _
      | exact LeO.none _
      | refine LeO.ite ?_ ?_
      | refine LeO.bind ?_ (fun _ => ?_)
def chatelainelaw45_SplitBack.T19 : Bool × List (List Nat × List Nat) := (true, [([], []), ([], []), ([], []), ([1, 2], [1, 2]), ([0, 3], [0, 3]), ([], []), ([], []), ([6], [6]), ([5, 7], [5, 7]), ([4, 8, 4], [4, 8]), ([9, 9, 0, 1, 2, 3, 4, 5, 6, 7, 8, 9], [1, 5, 9])])
def chatelainelaw45_SplitBack.B19 : List Nat := [0, 0, 0, 6, 15, 0, 0, 64, 224, 511, 1023]
theorem chatelainelaw45_SplitBack.tab19 : rtab .any (opsOf Try.f13 19) = chatelainelaw45_SplitBack.T19 := by kernel_rfl
theorem chatelainelaw45_SplitBack.bits19 : waitsOk chatelainelaw45_SplitBack.T19.2 chatelainelaw45_SplitBack.B19 = true := by kernel_rfl
def chatelainelaw45_SplitBack.T25 : Bool × List (List Nat × List Nat) := (true, [([], []), ([], []), ([0, 1], [0, 1]), ([], []), ([], []), ([4], [4]), ([5], [5]), ([3, 6], [3, 6]), ([7], [7]), ([8], [8]), ([2, 9], [2, 9]), ([10], [10]), ([11], [11]), ([11], [11]), ([12, 10, 0, 1, 2, 3, 4, 5, 6, 7, 8, 9, 10, 11, 12], [12]), ([13, 14, 0, 1, 2, 3, 4, 5, 6, 7, 8, 9, 10, 11, 12, 13, 14], [13])])
def chatelainelaw45_SplitBack.B25 : List Nat := [0, 0, 3, 0, 0, 16, 48, 120, 248, 504, 1023, 2047, 4095, 4095, 8191, 32767]
theorem chatelainelaw45_SplitBack.tab25 : rtab .any (opsOf Try.f13 25) = chatelainelaw45_SplitBack.T25 := by kernel_rfl
theorem chatelainelaw45_SplitBack.bits25 : waitsOk chatelainelaw45_SplitBack.T25.2 chatelainelaw45_SplitBack.B25 = true := by kernel_rfl
set_option maxHeartbeats 8000000 in
set_option maxRecDepth 100000 in
theorem chatelainelaw45_SplitBack.calls (k : Nat) (A0 : Option Addr) (c0 : Nat) (l0 : List Int) (P1_ : Nat → Prop) (hP1 : ∀ k_, P1_ k_) (n0 n1 : Int) (hn0 : 0 ≤ n0 ∧ n0 < 256) (hn1 : 0 ≤ n1 ∧ n1 < 256) (a6 : Int) (ha6 : a6 = n0 % 9 + 1) (l1 : List (S54)) (A2 : Option Addr) (c2 : Nat) (l2 : List Int) (a3 : Int) (ha3 : a3 = n1 % a6 + 1) (a4 : Int) (A5 : Option Addr) (c5 : Nat) (l5 : List (List Int)) (r : Bool) (w00 : World) (hr0 : Kd.C (Kd.int .u8) w00 A0 l0.length l0) (hc0 : l0.length ≤ c0) (hS : split_Split.f k l0 a6 a3 l5 = some (l1, a4)) (hr2 : Kd.C (Kd.int .i64) w00 A2 l2.length l2) (hc2 : l2.length ≤ c2) (hr5 : Kd.C (Kd.slice 5 (Kd.int .u8)) w00 A5 l5.length l5) (hc5 : l5.length ≤ c5) (h : chatelainelaw45_SplitBack.f k l0 l1 l2 a3 a4 l5 = some r) :
    Calls Try.prog 13 #[.slice A0 l0.length c0, .agg #[.int .u8 n0, .int .u8 n1, .slice A5 l5.length c5], .slice A2 l2.length c2] w00 fun e w' => e = .returned (.bool r) ∧ Below w00.heap.size w00 w' := by
  have hu54 := Try.underlying54
  have HR0 := Aside0.mk hr0
  have HC0 := Aside0.mk hc0
  clear hr0 hc0
  have HR2 := Aside0.mk hr2
  have HC2 := Aside0.mk hc2
  clear hr2 hc2
  have HR5 := Aside0.mk hr5
  have HC5 := Aside0.mk hc5
  clear hr5 hc5
  have HF := Aside0.mk h
  have HFS := Aside0.mk hS
  have HN0 := Aside0.mk hn0
  have HN1 := Aside0.mk hn1
  have HA3 := Aside0.mk ha3
  have HA6 := Aside0.mk ha6
  clear h hS hn0 hn1 ha3 ha6
  go_enter Try.func13, Try.ntmps13
  go_upto_region 1 with (fail)
  have hblk_ : (w00.alloc (Obj.cells #[.int .u8 n0, .int .u8 n1, .slice A5 l5.length c5] 70)).heap[w00.heap.size]? = some (.cells #[.int .u8 n0, .int .u8 n1, .slice A5 l5.length c5] 70 (0, 0)) := by
    show (w00.heap.push _)[w00.heap.size]? = _
    exact Array.getElem?_push_size
  have HW := Aside0.mk (below_alloc (Below.refl w00.heap.size w00) (Obj.cells #[.int .u8 n0, .int .u8 n1, .slice A5 l5.length c5] 70))
  have n0_ := Aside0.mk (Kd.C_below HR0.out HW.out)
  have n2_ := Aside0.mk (Kd.C_below HR2.out HW.out)
  have n5_ := Aside0.mk (Kd.C_below HR5.out HW.out)
  clear HR0 HR2 HR5
  have HR0 := n0_
  have HR2 := n2_
  have HR5 := n5_
  clear n0_ n2_ n5_
  generalize hw_ : w00.alloc (Obj.cells #[.int .u8 n0, .int .u8 n1, .slice A5 l5.length c5] 70) = wb at *
  clear hw_
  generalize hgb_ : w00.heap.size = gb at hblk_ ⊢
  clear hgb_
  have HS1 : Aside0 (wb.cell? ⟨gb, 0, none⟩ = some (.int .u8 n0)) := ⟨(blk_cell hblk_ 0).trans rfl⟩
  have HS2 : Aside0 (wb.cell? ⟨gb, 1, none⟩ = some (.int .u8 n1)) := ⟨(blk_cell hblk_ 1).trans rfl⟩
  have HS3 : Aside0 (wb.cell? ⟨gb, 2, none⟩ = some (.slice A5 l5.length c5)) := ⟨(blk_cell hblk_ 2).trans rfl⟩
  clear hblk_
  have h := HF.out
  have HB := Aside0.mk (Below.refl wb.heap.size wb)
  have H : ((chatelainelaw45_awake.f k).bind fun t222 => (if t222 = true then ((chatelainelaw45_few.f k l0 l5).bind fun t223 => (if t223 = true then (chatelainelaw45_SplitBack.j0 k l0 l1 l2 a3 a4 (decide ((l2.length : Int) > 20))) else (chatelainelaw45_SplitBack.j0 k l0 l1 l2 a3 a4 true))) else (some false))) = some r := h
  clear h
  replace H := Option.bind_eq_some_iff.mp H
  obtain ⟨t222, A70, H⟩ := H
  replace H : (if t222 = true then ((chatelainelaw45_few.f k l0 l5).bind fun t223 => (if t223 = true then (chatelainelaw45_SplitBack.j0 k l0 l1 l2 a3 a4 (decide ((l2.length : Int) > 20))) else (chatelainelaw45_SplitBack.j0 k l0 l1 l2 a3 a4 true))) else (some false)) = some r := H
  have A7 := Aside0.mk A70
  clear A70
  by_cases c8 : t222 = true
  · subst c8
    have H1 : ((chatelainelaw45_few.f k l0 l5).bind fun t223 => (if t223 = true then (chatelainelaw45_SplitBack.j0 k l0 l1 l2 a3 a4 (decide ((l2.length : Int) > 20))) else (chatelainelaw45_SplitBack.j0 k l0 l1 l2 a3 a4 true))) = some r := by rw [if_pos rfl] at H; exact H
    clear H
    have H := H1
    clear H1
    have HC9 := Aside0.mk H
    clear H
    go_upto_region 3 with (first | ((with_reducible refine gate_callee (f := 30) rfl ?_); refine goesL_ (some 24) rfl rfl Try.func30 (by kernel_rfl) rfl #[] rfl (by (try simp only [List.map_toArray, List.map_cons, List.map_nil]); first | done | rfl | (simp only [List.length_drop, List.length_take]; rfl)) ?_; (with_reducible refine (chatelainelaw45_awake.calls k  true _ A7.out).mono ?_); rintro e w10 ⟨rfl, hb⟩; refine ⟨_, rfl, ?_⟩; have n1_ := Aside0.mk (below_step (by repeat (first | (with_reducible first | exact HB.out | apply below_alloc | apply pw_below_drewN | apply below_drew1) | exact HB.out)) hb); clear HB; have HB := n1_; clear n1_; (try clear hb); (try clear hb2); (try clear hk); (try clear hi)))
    have hs1 := pw_cell_below HB.out HS1.out
    have hs2 := pw_cell_below HB.out HS2.out
    have hs3 := pw_cell_below HB.out HS3.out
    refine start_ (n := 7) (S := fun W => W.cell? ⟨gb, 0, none⟩ = some (.int .u8 n0) ∧ W.cell? ⟨gb, 1, none⟩ = some (.int .u8 n1) ∧ W.cell? ⟨gb, 2, none⟩ = some (.slice A5 l5.length c5)) (ds := []) #[false, false, false, false, false, false, false] (by kernel_rfl) rfl rfl ⟨hs1, hs2, hs3⟩ (fun hHeld => ?_)
    have n0_ := Aside0.mk (below_drew HB.out)
    clear HB hs1 hs2 hs3
    have HB := n0_
    clear n0_
    generalize w10.drew = w11 at HB hHeld ⊢
    refine pure_ (i := 0) (N := some 26) (v := ?_) (a' := ?_) #[true, false, false, false, false, false, false] rfl rfl (by kernel_rfl) (fun _ _ _ h => h) (Or.inl ⟨by rfl, ?_⟩) ?_ ?_
    rotate_left
    · intro w'
      go_simp
      with_reducible rfl
    rotate_left
    · simp only [Act.put, List.setIfInBounds_toArray, List.set_cons_zero, List.set_cons_succ]
      rfl
    refine take_ (i := 1) (N := some 27) (v := ?_) (a' := ?_) #[true, true, false, false, false, false, false] rfl rfl (by kernel_rfl) (fun _ _ _ h => h) (Or.inl ⟨by rfl, ?_⟩) hHeld ?_ ?_
    rotate_left
    · rintro w' ⟨s0, s1, s2⟩
      go_simp
      with_reducible rfl
    rotate_left
    · simp only [Act.put, List.setIfInBounds_toArray, List.set_cons_zero, List.set_cons_succ]
      rfl
    refine pure_ (i := 2) (N := some 28) (v := ?_) (a' := ?_) #[true, true, true, false, false, false, false] rfl rfl (by kernel_rfl) (fun _ _ _ h => h) (Or.inl ⟨by rfl, ?_⟩) ?_ ?_
    rotate_left
    · intro w'
      go_simp
      with_reducible rfl
    rotate_left
    · simp only [Act.put, List.setIfInBounds_toArray, List.set_cons_zero, List.set_cons_succ]
      rfl
    refine take_ (i := 3) (N := some 29) (v := ?_) (a' := ?_) #[true, true, true, true, false, false, false] rfl rfl (by kernel_rfl) (fun _ _ _ h => h) (Or.inl ⟨by rfl, ?_⟩) hHeld ?_ ?_
    rotate_left
    · rintro w' ⟨s0, s1, s2⟩
      go_simp
      with_reducible rfl
    rotate_left
    · simp only [Act.put, List.setIfInBounds_toArray, List.set_cons_zero, List.set_cons_succ]
      rfl
    refine one_ (i := 4) (N := some 7) #[true, true, true, true, true, false, false] rfl rfl (by kernel_rfl) (by decide) (fun K hK => ?_)
    refine box_step (by rfl) (N := 7) rfl (cs := #[.int .u8 0, .int .u8 0]) (t := 68) (by go_simp; done) ?_
    intro gb7 hg w12 hbox hb
    have n1_ := Aside0.mk hbox
    have n2_ := Aside0.mk (by rw [hg]; exact below_size HB.out : wb.heap.size ≤ gb7)
    have n3_ := Aside0.mk (by rw [hg]; exact Nat.ne_of_lt (World.block_lt_of_cell? _ _ hHeld.1) : gb ≠ gb7)
    refine hK.out _ _ ⟨pw_cell_below hb hHeld.1, pw_cell_below hb hHeld.2.1, pw_cell_below hb hHeld.2.2⟩ (fun hHeld2 => ?_)
    clear hK K
    have n0_ := Aside0.mk (below_step HB.out hb)
    clear HB hHeld hbox hb hg
    have HB := n0_
    have BK7 := n1_
    have GE7 := n2_
    have NE7 := n3_
    have hHeld := hHeld2
    clear n0_ n1_ n2_ n3_ hHeld2
    refine norm_ (a' := ?_) ?_ ?_
    rotate_left
    · show Act.put _ (some 7) _ = _
      simp only [Act.put, List.setIfInBounds_toArray, List.set_cons_zero, List.set_cons_succ]
      rfl
    refine one_ (i := 5) (N := none) #[true, true, true, true, true, true, false] rfl rfl (by kernel_rfl) (by decide) (fun K hK => ?_)
    have hcz_0 : w12.cell? ⟨gb7, 0, none⟩ = some (.int .u8 0) := (blk_cell BK7.out 0).trans rfl
    have hcz_1 : w12.cell? ⟨gb7, 1, none⟩ = some (.int .u8 0) := (blk_cell BK7.out 1).trans rfl
    have hfz_0 := blk_frozen BK7.out 0
    have hfz_1 := blk_frozen BK7.out 1
    refine skip_step (by rfl) (w1 := (w12.setCell ⟨gb7, 0, none⟩ (.int .u8 n0)).setCell ⟨gb7, 1, none⟩ (.int .u8 n1)) (by first | (go_simp; done) | (go_simp; rfl)) ?_
    have hBK_ := blk_set (blk_set BK7.out 0 (.int .u8 n0)) 1 (.int .u8 n1)
    have hb_ : Below wb.heap.size wb ((w12.setCell ⟨gb7, 0, none⟩ (.int .u8 n0)).setCell ⟨gb7, 1, none⟩ (.int .u8 n1)) := below_set (below_set HB.out GE7.out) GE7.out
    refine hK.out _ _ ⟨pw_cell_below ?_ HS1.out, pw_cell_below ?_ HS2.out, pw_cell_below ?_ HS3.out⟩ (fun hHeld2 => ?_)
    rotate_right; (all_goals (try exact hb_))
    clear hK K
    clear hcz_0 hcz_1 hfz_0 hfz_1 hHeld
    generalize (w12.setCell ⟨gb7, 0, none⟩ (.int .u8 n0)).setCell ⟨gb7, 1, none⟩ (.int .u8 n1) = w at hBK_ hb_ hHeld2 ⊢
    clear BK7 HB
    have BK7 : Aside0 (w.heap[gb7]? = some (.cells #[.int .u8 n0, .int .u8 n1] 68 (0, 0))) := ⟨hBK_⟩
    have HB := Aside0.mk hb_
    have hHeld := hHeld2
    clear hBK_ hb_ hHeld2
    refine norm_ (a' := ?_) ?_ ?_
    rotate_left
    · show Act.put _ none _ = _
      simp only [Act.put, List.setIfInBounds_toArray, List.set_cons_zero, List.set_cons_succ]
      rfl
    refine pure_ (i := 6) (N := some 8) (v := ?_) (a' := ?_) #[true, true, true, true, true, true, true] rfl rfl (by kernel_rfl) (fun _ _ _ h => h) (Or.inl ⟨by rfl, ?_⟩) ?_ ?_
    rotate_left
    · intro w'
      go_simp
      with_reducible rfl
    rotate_left
    · simp only [Act.put, List.setIfInBounds_toArray, List.set_cons_zero, List.set_cons_succ]
      rfl
    refine done_ (by kernel_rfl) ?_
    clear hHeld
    have n1_ := Aside0.mk (below_step HW.out HB.out)
    have n0_ := Aside0.mk (Kd.C_below HR0.out HB.out)
    have n2_ := Aside0.mk (Kd.C_below HR2.out HB.out)
    have n5_ := Aside0.mk (Kd.C_below HR5.out HB.out)
    have HS7 : Aside0 (w.cell? ⟨gb7, 0, none⟩ = some (.int .u8 n0)) := ⟨(blk_cell BK7.out 0).trans rfl⟩
    have HS8 : Aside0 (w.cell? ⟨gb7, 1, none⟩ = some (.int .u8 n1)) := ⟨(blk_cell BK7.out 1).trans rfl⟩
    clear HW HR0 HR2 HR5 HS1 HS2 HS3 BK7 GE7 NE7 HB
    have HW := n1_
    have HR0 := n0_
    have HR2 := n2_
    have HR5 := n5_
    clear n0_ n1_ n2_ n5_
    have HB := Aside0.mk (Below.refl w.heap.size w)
    go_upto_region 4 with (fail)
    (try simp only [Act.put, List.setIfInBounds_toArray, List.set_cons_zero, List.set_cons_succ])
    go_cut [38] (fun v38 wc => ∃ (kq : Nat) (x38_8 : Bool), v38 = .bool x38_8 ∧ Aside0 (chatelainelaw45_SplitBack.j0 kq l0 l1 l2 a3 a4 x38_8 = some r) ∧ Aside0 (kq ≤ k) ∧ Aside0 (Below w.heap.size w wc))
    case first =>
      have H := HC9.out
      clear HC9
      replace H := Option.bind_eq_some_iff.mp H
      obtain ⟨t223, A110, H⟩ := H
      replace H : (if t223 = true then (chatelainelaw45_SplitBack.j0 k l0 l1 l2 a3 a4 (decide ((l2.length : Int) > 20))) else (chatelainelaw45_SplitBack.j0 k l0 l1 l2 a3 a4 true)) = some r := H
      have A11 := Aside0.mk A110
      clear A110
      by_cases c12 : t223 = true
      · subst c12
        have H1 : (chatelainelaw45_SplitBack.j0 k l0 l1 l2 a3 a4 (decide ((l2.length : Int) > 20))) = some r := by rw [if_pos rfl] at H; exact H
        clear H
        have H := H1
        clear H1
        have H' := Aside0.mk H
        clear H
        go_wp2_with (first | ((with_reducible refine gate_callee (f := 31) rfl ?_); refine goesL_ (some 32) rfl rfl Try.func31 (by kernel_rfl) rfl #[.slice A0 l0.length c0, .slice A5 l5.length c5] rfl (by (try simp only [List.map_toArray, List.map_cons, List.map_nil]); first | done | rfl | (simp only [List.length_drop, List.length_take]; rfl)) ?_; (with_reducible refine (chatelainelaw45_few.calls k _ _ l0 _ _ l5 true _ ?side1 ?side2 ?side3 ?side4 A11.out).mono ?_); (case side1 => repeat (first | exact (Kd.C_below HR0.out HB.out) | (with_reducible refine Kd.C_alloc ?_ _) | (with_reducible refine Kd.C_drewN ?_ _) | (with_reducible refine Kd.C_drew ?_))); (case side2 => exact HC0.out); (case side3 => repeat (first | exact (Kd.C_below HR5.out HB.out) | (with_reducible refine Kd.C_alloc ?_ _) | (with_reducible refine Kd.C_drewN ?_ _) | (with_reducible refine Kd.C_drew ?_))); (case side4 => exact HC5.out); rintro e w' ⟨rfl, ⟨nd, rfl⟩⟩; refine ⟨_, rfl, ?_⟩))
        go_meet
        case rel => exact ⟨_, (decide ((l2.length : Int) > 20)), (by first | rfl | (simp; done) | (simp [*]; done)), H', ⟨by first | omega | exact Nat.le_refl _⟩, ⟨by repeat (first | (with_reducible first | exact HB.out | apply below_alloc | apply pw_below_drewN | apply below_drew1) | exact HB.out)⟩⟩
      · replace c12 := Bool.eq_false_iff.mpr c12
        subst c12
        have H1 : (chatelainelaw45_SplitBack.j0 k l0 l1 l2 a3 a4 true) = some r := by rw [if_neg (show ¬ (false = true) by decide)] at H; exact H
        clear H
        have H := H1
        clear H1
        have H' := Aside0.mk H
        clear H
        go_wp2_with (first | ((with_reducible refine gate_callee (f := 31) rfl ?_); refine goesL_ (some 32) rfl rfl Try.func31 (by kernel_rfl) rfl #[.slice A0 l0.length c0, .slice A5 l5.length c5] rfl (by (try simp only [List.map_toArray, List.map_cons, List.map_nil]); first | done | rfl | (simp only [List.length_drop, List.length_take]; rfl)) ?_; (with_reducible refine (chatelainelaw45_few.calls k _ _ l0 _ _ l5 false _ ?side1 ?side2 ?side3 ?side4 A11.out).mono ?_); (case side1 => repeat (first | exact (Kd.C_below HR0.out HB.out) | (with_reducible refine Kd.C_alloc ?_ _) | (with_reducible refine Kd.C_drewN ?_ _) | (with_reducible refine Kd.C_drew ?_))); (case side2 => exact HC0.out); (case side3 => repeat (first | exact (Kd.C_below HR5.out HB.out) | (with_reducible refine Kd.C_alloc ?_ _) | (with_reducible refine Kd.C_drewN ?_ _) | (with_reducible refine Kd.C_drew ?_))); (case side4 => exact HC5.out); rintro e w' ⟨rfl, ⟨nd, rfl⟩⟩; refine ⟨_, rfl, ?_⟩))
        go_meet
        case rel => exact ⟨_, (true), (by first | rfl | (simp; done) | (simp [*]; done)), H', ⟨by first | omega | exact Nat.le_refl _⟩, ⟨by repeat (first | (with_reducible first | exact HB.out | apply below_alloc | apply pw_below_drewN | apply below_drew1) | exact HB.out)⟩⟩
    case rest =>
      clear HC9
      try clear c1
      try clear c2
      try clear p2
      try clear c3
      try clear c5
      try clear c8
      try clear c12
      obtain ⟨kq, x38_8, rfl, HA, HJ8, HB⟩ := hcut
      cases kq with
      | zero => exact absurd HA.out (by simp [chatelainelaw45_SplitBack.j0])
      | succ kj8 =>
        have H := HA.out
        clear HA
        simp only [chatelainelaw45_SplitBack.j0] at H
        by_cases c13 : x38_8 = true
        · subst c13
          have H1 : (some true) = some r := by rw [if_pos rfl] at H; exact H
          clear H
          have H := H1
          clear H1
          obtain rfl := Option.some.inj H
          go_wp2
          go_ret
          exact ⟨by first | rfl | (simp [errW_none, errW_some] <;> rfl) | (simp [*, errW_none, errW_some] <;> rfl), below_step HW.out (by repeat (first | (with_reducible first | exact HB.out | apply below_alloc | apply pw_below_drewN | apply below_drew1) | exact HB.out))⟩
        · replace c13 := Bool.eq_false_iff.mpr c13
          subst c13
          have H1 : (if a4 = 0 then ((some (([] : List (S54)) : List (S54))).bind fun y224 => (if y224.length + l1.length < 4398046511104 then (chatelainelaw45_SplitBack.l0 kj8 l0 a3 (y224 ++ l1) ([] : List (S54)) l2 (l2.length : Int) 0) else (none))) else (some ((l1.length : Int) == 0))) = some r := by rw [if_neg (show ¬ (false = true) by decide)] at H; exact H
          clear H
          have H := H1
          clear H1
          have HZ := Aside0.mk H
          clear H
          have hs7 := pw_cell_below HB.out HS7.out
          have hs8 := pw_cell_below HB.out HS8.out
          have hl1 := HN0.out.1
          have hl2 := HN0.out.2
          have hl3 := HN1.out.1
          have hl4 := HN1.out.2
          go_upto_region 8 with (fail)
          have e6_ : n0 % 9 + 1 = a6 := HA6.out.symm
          have e3_ : wrap64 (n1 % a6 + 1) = a3 := by
            rw [HA3.out]
            have h6_ := HA6.out
            have g1_ := Int.emod_nonneg n1 (show a6 ≠ 0 by omega)
            have g2_ := Int.emod_lt_of_pos n1 (show 0 < a6 by omega)
            generalize n1 % a6 = z_ at g1_ g2_ ⊢
            unfold wrap64
            omega
          rw [e6_, e3_]
          clear e6_ e3_ hl1 hl2 hl3 hl4 hs7 hs8
          go_upto_region 9 with (first | ((with_reducible refine gate_callee (f := 32) rfl ?_); refine goesL_ (some 55) rfl rfl Try.func32 (by kernel_rfl) rfl #[.slice A0 l0.length c0, .int .i64 a6, .int .i64 a3, .slice A5 l5.length c5] rfl (by (try simp only [List.map_toArray, List.map_cons, List.map_nil]); first | done | rfl | (simp only [List.length_drop, List.length_take]; rfl)) ?_; (refine (split_Split.calls k _ _ l0 a6 a3 _ _ l5 l1 a4 _ ?side1 ?side2 ?side3 ?side4 HFS.out).mono ?_); (case side1 => repeat (first | exact (Kd.C_below HR0.out HB.out) | (with_reducible refine Kd.C_alloc ?_ _) | (with_reducible refine Kd.C_drewN ?_ _) | (with_reducible refine Kd.C_drew ?_))); (case side2 => exact HC0.out); (case side3 => repeat (first | exact (Kd.C_below HR5.out HB.out) | (with_reducible refine Kd.C_alloc ?_ _) | (with_reducible refine Kd.C_drewN ?_ _) | (with_reducible refine Kd.C_drew ?_))); (case side4 => exact HC5.out); rintro e u ⟨v_, rfl, ho0, hb⟩; refine ⟨_, rfl, ?_⟩; have HV := Aside0.mk (below_step (by repeat (first | (with_reducible first | exact HB.out | apply below_alloc | apply pw_below_drewN | apply below_drew1) | exact HB.out)) hb); obtain ⟨A1, c1, ev_⟩ := Kd.S_slice ho0; subst ev_; have HO_1 := Aside0.mk (show Kd.V k54 54 u u.heap.size (fun k_ => (P1_ k_ ∨ u.heap.size ≤ k_)) (.slice A1 l1.length c1) l1 from Kd.V_mono (Kd.S_V ho0) (fun k_ _ => .inl (hP1 k_))); clear ho0 hb))
          have n0_ := Aside0.mk (Kd.C_below HR0.out HV.out)
          have n2_ := Aside0.mk (Kd.C_below HR2.out HV.out)
          clear HR0 HR2 HR5 HS7 HS8 HB
          have HR0 := n0_
          have HR2 := n2_
          clear n0_ n2_
          have HB := Aside0.mk (Below.refl u.heap.size u)
          have H := HZ.out
          clear HZ
          by_cases c14 : a4 = 0
          · rw [if_pos c14] at H
            have c14b0 : (a4 == 0) = true := beq_iff_eq.mpr c14
            have c14b1 : (a4 != 0) = false := bne_eq_false_iff_eq.mpr c14
            clear c14
            obtain ⟨y224, hy224⟩ : ∃ y_ : List (S54), y_ = (([] : List (S54))) := ⟨_, rfl⟩
            replace H : (if y224.length + l1.length < 4398046511104 then (chatelainelaw45_SplitBack.l0 kj8 l0 a3 (y224 ++ l1) ([] : List (S54)) l2 (l2.length : Int) 0) else (none)) = some r := by first | (rw [hy224]; with_reducible exact H) | (have H2_ := (Option.bind_some _ _).symm.trans H; rw [hy224]; with_reducible exact H2_) | (have H2_ := (Option.bind_some _ _).symm.trans H; with_reducible exact H2_) | with_reducible exact H | (rw [hy224]; exact H) | exact H
            have Ny224 := Aside0.mk hy224
            clear hy224
            by_cases c15 : y224.length + l1.length < 4398046511104
            · rw [if_pos c15] at H
              have LMc15 := Aside0.mk c15
              clear c15
              obtain ⟨y227, hy227⟩ : ∃ y_ : List (S54), y_ = (y224 ++ l1) := ⟨_, rfl⟩
              replace H : (chatelainelaw45_SplitBack.l0 kj8 l0 a3 y227 ([] : List (S54)) l2 (l2.length : Int) 0) = some r := by first | (rw [hy227]; with_reducible exact H) | (have H2_ := (Option.bind_some _ _).symm.trans H; rw [hy227]; with_reducible exact H2_) | (have H2_ := (Option.bind_some _ _).symm.trans H; with_reducible exact H2_) | with_reducible exact H | (rw [hy227]; exact H) | exact H
              have Ny227 := Aside0.mk hy227
              clear hy227
              have HC16 := Aside0.mk H
              clear H
              go_upto_block 0 with (first | ((with_reducible refine gate_dst (N := 63) rfl ?_); (try (refine gate_guard (by rfl) ?_; dsimp only)); refine Kd.N_lit k54 _ 54 ?hg (N' := 63) ?hd (xs := ([] : List (S54))) (inner := []) (ok := (fun k_ => (P1_ k_ ∨ u.heap.size ≤ k_))) (okp := (fun k_ => (P1_ k_ ∨ u.heap.size ≤ k_))) ?hr ?hp (fun _ hk => hk) ((show ∀ k_, u.heap.size ≤ k_ → (fun k_ => (P1_ k_ ∨ u.heap.size ≤ k_)) k_ from fun k_ hk => (.inr (Nat.le_trans (below_size (by repeat (first | (with_reducible first | exact HB.out | apply below_alloc | apply pw_below_drewN | apply below_drew1) | exact HB.out))) hk))) _ (Nat.le_refl _)) (Below.refl _ _) (Nat.le_refl _) (by simp) ?_; (case hd => rfl); (case hg => rfl); (case hr => first | (go_simp; done) | (go_simp; rfl)); (case hp => exact (Reps.none _ _)); intro v225 w17 ho18 hb hg_ hnew_; clear hg_ hnew_; (first | rw [← Ny224.out] at ho18 | (simp only [Int.reduceToNat] at ho18; rw [← Ny224.out] at ho18)); have n0_ := Aside0.mk (Kd.V_elder' (by (with_reducible repeat (first | apply Kd.V_alloc | apply Kd.V_drewN | apply Kd.V_drew)); exact HO_1.out) (Kd.N_base ho18) hb); have n1_ := Aside0.mk (Kd.N_lower ho18 (below_size (by repeat (first | (with_reducible first | exact HB.out | apply below_alloc | apply pw_below_drewN | apply below_drew1) | exact HB.out)))); have n2_ := Aside0.mk (below_step (by repeat (first | (with_reducible first | exact HB.out | apply below_alloc | apply pw_below_drewN | apply below_drew1) | exact HB.out)) hb); clear HO_1; clear HB; have HO_1 := n0_; have HO226 := n1_; have HB := n2_; clear n0_ n1_ n2_; clear hb ho18) | ((with_reducible refine gate_builtin (b := .append) (xs := #[.tmp 63, .tmp 64]) rfl ?_); (try (refine gate_guard (by rfl) ?_; dsimp only)); at_builtin; refine Kd.N_append_rows k54 (w0 := u) u.heap.size rfl (.tmp 63) (.tmp 64) 49 54 (.agg #[(.int .u8 0), (.slice none 0 0)]) 32 rfl Try.underlying49 info54 rfl (by decide) (by omega) v225 y224 l1 _ _ _ (fun k_ => (P1_ k_ ∨ u.heap.size ≤ k_)) (fun k_ => ((fun k_ => (P1_ k_ ∨ u.heap.size ≤ k_))) k_ ∧ some k_ ≠ (v225 : Value).ownBlock) rfl rfl ?aO ?aR (fun _ hk => hk) ?aF ?aB ?aS ?aL ?_; (case aR => exact (by skip; exact Kd.V_F (Kd.V_mono (ok' := (fun k_ => ((fun k_ => (P1_ k_ ∨ u.heap.size ≤ k_))) k_ ∧ some k_ ≠ (v225 : Value).ownBlock)) (HO_1.out) (fun k_ hk => ⟨hk.1, hk.2⟩)))); (case aB => exact (by repeat (first | (with_reducible first | exact HB.out | apply below_alloc | apply pw_below_drewN | apply below_drew1) | exact HB.out))); (case aF => exact (fun k_ hk => (.inr (Nat.le_trans (below_size (by repeat (first | (with_reducible first | exact HB.out | apply below_alloc | apply pw_below_drewN | apply below_drew1) | exact HB.out))) hk)))); (case aO => exact (by (with_reducible repeat (first | apply Kd.N_alloc | apply Kd.N_drewN | apply Kd.N_drew)); exact HO226.out)); (case aS => exact (below_size (by repeat (first | (with_reducible first | exact HB.out | apply below_alloc | apply pw_below_drewN | apply below_drew1) | exact HB.out)))); (case aL => have := LMc15.out; omega); intro v228 w19 ho hb hg hat; rw [← Ny227.out] at ho; have n0_ := Aside0.mk (Kd.V_afterv (ok := (fun k_ => (P1_ k_ ∨ u.heap.size ≤ k_))) (by (with_reducible repeat (first | apply Kd.V_alloc | apply Kd.V_drewN | apply Kd.V_drew)); exact HO_1.out) hg hat); have n1_ := Aside0.mk (hb); have n2_ := Aside0.mk (ho); clear HO_1; clear HB; clear HO226; have HO_1 := n0_; have HB := n1_; have HO229 := n2_; clear n0_ n1_ n2_; clear ho hb hg hat))
              (try simp only [Act.put, List.setIfInBounds_toArray, List.set_cons_zero, List.set_cons_succ])
              go_cut [14] (fun v14 wc => ∃ (kq : Nat) (x14_15 : List (S54)), Aside0 (chatelainelaw45_SplitBack.j2 kq l0 a3 x14_15 = some r) ∧ Aside0 (kq ≤ kj8) ∧ Aside0 (Kd.N k54 54 wc u.heap.size (fun k_ => (P1_ k_ ∨ u.heap.size ≤ k_)) v14 x14_15) ∧ Aside0 (Below u.heap.size u wc))
              case first =>
                have H := HC16.out
                clear HC16
                have H' := Aside0.mk H
                clear H
                go_wp2
                go_loopg [13, 14, 68] kj8 (fun kq v13 v14 v68 w' => ∃ (x13_2 : List (S54)) (x14_2 : List (S54)) (x68_2 : Int), v68 = .int .i64 x68_2 ∧ Aside0 (chatelainelaw45_SplitBack.l0 kq l0 a3 x13_2 x14_2 l2 (l2.length : Int) x68_2 = some r) ∧ Aside0 (kq ≤ kj8) ∧ Aside0 (Kd.N k54 54 w' u.heap.size (fun k_ => (P1_ k_ ∨ u.heap.size ≤ k_) ∧ some k_ ≠ (v14 : Value).ownBlock) v13 x13_2) ∧ Aside0 (Kd.N k54 54 w' u.heap.size (fun k_ => (P1_ k_ ∨ u.heap.size ≤ k_) ∧ some k_ ≠ (v13 : Value).ownBlock) v14 x14_2) ∧ Aside0 (Below u.heap.size u w'))
                case atStart => exact ⟨(y227), (([] : List (S54))), (0), (by first | rfl | (simp; done) | (simp [*]; done)), H', ⟨Nat.le_refl _⟩, ⟨by (with_reducible repeat (first | apply Kd.N_alloc | apply Kd.N_drewN | apply Kd.N_drew)); exact Kd.N_mono HO229.out (fun _ hk => ⟨hk, (by simp [Value.ownBlock])⟩)⟩, ⟨by first | exact Kd.S_nil _ _ _ _ _ | exact Kd.N_nil _ _ _ _ _ | exact Kd.V_nil _ _ _ _ _ | exact Kd.Q_nil _ _ _ _ _ | exact Kd.R_nil _ _ _ _ _⟩, ⟨by repeat (first | (with_reducible first | exact HB.out | apply below_alloc | apply pw_below_drewN | apply below_drew1) | exact HB.out)⟩⟩
                case round =>
                  clear H'
                  try clear c1
                  try clear c2
                  try clear p2
                  try clear c3
                  try clear c5
                  try clear c8
                  try clear c12
                  try clear c13
                  try clear c14
                  try clear c14b0
                  try clear c14b1
                  try clear c15
                  try clear p2
                  obtain ⟨x13_2, x14_2, x68_2, rfl, HA, HK2, HO_13, HO_14, HB⟩ := hrel
                  cases gk with
                  | zero => exact absurd HA.out (by simp [chatelainelaw45_SplitBack.l0])
                  | succ k2 =>
                    have H := HA.out
                    clear HA
                    simp only [chatelainelaw45_SplitBack.l0] at H
                    by_cases c20 : x68_2 < (l2.length : Int)
                    · rw [if_pos c20] at H
                      have c20b0 : decide (x68_2 < (l2.length : Int)) = true := decide_eq_true c20
                      clear c20
                      (first | rw [c20b0] | (simp only [i64_w, i32_w]; rw [c20b0]) | skip)
                      by_cases c21 : 0 ≤ x68_2
                      · rw [if_pos c21] at H
                        have c21b0 : decide (0 ≤ x68_2) = true := decide_eq_true c21
                        clear c21
                        by_cases c22 : x68_2 < (l2.length : Int)
                        · rw [if_pos c22] at H
                          have c22b0 : decide (x68_2 < (l2.length : Int)) = true := decide_eq_true c22
                          clear c22
                          by_cases c23 : (x13_2.length : Int) = 0
                          · rw [if_pos c23] at H
                            have c23b0 : ((x13_2.length : Int) == 0) = true := beq_iff_eq.mpr c23
                            have c23b1 : ((x13_2.length : Int) != 0) = false := bne_eq_false_iff_eq.mpr c23
                            clear c23
                            have H' := Aside0.mk H
                            clear H
                            have p230 : 0 ≤ (x68_2 : Int) := of_decide_eq_true (by first | (with_reducible assumption) | assumption)
                            have q230 : x68_2 < (l2.length : Int) := of_decide_eq_true (by first | (with_reducible assumption) | assumption)
                            obtain ⟨ad230, e230, hx230_0⟩ := Kd.at_int HR2.out x68_2 p230 q230
                            cases e230
                            replace hx230_0 := (HB.out.cell (World.block_lt_of_cell? u _ hx230_0)).trans hx230_0
                            replace p230 := eq_true p230
                            replace q230 := eq_true q230
                            obtain ⟨Ao24, co24, eo24⟩ := Kd.N_slice HO_13.out
                            subst eo24
                            go_wp2
                            go_meet
                            case rel => exact ⟨_, (x14_2), H', ⟨by have := HJ8.out; have := HK2.out; first | omega | exact Nat.le_refl _⟩, ⟨by (with_reducible repeat (first | apply Kd.N_alloc | apply Kd.N_drewN | apply Kd.N_drew)); exact Kd.N_mono HO_14.out (fun _ hk => hk.1)⟩, ⟨by repeat (first | (with_reducible first | exact HB.out | apply below_alloc | apply pw_below_drewN | apply below_drew1) | exact HB.out)⟩⟩
                          · rw [if_neg c23] at H
                            have c23b0 : ((x13_2.length : Int) == 0) = false := beq_eq_false_iff_ne.mpr c23
                            have c23b1 : ((x13_2.length : Int) != 0) = true := bne_iff_ne.mpr c23
                            have c23b2 : ¬ (x13_2 = []) := fun h_ => c23 (by rw [h_]; rfl)
                            obtain ⟨ji25, hji25⟩ : ∃ j_ : Int, (Int.tmod (wrap64 ((Int.tmod (rd l2 x68_2) (x13_2.length : Int)) + (x13_2.length : Int))) (x13_2.length : Int)) = j_ := ⟨_, rfl⟩
                            replace H : (if 0 ≤ (ji25) then (if (ji25) < (x13_2.length : Int) then (if x14_2.length < 4398046511104 then ((some (([] : List (S54)) : List (S54))).bind fun y235 => (if (ji25) ≤ (x13_2.length : Int) then ((some (x13_2.take ((ji25) : Int).toNat : List (S54))).bind fun y238 => (if y235.length + y238.length < 4398046511104 then ((some (y235 ++ y238 : List (S54))).bind fun y243 => (if 0 ≤ (wrap64 ((ji25) + 1)) then (if (wrap64 ((ji25) + 1)) ≤ (x13_2.length : Int) then ((some (x13_2.drop ((wrap64 ((ji25) + 1)) : Int).toNat : List (S54))).bind fun y246 => (if y243.length + y246.length < 4398046511104 then (chatelainelaw45_SplitBack.l0 k2 l0 a3 (y243 ++ y246) (x14_2 ++ [(⟨(rd_T54 x13_2 (ji25)).f0, (rd_T54 x13_2 (ji25)).f1⟩ : S54)]) l2 (l2.length : Int) (wrap64 (x68_2 + 1))) else (none))) else (none)) else (none))) else (none))) else (none))) else (none)) else (none)) else (none)) = some r := by first | (rw [hji25] at H; exact H) | (simp only [hji25] at H ⊢; exact H)
                            by_cases c26 : 0 ≤ (ji25)
                            · rw [if_pos c26] at H
                              have c26b0 : decide (0 ≤ (ji25)) = true := decide_eq_true c26
                              clear c26
                              by_cases c27 : (ji25) < (x13_2.length : Int)
                              · rw [if_pos c27] at H
                                have c27b0 : decide ((ji25) < (x13_2.length : Int)) = true := decide_eq_true c27
                                clear c27
                                by_cases c28 : x14_2.length < 4398046511104
                                · rw [if_pos c28] at H
                                  have LMc28 := Aside0.mk c28
                                  clear c28
                                  obtain ⟨y232, hy232⟩ : ∃ y_ : List (S54), y_ = (x14_2 ++ [(⟨(rd_T54 x13_2 (ji25)).f0, (rd_T54 x13_2 (ji25)).f1⟩ : S54)]) := ⟨_, rfl⟩
                                  replace H : ((some (([] : List (S54)) : List (S54))).bind fun y235 => (if (ji25) ≤ (x13_2.length : Int) then ((some (x13_2.take ((ji25) : Int).toNat : List (S54))).bind fun y238 => (if y235.length + y238.length < 4398046511104 then ((some (y235 ++ y238 : List (S54))).bind fun y243 => (if 0 ≤ (wrap64 ((ji25) + 1)) then (if (wrap64 ((ji25) + 1)) ≤ (x13_2.length : Int) then ((some (x13_2.drop ((wrap64 ((ji25) + 1)) : Int).toNat : List (S54))).bind fun y246 => (if y243.length + y246.length < 4398046511104 then (chatelainelaw45_SplitBack.l0 k2 l0 a3 (y243 ++ y246) y232 l2 (l2.length : Int) (wrap64 (x68_2 + 1))) else (none))) else (none)) else (none))) else (none))) else (none))) = some r := by first | (rw [hy232]; with_reducible exact H) | (have H2_ := (Option.bind_some _ _).symm.trans H; rw [hy232]; with_reducible exact H2_) | (have H2_ := (Option.bind_some _ _).symm.trans H; with_reducible exact H2_) | with_reducible exact H | (rw [hy232]; exact H) | exact H
                                  have Ny232 := Aside0.mk hy232
                                  clear hy232
                                  obtain ⟨y235, hy235⟩ : ∃ y_ : List (S54), y_ = (([] : List (S54))) := ⟨_, rfl⟩
                                  replace H : (if (ji25) ≤ (x13_2.length : Int) then ((some (x13_2.take ((ji25) : Int).toNat : List (S54))).bind fun y238 => (if y235.length + y238.length < 4398046511104 then ((some (y235 ++ y238 : List (S54))).bind fun y243 => (if 0 ≤ (wrap64 ((ji25) + 1)) then (if (wrap64 ((ji25) + 1)) ≤ (x13_2.length : Int) then ((some (x13_2.drop ((wrap64 ((ji25) + 1)) : Int).toNat : List (S54))).bind fun y246 => (if y243.length + y246.length < 4398046511104 then (chatelainelaw45_SplitBack.l0 k2 l0 a3 (y243 ++ y246) y232 l2 (l2.length : Int) (wrap64 (x68_2 + 1))) else (none))) else (none)) else (none))) else (none))) else (none)) = some r := by first | (rw [hy235]; with_reducible exact H) | (have H2_ := (Option.bind_some _ _).symm.trans H; rw [hy235]; with_reducible exact H2_) | (have H2_ := (Option.bind_some _ _).symm.trans H; with_reducible exact H2_) | with_reducible exact H | (rw [hy235]; exact H) | exact H
                                  have Ny235 := Aside0.mk hy235
                                  clear hy235
                                  have c29b0 := eq_true (of_decide_eq_true (by first | (with_reducible assumption) | assumption) : 0 ≤ (ji25))
                                  by_cases c30 : (ji25) ≤ (x13_2.length : Int)
                                  · rw [if_pos c30] at H
                                    have c30b0 := eq_true c30
                                    have c30b1 : decide ((ji25) ≤ (x13_2.length : Int)) = true := decide_eq_true c30
                                    clear c30
                                    obtain ⟨y238, hy238⟩ : ∃ y_ : List (S54), y_ = (x13_2.take ((ji25) : Int).toNat) := ⟨_, rfl⟩
                                    replace H : (if y235.length + y238.length < 4398046511104 then ((some (y235 ++ y238 : List (S54))).bind fun y243 => (if 0 ≤ (wrap64 ((ji25) + 1)) then (if (wrap64 ((ji25) + 1)) ≤ (x13_2.length : Int) then ((some (x13_2.drop ((wrap64 ((ji25) + 1)) : Int).toNat : List (S54))).bind fun y246 => (if y243.length + y246.length < 4398046511104 then (chatelainelaw45_SplitBack.l0 k2 l0 a3 (y243 ++ y246) y232 l2 (l2.length : Int) (wrap64 (x68_2 + 1))) else (none))) else (none)) else (none))) else (none)) = some r := by first | (rw [hy238]; with_reducible exact H) | (have H2_ := (Option.bind_some _ _).symm.trans H; rw [hy238]; with_reducible exact H2_) | (have H2_ := (Option.bind_some _ _).symm.trans H; with_reducible exact H2_) | with_reducible exact H | (rw [hy238]; exact H) | exact H
                                    have Ny238 := Aside0.mk hy238
                                    clear hy238
                                    by_cases c31 : y235.length + y238.length < 4398046511104
                                    · rw [if_pos c31] at H
                                      have LMc31 := Aside0.mk c31
                                      clear c31
                                      obtain ⟨y243, hy243⟩ : ∃ y_ : List (S54), y_ = (y235 ++ y238) := ⟨_, rfl⟩
                                      replace H : (if 0 ≤ (wrap64 ((ji25) + 1)) then (if (wrap64 ((ji25) + 1)) ≤ (x13_2.length : Int) then ((some (x13_2.drop ((wrap64 ((ji25) + 1)) : Int).toNat : List (S54))).bind fun y246 => (if y243.length + y246.length < 4398046511104 then (chatelainelaw45_SplitBack.l0 k2 l0 a3 (y243 ++ y246) y232 l2 (l2.length : Int) (wrap64 (x68_2 + 1))) else (none))) else (none)) else (none)) = some r := by first | (rw [hy243]; with_reducible exact H) | (have H2_ := (Option.bind_some _ _).symm.trans H; rw [hy243]; with_reducible exact H2_) | (have H2_ := (Option.bind_some _ _).symm.trans H; with_reducible exact H2_) | with_reducible exact H | (rw [hy243]; exact H) | exact H
                                      have Ny243 := Aside0.mk hy243
                                      clear hy243
                                      obtain ⟨ji32, hji32⟩ : ∃ j_ : Int, (wrap64 ((ji25) + 1)) = j_ := ⟨_, rfl⟩
                                      replace H : (if 0 ≤ (ji32) then (if (ji32) ≤ (x13_2.length : Int) then ((some (x13_2.drop ((ji32) : Int).toNat : List (S54))).bind fun y246 => (if y243.length + y246.length < 4398046511104 then (chatelainelaw45_SplitBack.l0 k2 l0 a3 (y243 ++ y246) y232 l2 (l2.length : Int) (wrap64 (x68_2 + 1))) else (none))) else (none)) else (none)) = some r := by first | (rw [hji32] at H; exact H) | (simp only [hji32] at H ⊢; exact H)
                                      have hji32w : (IntKind.i64.wrap ((ji25) + 1)) = ji32 := (i64_w _).trans hji32
                                      by_cases c33 : 0 ≤ (ji32)
                                      · rw [if_pos c33] at H
                                        have c33b0 := eq_true c33
                                        have c33b1 : decide (0 ≤ (ji32)) = true := decide_eq_true c33
                                        clear c33
                                        by_cases c34 : (ji32) ≤ (x13_2.length : Int)
                                        · rw [if_pos c34] at H
                                          have c34b0 := eq_true c34
                                          have c34b1 : decide ((ji32) ≤ (x13_2.length : Int)) = true := decide_eq_true c34
                                          clear c34
                                          obtain ⟨y246, hy246⟩ : ∃ y_ : List (S54), y_ = (x13_2.drop ((ji32) : Int).toNat) := ⟨_, rfl⟩
                                          replace H : (if y243.length + y246.length < 4398046511104 then (chatelainelaw45_SplitBack.l0 k2 l0 a3 (y243 ++ y246) y232 l2 (l2.length : Int) (wrap64 (x68_2 + 1))) else (none)) = some r := by first | (rw [hy246]; with_reducible exact H) | (have H2_ := (Option.bind_some _ _).symm.trans H; rw [hy246]; with_reducible exact H2_) | (have H2_ := (Option.bind_some _ _).symm.trans H; with_reducible exact H2_) | with_reducible exact H | (rw [hy246]; exact H) | exact H
                                          have Ny246 := Aside0.mk hy246
                                          clear hy246
                                          by_cases c35 : y243.length + y246.length < 4398046511104
                                          · rw [if_pos c35] at H
                                            have LMc35 := Aside0.mk c35
                                            clear c35
                                            obtain ⟨y251, hy251⟩ : ∃ y_ : List (S54), y_ = (y243 ++ y246) := ⟨_, rfl⟩
                                            replace H : (chatelainelaw45_SplitBack.l0 k2 l0 a3 y251 y232 l2 (l2.length : Int) (wrap64 (x68_2 + 1))) = some r := by first | (rw [hy251]; with_reducible exact H) | (have H2_ := (Option.bind_some _ _).symm.trans H; rw [hy251]; with_reducible exact H2_) | (have H2_ := (Option.bind_some _ _).symm.trans H; with_reducible exact H2_) | with_reducible exact H | (rw [hy251]; exact H) | exact H
                                            have Ny251 := Aside0.mk hy251
                                            clear hy251
                                            have H' := Aside0.mk H
                                            clear H
                                            have p230 : 0 ≤ (x68_2 : Int) := of_decide_eq_true (by first | (with_reducible assumption) | assumption)
                                            have q230 : x68_2 < (l2.length : Int) := of_decide_eq_true (by first | (with_reducible assumption) | assumption)
                                            obtain ⟨ad230, e230, hx230_0⟩ := Kd.at_int HR2.out x68_2 p230 q230
                                            cases e230
                                            replace hx230_0 := (HB.out.cell (World.block_lt_of_cell? u _ hx230_0)).trans hx230_0
                                            replace p230 := eq_true p230
                                            replace q230 := eq_true q230
                                            obtain ⟨Ao36, co36, eo36⟩ := Kd.N_slice HO_13.out
                                            subst eo36
                                            have p231 : 0 ≤ ((ji25) : Int) := of_decide_eq_true (by first | (with_reducible assumption) | assumption)
                                            have q231 : (ji25) < (x13_2.length : Int) := of_decide_eq_true (by first | (with_reducible assumption) | assumption)
                                            obtain ⟨ad231, A231_1, c231_1, e231, hx231_0, hx231_1, hl231_1, hi231_1⟩ := at_T54 (Kd.N_reads' HO_13.out).2.2 (ji25) p231 q231
                                            cases e231
                                            obtain ⟨ce231, hce231, hMe231, hcc231⟩ := Kd.N_get HO_13.out z54 (ji25) p231 (by first | exact q231 | exact of_decide_eq_true (by first | (with_reducible assumption) | assumption) | (have e_ := (Kd.N_reads' HO_13.out).1; omega))
                                            obtain ⟨ua231_1, uc231_1, rfl, ul231_1, ge231_1⟩ := k54_openF hMe231
                                            have hv231_1 := hcc231 1 _ rfl
                                            rw [add_field _ _ 1 (by omega)] at hv231_1
                                            replace hv231_1 := Option.some.inj (hv231_1.symm.trans hx231_1)
                                            injection hv231_1 with hva_ hvn_ hvc_
                                            rw [hva_] at ge231_1
                                            rw [hvc_] at ul231_1
                                            have HL231_1 := Aside0.mk (show Kd.V (Kd.int .u8) 5 _ u.heap.size _ _ ((rd_T54 x13_2 (ji25)).f1) from Kd.V_mk ul231_1 ge231_1)
                                            clear hva_ hvn_ hvc_ ge231_1 ul231_1
                                            clear hcc231 hce231
                                            have HR231_1 := Aside0.mk hi231_1
                                            have HC231_1 := Aside0.mk hl231_1
                                            clear hi231_1 hl231_1
                                            replace p231 := eq_true p231
                                            replace q231 := eq_true q231
                                            try go_wp2_with (first | ((with_reducible refine gate_builtin (b := .append) (xs := #[.tmp 85, .tmp 90]) rfl ?_); (try (refine gate_guard (by rfl) ?_; dsimp only)); at_builtin; refine Kd.N_append k54 (w0 := u) u.heap.size rfl (.tmp 85) (.tmp 90) 49 54 (.agg #[(.int .u8 0), (.slice none 0 0)]) 32 rfl Try.underlying49 info54 rfl (by decide) (by omega) u14 x14_2 (⟨(rd_T54 x13_2 (ji25)).f0, (rd_T54 x13_2 (ji25)).f1⟩ : S54) [.int .u8 ((rd_T54 x13_2 (ji25)).f0), .slice A231_1 ((rd_T54 x13_2 (ji25)).f1).length c231_1] (fun k_ => (P1_ k_ ∨ u.heap.size ≤ k_) ∧ some k_ ≠ (.slice (some ad231) x13_2.length co36 : Value).ownBlock) (fun k_ => ((fun k_ => (P1_ k_ ∨ u.heap.size ≤ k_) ∧ some k_ ≠ (.slice (some ad231) x13_2.length co36 : Value).ownBlock)) k_ ∧ some k_ ≠ (u14 : Value).ownBlock) rfl rfl ?aP (fun _ hk => hk) ?aF ?aO ?aB ?aS ?aL ?_; (case aP => exact (k54_mkF _ _ (⟨(rd_T54 x13_2 (ji25)).f0, (rd_T54 x13_2 (ji25)).f1⟩ : S54) (Kd.V_reads' (Kd.V_mono (ok' := (fun k_ => ((fun k_ => (P1_ k_ ∨ u.heap.size ≤ k_) ∧ some k_ ≠ (.slice (some ad231) x13_2.length co36 : Value).ownBlock)) k_ ∧ some k_ ≠ (u14 : Value).ownBlock)) (HL231_1.out) (fun k_ hk => ⟨⟨hk.1.1, hk.2⟩, hk.1.2⟩))).2.1 (Kd.V_F (Kd.V_mono (ok' := (fun k_ => ((fun k_ => (P1_ k_ ∨ u.heap.size ≤ k_) ∧ some k_ ≠ (.slice (some ad231) x13_2.length co36 : Value).ownBlock)) k_ ∧ some k_ ≠ (u14 : Value).ownBlock)) (HL231_1.out) (fun k_ hk => ⟨⟨hk.1.1, hk.2⟩, hk.1.2⟩))))); (case aB => exact (by repeat (first | (with_reducible first | exact HB.out | apply below_alloc | apply pw_below_drewN | apply below_drew1) | exact HB.out))); (case aF => exact (fun k_ hk => ⟨(.inr (Nat.le_trans (below_size (by repeat (first | (with_reducible first | exact HB.out | apply below_alloc | apply pw_below_drewN | apply below_drew1) | exact HB.out))) hk)), Kd.fresh' (Kd.N_lt (by (with_reducible repeat (first | apply Kd.N_alloc | apply Kd.N_drewN | apply Kd.N_drew)); exact HO_13.out)) k_ hk⟩)); (case aO => exact (by (with_reducible repeat (first | apply Kd.N_alloc | apply Kd.N_drewN | apply Kd.N_drew)); exact HO_14.out)); (case aS => exact (below_size (by repeat (first | (with_reducible first | exact HB.out | apply below_alloc | apply pw_below_drewN | apply below_drew1) | exact HB.out)))); (case aL => have := LMc28.out; omega); intro v233 w37 ho hb hg hat; rw [← Ny232.out] at ho; have n0_ := Aside0.mk (Kd.N_afterv (ok := (fun k_ => (P1_ k_ ∨ u.heap.size ≤ k_))) (by (with_reducible repeat (first | apply Kd.N_alloc | apply Kd.N_drewN | apply Kd.N_drew)); exact HO_13.out) hg hat); have n1_ := Aside0.mk (Kd.V_afterv (ok := (fun k_ => (P1_ k_ ∨ u.heap.size ≤ k_) ∧ some k_ ≠ (.slice (some ad231) x13_2.length co36 : Value).ownBlock)) (by (with_reducible repeat (first | apply Kd.V_alloc | apply Kd.V_drewN | apply Kd.V_drew)); exact Kd.V_mono HL231_1.out (fun _ hk => ⟨⟨hk.1.1, hk.2⟩, hk.1.2⟩)) hg hat); have n2_ := Aside0.mk (hb); have n3_ := Aside0.mk (ho); clear HO_13; clear HL231_1; clear HB; clear HO_14; have HO_13 := n0_; have HL231_1 := n1_; have HB := n2_; have HO234 := n3_; clear n0_ n1_ n2_ n3_; clear ho hb hg hat))
                                            have n0_ := Aside0.mk (Kd.N_drew HO_13.out)
                                            have n1_ := Aside0.mk (Kd.V_drew HL231_1.out)
                                            have n2_ := Aside0.mk (Kd.N_drew HO234.out)
                                            have n3_ := Aside0.mk (below_drew1 HB.out)
                                            clear HO_13
                                            clear HL231_1
                                            clear HO234
                                            clear HB
                                            have HO_13 := n0_
                                            have HL231_1 := n1_
                                            have HO234 := n2_
                                            have HB := n3_
                                            clear n0_ n1_ n2_ n3_
                                            have q39 : ((ji25) : Int) ≤ ((x13_2.length : Int) : Int) := of_decide_eq_true (by first | (with_reducible assumption) | assumption)
                                            obtain ⟨i039, hi039, _, hsz39, _⟩ := info_parts info54
                                            have hroom39 : x13_2.length ≤ co36 := (Kd.N_reads' HO_13.out).2.1
                                            have hC39 : Kd.F k54 _ _ (some ad231) x13_2.length x13_2 := (Kd.V_at (base := u.heap.size) (Kd.N_V HO_13.out)).2.2
                                            have hcut39 := cut_to (P := Try.prog) 49 54 .i64 Try.underlying49 hi039 (some ad231) x13_2.length co36 (ji25) (of_decide_eq_true (by first | (with_reducible assumption) | assumption)) q39 hroom39
                                            have hr39 := Kd.F_take (m := ((ji25) : Int).toNat) hC39 (by omega)
                                            have hy39 : y238.length = ((ji25) : Int).toNat := (by rw [Ny238.out, List.length_take]; omega)
                                            rw [← Ny238.out] at hr39
                                            rw [← hy39] at hcut39
                                            have HO242 := Aside0.mk (show Kd.V k54 54 _ u.heap.size _ (.slice (some ad231) y238.length co36) y238 from Kd.V_mk (by omega) hr39)
                                            have HC242 := Aside0.mk (show y238.length ≤ co36 from by omega)
                                            clear hr39 hC39 hroom39 hi039 hsz39
                                            have KY39 := Aside0.mk hy39
                                            clear hy39
                                            replace q39 := eq_true q39
                                            have q40 : ((ji32) : Int) ≤ ((x13_2.length : Int) : Int) := of_decide_eq_true (by first | (with_reducible assumption) | assumption)
                                            obtain ⟨i040, hi040, _, hsz40, _⟩ := info_parts info54
                                            have hroom40 : x13_2.length ≤ co36 := (Kd.N_reads' HO_13.out).2.1
                                            have hC40 : Kd.F k54 _ _ (some ad231) x13_2.length x13_2 := (Kd.V_at (base := u.heap.size) (Kd.N_V HO_13.out)).2.2
                                            have q040 : (0 : Int) ≤ ((ji32) : Int) := of_decide_eq_true (by first | (with_reducible assumption) | assumption)
                                            have hcut40 := cut_from (P := Try.prog) 49 54 .i64 Try.underlying49 hi040 2 hsz40 (some ad231) x13_2.length co36 (ji32) q040 q40
                                            have hr40 := Kd.F_cut (m := ((ji32) : Int).toNat) (c := co36) hC40 (by omega) hroom40
                                            obtain ⟨A40, hA40⟩ : ∃ A1, A1 = (if co36 = ((ji32) : Int).toNat then (some ad231) else ((some ad231) : Option Addr).map (·.add (((ji32) : Int).toNat * 2))) := ⟨_, rfl⟩
                                            obtain ⟨c40, hc40⟩ : ∃ c1, c1 = co36 - ((ji32) : Int).toNat := ⟨_, rfl⟩
                                            have hy40 : y246.length = x13_2.length - ((ji32) : Int).toNat := (by rw [Ny246.out, List.length_drop] <;> omega)
                                            rw [show (x13_2).drop ((ji32) : Int).toNat = y246 from Ny246.out.symm] at hr40
                                            replace hr40 : Kd.F k54 _ _ A40 y246.length y246 := (by rw [hA40]; exact hr40)
                                            rw [← hy40, ← hA40, ← hc40] at hcut40
                                            have HO250 := Aside0.mk (show Kd.V k54 54 _ u.heap.size _ (.slice A40 y246.length c40) y246 from Kd.V_mk (by rw [hy40, hc40]; exact Nat.sub_le_sub_right hroom40 _) hr40)
                                            have HC250 := Aside0.mk (show y246.length ≤ c40 from by rw [hy40, hc40]; exact Nat.sub_le_sub_right hroom40 _)
                                            clear hr40 hC40 hroom40 hi040 hsz40 hc40
                                            have KY40 := Aside0.mk hy40
                                            have KA40 := Aside0.mk hA40
                                            clear hy40 hA40
                                            replace q40 := eq_true q40
                                            refine start_ (n := 11) (S := fun w' => True) (ds := []) #[false, false, false, false, false, false, false, false, false, false, false] (by kernel_rfl) rfl rfl trivial (fun hHeld => ?_); refine with_tabW chatelainelaw45_SplitBack.tab19 chatelainelaw45_SplitBack.bits19 (fun HT_ HW_ => ?_)
                                            generalize w37.drew = w38 at HO_13 HL231_1 HO234 HB HO242 HO250 hHeld ⊢
                                            refine pure_ (i := 1) (N := some 93) (v := ?_) (a' := ?_) #[false, true, false, false, false, false, false, false, false, false, false] rfl rfl (any_of HT_.out (by kernel_rfl)) (fun _ _ _ h => h) (Or.inl ⟨by rfl, ?_⟩) ?_ ?_
                                            rotate_left
                                            · intro w'
                                              go_simp
                                              with_reducible rfl
                                            rotate_left
                                            · simp only [Act.put, List.setIfInBounds_toArray, List.set_cons_zero, List.set_cons_succ, i64_w, i32_w]
                                              rfl
                                            refine pure_ (i := 2) (N := some 94) (v := ?_) (a' := ?_) #[false, true, true, false, false, false, false, false, false, false, false] rfl rfl (any_of HT_.out (by kernel_rfl)) (fun _ _ _ h => h) (Or.inl ⟨by rfl, ?_⟩) ?_ ?_
                                            rotate_left
                                            · intro w'
                                              go_simp
                                              with_reducible rfl
                                            rotate_left
                                            · simp only [Act.put, List.setIfInBounds_toArray, List.set_cons_zero, List.set_cons_succ, i64_w, i32_w]
                                              rfl
                                            refine pure_ (i := 3) (N := some 95) (v := ?_) (a' := ?_) #[false, true, true, true, false, false, false, false, false, false, false] rfl rfl (any_of HT_.out (by kernel_rfl)) (fun _ _ _ h => h) (Or.inl ⟨by rfl, ?_⟩) ?_ ?_
                                            rotate_left
                                            · intro w'
                                              go_simp
                                              with_reducible rfl
                                            rotate_left
                                            · simp only [Act.put, List.setIfInBounds_toArray, List.set_cons_zero, List.set_cons_succ, i64_w, i32_w]
                                              rfl
                                            refine pure_ (i := 5) (N := some 97) (v := ?_) (a' := ?_) #[false, true, true, true, false, true, false, false, false, false, false] rfl rfl (any_of HT_.out (by kernel_rfl)) (fun _ _ _ h => h) (Or.inl ⟨by rfl, ?_⟩) ?_ ?_
                                            rotate_left
                                            · intro w'
                                              go_simp
                                              with_reducible rfl
                                            rotate_left
                                            · simp only [Act.put, List.setIfInBounds_toArray, List.set_cons_zero, List.set_cons_succ, i64_w, i32_w]
                                              rfl
                                            refine pure_ (i := 6) (N := some 98) (v := ?_) (a' := ?_) #[false, true, true, true, false, true, true, false, false, false, false] rfl rfl (any_of HT_.out (by kernel_rfl)) (fun _ _ _ h => h) (Or.inl ⟨by rfl, ?_⟩) ?_ ?_
                                            rotate_left
                                            · intro w'
                                              go_simp
                                              with_reducible rfl
                                            rotate_left
                                            · simp only [Act.put, List.setIfInBounds_toArray, List.set_cons_zero, List.set_cons_succ, i64_w, i32_w]
                                              rfl
                                            refine pure_ (i := 7) (N := some 99) (v := ?_) (a' := ?_) #[false, true, true, true, false, true, true, true, false, false, false] rfl rfl (any_of HT_.out (by kernel_rfl)) (fun _ _ _ h => h) (Or.inl ⟨by rfl, ?_⟩) ?_ ?_
                                            rotate_left
                                            · intro w'
                                              go_simp
                                              with_reducible rfl
                                            rotate_left
                                            · simp only [Act.put, List.setIfInBounds_toArray, List.set_cons_zero, List.set_cons_succ, i64_w, i32_w]
                                              rfl
                                            refine pure_ (i := 8) (N := some 100) (v := ?_) (a' := ?_) #[false, true, true, true, false, true, true, true, true, false, false] rfl rfl (any_of HT_.out (by kernel_rfl)) (fun _ _ _ h => h) (Or.inl ⟨by rfl, ?_⟩) ?_ ?_
                                            rotate_left
                                            · intro w'
                                              go_simp
                                              with_reducible rfl
                                            rotate_left
                                            · simp only [Act.put, List.setIfInBounds_toArray, List.set_cons_zero, List.set_cons_succ, i64_w, i32_w]
                                              rfl
                                            refine one_ (i := 0) (N := some 92) #[true, true, true, true, false, true, true, true, true, false, false] rfl rfl (one_of HT_.out (by kernel_rfl)) (by decide) (fun K hK => ?_)
                                            refine Kd.N_lit_step k54 _ 54 ?hg (N' := 92) ?hd (xs := ([] : List (S54))) (inner := []) (ok := (fun k_ => (P1_ k_ ∨ u.heap.size ≤ k_) ∧ some k_ ≠ (.slice (some ad231) x13_2.length co36 : Value).ownBlock ∧ some k_ ≠ (v233 : Value).ownBlock)) (okp := (fun k_ => (P1_ k_ ∨ u.heap.size ≤ k_) ∧ some k_ ≠ (.slice (some ad231) x13_2.length co36 : Value).ownBlock ∧ some k_ ≠ (v233 : Value).ownBlock)) ?hr ?hp (fun _ hk => hk) ((show ∀ k_, w38.heap.size ≤ k_ → (fun k_ => (P1_ k_ ∨ u.heap.size ≤ k_) ∧ some k_ ≠ (.slice (some ad231) x13_2.length co36 : Value).ownBlock ∧ some k_ ≠ (v233 : Value).ownBlock) k_ from fun k_ hk => ⟨(.inr (Nat.le_trans (below_size (by repeat (first | (with_reducible first | exact HB.out | apply below_alloc | apply pw_below_drewN | apply below_drew1) | exact HB.out))) hk)), Kd.fresh' (Kd.N_lt (by (with_reducible repeat (first | apply Kd.N_alloc | apply Kd.N_drewN | apply Kd.N_drew)); exact HO_13.out)) k_ hk, Kd.fresh' (Kd.N_lt (by (with_reducible repeat (first | apply Kd.N_alloc | apply Kd.N_drewN | apply Kd.N_drew)); exact HO234.out)) k_ hk⟩) _ (Nat.le_refl _)) (Below.refl _ _) (Nat.le_refl _) (by simp) ?_; (case hd => rfl); (case hg => rfl); (case hr => first | (go_simp; done) | (go_simp; rfl)); (case hp => exact (Reps.none _ _))
                                            intro v236 w41 ho42 hb hg_ hnew_
                                            clear hg_ hnew_
                                            (first | rw [← Ny235.out] at ho42 | (simp only [Int.reduceToNat] at ho42; rw [← Ny235.out] at ho42))
                                            have n0_ := Aside0.mk (Kd.N_elder' (by (with_reducible repeat (first | apply Kd.N_alloc | apply Kd.N_drewN | apply Kd.N_drew)); exact HO_13.out) (Kd.N_base ho42) hb)
                                            have n1_ := Aside0.mk (Kd.V_elder' (by (with_reducible repeat (first | apply Kd.V_alloc | apply Kd.V_drewN | apply Kd.V_drew)); exact HL231_1.out) (Kd.N_base ho42) hb)
                                            have n2_ := Aside0.mk (Kd.N_elder' (by (with_reducible repeat (first | apply Kd.N_alloc | apply Kd.N_drewN | apply Kd.N_drew)); exact HO234.out) (Kd.N_base ho42) hb)
                                            have n3_ := Aside0.mk (Kd.V_elder' (by (with_reducible repeat (first | apply Kd.V_alloc | apply Kd.V_drewN | apply Kd.V_drew)); exact HO242.out) (Kd.N_base ho42) hb)
                                            have n4_ := Aside0.mk (Kd.V_elder' (by (with_reducible repeat (first | apply Kd.V_alloc | apply Kd.V_drewN | apply Kd.V_drew)); exact HO250.out) (Kd.N_base ho42) hb)
                                            have n5_ := Aside0.mk (Kd.N_lower ho42 (below_size (by repeat (first | (with_reducible first | exact HB.out | apply below_alloc | apply pw_below_drewN | apply below_drew1) | exact HB.out))))
                                            have n6_ := Aside0.mk (below_step (by repeat (first | (with_reducible first | exact HB.out | apply below_alloc | apply pw_below_drewN | apply below_drew1) | exact HB.out)) hb)
                                            clear HO_13
                                            clear HL231_1
                                            clear HO234
                                            clear HO242
                                            clear HO250
                                            clear HB
                                            have HO_13 := n0_
                                            have HL231_1 := n1_
                                            have HO234 := n2_
                                            have HO242 := n3_
                                            have HO250 := n4_
                                            have HO237 := n5_
                                            have HB := n6_
                                            clear n0_ n1_ n2_ n3_ n4_ n5_ n6_
                                            clear hb ho42
                                            refine hK.out _ _ trivial (fun hHeld => ?_)
                                            clear hK K
                                            refine norm_ (a' := ?_) ?_ ?_
                                            rotate_left
                                            · show Act.put _ (some 92) _ = _
                                              simp only [Act.put, List.setIfInBounds_toArray, List.set_cons_zero, List.set_cons_succ, i64_w, i32_w]
                                              rfl
                                            refine one_ (i := 4) (N := some 96) #[true, true, true, true, true, true, true, true, true, false, false] rfl rfl (one_of HT_.out (by kernel_rfl)) (by decide) (fun K hK => ?_)
                                            refine Kd.N_append_rows_step k54 (w0 := u) u.heap.size (by rfl) (.tmp 92) (.tmp 95) 49 54 (.agg #[(.int .u8 0), (.slice none 0 0)]) 32 rfl Try.underlying49 info54 rfl (by decide) (by omega) v236 y235 y238 _ _ _ (fun k_ => (P1_ k_ ∨ u.heap.size ≤ k_) ∧ some k_ ≠ (v233 : Value).ownBlock) (fun k_ => ((fun k_ => (P1_ k_ ∨ u.heap.size ≤ k_) ∧ some k_ ≠ (v233 : Value).ownBlock)) k_ ∧ some k_ ≠ (v236 : Value).ownBlock) rfl rfl ?aO ?aR (fun _ hk => hk) ?aF ?aB ?aS ?aL ?_
                                            (case aR => exact (by skip; exact Kd.V_F (Kd.V_mono (ok' := (fun k_ => ((fun k_ => (P1_ k_ ∨ u.heap.size ≤ k_) ∧ some k_ ≠ (v233 : Value).ownBlock)) k_ ∧ some k_ ≠ (v236 : Value).ownBlock)) (HO242.out) (fun k_ hk => ⟨⟨hk.1.1, hk.1.2⟩, hk.2⟩))))
                                            (case aB => exact (by repeat (first | (with_reducible first | exact HB.out | apply below_alloc | apply pw_below_drewN | apply below_drew1) | exact HB.out)))
                                            (case aF => exact (fun k_ hk => ⟨(.inr (Nat.le_trans (below_size (by repeat (first | (with_reducible first | exact HB.out | apply below_alloc | apply pw_below_drewN | apply below_drew1) | exact HB.out))) hk)), Kd.fresh' (Kd.N_lt (by (with_reducible repeat (first | apply Kd.N_alloc | apply Kd.N_drewN | apply Kd.N_drew)); exact HO234.out)) k_ hk⟩))
                                            (case aO => exact (by (with_reducible repeat (first | apply Kd.N_alloc | apply Kd.N_drewN | apply Kd.N_drew)); exact Kd.N_mono HO237.out (fun _ hk => ⟨hk.1, hk.2.2⟩)))
                                            (case aS => exact (below_size (by repeat (first | (with_reducible first | exact HB.out | apply below_alloc | apply pw_below_drewN | apply below_drew1) | exact HB.out))))
                                            (case aL => have := LMc31.out; omega)
                                            intro v244 w43 ho hb hg hat
                                            rw [← Ny243.out] at ho
                                            have n0_ := Aside0.mk (Kd.N_afterv (ok := (fun k_ => (P1_ k_ ∨ u.heap.size ≤ k_) ∧ some k_ ≠ (v233 : Value).ownBlock)) (by (with_reducible repeat (first | apply Kd.N_alloc | apply Kd.N_drewN | apply Kd.N_drew)); exact HO_13.out) hg hat)
                                            have n1_ := Aside0.mk (Kd.V_afterv (ok := (fun k_ => (P1_ k_ ∨ u.heap.size ≤ k_) ∧ some k_ ≠ (.slice (some ad231) x13_2.length co36 : Value).ownBlock ∧ some k_ ≠ (v233 : Value).ownBlock)) (by (with_reducible repeat (first | apply Kd.V_alloc | apply Kd.V_drewN | apply Kd.V_drew)); exact Kd.V_mono HL231_1.out (fun _ hk => ⟨⟨hk.1.1.1, ⟨hk.1.1.2, hk.1.2⟩⟩, hk.2⟩)) hg hat)
                                            have n2_ := Aside0.mk (Kd.N_afterv (ok := (fun k_ => (P1_ k_ ∨ u.heap.size ≤ k_) ∧ some k_ ≠ (.slice (some ad231) x13_2.length co36 : Value).ownBlock)) (by (with_reducible repeat (first | apply Kd.N_alloc | apply Kd.N_drewN | apply Kd.N_drew)); exact HO234.out) hg hat)
                                            have n3_ := Aside0.mk (Kd.V_afterv (ok := (fun k_ => (P1_ k_ ∨ u.heap.size ≤ k_) ∧ some k_ ≠ (v233 : Value).ownBlock)) (by (with_reducible repeat (first | apply Kd.V_alloc | apply Kd.V_drewN | apply Kd.V_drew)); exact HO242.out) hg hat)
                                            have n4_ := Aside0.mk (Kd.V_afterv (ok := (fun k_ => (P1_ k_ ∨ u.heap.size ≤ k_) ∧ some k_ ≠ (v233 : Value).ownBlock)) (by (with_reducible repeat (first | apply Kd.V_alloc | apply Kd.V_drewN | apply Kd.V_drew)); exact HO250.out) hg hat)
                                            have n5_ := Aside0.mk (hb)
                                            have n6_ := Aside0.mk (ho)
                                            clear HO_13
                                            clear HL231_1
                                            clear HO234
                                            clear HO242
                                            clear HO250
                                            clear HB
                                            clear HO237
                                            have HO_13 := n0_
                                            have HL231_1 := n1_
                                            have HO234 := n2_
                                            have HO242 := n3_
                                            have HO250 := n4_
                                            have HB := n5_
                                            have HO245 := n6_
                                            clear n0_ n1_ n2_ n3_ n4_ n5_ n6_
                                            clear ho hb hg hat
                                            refine hK.out _ _ trivial (fun hHeld => ?_)
                                            clear hK K
                                            refine norm_ (a' := ?_) ?_ ?_
                                            rotate_left
                                            · show Act.put _ (some 96) _ = _
                                              simp only [Act.put, List.setIfInBounds_toArray, List.set_cons_zero, List.set_cons_succ, i64_w, i32_w]
                                              rfl
                                            refine one_ (i := 9) (N := some 101) #[true, true, true, true, true, true, true, true, true, true, false] rfl rfl (one_of HT_.out (by kernel_rfl)) (by decide) (fun K hK => ?_)
                                            refine Kd.N_append_rows_step k54 (w0 := u) u.heap.size (by rfl) (.tmp 96) (.tmp 100) 49 54 (.agg #[(.int .u8 0), (.slice none 0 0)]) 32 rfl Try.underlying49 info54 rfl (by decide) (by omega) v244 y243 y246 _ _ _ (fun k_ => (P1_ k_ ∨ u.heap.size ≤ k_) ∧ some k_ ≠ (v233 : Value).ownBlock) (fun k_ => ((fun k_ => (P1_ k_ ∨ u.heap.size ≤ k_) ∧ some k_ ≠ (v233 : Value).ownBlock)) k_ ∧ some k_ ≠ (v244 : Value).ownBlock) rfl rfl ?aO ?aR (fun _ hk => hk) ?aF ?aB ?aS ?aL ?_
                                            (case aR => exact (by skip; exact Kd.V_F (Kd.V_mono (ok' := (fun k_ => ((fun k_ => (P1_ k_ ∨ u.heap.size ≤ k_) ∧ some k_ ≠ (v233 : Value).ownBlock)) k_ ∧ some k_ ≠ (v244 : Value).ownBlock)) (HO250.out) (fun k_ hk => ⟨⟨hk.1.1, hk.1.2⟩, hk.2⟩))))
                                            (case aB => exact (by repeat (first | (with_reducible first | exact HB.out | apply below_alloc | apply pw_below_drewN | apply below_drew1) | exact HB.out)))
                                            (case aF => exact (fun k_ hk => ⟨(.inr (Nat.le_trans (below_size (by repeat (first | (with_reducible first | exact HB.out | apply below_alloc | apply pw_below_drewN | apply below_drew1) | exact HB.out))) hk)), Kd.fresh' (Kd.N_lt (by (with_reducible repeat (first | apply Kd.N_alloc | apply Kd.N_drewN | apply Kd.N_drew)); exact HO234.out)) k_ hk⟩))
                                            (case aO => exact (by (with_reducible repeat (first | apply Kd.N_alloc | apply Kd.N_drewN | apply Kd.N_drew)); exact HO245.out))
                                            (case aS => exact (below_size (by repeat (first | (with_reducible first | exact HB.out | apply below_alloc | apply pw_below_drewN | apply below_drew1) | exact HB.out))))
                                            (case aL => have := LMc35.out; omega)
                                            intro v252 w44 ho hb hg hat
                                            rw [← Ny251.out] at ho
                                            have n0_ := Aside0.mk (Kd.N_afterv (ok := (fun k_ => (P1_ k_ ∨ u.heap.size ≤ k_) ∧ some k_ ≠ (v233 : Value).ownBlock)) (by (with_reducible repeat (first | apply Kd.N_alloc | apply Kd.N_drewN | apply Kd.N_drew)); exact HO_13.out) hg hat)
                                            have n1_ := Aside0.mk (Kd.V_afterv (ok := (fun k_ => (P1_ k_ ∨ u.heap.size ≤ k_) ∧ some k_ ≠ (.slice (some ad231) x13_2.length co36 : Value).ownBlock ∧ some k_ ≠ (v233 : Value).ownBlock)) (by (with_reducible repeat (first | apply Kd.V_alloc | apply Kd.V_drewN | apply Kd.V_drew)); exact HL231_1.out) hg hat)
                                            have n2_ := Aside0.mk (Kd.N_afterv (ok := (fun k_ => (P1_ k_ ∨ u.heap.size ≤ k_) ∧ some k_ ≠ (.slice (some ad231) x13_2.length co36 : Value).ownBlock)) (by (with_reducible repeat (first | apply Kd.N_alloc | apply Kd.N_drewN | apply Kd.N_drew)); exact HO234.out) hg hat)
                                            have n3_ := Aside0.mk (Kd.V_afterv (ok := (fun k_ => (P1_ k_ ∨ u.heap.size ≤ k_) ∧ some k_ ≠ (v233 : Value).ownBlock)) (by (with_reducible repeat (first | apply Kd.V_alloc | apply Kd.V_drewN | apply Kd.V_drew)); exact HO242.out) hg hat)
                                            have n4_ := Aside0.mk (Kd.V_afterv (ok := (fun k_ => (P1_ k_ ∨ u.heap.size ≤ k_) ∧ some k_ ≠ (v233 : Value).ownBlock)) (by (with_reducible repeat (first | apply Kd.V_alloc | apply Kd.V_drewN | apply Kd.V_drew)); exact HO250.out) hg hat)
                                            have n5_ := Aside0.mk (hb)
                                            have n6_ := Aside0.mk (ho)
                                            clear HO_13
                                            clear HL231_1
                                            clear HO234
                                            clear HO242
                                            clear HO250
                                            clear HB
                                            clear HO245
                                            have HO_13 := n0_
                                            have HL231_1 := n1_
                                            have HO234 := n2_
                                            have HO242 := n3_
                                            have HO250 := n4_
                                            have HB := n5_
                                            have HO253 := n6_
                                            clear n0_ n1_ n2_ n3_ n4_ n5_ n6_
                                            clear ho hb hg hat
                                            refine hK.out _ _ trivial (fun hHeld => ?_)
                                            clear hK K
                                            refine norm_ (a' := ?_) ?_ ?_
                                            rotate_left
                                            · show Act.put _ (some 101) _ = _
                                              simp only [Act.put, List.setIfInBounds_toArray, List.set_cons_zero, List.set_cons_succ, i64_w, i32_w]
                                              rfl
                                            refine pure_ (i := 10) (N := some 13) (v := ?_) (a' := ?_) #[true, true, true, true, true, true, true, true, true, true, true] rfl rfl (any_of HT_.out (by kernel_rfl)) (fun _ _ _ h => h) (Or.inl ⟨by rfl, ?_⟩) ?_ ?_
                                            rotate_left
                                            · intro w'
                                              go_simp
                                              with_reducible rfl
                                            rotate_left
                                            · simp only [Act.put, List.setIfInBounds_toArray, List.set_cons_zero, List.set_cons_succ, i64_w, i32_w]
                                              rfl
                                            refine done_ (done_of HT_.out (by kernel_rfl)) ?_
                                            try go_wp2
                                            go_roundg k2
                                            case measure => have := HJ8.out; have := HK2.out; omega
                                            case rel => exact ⟨(y251), (y232), (wrap64 (x68_2 + 1)), (by first | rfl | (simp; done) | (simp [*]; done)), H', ⟨by have := HJ8.out; have := HK2.out; omega⟩, ⟨by (with_reducible repeat (first | apply Kd.N_alloc | apply Kd.N_drewN | apply Kd.N_drew)); exact HO253.out⟩, ⟨by (with_reducible repeat (first | apply Kd.N_alloc | apply Kd.N_drewN | apply Kd.N_drew)); exact Kd.N_mono HO234.out (fun _ hk => ⟨hk.1.1, hk.2⟩)⟩, ⟨by repeat (first | (with_reducible first | exact HB.out | apply below_alloc | apply pw_below_drewN | apply below_drew1) | exact HB.out)⟩⟩
                                          · rw [if_neg c35] at H
                                            exact absurd H (by simp)
                                        · rw [if_neg c34] at H
                                          exact absurd H (by simp)
                                      · rw [if_neg c33] at H
                                        exact absurd H (by simp)
                                    · rw [if_neg c31] at H
                                      exact absurd H (by simp)
                                  · rw [if_neg c30] at H
                                    exact absurd H (by simp)
                                · rw [if_neg c28] at H
                                  exact absurd H (by simp)
                              · rw [if_neg c27] at H
                                exact absurd H (by simp)
                            · rw [if_neg c26] at H
                              exact absurd H (by simp)
                        · rw [if_neg c22] at H
                          exact absurd H (by simp)
                      · rw [if_neg c21] at H
                        exact absurd H (by simp)
                    · rw [if_neg c20] at H
                      have c20b0 : decide (x68_2 < (l2.length : Int)) = false := decide_eq_false c20
                      clear c20
                      (first | rw [c20b0] | (simp only [i64_w, i32_w]; rw [c20b0]) | skip)
                      have H' := Aside0.mk H
                      clear H
                      go_wp2
                      go_meet
                      case rel => exact ⟨_, (x14_2), H', ⟨by have := HJ8.out; have := HK2.out; first | omega | exact Nat.le_refl _⟩, ⟨by (with_reducible repeat (first | apply Kd.N_alloc | apply Kd.N_drewN | apply Kd.N_drew)); exact Kd.N_mono HO_14.out (fun _ hk => hk.1)⟩, ⟨by repeat (first | (with_reducible first | exact HB.out | apply below_alloc | apply pw_below_drewN | apply below_drew1) | exact HB.out)⟩⟩
              case rest =>
                clear HC16
                try clear c1
                try clear c2
                try clear p2
                try clear q2
                try clear hx2
                try clear c3
                try clear q3
                try clear c4
                try clear q4
                try clear c5
                try clear p6
                try clear c8
                try clear c12
                try clear c13
                try clear c14
                try clear c14b0
                try clear c14b1
                try clear c15
                try clear c20
                try clear c20b0
                try clear c21
                try clear c21b0
                try clear c22
                try clear c22b0
                try clear c23
                try clear c23b0
                try clear c23b1
                try clear c23b2
                try clear p23
                try clear q23
                try clear hx23
                try clear c26
                try clear c26b0
                try clear c27
                try clear c27b0
                try clear c28
                try clear c29
                try clear c29b0
                try clear c30
                try clear c30b0
                try clear c30b1
                try clear c31
                try clear c33
                try clear c33b0
                try clear c33b1
                try clear c34
                try clear c34b0
                try clear c34b1
                try clear c35
                try clear q39
                try clear c40
                try clear q40
                try clear hx230_0
                try clear hx231_0
                try clear hx231_1
                try clear p2
                try clear p230
                try clear p231
                try clear q040
                try clear q230
                try clear q231
                try clear q39
                try clear q40
                obtain ⟨kq, x14_15, HA, HJ15, HO_14, HB⟩ := hcut
                cases kq with
                | zero => exact absurd HA.out (by simp [chatelainelaw45_SplitBack.j2])
                | succ kj15 =>
                  have H := HA.out
                  clear HA
                  simp only [chatelainelaw45_SplitBack.j2] at H
                  by_cases c45 : (x14_15.length : Int) < a3
                  · rw [if_pos c45] at H
                    have c45b0 : decide ((x14_15.length : Int) < a3) = true := decide_eq_true c45
                    clear c45
                    obtain rfl := Option.some.inj H
                    obtain ⟨Ao46, co46, eo46⟩ := Kd.N_slice HO_14.out
                    subst eo46
                    go_wp2
                    go_ret
                    exact ⟨by first | rfl | (simp [errW_none, errW_some] <;> rfl) | (simp [*, errW_none, errW_some] <;> rfl), below_step HW.out (below_step HV.out (by repeat (first | (with_reducible first | exact HB.out | apply below_alloc | apply pw_below_drewN | apply below_drew1) | exact HB.out)))⟩
                  · rw [if_neg c45] at H
                    have c45b0 : decide ((x14_15.length : Int) < a3) = false := decide_eq_false c45
                    clear c45
                    replace H := Option.bind_eq_some_iff.mp H
                    obtain ⟨⟨t254, t255⟩, A470, H⟩ := H
                    replace H : ((split_Fits.f kj15 x14_15 a3).bind fun bt258 => (if 0 ≤ a3 then (if a3 ≤ (x14_15.length : Int) then (if 0 ≤ (wrap64 ((x14_15.length : Int) - 1)) then (if (wrap64 ((x14_15.length : Int) - 1)) < (x14_15.length : Int) then ((split_At.f kj15 (x14_15.take (a3 : Int).toNat) ((rd_T54 x14_15 (wrap64 ((x14_15.length : Int) - 1))).f0)).bind fun bt266 => (if t255 = 0 then ((chatelaineref01_Same.f kj15 t254 l0).bind fun t270 => (if t270 = true then (if bt258.2 = 0 then (if bt258.1 = true then (if bt266.2 = 0 then ((chatelaineref01_Same.f kj15 bt266.1 ((rd_T54 x14_15 (wrap64 ((x14_15.length : Int) - 1))).f1)).bind fun t272 => (some t272)) else (some false)) else (some false)) else (some false)) else (some false))) else (some false))) else (none)) else (none)) else (none)) else (none))) = some r := H
                    have A47 := Aside0.mk A470
                    clear A470
                    replace H := Option.bind_eq_some_iff.mp H
                    obtain ⟨⟨t258, t259⟩, A480, H⟩ := H
                    replace H : (if 0 ≤ a3 then (if a3 ≤ (x14_15.length : Int) then (if 0 ≤ (wrap64 ((x14_15.length : Int) - 1)) then (if (wrap64 ((x14_15.length : Int) - 1)) < (x14_15.length : Int) then ((split_At.f kj15 (x14_15.take (a3 : Int).toNat) ((rd_T54 x14_15 (wrap64 ((x14_15.length : Int) - 1))).f0)).bind fun bt266 => (if t255 = 0 then ((chatelaineref01_Same.f kj15 t254 l0).bind fun t270 => (if t270 = true then (if t259 = 0 then (if t258 = true then (if bt266.2 = 0 then ((chatelaineref01_Same.f kj15 bt266.1 ((rd_T54 x14_15 (wrap64 ((x14_15.length : Int) - 1))).f1)).bind fun t272 => (some t272)) else (some false)) else (some false)) else (some false)) else (some false))) else (some false))) else (none)) else (none)) else (none)) else (none)) = some r := H
                    have A48 := Aside0.mk A480
                    clear A480
                    by_cases c49 : 0 ≤ a3
                    · rw [if_pos c49] at H
                      have c49b0 := eq_true c49
                      have c49b1 : decide (0 ≤ a3) = true := decide_eq_true c49
                      clear c49
                      by_cases c50 : a3 ≤ (x14_15.length : Int)
                      · rw [if_pos c50] at H
                        have c50b0 := eq_true c50
                        have c50b1 : decide (a3 ≤ (x14_15.length : Int)) = true := decide_eq_true c50
                        clear c50
                        obtain ⟨y260, hy260⟩ : ∃ y_ : List (S54), y_ = (x14_15.take (a3 : Int).toNat) := ⟨_, rfl⟩
                        replace H : (if 0 ≤ (wrap64 ((x14_15.length : Int) - 1)) then (if (wrap64 ((x14_15.length : Int) - 1)) < (x14_15.length : Int) then ((split_At.f kj15 y260 ((rd_T54 x14_15 (wrap64 ((x14_15.length : Int) - 1))).f0)).bind fun bt266 => (if t255 = 0 then ((chatelaineref01_Same.f kj15 t254 l0).bind fun t270 => (if t270 = true then (if t259 = 0 then (if t258 = true then (if bt266.2 = 0 then ((chatelaineref01_Same.f kj15 bt266.1 ((rd_T54 x14_15 (wrap64 ((x14_15.length : Int) - 1))).f1)).bind fun t272 => (some t272)) else (some false)) else (some false)) else (some false)) else (some false))) else (some false))) else (none)) else (none)) = some r := by first | (rw [hy260]; with_reducible exact H) | (have H2_ := (Option.bind_some _ _).symm.trans H; rw [hy260]; with_reducible exact H2_) | (have H2_ := (Option.bind_some _ _).symm.trans H; with_reducible exact H2_) | with_reducible exact H | (rw [hy260]; exact H) | exact H
                        have Ny260 := Aside0.mk hy260
                        clear hy260
                        obtain ⟨ji51, hji51⟩ : ∃ j_ : Int, (wrap64 ((x14_15.length : Int) - 1)) = j_ := ⟨_, rfl⟩
                        replace H : (if 0 ≤ (ji51) then (if (ji51) < (x14_15.length : Int) then ((split_At.f kj15 y260 ((rd_T54 x14_15 (ji51)).f0)).bind fun bt266 => (if t255 = 0 then ((chatelaineref01_Same.f kj15 t254 l0).bind fun t270 => (if t270 = true then (if t259 = 0 then (if t258 = true then (if bt266.2 = 0 then ((chatelaineref01_Same.f kj15 bt266.1 ((rd_T54 x14_15 (ji51)).f1)).bind fun t272 => (some t272)) else (some false)) else (some false)) else (some false)) else (some false))) else (some false))) else (none)) else (none)) = some r := by first | (rw [hji51] at H; exact H) | (simp only [hji51] at H ⊢; exact H)
                        (try rw [hji51] at A47)
                        (try rw [hji51] at A48)
                        have hji51w : (IntKind.i64.wrap ((x14_15.length : Int) - 1)) = ji51 := (i64_w _).trans hji51
                        by_cases c52 : 0 ≤ (ji51)
                        · rw [if_pos c52] at H
                          have c52b0 : decide (0 ≤ (ji51)) = true := decide_eq_true c52
                          clear c52
                          by_cases c53 : (ji51) < (x14_15.length : Int)
                          · rw [if_pos c53] at H
                            have c53b0 : decide ((ji51) < (x14_15.length : Int)) = true := decide_eq_true c53
                            clear c53
                            replace H := Option.bind_eq_some_iff.mp H
                            obtain ⟨⟨t266, t267⟩, A540, H⟩ := H
                            replace H : (if t255 = 0 then ((chatelaineref01_Same.f kj15 t254 l0).bind fun t270 => (if t270 = true then (if t259 = 0 then (if t258 = true then (if t267 = 0 then ((chatelaineref01_Same.f kj15 t266 ((rd_T54 x14_15 (ji51)).f1)).bind fun t272 => (some t272)) else (some false)) else (some false)) else (some false)) else (some false))) else (some false)) = some r := H
                            have A54 := Aside0.mk A540
                            clear A540
                            by_cases c55 : t255 = 0
                            · rw [if_pos c55] at H
                              have c55b0 : (t255 == 0) = true := beq_iff_eq.mpr c55
                              have c55b1 : (t255 != 0) = false := bne_eq_false_iff_eq.mpr c55
                              clear c55
                              replace H := Option.bind_eq_some_iff.mp H
                              obtain ⟨t270, A560, H⟩ := H
                              replace H : (if t270 = true then (if t259 = 0 then (if t258 = true then (if t267 = 0 then ((chatelaineref01_Same.f kj15 t266 ((rd_T54 x14_15 (ji51)).f1)).bind fun t272 => (some t272)) else (some false)) else (some false)) else (some false)) else (some false)) = some r := H
                              have A56 := Aside0.mk A560
                              clear A560
                              by_cases c57 : t270 = true
                              · subst c57
                                have H1 : (if t259 = 0 then (if t258 = true then (if t267 = 0 then ((chatelaineref01_Same.f kj15 t266 ((rd_T54 x14_15 (ji51)).f1)).bind fun t272 => (some t272)) else (some false)) else (some false)) else (some false)) = some r := by rw [if_pos rfl] at H; exact H
                                clear H
                                have H := H1
                                clear H1
                                by_cases c58 : t259 = 0
                                · rw [if_pos c58] at H
                                  have c58b0 : (t259 == 0) = true := beq_iff_eq.mpr c58
                                  have c58b1 : (t259 != 0) = false := bne_eq_false_iff_eq.mpr c58
                                  clear c58
                                  by_cases c59 : t258 = true
                                  · subst c59
                                    have H1 : (if t267 = 0 then ((chatelaineref01_Same.f kj15 t266 ((rd_T54 x14_15 (ji51)).f1)).bind fun t272 => (some t272)) else (some false)) = some r := by rw [if_pos rfl] at H; exact H
                                    clear H
                                    have H := H1
                                    clear H1
                                    by_cases c60 : t267 = 0
                                    · rw [if_pos c60] at H
                                      have c60b0 : (t267 == 0) = true := beq_iff_eq.mpr c60
                                      have c60b1 : (t267 != 0) = false := bne_eq_false_iff_eq.mpr c60
                                      clear c60
                                      replace H := Option.bind_eq_some_iff.mp H
                                      obtain ⟨t272, A610, H⟩ := H
                                      replace H : (some t272) = some r := H
                                      have A61 := Aside0.mk A610
                                      clear A610
                                      obtain rfl := Option.some.inj H
                                      obtain ⟨Ao62, co62, eo62⟩ := Kd.N_slice HO_14.out
                                      subst eo62
                                      try go_wp2_with (first | ((with_reducible refine gate_callee (f := 36) rfl ?_); refine goesL_ (some 109) rfl rfl Try.func36 (by kernel_rfl) rfl #[.slice Ao62 x14_15.length co62] rfl (by (try simp only [List.map_toArray, List.map_cons, List.map_nil]); first | done | rfl | (simp only [List.length_drop, List.length_take]; rfl)) ?_; (with_reducible refine (split_Join.calls kj15 _ _ x14_15 t254 t255 _ ?side1 ?side2 A47.out).mono ?_); (case side1 => repeat (first | exact (Kd.N_reads' HO_14.out).2.2 | (with_reducible refine Kd.C_alloc ?_ _) | (with_reducible refine Kd.C_drewN ?_ _) | (with_reducible refine Kd.C_drew ?_))); (case side2 => exact (Kd.N_reads' HO_14.out).2.1); rintro e w63 ⟨v256, rfl, ho0, hb⟩; refine ⟨_, rfl, ?_⟩; have n0_ := Aside0.mk (Kd.N_elder' (by (with_reducible repeat (first | apply Kd.N_alloc | apply Kd.N_drewN | apply Kd.N_drew)); exact HO_14.out) (Kd.R_base ho0) hb); have n1_ := Aside0.mk (Kd.R_lower (Kd.R_newM (M := fun k_ => (u.heap.size ≤ k_)) ho0 (below_size (by repeat (first | (with_reducible first | exact HB.out | apply below_alloc | apply pw_below_drewN | apply below_drew1) | exact HB.out))) (fun k_ h_ => h_)) (below_size (by repeat (first | (with_reducible first | exact HB.out | apply below_alloc | apply pw_below_drewN | apply below_drew1) | exact HB.out)))); have n2_ := Aside0.mk (below_step (by repeat (first | (with_reducible first | exact HB.out | apply below_alloc | apply pw_below_drewN | apply below_drew1) | exact HB.out)) hb); clear HO_14; clear HB; have HO_14 := n0_; have HO257 := n1_; have HB := n2_; clear n0_ n1_ n2_; (try clear hb); (try clear hb2); (try clear hk); (try clear hi); (try clear ho0)) | ((with_reducible refine gate_callee (f := 39) rfl ?_); refine goesL_ (some 115) rfl rfl Try.func39 (by kernel_rfl) rfl #[.slice Ao62 x14_15.length co62, .int .i64 a3] rfl (by (try simp only [List.map_toArray, List.map_cons, List.map_nil]); first | done | rfl | (simp only [List.length_drop, List.length_take]; rfl)) ?_; (with_reducible refine (split_Fits.calls kj15 _ _ x14_15 a3 true t259 _ ?side1 ?side2 A48.out).mono ?_); (case side1 => repeat (first | exact (Kd.N_reads' HO_14.out).2.2 | (with_reducible refine Kd.C_alloc ?_ _) | (with_reducible refine Kd.C_drewN ?_ _) | (with_reducible refine Kd.C_drew ?_))); (case side2 => exact (Kd.N_reads' HO_14.out).2.1); rintro e w64 ⟨rfl, hb⟩; refine ⟨_, rfl, ?_⟩; have n0_ := Aside0.mk (Kd.N_below (by (with_reducible repeat (first | apply Kd.N_alloc | apply Kd.N_drewN | apply Kd.N_drew)); exact HO_14.out) hb); have n1_ := Aside0.mk (Kd.R_below (by (with_reducible repeat (first | apply Kd.R_alloc | apply Kd.R_drewN | apply Kd.R_drew)); exact HO257.out) hb); have n2_ := Aside0.mk (below_step (by repeat (first | (with_reducible first | exact HB.out | apply below_alloc | apply pw_below_drewN | apply below_drew1) | exact HB.out)) hb); clear HO_14; clear HO257; clear HB; have HO_14 := n0_; have HO257 := n1_; have HB := n2_; clear n0_ n1_ n2_; (try clear hb); (try clear hb2); (try clear hk); (try clear hi)))
                                      have n0_ := Aside0.mk (Kd.N_drew HO_14.out)
                                      have n1_ := Aside0.mk (Kd.R_drew HO257.out)
                                      have n2_ := Aside0.mk (below_drew1 HB.out)
                                      clear HO_14
                                      clear HO257
                                      clear HB
                                      have HO_14 := n0_
                                      have HO257 := n1_
                                      have HB := n2_
                                      clear n0_ n1_ n2_
                                      have q66 : (a3 : Int) ≤ ((x14_15.length : Int) : Int) := of_decide_eq_true (by first | (with_reducible assumption) | assumption)
                                      obtain ⟨i066, hi066, _, hsz66, _⟩ := info_parts info54
                                      have hroom66 : x14_15.length ≤ co62 := (Kd.N_reads' HO_14.out).2.1
                                      have hC66 : Kd.F k54 _ _ Ao62 x14_15.length x14_15 := (Kd.V_at (base := u.heap.size) (Kd.N_V HO_14.out)).2.2
                                      have hcut66 := cut_to (P := Try.prog) 49 54 .i64 Try.underlying49 hi066 Ao62 x14_15.length co62 a3 (of_decide_eq_true (by first | (with_reducible assumption) | assumption)) q66 hroom66
                                      have hr66 := Kd.F_take (m := (a3 : Int).toNat) hC66 (by omega)
                                      have hy66 : y260.length = (a3 : Int).toNat := (by rw [Ny260.out, List.length_take]; omega)
                                      rw [← Ny260.out] at hr66
                                      rw [← hy66] at hcut66
                                      have HO264 := Aside0.mk (show Kd.V k54 54 _ u.heap.size _ (.slice Ao62 y260.length co62) y260 from Kd.V_mk (by omega) hr66)
                                      have HC264 := Aside0.mk (show y260.length ≤ co62 from by omega)
                                      clear hr66 hC66 hroom66 hi066 hsz66
                                      have KY66 := Aside0.mk hy66
                                      clear hy66
                                      replace q66 := eq_true q66
                                      have p265 : 0 ≤ ((ji51) : Int) := of_decide_eq_true (by first | (with_reducible assumption) | assumption)
                                      have q265 : (ji51) < (x14_15.length : Int) := of_decide_eq_true (by first | (with_reducible assumption) | assumption)
                                      obtain ⟨ad265, A265_1, c265_1, e265, hx265_0, hx265_1, hl265_1, hi265_1⟩ := at_T54 (Kd.N_reads' HO_14.out).2.2 (ji51) p265 q265
                                      cases e265
                                      obtain ⟨ce265, hce265, hMe265, hcc265⟩ := Kd.N_get HO_14.out z54 (ji51) p265 (by first | exact q265 | exact of_decide_eq_true (by first | (with_reducible assumption) | assumption) | (have e_ := (Kd.N_reads' HO_14.out).1; omega))
                                      obtain ⟨ua265_1, uc265_1, rfl, ul265_1, ge265_1⟩ := k54_openF hMe265
                                      have hv265_1 := hcc265 1 _ rfl
                                      rw [add_field _ _ 1 (by omega)] at hv265_1
                                      replace hv265_1 := Option.some.inj (hv265_1.symm.trans hx265_1)
                                      injection hv265_1 with hva_ hvn_ hvc_
                                      rw [hva_] at ge265_1
                                      rw [hvc_] at ul265_1
                                      have HL265_1 := Aside0.mk (show Kd.V (Kd.int .u8) 5 _ u.heap.size _ _ ((rd_T54 x14_15 (ji51)).f1) from Kd.V_mk ul265_1 ge265_1)
                                      clear hva_ hvn_ hvc_ ge265_1 ul265_1
                                      clear hcc265 hce265
                                      have HR265_1 := Aside0.mk hi265_1
                                      have HC265_1 := Aside0.mk hl265_1
                                      clear hi265_1 hl265_1
                                      replace p265 := eq_true p265
                                      replace q265 := eq_true q265
                                      refine start_ (n := 16) (S := fun w' => w'.cell? (ad265.add (((ji51)).toNat * 2)) = some (.int .u8 ((rd_T54 x14_15 (ji51)).f0)) ∧ w'.cell? ⟨(ad265.add (((ji51)).toNat * 2)).block, (ad265.add (((ji51)).toNat * 2)).off + 1, none⟩ = some (.slice A265_1 ((rd_T54 x14_15 (ji51)).f1).length c265_1)) (ds := []) #[false, false, false, false, false, false, false, false, false, false, false, false, false, false, false, false] (by kernel_rfl) rfl rfl ⟨hx265_0, hx265_1⟩ (fun hHeld => ?_); refine with_tabW chatelainelaw45_SplitBack.tab25 chatelainelaw45_SplitBack.bits25 (fun HT_ HW_ => ?_)
                                      generalize w64.drew = w65 at HO_14 HO257 HB HL265_1 HO264 HR265_1 hx265_0 hx265_1 hHeld ⊢
                                      refine pure_ (i := 0) (N := some 119) (v := ?_) (a' := ?_) #[true, false, false, false, false, false, false, false, false, false, false, false, false, false, false, false] rfl rfl (any_of HT_.out (by kernel_rfl)) (fun _ _ _ h => h) (Or.inl ⟨by rfl, ?_⟩) ?_ ?_
                                      rotate_left
                                      · intro w'
                                        go_simp
                                        with_reducible rfl
                                      rotate_left
                                      · simp only [Act.put, List.setIfInBounds_toArray, List.set_cons_zero, List.set_cons_succ, i64_w, i32_w]
                                        rfl
                                      refine pure_ (i := 1) (N := some 120) (v := ?_) (a' := ?_) #[true, true, false, false, false, false, false, false, false, false, false, false, false, false, false, false] rfl rfl (any_of HT_.out (by kernel_rfl)) (fun _ _ _ h => h) (Or.inl ⟨by rfl, ?_⟩) ?_ ?_
                                      rotate_left
                                      · intro w'
                                        go_simp
                                        with_reducible rfl
                                      rotate_left
                                      · simp only [Act.put, List.setIfInBounds_toArray, List.set_cons_zero, List.set_cons_succ, i64_w, i32_w]
                                        rfl
                                      refine pure_ (i := 2) (N := some 121) (v := ?_) (a' := ?_) #[true, true, true, false, false, false, false, false, false, false, false, false, false, false, false, false] rfl rfl (any_of HT_.out (by kernel_rfl)) (fun _ _ _ h => h) (Or.inl ⟨by rfl, ?_⟩) ?_ ?_
                                      rotate_left
                                      · intro w'
                                        go_simp
                                        with_reducible rfl
                                      rotate_left
                                      · simp only [Act.put, List.setIfInBounds_toArray, List.set_cons_zero, List.set_cons_succ, i64_w, i32_w]
                                        rfl
                                      refine pure_ (i := 3) (N := some 122) (v := ?_) (a' := ?_) #[true, true, true, true, false, false, false, false, false, false, false, false, false, false, false, false] rfl rfl (any_of HT_.out (by kernel_rfl)) (fun _ _ _ h => h) (Or.inl ⟨by rfl, ?_⟩) ?_ ?_
                                      rotate_left
                                      · intro w'
                                        go_simp
                                        with_reducible rfl
                                      rotate_left
                                      · simp only [Act.put, List.setIfInBounds_toArray, List.set_cons_zero, List.set_cons_succ, i64_w, i32_w]
                                        rfl
                                      refine pure_ (i := 4) (N := some 123) (v := ?_) (a' := ?_) #[true, true, true, true, true, false, false, false, false, false, false, false, false, false, false, false] rfl rfl (any_of HT_.out (by kernel_rfl)) (fun _ _ _ h => h) (Or.inl ⟨by rfl, ?_⟩) ?_ ?_
                                      rotate_left
                                      · intro w'
                                        go_simp
                                        with_reducible rfl
                                      rotate_left
                                      · simp only [Act.put, List.setIfInBounds_toArray, List.set_cons_zero, List.set_cons_succ, i64_w, i32_w]
                                        rfl
                                      refine pure_ (i := 5) (N := some 124) (v := ?_) (a' := ?_) #[true, true, true, true, true, true, false, false, false, false, false, false, false, false, false, false] rfl rfl (any_of HT_.out (by kernel_rfl)) (fun _ _ _ h => h) (Or.inl ⟨by rfl, ?_⟩) ?_ ?_
                                      rotate_left
                                      · intro w'
                                        go_simp
                                        with_reducible rfl
                                      rotate_left
                                      · simp only [Act.put, List.setIfInBounds_toArray, List.set_cons_zero, List.set_cons_succ, i64_w, i32_w]
                                        rfl
                                      refine pure_ (i := 6) (N := some 125) (v := ?_) (a' := ?_) #[true, true, true, true, true, true, true, false, false, false, false, false, false, false, false, false] rfl rfl (any_of HT_.out (by kernel_rfl)) (fun _ _ _ h => h) (Or.inl ⟨by rfl, ?_⟩) ?_ ?_
                                      rotate_left
                                      · intro w'
                                        go_simp
                                        with_reducible rfl
                                      rotate_left
                                      · simp only [Act.put, List.setIfInBounds_toArray, List.set_cons_zero, List.set_cons_succ, i64_w, i32_w]
                                        rfl
                                      refine pure_ (i := 7) (N := some 126) (v := ?_) (a' := ?_) #[true, true, true, true, true, true, true, true, false, false, false, false, false, false, false, false] rfl rfl (any_of HT_.out (by kernel_rfl)) (fun _ _ _ h => h) (Or.inl ⟨by rfl, ?_⟩) ?_ ?_
                                      rotate_left
                                      · intro w'
                                        go_simp
                                        with_reducible rfl
                                      rotate_left
                                      · simp only [Act.put, List.setIfInBounds_toArray, List.set_cons_zero, List.set_cons_succ, i64_w, i32_w]
                                        rfl
                                      refine pure_ (i := 8) (N := some 127) (v := ?_) (a' := ?_) #[true, true, true, true, true, true, true, true, true, false, false, false, false, false, false, false] rfl rfl (any_of HT_.out (by kernel_rfl)) (fun _ _ _ h => h) (Or.inl ⟨by rfl, ?_⟩) ?_ ?_
                                      rotate_left
                                      · intro w'
                                        go_simp
                                        with_reducible rfl
                                      rotate_left
                                      · simp only [Act.put, List.setIfInBounds_toArray, List.set_cons_zero, List.set_cons_succ, i64_w, i32_w]
                                        rfl
                                      refine take_ (i := 9) (N := some 128) (v := ?_) (a' := ?_) #[true, true, true, true, true, true, true, true, true, true, false, false, false, false, false, false] rfl rfl (take_ofW HT_.out HW_.out (by kernel_rfl)) (fun _ _ _ h => h) (Or.inl ⟨by rfl, ?_⟩) hHeld ?_ ?_
                                      rotate_left
                                      · rintro w' ⟨s0, s1⟩
                                        go_simp
                                        with_reducible rfl
                                      rotate_left
                                      · simp only [Act.put, List.setIfInBounds_toArray, List.set_cons_zero, List.set_cons_succ, i64_w, i32_w]
                                        rfl
                                      refine one_ (i := 10) (N := some 129) #[true, true, true, true, true, true, true, true, true, true, true, false, false, false, false, false] rfl rfl (one_of HT_.out (by kernel_rfl)) (by decide) (fun K hK => ?_)
                                      refine goes_ Try.func35 (by kernel_rfl) rfl #[.slice (some ad265) y260.length co62, .int .u8 ((rd_T54 x14_15 (ji51)).f0)] (by rfl) rfl rfl (by (try simp only [List.map_toArray, List.map_cons, List.map_nil]); first | done | (simp only [hji51]; rfl) | rfl | (simp only [List.length_drop, List.length_take]; rfl)) ?_
                                      with_reducible refine (split_At.calls kj15 _ _ y260 ((rd_T54 x14_15 (ji51)).f0) t266 t267 _ ?side1 ?side2 A54.out).mono ?_
                                      (case side1 => repeat (first | exact (Kd.V_reads' HO264.out).2.2 | (with_reducible refine Kd.C_alloc ?_ _) | (with_reducible refine Kd.C_drewN ?_ _) | (with_reducible refine Kd.C_drew ?_)))
                                      (case side2 => exact (Kd.V_reads' HO264.out).2.1)
                                      rintro e w67 ⟨v268, rfl, ho0, hb⟩
                                      have HS0_ := (hb.cell (World.block_lt_of_cell? _ _ (hHeld.1))).trans (hHeld.1)
                                      have HS1_ := (hb.cell (World.block_lt_of_cell? _ _ (hHeld.2))).trans (hHeld.2)
                                      refine ⟨_, rfl, ?_⟩
                                      have n0_ := Aside0.mk (Kd.N_elder' (by (with_reducible repeat (first | apply Kd.N_alloc | apply Kd.N_drewN | apply Kd.N_drew)); exact HO_14.out) (Kd.R_base ho0) hb)
                                      have n1_ := Aside0.mk (Kd.R_elder' (by (with_reducible repeat (first | apply Kd.R_alloc | apply Kd.R_drewN | apply Kd.R_drew)); exact HO257.out) (Kd.R_base ho0) hb)
                                      have n2_ := Aside0.mk (Kd.V_elder' (by (with_reducible repeat (first | apply Kd.V_alloc | apply Kd.V_drewN | apply Kd.V_drew)); exact HO264.out) (Kd.R_base ho0) hb)
                                      have n3_ := Aside0.mk (Kd.V_elder' (by (with_reducible repeat (first | apply Kd.V_alloc | apply Kd.V_drewN | apply Kd.V_drew)); exact HL265_1.out) (Kd.R_base ho0) hb)
                                      have n4_ := Aside0.mk (Kd.R_lower (Kd.R_new' (Kd.R_newM (M := fun k_ => (u.heap.size ≤ k_)) ho0 (below_size (by repeat (first | (with_reducible first | exact HB.out | apply below_alloc | apply pw_below_drewN | apply below_drew1) | exact HB.out))) (fun k_ h_ => h_)) (Kd.R_lt (by (with_reducible repeat (first | apply Kd.R_alloc | apply Kd.R_drewN | apply Kd.R_drew)); exact HO257.out))) (below_size (by repeat (first | (with_reducible first | exact HB.out | apply below_alloc | apply pw_below_drewN | apply below_drew1) | exact HB.out))))
                                      have n5_ := Aside0.mk (Kd.C_below (by repeat (first | (with_reducible exact HR265_1.out) | (with_reducible refine Kd.C_alloc ?_ _) | (with_reducible refine Kd.C_drewN ?_ _) | (with_reducible refine Kd.C_drew ?_) | exact HR265_1.out)) hb)
                                      have n6_ := Aside0.mk (below_step (by repeat (first | (with_reducible first | exact HB.out | apply below_alloc | apply pw_below_drewN | apply below_drew1) | exact HB.out)) hb)
                                      clear HO_14
                                      clear HO257
                                      clear HO264
                                      clear HL265_1
                                      clear HR265_1
                                      clear HB
                                      have HO_14 := n0_
                                      have HO257 := n1_
                                      have HO264 := n2_
                                      have HL265_1 := n3_
                                      have HO269 := n4_
                                      have HR265_1 := n5_
                                      have HB := n6_
                                      clear n0_ n1_ n2_ n3_ n4_ n5_ n6_
                                      (try clear hb)
                                      (try clear hb2)
                                      (try clear hk)
                                      (try clear hi)
                                      (try clear ho0)
                                      refine hK.out _ _ ⟨HS0_, HS1_⟩ (fun hHeld => ?_)
                                      clear hK K
                                      refine norm_ (a' := ?_) ?_ ?_
                                      rotate_left
                                      · show Act.put _ (some 129) _ = _
                                        simp only [Act.put, List.setIfInBounds_toArray, List.set_cons_zero, List.set_cons_succ, i64_w, i32_w]
                                        rfl
                                      refine pure_ (i := 11) (N := some 118) (v := ?_) (a' := ?_) #[true, true, true, true, true, true, true, true, true, true, true, true, false, false, false, false] rfl rfl (any_of HT_.out (by kernel_rfl)) (fun _ _ _ h => h) (Or.inl ⟨by rfl, ?_⟩) ?_ ?_
                                      rotate_left
                                      · intro w'
                                        go_simp
                                        with_reducible rfl
                                      rotate_left
                                      · simp only [Act.put, List.setIfInBounds_toArray, List.set_cons_zero, List.set_cons_succ, i64_w, i32_w]
                                        rfl
                                      refine pure_ (i := 12) (N := some 130) (v := ?_) (a' := ?_) #[true, true, true, true, true, true, true, true, true, true, true, true, true, false, false, false] rfl rfl (any_of HT_.out (by kernel_rfl)) (fun _ _ _ h => h) (Or.inl ⟨by rfl, ?_⟩) ?_ ?_
                                      rotate_left
                                      · intro w'
                                        go_simp
                                        with_reducible rfl
                                      rotate_left
                                      · simp only [Act.put, List.setIfInBounds_toArray, List.set_cons_zero, List.set_cons_succ, i64_w, i32_w]
                                        rfl
                                      refine pure_ (i := 13) (N := some 131) (v := ?_) (a' := ?_) #[true, true, true, true, true, true, true, true, true, true, true, true, true, true, false, false] rfl rfl (any_of HT_.out (by kernel_rfl)) (fun _ _ _ h => h) (Or.inl ⟨by rfl, ?_⟩) ?_ ?_
                                      rotate_left
                                      · intro w'
                                        go_simp
                                        with_reducible rfl
                                      rotate_left
                                      · simp only [Act.put, List.setIfInBounds_toArray, List.set_cons_zero, List.set_cons_succ, i64_w, i32_w]
                                        rfl
                                      refine pure_ (i := 14) (N := some 22) (v := ?_) (a' := ?_) #[true, true, true, true, true, true, true, true, true, true, true, true, true, true, true, false] rfl rfl (any_of HT_.out (by kernel_rfl)) (fun _ _ _ h => h) (Or.inl ⟨by rfl, ?_⟩) ?_ ?_
                                      rotate_left
                                      · intro w'
                                        go_simp
                                        with_reducible rfl
                                      rotate_left
                                      · simp only [Act.put, List.setIfInBounds_toArray, List.set_cons_zero, List.set_cons_succ, i64_w, i32_w]
                                        rfl
                                      refine pure_ (i := 15) (N := some 23) (v := ?_) (a' := ?_) #[true, true, true, true, true, true, true, true, true, true, true, true, true, true, true, true] rfl rfl (any_of HT_.out (by kernel_rfl)) (fun _ _ _ h => h) (Or.inl ⟨by rfl, ?_⟩) ?_ ?_
                                      rotate_left
                                      · intro w'
                                        go_simp
                                        with_reducible rfl
                                      rotate_left
                                      · simp only [Act.put, List.setIfInBounds_toArray, List.set_cons_zero, List.set_cons_succ, i64_w, i32_w]
                                        rfl
                                      refine done_ (done_of HT_.out (by kernel_rfl)) ?_
                                      obtain ⟨Ao68, co68, eo68⟩ := Kd.R_slice HO257.out
                                      subst eo68
                                      try go_wp2_with (first | (go_at_call 37; (with_reducible refine (chatelaineref01_Same.calls kj15 _ _ t254 _ _ l0 true _ ?side1 ?side2 ?side3 ?side4 A56.out).mono ?_); (case side1 => repeat (first | exact (Kd.R_reads' HO257.out).2.2 | (with_reducible refine Kd.C_alloc ?_ _) | (with_reducible refine Kd.C_drewN ?_ _) | (with_reducible refine Kd.C_drew ?_))); (case side2 => exact (Kd.R_reads' HO257.out).2.1); (case side3 => repeat (first | exact (Kd.C_below HR0.out HB.out) | (with_reducible refine Kd.C_alloc ?_ _) | (with_reducible refine Kd.C_drewN ?_ _) | (with_reducible refine Kd.C_drew ?_))); (case side4 => exact HC0.out); rintro e w' ⟨rfl, ⟨nd, rfl⟩⟩; have p271 : 0 ≤ ((ji51) : Int) := of_decide_eq_true (by first | (with_reducible assumption) | assumption); have q271 : (ji51) < (x14_15.length : Int) := of_decide_eq_true (by first | (with_reducible assumption) | assumption); obtain ⟨ad271, A271_1, c271_1, e271, hx271_0, hx271_1, hl271_1, hi271_1⟩ := at_T54 (Kd.N_reads' HO_14.out).2.2 (ji51) p271 q271; obtain rfl : ad265 = ad271 := (by injection e271); obtain ⟨ce271, hce271, hMe271, hcc271⟩ := Kd.N_get HO_14.out z54 (ji51) p271 (by first | exact q271 | exact of_decide_eq_true (by first | (with_reducible assumption) | assumption) | (have e_ := (Kd.N_reads' HO_14.out).1; omega)); obtain ⟨ua271_1, uc271_1, rfl, ul271_1, ge271_1⟩ := k54_openF hMe271; have hv271_1 := hcc271 1 _ rfl; rw [add_field _ _ 1 (by omega)] at hv271_1; replace hv271_1 := Option.some.inj (hv271_1.symm.trans hx271_1); injection hv271_1 with hva_ hvn_ hvc_; rw [hva_] at ge271_1; rw [hvc_] at ul271_1; have HL271_1 := Aside0.mk (show Kd.V (Kd.int .u8) 5 _ u.heap.size _ _ ((rd_T54 x14_15 (ji51)).f1) from Kd.V_mk ul271_1 ge271_1); clear hva_ hvn_ hvc_ ge271_1 ul271_1; clear hcc271 hce271; have HR271_1 := Aside0.mk hi271_1; have HC271_1 := Aside0.mk hl271_1; clear hi271_1 hl271_1; replace p271 := eq_true p271; replace q271 := eq_true q271; obtain ⟨Ao69, co69, eo69⟩ := Kd.R_slice HO269.out; subst eo69) | (go_at_call 37; (with_reducible refine (chatelaineref01_Same.calls kj15 _ _ t266 _ _ ((rd_T54 x14_15 (ji51)).f1) t272 _ ?side1 ?side2 ?side3 ?side4 A61.out).mono ?_); (case side1 => repeat (first | exact (Kd.R_reads' HO269.out).2.2 | (with_reducible refine Kd.C_alloc ?_ _) | (with_reducible refine Kd.C_drewN ?_ _) | (with_reducible refine Kd.C_drew ?_))); (case side2 => exact (Kd.R_reads' HO269.out).2.1); (case side3 => repeat (first | exact (by repeat (first | (with_reducible exact HR265_1.out) | (with_reducible refine Kd.C_alloc ?_ _) | (with_reducible refine Kd.C_drewN ?_ _) | (with_reducible refine Kd.C_drew ?_) | exact HR265_1.out)) | (with_reducible refine Kd.C_alloc ?_ _) | (with_reducible refine Kd.C_drewN ?_ _) | (with_reducible refine Kd.C_drew ?_))); (case side4 => exact HC265_1.out); rintro e w' ⟨rfl, ⟨nd, rfl⟩⟩))
                                      go_ret
                                      exact ⟨by first | rfl | (simp [errW_none, errW_some] <;> rfl) | (simp only [← hji51]; first | rfl | (simp [errW_none, errW_some] <;> rfl)) | (simp [*, errW_none, errW_some] <;> rfl), below_step HW.out (below_step HV.out (by repeat (first | (with_reducible first | exact HB.out | apply below_alloc | apply pw_below_drewN | apply below_drew1) | exact HB.out)))⟩
                                    · rw [if_neg c60] at H
                                      have c60b0 : (t267 == 0) = false := beq_eq_false_iff_ne.mpr c60
                                      have c60b1 : (t267 != 0) = true := bne_iff_ne.mpr c60
                                      obtain rfl := Option.some.inj H
                                      obtain ⟨Ao70, co70, eo70⟩ := Kd.N_slice HO_14.out
                                      subst eo70
                                      try go_wp2_with (first | ((with_reducible refine gate_callee (f := 36) rfl ?_); refine goesL_ (some 109) rfl rfl Try.func36 (by kernel_rfl) rfl #[.slice Ao70 x14_15.length co70] rfl (by (try simp only [List.map_toArray, List.map_cons, List.map_nil]); first | done | rfl | (simp only [List.length_drop, List.length_take]; rfl)) ?_; (with_reducible refine (split_Join.calls kj15 _ _ x14_15 t254 t255 _ ?side1 ?side2 A47.out).mono ?_); (case side1 => repeat (first | exact (Kd.N_reads' HO_14.out).2.2 | (with_reducible refine Kd.C_alloc ?_ _) | (with_reducible refine Kd.C_drewN ?_ _) | (with_reducible refine Kd.C_drew ?_))); (case side2 => exact (Kd.N_reads' HO_14.out).2.1); rintro e w71 ⟨v256, rfl, ho0, hb⟩; refine ⟨_, rfl, ?_⟩; have n0_ := Aside0.mk (Kd.N_elder' (by (with_reducible repeat (first | apply Kd.N_alloc | apply Kd.N_drewN | apply Kd.N_drew)); exact HO_14.out) (Kd.R_base ho0) hb); have n1_ := Aside0.mk (Kd.R_lower (Kd.R_newM (M := fun k_ => (u.heap.size ≤ k_)) ho0 (below_size (by repeat (first | (with_reducible first | exact HB.out | apply below_alloc | apply pw_below_drewN | apply below_drew1) | exact HB.out))) (fun k_ h_ => h_)) (below_size (by repeat (first | (with_reducible first | exact HB.out | apply below_alloc | apply pw_below_drewN | apply below_drew1) | exact HB.out)))); have n2_ := Aside0.mk (below_step (by repeat (first | (with_reducible first | exact HB.out | apply below_alloc | apply pw_below_drewN | apply below_drew1) | exact HB.out)) hb); clear HO_14; clear HB; have HO_14 := n0_; have HO257 := n1_; have HB := n2_; clear n0_ n1_ n2_; (try clear hb); (try clear hb2); (try clear hk); (try clear hi); (try clear ho0)) | ((with_reducible refine gate_callee (f := 39) rfl ?_); refine goesL_ (some 115) rfl rfl Try.func39 (by kernel_rfl) rfl #[.slice Ao70 x14_15.length co70, .int .i64 a3] rfl (by (try simp only [List.map_toArray, List.map_cons, List.map_nil]); first | done | rfl | (simp only [List.length_drop, List.length_take]; rfl)) ?_; (with_reducible refine (split_Fits.calls kj15 _ _ x14_15 a3 true t259 _ ?side1 ?side2 A48.out).mono ?_); (case side1 => repeat (first | exact (Kd.N_reads' HO_14.out).2.2 | (with_reducible refine Kd.C_alloc ?_ _) | (with_reducible refine Kd.C_drewN ?_ _) | (with_reducible refine Kd.C_drew ?_))); (case side2 => exact (Kd.N_reads' HO_14.out).2.1); rintro e w72 ⟨rfl, hb⟩; refine ⟨_, rfl, ?_⟩; have n0_ := Aside0.mk (Kd.N_below (by (with_reducible repeat (first | apply Kd.N_alloc | apply Kd.N_drewN | apply Kd.N_drew)); exact HO_14.out) hb); have n1_ := Aside0.mk (Kd.R_below (by (with_reducible repeat (first | apply Kd.R_alloc | apply Kd.R_drewN | apply Kd.R_drew)); exact HO257.out) hb); have n2_ := Aside0.mk (below_step (by repeat (first | (with_reducible first | exact HB.out | apply below_alloc | apply pw_below_drewN | apply below_drew1) | exact HB.out)) hb); clear HO_14; clear HO257; clear HB; have HO_14 := n0_; have HO257 := n1_; have HB := n2_; clear n0_ n1_ n2_; (try clear hb); (try clear hb2); (try clear hk); (try clear hi)))
                                      have n0_ := Aside0.mk (Kd.N_drew HO_14.out)
                                      have n1_ := Aside0.mk (Kd.R_drew HO257.out)
                                      have n2_ := Aside0.mk (below_drew1 HB.out)
                                      clear HO_14
                                      clear HO257
                                      clear HB
                                      have HO_14 := n0_
                                      have HO257 := n1_
                                      have HB := n2_
                                      clear n0_ n1_ n2_
                                      have q74 : (a3 : Int) ≤ ((x14_15.length : Int) : Int) := of_decide_eq_true (by first | (with_reducible assumption) | assumption)
                                      obtain ⟨i074, hi074, _, hsz74, _⟩ := info_parts info54
                                      have hroom74 : x14_15.length ≤ co70 := (Kd.N_reads' HO_14.out).2.1
                                      have hC74 : Kd.F k54 _ _ Ao70 x14_15.length x14_15 := (Kd.V_at (base := u.heap.size) (Kd.N_V HO_14.out)).2.2
                                      have hcut74 := cut_to (P := Try.prog) 49 54 .i64 Try.underlying49 hi074 Ao70 x14_15.length co70 a3 (of_decide_eq_true (by first | (with_reducible assumption) | assumption)) q74 hroom74
                                      have hr74 := Kd.F_take (m := (a3 : Int).toNat) hC74 (by omega)
                                      have hy74 : y260.length = (a3 : Int).toNat := (by rw [Ny260.out, List.length_take]; omega)
                                      rw [← Ny260.out] at hr74
                                      rw [← hy74] at hcut74
                                      have HO264 := Aside0.mk (show Kd.V k54 54 _ u.heap.size _ (.slice Ao70 y260.length co70) y260 from Kd.V_mk (by omega) hr74)
                                      have HC264 := Aside0.mk (show y260.length ≤ co70 from by omega)
                                      clear hr74 hC74 hroom74 hi074 hsz74
                                      have KY74 := Aside0.mk hy74
                                      clear hy74
                                      replace q74 := eq_true q74
                                      have p265 : 0 ≤ ((ji51) : Int) := of_decide_eq_true (by first | (with_reducible assumption) | assumption)
                                      have q265 : (ji51) < (x14_15.length : Int) := of_decide_eq_true (by first | (with_reducible assumption) | assumption)
                                      obtain ⟨ad265, A265_1, c265_1, e265, hx265_0, hx265_1, hl265_1, hi265_1⟩ := at_T54 (Kd.N_reads' HO_14.out).2.2 (ji51) p265 q265
                                      cases e265
                                      obtain ⟨ce265, hce265, hMe265, hcc265⟩ := Kd.N_get HO_14.out z54 (ji51) p265 (by first | exact q265 | exact of_decide_eq_true (by first | (with_reducible assumption) | assumption) | (have e_ := (Kd.N_reads' HO_14.out).1; omega))
                                      obtain ⟨ua265_1, uc265_1, rfl, ul265_1, ge265_1⟩ := k54_openF hMe265
                                      have hv265_1 := hcc265 1 _ rfl
                                      rw [add_field _ _ 1 (by omega)] at hv265_1
                                      replace hv265_1 := Option.some.inj (hv265_1.symm.trans hx265_1)
                                      injection hv265_1 with hva_ hvn_ hvc_
                                      rw [hva_] at ge265_1
                                      rw [hvc_] at ul265_1
                                      have HL265_1 := Aside0.mk (show Kd.V (Kd.int .u8) 5 _ u.heap.size _ _ ((rd_T54 x14_15 (ji51)).f1) from Kd.V_mk ul265_1 ge265_1)
                                      clear hva_ hvn_ hvc_ ge265_1 ul265_1
                                      clear hcc265 hce265
                                      have HR265_1 := Aside0.mk hi265_1
                                      have HC265_1 := Aside0.mk hl265_1
                                      clear hi265_1 hl265_1
                                      replace p265 := eq_true p265
                                      replace q265 := eq_true q265
                                      refine start_ (n := 16) (S := fun w' => w'.cell? (ad265.add (((ji51)).toNat * 2)) = some (.int .u8 ((rd_T54 x14_15 (ji51)).f0)) ∧ w'.cell? ⟨(ad265.add (((ji51)).toNat * 2)).block, (ad265.add (((ji51)).toNat * 2)).off + 1, none⟩ = some (.slice A265_1 ((rd_T54 x14_15 (ji51)).f1).length c265_1)) (ds := []) #[false, false, false, false, false, false, false, false, false, false, false, false, false, false, false, false] (by kernel_rfl) rfl rfl ⟨hx265_0, hx265_1⟩ (fun hHeld => ?_); refine with_tabW chatelainelaw45_SplitBack.tab25 chatelainelaw45_SplitBack.bits25 (fun HT_ HW_ => ?_)
                                      generalize w72.drew = w73 at HO_14 HO257 HB HL265_1 HO264 HR265_1 hx265_0 hx265_1 hHeld ⊢
                                      refine pure_ (i := 0) (N := some 119) (v := ?_) (a' := ?_) #[true, false, false, false, false, false, false, false, false, false, false, false, false, false, false, false] rfl rfl (any_of HT_.out (by kernel_rfl)) (fun _ _ _ h => h) (Or.inl ⟨by rfl, ?_⟩) ?_ ?_
                                      rotate_left
                                      · intro w'
                                        go_simp
                                        with_reducible rfl
                                      rotate_left
                                      · simp only [Act.put, List.setIfInBounds_toArray, List.set_cons_zero, List.set_cons_succ, i64_w, i32_w]
                                        rfl
                                      refine pure_ (i := 1) (N := some 120) (v := ?_) (a' := ?_) #[true, true, false, false, false, false, false, false, false, false, false, false, false, false, false, false] rfl rfl (any_of HT_.out (by kernel_rfl)) (fun _ _ _ h => h) (Or.inl ⟨by rfl, ?_⟩) ?_ ?_
                                      rotate_left
                                      · intro w'
                                        go_simp
                                        with_reducible rfl
                                      rotate_left
                                      · simp only [Act.put, List.setIfInBounds_toArray, List.set_cons_zero, List.set_cons_succ, i64_w, i32_w]
                                        rfl
                                      refine pure_ (i := 2) (N := some 121) (v := ?_) (a' := ?_) #[true, true, true, false, false, false, false, false, false, false, false, false, false, false, false, false] rfl rfl (any_of HT_.out (by kernel_rfl)) (fun _ _ _ h => h) (Or.inl ⟨by rfl, ?_⟩) ?_ ?_
                                      rotate_left
                                      · intro w'
                                        go_simp
                                        with_reducible rfl
                                      rotate_left
                                      · simp only [Act.put, List.setIfInBounds_toArray, List.set_cons_zero, List.set_cons_succ, i64_w, i32_w]
                                        rfl
                                      refine pure_ (i := 3) (N := some 122) (v := ?_) (a' := ?_) #[true, true, true, true, false, false, false, false, false, false, false, false, false, false, false, false] rfl rfl (any_of HT_.out (by kernel_rfl)) (fun _ _ _ h => h) (Or.inl ⟨by rfl, ?_⟩) ?_ ?_
                                      rotate_left
                                      · intro w'
                                        go_simp
                                        with_reducible rfl
                                      rotate_left
                                      · simp only [Act.put, List.setIfInBounds_toArray, List.set_cons_zero, List.set_cons_succ, i64_w, i32_w]
                                        rfl
                                      refine pure_ (i := 4) (N := some 123) (v := ?_) (a' := ?_) #[true, true, true, true, true, false, false, false, false, false, false, false, false, false, false, false] rfl rfl (any_of HT_.out (by kernel_rfl)) (fun _ _ _ h => h) (Or.inl ⟨by rfl, ?_⟩) ?_ ?_
                                      rotate_left
                                      · intro w'
                                        go_simp
                                        with_reducible rfl
                                      rotate_left
                                      · simp only [Act.put, List.setIfInBounds_toArray, List.set_cons_zero, List.set_cons_succ, i64_w, i32_w]
                                        rfl
                                      refine pure_ (i := 5) (N := some 124) (v := ?_) (a' := ?_) #[true, true, true, true, true, true, false, false, false, false, false, false, false, false, false, false] rfl rfl (any_of HT_.out (by kernel_rfl)) (fun _ _ _ h => h) (Or.inl ⟨by rfl, ?_⟩) ?_ ?_
                                      rotate_left
                                      · intro w'
                                        go_simp
                                        with_reducible rfl
                                      rotate_left
                                      · simp only [Act.put, List.setIfInBounds_toArray, List.set_cons_zero, List.set_cons_succ, i64_w, i32_w]
                                        rfl
                                      refine pure_ (i := 6) (N := some 125) (v := ?_) (a' := ?_) #[true, true, true, true, true, true, true, false, false, false, false, false, false, false, false, false] rfl rfl (any_of HT_.out (by kernel_rfl)) (fun _ _ _ h => h) (Or.inl ⟨by rfl, ?_⟩) ?_ ?_
                                      rotate_left
                                      · intro w'
                                        go_simp
                                        with_reducible rfl
                                      rotate_left
                                      · simp only [Act.put, List.setIfInBounds_toArray, List.set_cons_zero, List.set_cons_succ, i64_w, i32_w]
                                        rfl
                                      refine pure_ (i := 7) (N := some 126) (v := ?_) (a' := ?_) #[true, true, true, true, true, true, true, true, false, false, false, false, false, false, false, false] rfl rfl (any_of HT_.out (by kernel_rfl)) (fun _ _ _ h => h) (Or.inl ⟨by rfl, ?_⟩) ?_ ?_
                                      rotate_left
                                      · intro w'
                                        go_simp
                                        with_reducible rfl
                                      rotate_left
                                      · simp only [Act.put, List.setIfInBounds_toArray, List.set_cons_zero, List.set_cons_succ, i64_w, i32_w]
                                        rfl
                                      refine pure_ (i := 8) (N := some 127) (v := ?_) (a' := ?_) #[true, true, true, true, true, true, true, true, true, false, false, false, false, false, false, false] rfl rfl (any_of HT_.out (by kernel_rfl)) (fun _ _ _ h => h) (Or.inl ⟨by rfl, ?_⟩) ?_ ?_
                                      rotate_left
                                      · intro w'
                                        go_simp
                                        with_reducible rfl
                                      rotate_left
                                      · simp only [Act.put, List.setIfInBounds_toArray, List.set_cons_zero, List.set_cons_succ, i64_w, i32_w]
                                        rfl
                                      refine take_ (i := 9) (N := some 128) (v := ?_) (a' := ?_) #[true, true, true, true, true, true, true, true, true, true, false, false, false, false, false, false] rfl rfl (take_ofW HT_.out HW_.out (by kernel_rfl)) (fun _ _ _ h => h) (Or.inl ⟨by rfl, ?_⟩) hHeld ?_ ?_
                                      rotate_left
                                      · rintro w' ⟨s0, s1⟩
                                        go_simp
                                        with_reducible rfl
                                      rotate_left
                                      · simp only [Act.put, List.setIfInBounds_toArray, List.set_cons_zero, List.set_cons_succ, i64_w, i32_w]
                                        rfl
                                      refine one_ (i := 10) (N := some 129) #[true, true, true, true, true, true, true, true, true, true, true, false, false, false, false, false] rfl rfl (one_of HT_.out (by kernel_rfl)) (by decide) (fun K hK => ?_)
                                      refine goes_ Try.func35 (by kernel_rfl) rfl #[.slice (some ad265) y260.length co70, .int .u8 ((rd_T54 x14_15 (ji51)).f0)] (by rfl) rfl rfl (by (try simp only [List.map_toArray, List.map_cons, List.map_nil]); first | done | (simp only [hji51]; rfl) | rfl | (simp only [List.length_drop, List.length_take]; rfl)) ?_
                                      with_reducible refine (split_At.calls kj15 _ _ y260 ((rd_T54 x14_15 (ji51)).f0) t266 t267 _ ?side1 ?side2 A54.out).mono ?_
                                      (case side1 => repeat (first | exact (Kd.V_reads' HO264.out).2.2 | (with_reducible refine Kd.C_alloc ?_ _) | (with_reducible refine Kd.C_drewN ?_ _) | (with_reducible refine Kd.C_drew ?_)))
                                      (case side2 => exact (Kd.V_reads' HO264.out).2.1)
                                      rintro e w75 ⟨v268, rfl, ho0, hb⟩
                                      have HS0_ := (hb.cell (World.block_lt_of_cell? _ _ (hHeld.1))).trans (hHeld.1)
                                      have HS1_ := (hb.cell (World.block_lt_of_cell? _ _ (hHeld.2))).trans (hHeld.2)
                                      refine ⟨_, rfl, ?_⟩
                                      have n0_ := Aside0.mk (Kd.N_elder' (by (with_reducible repeat (first | apply Kd.N_alloc | apply Kd.N_drewN | apply Kd.N_drew)); exact HO_14.out) (Kd.R_base ho0) hb)
                                      have n1_ := Aside0.mk (Kd.R_elder' (by (with_reducible repeat (first | apply Kd.R_alloc | apply Kd.R_drewN | apply Kd.R_drew)); exact HO257.out) (Kd.R_base ho0) hb)
                                      have n2_ := Aside0.mk (Kd.V_elder' (by (with_reducible repeat (first | apply Kd.V_alloc | apply Kd.V_drewN | apply Kd.V_drew)); exact HO264.out) (Kd.R_base ho0) hb)
                                      have n3_ := Aside0.mk (Kd.V_elder' (by (with_reducible repeat (first | apply Kd.V_alloc | apply Kd.V_drewN | apply Kd.V_drew)); exact HL265_1.out) (Kd.R_base ho0) hb)
                                      have n4_ := Aside0.mk (Kd.R_lower (Kd.R_new' (Kd.R_newM (M := fun k_ => (u.heap.size ≤ k_)) ho0 (below_size (by repeat (first | (with_reducible first | exact HB.out | apply below_alloc | apply pw_below_drewN | apply below_drew1) | exact HB.out))) (fun k_ h_ => h_)) (Kd.R_lt (by (with_reducible repeat (first | apply Kd.R_alloc | apply Kd.R_drewN | apply Kd.R_drew)); exact HO257.out))) (below_size (by repeat (first | (with_reducible first | exact HB.out | apply below_alloc | apply pw_below_drewN | apply below_drew1) | exact HB.out))))
                                      have n5_ := Aside0.mk (Kd.C_below (by repeat (first | (with_reducible exact HR265_1.out) | (with_reducible refine Kd.C_alloc ?_ _) | (with_reducible refine Kd.C_drewN ?_ _) | (with_reducible refine Kd.C_drew ?_) | exact HR265_1.out)) hb)
                                      have n6_ := Aside0.mk (below_step (by repeat (first | (with_reducible first | exact HB.out | apply below_alloc | apply pw_below_drewN | apply below_drew1) | exact HB.out)) hb)
                                      clear HO_14
                                      clear HO257
                                      clear HO264
                                      clear HL265_1
                                      clear HR265_1
                                      clear HB
                                      have HO_14 := n0_
                                      have HO257 := n1_
                                      have HO264 := n2_
                                      have HL265_1 := n3_
                                      have HO269 := n4_
                                      have HR265_1 := n5_
                                      have HB := n6_
                                      clear n0_ n1_ n2_ n3_ n4_ n5_ n6_
                                      (try clear hb)
                                      (try clear hb2)
                                      (try clear hk)
                                      (try clear hi)
                                      (try clear ho0)
                                      refine hK.out _ _ ⟨HS0_, HS1_⟩ (fun hHeld => ?_)
                                      clear hK K
                                      refine norm_ (a' := ?_) ?_ ?_
                                      rotate_left
                                      · show Act.put _ (some 129) _ = _
                                        simp only [Act.put, List.setIfInBounds_toArray, List.set_cons_zero, List.set_cons_succ, i64_w, i32_w]
                                        rfl
                                      refine pure_ (i := 11) (N := some 118) (v := ?_) (a' := ?_) #[true, true, true, true, true, true, true, true, true, true, true, true, false, false, false, false] rfl rfl (any_of HT_.out (by kernel_rfl)) (fun _ _ _ h => h) (Or.inl ⟨by rfl, ?_⟩) ?_ ?_
                                      rotate_left
                                      · intro w'
                                        go_simp
                                        with_reducible rfl
                                      rotate_left
                                      · simp only [Act.put, List.setIfInBounds_toArray, List.set_cons_zero, List.set_cons_succ, i64_w, i32_w]
                                        rfl
                                      refine pure_ (i := 12) (N := some 130) (v := ?_) (a' := ?_) #[true, true, true, true, true, true, true, true, true, true, true, true, true, false, false, false] rfl rfl (any_of HT_.out (by kernel_rfl)) (fun _ _ _ h => h) (Or.inl ⟨by rfl, ?_⟩) ?_ ?_
                                      rotate_left
                                      · intro w'
                                        go_simp
                                        with_reducible rfl
                                      rotate_left
                                      · simp only [Act.put, List.setIfInBounds_toArray, List.set_cons_zero, List.set_cons_succ, i64_w, i32_w]
                                        rfl
                                      refine pure_ (i := 13) (N := some 131) (v := ?_) (a' := ?_) #[true, true, true, true, true, true, true, true, true, true, true, true, true, true, false, false] rfl rfl (any_of HT_.out (by kernel_rfl)) (fun _ _ _ h => h) (Or.inl ⟨by rfl, ?_⟩) ?_ ?_
                                      rotate_left
                                      · intro w'
                                        go_simp
                                        with_reducible rfl
                                      rotate_left
                                      · simp only [Act.put, List.setIfInBounds_toArray, List.set_cons_zero, List.set_cons_succ, i64_w, i32_w]
                                        rfl
                                      refine pure_ (i := 14) (N := some 22) (v := ?_) (a' := ?_) #[true, true, true, true, true, true, true, true, true, true, true, true, true, true, true, false] rfl rfl (any_of HT_.out (by kernel_rfl)) (fun _ _ _ h => h) (Or.inl ⟨by rfl, ?_⟩) ?_ ?_
                                      rotate_left
                                      · intro w'
                                        go_simp
                                        with_reducible rfl
                                      rotate_left
                                      · simp only [Act.put, List.setIfInBounds_toArray, List.set_cons_zero, List.set_cons_succ, i64_w, i32_w]
                                        rfl
                                      refine pure_ (i := 15) (N := some 23) (v := ?_) (a' := ?_) #[true, true, true, true, true, true, true, true, true, true, true, true, true, true, true, true] rfl rfl (any_of HT_.out (by kernel_rfl)) (fun _ _ _ h => h) (Or.inl ⟨by rfl, ?_⟩) ?_ ?_
                                      rotate_left
                                      · intro w'
                                        go_simp
                                        with_reducible rfl
                                      rotate_left
                                      · simp only [Act.put, List.setIfInBounds_toArray, List.set_cons_zero, List.set_cons_succ, i64_w, i32_w]
                                        rfl
                                      refine done_ (done_of HT_.out (by kernel_rfl)) ?_
                                      obtain ⟨Ao76, co76, eo76⟩ := Kd.R_slice HO257.out
                                      subst eo76
                                      try go_wp2_with (first | (go_at_call 37; (with_reducible refine (chatelaineref01_Same.calls kj15 _ _ t254 _ _ l0 true _ ?side1 ?side2 ?side3 ?side4 A56.out).mono ?_); (case side1 => repeat (first | exact (Kd.R_reads' HO257.out).2.2 | (with_reducible refine Kd.C_alloc ?_ _) | (with_reducible refine Kd.C_drewN ?_ _) | (with_reducible refine Kd.C_drew ?_))); (case side2 => exact (Kd.R_reads' HO257.out).2.1); (case side3 => repeat (first | exact (Kd.C_below HR0.out HB.out) | (with_reducible refine Kd.C_alloc ?_ _) | (with_reducible refine Kd.C_drewN ?_ _) | (with_reducible refine Kd.C_drew ?_))); (case side4 => exact HC0.out); rintro e w' ⟨rfl, ⟨nd, rfl⟩⟩))
                                      go_ret
                                      exact ⟨by first | rfl | (simp [errW_none, errW_some] <;> rfl) | (simp only [← hji51]; first | rfl | (simp [errW_none, errW_some] <;> rfl)) | (simp [*, errW_none, errW_some] <;> rfl), below_step HW.out (below_step HV.out (by repeat (first | (with_reducible first | exact HB.out | apply below_alloc | apply pw_below_drewN | apply below_drew1) | exact HB.out)))⟩
                                  · replace c59 := Bool.eq_false_iff.mpr c59
                                    subst c59
                                    have H1 : (some false) = some r := by rw [if_neg (show ¬ (false = true) by decide)] at H; exact H
                                    clear H
                                    have H := H1
                                    clear H1
                                    obtain rfl := Option.some.inj H
                                    obtain ⟨Ao77, co77, eo77⟩ := Kd.N_slice HO_14.out
                                    subst eo77
                                    try go_wp2_with (first | ((with_reducible refine gate_callee (f := 36) rfl ?_); refine goesL_ (some 109) rfl rfl Try.func36 (by kernel_rfl) rfl #[.slice Ao77 x14_15.length co77] rfl (by (try simp only [List.map_toArray, List.map_cons, List.map_nil]); first | done | rfl | (simp only [List.length_drop, List.length_take]; rfl)) ?_; (with_reducible refine (split_Join.calls kj15 _ _ x14_15 t254 t255 _ ?side1 ?side2 A47.out).mono ?_); (case side1 => repeat (first | exact (Kd.N_reads' HO_14.out).2.2 | (with_reducible refine Kd.C_alloc ?_ _) | (with_reducible refine Kd.C_drewN ?_ _) | (with_reducible refine Kd.C_drew ?_))); (case side2 => exact (Kd.N_reads' HO_14.out).2.1); rintro e w78 ⟨v256, rfl, ho0, hb⟩; refine ⟨_, rfl, ?_⟩; have n0_ := Aside0.mk (Kd.N_elder' (by (with_reducible repeat (first | apply Kd.N_alloc | apply Kd.N_drewN | apply Kd.N_drew)); exact HO_14.out) (Kd.R_base ho0) hb); have n1_ := Aside0.mk (Kd.R_lower (Kd.R_newM (M := fun k_ => (u.heap.size ≤ k_)) ho0 (below_size (by repeat (first | (with_reducible first | exact HB.out | apply below_alloc | apply pw_below_drewN | apply below_drew1) | exact HB.out))) (fun k_ h_ => h_)) (below_size (by repeat (first | (with_reducible first | exact HB.out | apply below_alloc | apply pw_below_drewN | apply below_drew1) | exact HB.out)))); have n2_ := Aside0.mk (below_step (by repeat (first | (with_reducible first | exact HB.out | apply below_alloc | apply pw_below_drewN | apply below_drew1) | exact HB.out)) hb); clear HO_14; clear HB; have HO_14 := n0_; have HO257 := n1_; have HB := n2_; clear n0_ n1_ n2_; (try clear hb); (try clear hb2); (try clear hk); (try clear hi); (try clear ho0)) | ((with_reducible refine gate_callee (f := 39) rfl ?_); refine goesL_ (some 115) rfl rfl Try.func39 (by kernel_rfl) rfl #[.slice Ao77 x14_15.length co77, .int .i64 a3] rfl (by (try simp only [List.map_toArray, List.map_cons, List.map_nil]); first | done | rfl | (simp only [List.length_drop, List.length_take]; rfl)) ?_; (with_reducible refine (split_Fits.calls kj15 _ _ x14_15 a3 false t259 _ ?side1 ?side2 A48.out).mono ?_); (case side1 => repeat (first | exact (Kd.N_reads' HO_14.out).2.2 | (with_reducible refine Kd.C_alloc ?_ _) | (with_reducible refine Kd.C_drewN ?_ _) | (with_reducible refine Kd.C_drew ?_))); (case side2 => exact (Kd.N_reads' HO_14.out).2.1); rintro e w79 ⟨rfl, hb⟩; refine ⟨_, rfl, ?_⟩; have n0_ := Aside0.mk (Kd.N_below (by (with_reducible repeat (first | apply Kd.N_alloc | apply Kd.N_drewN | apply Kd.N_drew)); exact HO_14.out) hb); have n1_ := Aside0.mk (Kd.R_below (by (with_reducible repeat (first | apply Kd.R_alloc | apply Kd.R_drewN | apply Kd.R_drew)); exact HO257.out) hb); have n2_ := Aside0.mk (below_step (by repeat (first | (with_reducible first | exact HB.out | apply below_alloc | apply pw_below_drewN | apply below_drew1) | exact HB.out)) hb); clear HO_14; clear HO257; clear HB; have HO_14 := n0_; have HO257 := n1_; have HB := n2_; clear n0_ n1_ n2_; (try clear hb); (try clear hb2); (try clear hk); (try clear hi)))
                                    have n0_ := Aside0.mk (Kd.N_drew HO_14.out)
                                    have n1_ := Aside0.mk (Kd.R_drew HO257.out)
                                    have n2_ := Aside0.mk (below_drew1 HB.out)
                                    clear HO_14
                                    clear HO257
                                    clear HB
                                    have HO_14 := n0_
                                    have HO257 := n1_
                                    have HB := n2_
                                    clear n0_ n1_ n2_
                                    have q81 : (a3 : Int) ≤ ((x14_15.length : Int) : Int) := of_decide_eq_true (by first | (with_reducible assumption) | assumption)
                                    obtain ⟨i081, hi081, _, hsz81, _⟩ := info_parts info54
                                    have hroom81 : x14_15.length ≤ co77 := (Kd.N_reads' HO_14.out).2.1
                                    have hC81 : Kd.F k54 _ _ Ao77 x14_15.length x14_15 := (Kd.V_at (base := u.heap.size) (Kd.N_V HO_14.out)).2.2
                                    have hcut81 := cut_to (P := Try.prog) 49 54 .i64 Try.underlying49 hi081 Ao77 x14_15.length co77 a3 (of_decide_eq_true (by first | (with_reducible assumption) | assumption)) q81 hroom81
                                    have hr81 := Kd.F_take (m := (a3 : Int).toNat) hC81 (by omega)
                                    have hy81 : y260.length = (a3 : Int).toNat := (by rw [Ny260.out, List.length_take]; omega)
                                    rw [← Ny260.out] at hr81
                                    rw [← hy81] at hcut81
                                    have HO264 := Aside0.mk (show Kd.V k54 54 _ u.heap.size _ (.slice Ao77 y260.length co77) y260 from Kd.V_mk (by omega) hr81)
                                    have HC264 := Aside0.mk (show y260.length ≤ co77 from by omega)
                                    clear hr81 hC81 hroom81 hi081 hsz81
                                    have KY81 := Aside0.mk hy81
                                    clear hy81
                                    replace q81 := eq_true q81
                                    have p265 : 0 ≤ ((ji51) : Int) := of_decide_eq_true (by first | (with_reducible assumption) | assumption)
                                    have q265 : (ji51) < (x14_15.length : Int) := of_decide_eq_true (by first | (with_reducible assumption) | assumption)
                                    obtain ⟨ad265, A265_1, c265_1, e265, hx265_0, hx265_1, hl265_1, hi265_1⟩ := at_T54 (Kd.N_reads' HO_14.out).2.2 (ji51) p265 q265
                                    cases e265
                                    obtain ⟨ce265, hce265, hMe265, hcc265⟩ := Kd.N_get HO_14.out z54 (ji51) p265 (by first | exact q265 | exact of_decide_eq_true (by first | (with_reducible assumption) | assumption) | (have e_ := (Kd.N_reads' HO_14.out).1; omega))
                                    obtain ⟨ua265_1, uc265_1, rfl, ul265_1, ge265_1⟩ := k54_openF hMe265
                                    have hv265_1 := hcc265 1 _ rfl
                                    rw [add_field _ _ 1 (by omega)] at hv265_1
                                    replace hv265_1 := Option.some.inj (hv265_1.symm.trans hx265_1)
                                    injection hv265_1 with hva_ hvn_ hvc_
                                    rw [hva_] at ge265_1
                                    rw [hvc_] at ul265_1
                                    have HL265_1 := Aside0.mk (show Kd.V (Kd.int .u8) 5 _ u.heap.size _ _ ((rd_T54 x14_15 (ji51)).f1) from Kd.V_mk ul265_1 ge265_1)
                                    clear hva_ hvn_ hvc_ ge265_1 ul265_1
                                    clear hcc265 hce265
                                    have HR265_1 := Aside0.mk hi265_1
                                    have HC265_1 := Aside0.mk hl265_1
                                    clear hi265_1 hl265_1
                                    replace p265 := eq_true p265
                                    replace q265 := eq_true q265
                                    refine start_ (n := 16) (S := fun w' => w'.cell? (ad265.add (((ji51)).toNat * 2)) = some (.int .u8 ((rd_T54 x14_15 (ji51)).f0)) ∧ w'.cell? ⟨(ad265.add (((ji51)).toNat * 2)).block, (ad265.add (((ji51)).toNat * 2)).off + 1, none⟩ = some (.slice A265_1 ((rd_T54 x14_15 (ji51)).f1).length c265_1)) (ds := []) #[false, false, false, false, false, false, false, false, false, false, false, false, false, false, false, false] (by kernel_rfl) rfl rfl ⟨hx265_0, hx265_1⟩ (fun hHeld => ?_); refine with_tabW chatelainelaw45_SplitBack.tab25 chatelainelaw45_SplitBack.bits25 (fun HT_ HW_ => ?_)
                                    generalize w79.drew = w80 at HO_14 HO257 HB HL265_1 HO264 HR265_1 hx265_0 hx265_1 hHeld ⊢
                                    refine pure_ (i := 0) (N := some 119) (v := ?_) (a' := ?_) #[true, false, false, false, false, false, false, false, false, false, false, false, false, false, false, false] rfl rfl (any_of HT_.out (by kernel_rfl)) (fun _ _ _ h => h) (Or.inl ⟨by rfl, ?_⟩) ?_ ?_
                                    rotate_left
                                    · intro w'
                                      go_simp
                                      with_reducible rfl
                                    rotate_left
                                    · simp only [Act.put, List.setIfInBounds_toArray, List.set_cons_zero, List.set_cons_succ, i64_w, i32_w]
                                      rfl
                                    refine pure_ (i := 1) (N := some 120) (v := ?_) (a' := ?_) #[true, true, false, false, false, false, false, false, false, false, false, false, false, false, false, false] rfl rfl (any_of HT_.out (by kernel_rfl)) (fun _ _ _ h => h) (Or.inl ⟨by rfl, ?_⟩) ?_ ?_
                                    rotate_left
                                    · intro w'
                                      go_simp
                                      with_reducible rfl
                                    rotate_left
                                    · simp only [Act.put, List.setIfInBounds_toArray, List.set_cons_zero, List.set_cons_succ, i64_w, i32_w]
                                      rfl
                                    refine pure_ (i := 2) (N := some 121) (v := ?_) (a' := ?_) #[true, true, true, false, false, false, false, false, false, false, false, false, false, false, false, false] rfl rfl (any_of HT_.out (by kernel_rfl)) (fun _ _ _ h => h) (Or.inl ⟨by rfl, ?_⟩) ?_ ?_
                                    rotate_left
                                    · intro w'
                                      go_simp
                                      with_reducible rfl
                                    rotate_left
                                    · simp only [Act.put, List.setIfInBounds_toArray, List.set_cons_zero, List.set_cons_succ, i64_w, i32_w]
                                      rfl
                                    refine pure_ (i := 3) (N := some 122) (v := ?_) (a' := ?_) #[true, true, true, true, false, false, false, false, false, false, false, false, false, false, false, false] rfl rfl (any_of HT_.out (by kernel_rfl)) (fun _ _ _ h => h) (Or.inl ⟨by rfl, ?_⟩) ?_ ?_
                                    rotate_left
                                    · intro w'
                                      go_simp
                                      with_reducible rfl
                                    rotate_left
                                    · simp only [Act.put, List.setIfInBounds_toArray, List.set_cons_zero, List.set_cons_succ, i64_w, i32_w]
                                      rfl
                                    refine pure_ (i := 4) (N := some 123) (v := ?_) (a' := ?_) #[true, true, true, true, true, false, false, false, false, false, false, false, false, false, false, false] rfl rfl (any_of HT_.out (by kernel_rfl)) (fun _ _ _ h => h) (Or.inl ⟨by rfl, ?_⟩) ?_ ?_
                                    rotate_left
                                    · intro w'
                                      go_simp
                                      with_reducible rfl
                                    rotate_left
                                    · simp only [Act.put, List.setIfInBounds_toArray, List.set_cons_zero, List.set_cons_succ, i64_w, i32_w]
                                      rfl
                                    refine pure_ (i := 5) (N := some 124) (v := ?_) (a' := ?_) #[true, true, true, true, true, true, false, false, false, false, false, false, false, false, false, false] rfl rfl (any_of HT_.out (by kernel_rfl)) (fun _ _ _ h => h) (Or.inl ⟨by rfl, ?_⟩) ?_ ?_
                                    rotate_left
                                    · intro w'
                                      go_simp
                                      with_reducible rfl
                                    rotate_left
                                    · simp only [Act.put, List.setIfInBounds_toArray, List.set_cons_zero, List.set_cons_succ, i64_w, i32_w]
                                      rfl
                                    refine pure_ (i := 6) (N := some 125) (v := ?_) (a' := ?_) #[true, true, true, true, true, true, true, false, false, false, false, false, false, false, false, false] rfl rfl (any_of HT_.out (by kernel_rfl)) (fun _ _ _ h => h) (Or.inl ⟨by rfl, ?_⟩) ?_ ?_
                                    rotate_left
                                    · intro w'
                                      go_simp
                                      with_reducible rfl
                                    rotate_left
                                    · simp only [Act.put, List.setIfInBounds_toArray, List.set_cons_zero, List.set_cons_succ, i64_w, i32_w]
                                      rfl
                                    refine pure_ (i := 7) (N := some 126) (v := ?_) (a' := ?_) #[true, true, true, true, true, true, true, true, false, false, false, false, false, false, false, false] rfl rfl (any_of HT_.out (by kernel_rfl)) (fun _ _ _ h => h) (Or.inl ⟨by rfl, ?_⟩) ?_ ?_
                                    rotate_left
                                    · intro w'
                                      go_simp
                                      with_reducible rfl
                                    rotate_left
                                    · simp only [Act.put, List.setIfInBounds_toArray, List.set_cons_zero, List.set_cons_succ, i64_w, i32_w]
                                      rfl
                                    refine pure_ (i := 8) (N := some 127) (v := ?_) (a' := ?_) #[true, true, true, true, true, true, true, true, true, false, false, false, false, false, false, false] rfl rfl (any_of HT_.out (by kernel_rfl)) (fun _ _ _ h => h) (Or.inl ⟨by rfl, ?_⟩) ?_ ?_
                                    rotate_left
                                    · intro w'
                                      go_simp
                                      with_reducible rfl
                                    rotate_left
                                    · simp only [Act.put, List.setIfInBounds_toArray, List.set_cons_zero, List.set_cons_succ, i64_w, i32_w]
                                      rfl
                                    refine take_ (i := 9) (N := some 128) (v := ?_) (a' := ?_) #[true, true, true, true, true, true, true, true, true, true, false, false, false, false, false, false] rfl rfl (take_ofW HT_.out HW_.out (by kernel_rfl)) (fun _ _ _ h => h) (Or.inl ⟨by rfl, ?_⟩) hHeld ?_ ?_
                                    rotate_left
                                    · rintro w' ⟨s0, s1⟩
                                      go_simp
                                      with_reducible rfl
                                    rotate_left
                                    · simp only [Act.put, List.setIfInBounds_toArray, List.set_cons_zero, List.set_cons_succ, i64_w, i32_w]
                                      rfl
                                    refine one_ (i := 10) (N := some 129) #[true, true, true, true, true, true, true, true, true, true, true, false, false, false, false, false] rfl rfl (one_of HT_.out (by kernel_rfl)) (by decide) (fun K hK => ?_)
                                    refine goes_ Try.func35 (by kernel_rfl) rfl #[.slice (some ad265) y260.length co77, .int .u8 ((rd_T54 x14_15 (ji51)).f0)] (by rfl) rfl rfl (by (try simp only [List.map_toArray, List.map_cons, List.map_nil]); first | done | (simp only [hji51]; rfl) | rfl | (simp only [List.length_drop, List.length_take]; rfl)) ?_
                                    with_reducible refine (split_At.calls kj15 _ _ y260 ((rd_T54 x14_15 (ji51)).f0) t266 t267 _ ?side1 ?side2 A54.out).mono ?_
                                    (case side1 => repeat (first | exact (Kd.V_reads' HO264.out).2.2 | (with_reducible refine Kd.C_alloc ?_ _) | (with_reducible refine Kd.C_drewN ?_ _) | (with_reducible refine Kd.C_drew ?_)))
                                    (case side2 => exact (Kd.V_reads' HO264.out).2.1)
                                    rintro e w82 ⟨v268, rfl, ho0, hb⟩
                                    have HS0_ := (hb.cell (World.block_lt_of_cell? _ _ (hHeld.1))).trans (hHeld.1)
                                    have HS1_ := (hb.cell (World.block_lt_of_cell? _ _ (hHeld.2))).trans (hHeld.2)
                                    refine ⟨_, rfl, ?_⟩
                                    have n0_ := Aside0.mk (Kd.N_elder' (by (with_reducible repeat (first | apply Kd.N_alloc | apply Kd.N_drewN | apply Kd.N_drew)); exact HO_14.out) (Kd.R_base ho0) hb)
                                    have n1_ := Aside0.mk (Kd.R_elder' (by (with_reducible repeat (first | apply Kd.R_alloc | apply Kd.R_drewN | apply Kd.R_drew)); exact HO257.out) (Kd.R_base ho0) hb)
                                    have n2_ := Aside0.mk (Kd.V_elder' (by (with_reducible repeat (first | apply Kd.V_alloc | apply Kd.V_drewN | apply Kd.V_drew)); exact HO264.out) (Kd.R_base ho0) hb)
                                    have n3_ := Aside0.mk (Kd.V_elder' (by (with_reducible repeat (first | apply Kd.V_alloc | apply Kd.V_drewN | apply Kd.V_drew)); exact HL265_1.out) (Kd.R_base ho0) hb)
                                    have n4_ := Aside0.mk (Kd.R_lower (Kd.R_new' (Kd.R_newM (M := fun k_ => (u.heap.size ≤ k_)) ho0 (below_size (by repeat (first | (with_reducible first | exact HB.out | apply below_alloc | apply pw_below_drewN | apply below_drew1) | exact HB.out))) (fun k_ h_ => h_)) (Kd.R_lt (by (with_reducible repeat (first | apply Kd.R_alloc | apply Kd.R_drewN | apply Kd.R_drew)); exact HO257.out))) (below_size (by repeat (first | (with_reducible first | exact HB.out | apply below_alloc | apply pw_below_drewN | apply below_drew1) | exact HB.out))))
                                    have n5_ := Aside0.mk (Kd.C_below (by repeat (first | (with_reducible exact HR265_1.out) | (with_reducible refine Kd.C_alloc ?_ _) | (with_reducible refine Kd.C_drewN ?_ _) | (with_reducible refine Kd.C_drew ?_) | exact HR265_1.out)) hb)
                                    have n6_ := Aside0.mk (below_step (by repeat (first | (with_reducible first | exact HB.out | apply below_alloc | apply pw_below_drewN | apply below_drew1) | exact HB.out)) hb)
                                    clear HO_14
                                    clear HO257
                                    clear HO264
                                    clear HL265_1
                                    clear HR265_1
                                    clear HB
                                    have HO_14 := n0_
                                    have HO257 := n1_
                                    have HO264 := n2_
                                    have HL265_1 := n3_
                                    have HO269 := n4_
                                    have HR265_1 := n5_
                                    have HB := n6_
                                    clear n0_ n1_ n2_ n3_ n4_ n5_ n6_
                                    (try clear hb)
                                    (try clear hb2)
                                    (try clear hk)
                                    (try clear hi)
                                    (try clear ho0)
                                    refine hK.out _ _ ⟨HS0_, HS1_⟩ (fun hHeld => ?_)
                                    clear hK K
                                    refine norm_ (a' := ?_) ?_ ?_
                                    rotate_left
                                    · show Act.put _ (some 129) _ = _
                                      simp only [Act.put, List.setIfInBounds_toArray, List.set_cons_zero, List.set_cons_succ, i64_w, i32_w]
                                      rfl
                                    refine pure_ (i := 11) (N := some 118) (v := ?_) (a' := ?_) #[true, true, true, true, true, true, true, true, true, true, true, true, false, false, false, false] rfl rfl (any_of HT_.out (by kernel_rfl)) (fun _ _ _ h => h) (Or.inl ⟨by rfl, ?_⟩) ?_ ?_
                                    rotate_left
                                    · intro w'
                                      go_simp
                                      with_reducible rfl
                                    rotate_left
                                    · simp only [Act.put, List.setIfInBounds_toArray, List.set_cons_zero, List.set_cons_succ, i64_w, i32_w]
                                      rfl
                                    refine pure_ (i := 12) (N := some 130) (v := ?_) (a' := ?_) #[true, true, true, true, true, true, true, true, true, true, true, true, true, false, false, false] rfl rfl (any_of HT_.out (by kernel_rfl)) (fun _ _ _ h => h) (Or.inl ⟨by rfl, ?_⟩) ?_ ?_
                                    rotate_left
                                    · intro w'
                                      go_simp
                                      with_reducible rfl
                                    rotate_left
                                    · simp only [Act.put, List.setIfInBounds_toArray, List.set_cons_zero, List.set_cons_succ, i64_w, i32_w]
                                      rfl
                                    refine pure_ (i := 13) (N := some 131) (v := ?_) (a' := ?_) #[true, true, true, true, true, true, true, true, true, true, true, true, true, true, false, false] rfl rfl (any_of HT_.out (by kernel_rfl)) (fun _ _ _ h => h) (Or.inl ⟨by rfl, ?_⟩) ?_ ?_
                                    rotate_left
                                    · intro w'
                                      go_simp
                                      with_reducible rfl
                                    rotate_left
                                    · simp only [Act.put, List.setIfInBounds_toArray, List.set_cons_zero, List.set_cons_succ, i64_w, i32_w]
                                      rfl
                                    refine pure_ (i := 14) (N := some 22) (v := ?_) (a' := ?_) #[true, true, true, true, true, true, true, true, true, true, true, true, true, true, true, false] rfl rfl (any_of HT_.out (by kernel_rfl)) (fun _ _ _ h => h) (Or.inl ⟨by rfl, ?_⟩) ?_ ?_
                                    rotate_left
                                    · intro w'
                                      go_simp
                                      with_reducible rfl
                                    rotate_left
                                    · simp only [Act.put, List.setIfInBounds_toArray, List.set_cons_zero, List.set_cons_succ, i64_w, i32_w]
                                      rfl
                                    refine pure_ (i := 15) (N := some 23) (v := ?_) (a' := ?_) #[true, true, true, true, true, true, true, true, true, true, true, true, true, true, true, true] rfl rfl (any_of HT_.out (by kernel_rfl)) (fun _ _ _ h => h) (Or.inl ⟨by rfl, ?_⟩) ?_ ?_
                                    rotate_left
                                    · intro w'
                                      go_simp
                                      with_reducible rfl
                                    rotate_left
                                    · simp only [Act.put, List.setIfInBounds_toArray, List.set_cons_zero, List.set_cons_succ, i64_w, i32_w]
                                      rfl
                                    refine done_ (done_of HT_.out (by kernel_rfl)) ?_
                                    obtain ⟨Ao83, co83, eo83⟩ := Kd.R_slice HO257.out
                                    subst eo83
                                    try go_wp2_with (first | (go_at_call 37; (with_reducible refine (chatelaineref01_Same.calls kj15 _ _ t254 _ _ l0 true _ ?side1 ?side2 ?side3 ?side4 A56.out).mono ?_); (case side1 => repeat (first | exact (Kd.R_reads' HO257.out).2.2 | (with_reducible refine Kd.C_alloc ?_ _) | (with_reducible refine Kd.C_drewN ?_ _) | (with_reducible refine Kd.C_drew ?_))); (case side2 => exact (Kd.R_reads' HO257.out).2.1); (case side3 => repeat (first | exact (Kd.C_below HR0.out HB.out) | (with_reducible refine Kd.C_alloc ?_ _) | (with_reducible refine Kd.C_drewN ?_ _) | (with_reducible refine Kd.C_drew ?_))); (case side4 => exact HC0.out); rintro e w' ⟨rfl, ⟨nd, rfl⟩⟩))
                                    go_ret
                                    exact ⟨by first | rfl | (simp [errW_none, errW_some] <;> rfl) | (simp only [← hji51]; first | rfl | (simp [errW_none, errW_some] <;> rfl)) | (simp [*, errW_none, errW_some] <;> rfl), below_step HW.out (below_step HV.out (by repeat (first | (with_reducible first | exact HB.out | apply below_alloc | apply pw_below_drewN | apply below_drew1) | exact HB.out)))⟩
                                · rw [if_neg c58] at H
                                  have c58b0 : (t259 == 0) = false := beq_eq_false_iff_ne.mpr c58
                                  have c58b1 : (t259 != 0) = true := bne_iff_ne.mpr c58
                                  obtain rfl := Option.some.inj H
                                  obtain ⟨Ao84, co84, eo84⟩ := Kd.N_slice HO_14.out
                                  subst eo84
                                  try go_wp2_with (first | ((with_reducible refine gate_callee (f := 36) rfl ?_); refine goesL_ (some 109) rfl rfl Try.func36 (by kernel_rfl) rfl #[.slice Ao84 x14_15.length co84] rfl (by (try simp only [List.map_toArray, List.map_cons, List.map_nil]); first | done | rfl | (simp only [List.length_drop, List.length_take]; rfl)) ?_; (with_reducible refine (split_Join.calls kj15 _ _ x14_15 t254 t255 _ ?side1 ?side2 A47.out).mono ?_); (case side1 => repeat (first | exact (Kd.N_reads' HO_14.out).2.2 | (with_reducible refine Kd.C_alloc ?_ _) | (with_reducible refine Kd.C_drewN ?_ _) | (with_reducible refine Kd.C_drew ?_))); (case side2 => exact (Kd.N_reads' HO_14.out).2.1); rintro e w85 ⟨v256, rfl, ho0, hb⟩; refine ⟨_, rfl, ?_⟩; have n0_ := Aside0.mk (Kd.N_elder' (by (with_reducible repeat (first | apply Kd.N_alloc | apply Kd.N_drewN | apply Kd.N_drew)); exact HO_14.out) (Kd.R_base ho0) hb); have n1_ := Aside0.mk (Kd.R_lower (Kd.R_newM (M := fun k_ => (u.heap.size ≤ k_)) ho0 (below_size (by repeat (first | (with_reducible first | exact HB.out | apply below_alloc | apply pw_below_drewN | apply below_drew1) | exact HB.out))) (fun k_ h_ => h_)) (below_size (by repeat (first | (with_reducible first | exact HB.out | apply below_alloc | apply pw_below_drewN | apply below_drew1) | exact HB.out)))); have n2_ := Aside0.mk (below_step (by repeat (first | (with_reducible first | exact HB.out | apply below_alloc | apply pw_below_drewN | apply below_drew1) | exact HB.out)) hb); clear HO_14; clear HB; have HO_14 := n0_; have HO257 := n1_; have HB := n2_; clear n0_ n1_ n2_; (try clear hb); (try clear hb2); (try clear hk); (try clear hi); (try clear ho0)) | ((with_reducible refine gate_callee (f := 39) rfl ?_); refine goesL_ (some 115) rfl rfl Try.func39 (by kernel_rfl) rfl #[.slice Ao84 x14_15.length co84, .int .i64 a3] rfl (by (try simp only [List.map_toArray, List.map_cons, List.map_nil]); first | done | rfl | (simp only [List.length_drop, List.length_take]; rfl)) ?_; (with_reducible refine (split_Fits.calls kj15 _ _ x14_15 a3 t258 t259 _ ?side1 ?side2 A48.out).mono ?_); (case side1 => repeat (first | exact (Kd.N_reads' HO_14.out).2.2 | (with_reducible refine Kd.C_alloc ?_ _) | (with_reducible refine Kd.C_drewN ?_ _) | (with_reducible refine Kd.C_drew ?_))); (case side2 => exact (Kd.N_reads' HO_14.out).2.1); rintro e w86 ⟨rfl, hb⟩; refine ⟨_, rfl, ?_⟩; have n0_ := Aside0.mk (Kd.N_below (by (with_reducible repeat (first | apply Kd.N_alloc | apply Kd.N_drewN | apply Kd.N_drew)); exact HO_14.out) hb); have n1_ := Aside0.mk (Kd.R_below (by (with_reducible repeat (first | apply Kd.R_alloc | apply Kd.R_drewN | apply Kd.R_drew)); exact HO257.out) hb); have n2_ := Aside0.mk (below_step (by repeat (first | (with_reducible first | exact HB.out | apply below_alloc | apply pw_below_drewN | apply below_drew1) | exact HB.out)) hb); clear HO_14; clear HO257; clear HB; have HO_14 := n0_; have HO257 := n1_; have HB := n2_; clear n0_ n1_ n2_; (try clear hb); (try clear hb2); (try clear hk); (try clear hi)))
                                  have n0_ := Aside0.mk (Kd.N_drew HO_14.out)
                                  have n1_ := Aside0.mk (Kd.R_drew HO257.out)
                                  have n2_ := Aside0.mk (below_drew1 HB.out)
                                  clear HO_14
                                  clear HO257
                                  clear HB
                                  have HO_14 := n0_
                                  have HO257 := n1_
                                  have HB := n2_
                                  clear n0_ n1_ n2_
                                  have q88 : (a3 : Int) ≤ ((x14_15.length : Int) : Int) := of_decide_eq_true (by first | (with_reducible assumption) | assumption)
                                  obtain ⟨i088, hi088, _, hsz88, _⟩ := info_parts info54
                                  have hroom88 : x14_15.length ≤ co84 := (Kd.N_reads' HO_14.out).2.1
                                  have hC88 : Kd.F k54 _ _ Ao84 x14_15.length x14_15 := (Kd.V_at (base := u.heap.size) (Kd.N_V HO_14.out)).2.2
                                  have hcut88 := cut_to (P := Try.prog) 49 54 .i64 Try.underlying49 hi088 Ao84 x14_15.length co84 a3 (of_decide_eq_true (by first | (with_reducible assumption) | assumption)) q88 hroom88
                                  have hr88 := Kd.F_take (m := (a3 : Int).toNat) hC88 (by omega)
                                  have hy88 : y260.length = (a3 : Int).toNat := (by rw [Ny260.out, List.length_take]; omega)
                                  rw [← Ny260.out] at hr88
                                  rw [← hy88] at hcut88
                                  have HO264 := Aside0.mk (show Kd.V k54 54 _ u.heap.size _ (.slice Ao84 y260.length co84) y260 from Kd.V_mk (by omega) hr88)
                                  have HC264 := Aside0.mk (show y260.length ≤ co84 from by omega)
                                  clear hr88 hC88 hroom88 hi088 hsz88
                                  have KY88 := Aside0.mk hy88
                                  clear hy88
                                  replace q88 := eq_true q88
                                  have p265 : 0 ≤ ((ji51) : Int) := of_decide_eq_true (by first | (with_reducible assumption) | assumption)
                                  have q265 : (ji51) < (x14_15.length : Int) := of_decide_eq_true (by first | (with_reducible assumption) | assumption)
                                  obtain ⟨ad265, A265_1, c265_1, e265, hx265_0, hx265_1, hl265_1, hi265_1⟩ := at_T54 (Kd.N_reads' HO_14.out).2.2 (ji51) p265 q265
                                  cases e265
                                  obtain ⟨ce265, hce265, hMe265, hcc265⟩ := Kd.N_get HO_14.out z54 (ji51) p265 (by first | exact q265 | exact of_decide_eq_true (by first | (with_reducible assumption) | assumption) | (have e_ := (Kd.N_reads' HO_14.out).1; omega))
                                  obtain ⟨ua265_1, uc265_1, rfl, ul265_1, ge265_1⟩ := k54_openF hMe265
                                  have hv265_1 := hcc265 1 _ rfl
                                  rw [add_field _ _ 1 (by omega)] at hv265_1
                                  replace hv265_1 := Option.some.inj (hv265_1.symm.trans hx265_1)
                                  injection hv265_1 with hva_ hvn_ hvc_
                                  rw [hva_] at ge265_1
                                  rw [hvc_] at ul265_1
                                  have HL265_1 := Aside0.mk (show Kd.V (Kd.int .u8) 5 _ u.heap.size _ _ ((rd_T54 x14_15 (ji51)).f1) from Kd.V_mk ul265_1 ge265_1)
                                  clear hva_ hvn_ hvc_ ge265_1 ul265_1
                                  clear hcc265 hce265
                                  have HR265_1 := Aside0.mk hi265_1
                                  have HC265_1 := Aside0.mk hl265_1
                                  clear hi265_1 hl265_1
                                  replace p265 := eq_true p265
                                  replace q265 := eq_true q265
                                  refine start_ (n := 16) (S := fun w' => w'.cell? (ad265.add (((ji51)).toNat * 2)) = some (.int .u8 ((rd_T54 x14_15 (ji51)).f0)) ∧ w'.cell? ⟨(ad265.add (((ji51)).toNat * 2)).block, (ad265.add (((ji51)).toNat * 2)).off + 1, none⟩ = some (.slice A265_1 ((rd_T54 x14_15 (ji51)).f1).length c265_1)) (ds := []) #[false, false, false, false, false, false, false, false, false, false, false, false, false, false, false, false] (by kernel_rfl) rfl rfl ⟨hx265_0, hx265_1⟩ (fun hHeld => ?_); refine with_tabW chatelainelaw45_SplitBack.tab25 chatelainelaw45_SplitBack.bits25 (fun HT_ HW_ => ?_)
                                  generalize w86.drew = w87 at HO_14 HO257 HB HL265_1 HO264 HR265_1 hx265_0 hx265_1 hHeld ⊢
                                  refine pure_ (i := 0) (N := some 119) (v := ?_) (a' := ?_) #[true, false, false, false, false, false, false, false, false, false, false, false, false, false, false, false] rfl rfl (any_of HT_.out (by kernel_rfl)) (fun _ _ _ h => h) (Or.inl ⟨by rfl, ?_⟩) ?_ ?_
                                  rotate_left
                                  · intro w'
                                    go_simp
                                    with_reducible rfl
                                  rotate_left
                                  · simp only [Act.put, List.setIfInBounds_toArray, List.set_cons_zero, List.set_cons_succ, i64_w, i32_w]
                                    rfl
                                  refine pure_ (i := 1) (N := some 120) (v := ?_) (a' := ?_) #[true, true, false, false, false, false, false, false, false, false, false, false, false, false, false, false] rfl rfl (any_of HT_.out (by kernel_rfl)) (fun _ _ _ h => h) (Or.inl ⟨by rfl, ?_⟩) ?_ ?_
                                  rotate_left
                                  · intro w'
                                    go_simp
                                    with_reducible rfl
                                  rotate_left
                                  · simp only [Act.put, List.setIfInBounds_toArray, List.set_cons_zero, List.set_cons_succ, i64_w, i32_w]
                                    rfl
                                  refine pure_ (i := 2) (N := some 121) (v := ?_) (a' := ?_) #[true, true, true, false, false, false, false, false, false, false, false, false, false, false, false, false] rfl rfl (any_of HT_.out (by kernel_rfl)) (fun _ _ _ h => h) (Or.inl ⟨by rfl, ?_⟩) ?_ ?_
                                  rotate_left
                                  · intro w'
                                    go_simp
                                    with_reducible rfl
                                  rotate_left
                                  · simp only [Act.put, List.setIfInBounds_toArray, List.set_cons_zero, List.set_cons_succ, i64_w, i32_w]
                                    rfl
                                  refine pure_ (i := 3) (N := some 122) (v := ?_) (a' := ?_) #[true, true, true, true, false, false, false, false, false, false, false, false, false, false, false, false] rfl rfl (any_of HT_.out (by kernel_rfl)) (fun _ _ _ h => h) (Or.inl ⟨by rfl, ?_⟩) ?_ ?_
                                  rotate_left
                                  · intro w'
                                    go_simp
                                    with_reducible rfl
                                  rotate_left
                                  · simp only [Act.put, List.setIfInBounds_toArray, List.set_cons_zero, List.set_cons_succ, i64_w, i32_w]
                                    rfl
                                  refine pure_ (i := 4) (N := some 123) (v := ?_) (a' := ?_) #[true, true, true, true, true, false, false, false, false, false, false, false, false, false, false, false] rfl rfl (any_of HT_.out (by kernel_rfl)) (fun _ _ _ h => h) (Or.inl ⟨by rfl, ?_⟩) ?_ ?_
                                  rotate_left
                                  · intro w'
                                    go_simp
                                    with_reducible rfl
                                  rotate_left
                                  · simp only [Act.put, List.setIfInBounds_toArray, List.set_cons_zero, List.set_cons_succ, i64_w, i32_w]
                                    rfl
                                  refine pure_ (i := 5) (N := some 124) (v := ?_) (a' := ?_) #[true, true, true, true, true, true, false, false, false, false, false, false, false, false, false, false] rfl rfl (any_of HT_.out (by kernel_rfl)) (fun _ _ _ h => h) (Or.inl ⟨by rfl, ?_⟩) ?_ ?_
                                  rotate_left
                                  · intro w'
                                    go_simp
                                    with_reducible rfl
                                  rotate_left
                                  · simp only [Act.put, List.setIfInBounds_toArray, List.set_cons_zero, List.set_cons_succ, i64_w, i32_w]
                                    rfl
                                  refine pure_ (i := 6) (N := some 125) (v := ?_) (a' := ?_) #[true, true, true, true, true, true, true, false, false, false, false, false, false, false, false, false] rfl rfl (any_of HT_.out (by kernel_rfl)) (fun _ _ _ h => h) (Or.inl ⟨by rfl, ?_⟩) ?_ ?_
                                  rotate_left
                                  · intro w'
                                    go_simp
                                    with_reducible rfl
                                  rotate_left
                                  · simp only [Act.put, List.setIfInBounds_toArray, List.set_cons_zero, List.set_cons_succ, i64_w, i32_w]
                                    rfl
                                  refine pure_ (i := 7) (N := some 126) (v := ?_) (a' := ?_) #[true, true, true, true, true, true, true, true, false, false, false, false, false, false, false, false] rfl rfl (any_of HT_.out (by kernel_rfl)) (fun _ _ _ h => h) (Or.inl ⟨by rfl, ?_⟩) ?_ ?_
                                  rotate_left
                                  · intro w'
                                    go_simp
                                    with_reducible rfl
                                  rotate_left
                                  · simp only [Act.put, List.setIfInBounds_toArray, List.set_cons_zero, List.set_cons_succ, i64_w, i32_w]
                                    rfl
                                  refine pure_ (i := 8) (N := some 127) (v := ?_) (a' := ?_) #[true, true, true, true, true, true, true, true, true, false, false, false, false, false, false, false] rfl rfl (any_of HT_.out (by kernel_rfl)) (fun _ _ _ h => h) (Or.inl ⟨by rfl, ?_⟩) ?_ ?_
                                  rotate_left
                                  · intro w'
                                    go_simp
                                    with_reducible rfl
                                  rotate_left
                                  · simp only [Act.put, List.setIfInBounds_toArray, List.set_cons_zero, List.set_cons_succ, i64_w, i32_w]
                                    rfl
                                  refine take_ (i := 9) (N := some 128) (v := ?_) (a' := ?_) #[true, true, true, true, true, true, true, true, true, true, false, false, false, false, false, false] rfl rfl (take_ofW HT_.out HW_.out (by kernel_rfl)) (fun _ _ _ h => h) (Or.inl ⟨by rfl, ?_⟩) hHeld ?_ ?_
                                  rotate_left
                                  · rintro w' ⟨s0, s1⟩
                                    go_simp
                                    with_reducible rfl
                                  rotate_left
                                  · simp only [Act.put, List.setIfInBounds_toArray, List.set_cons_zero, List.set_cons_succ, i64_w, i32_w]
                                    rfl
                                  refine one_ (i := 10) (N := some 129) #[true, true, true, true, true, true, true, true, true, true, true, false, false, false, false, false] rfl rfl (one_of HT_.out (by kernel_rfl)) (by decide) (fun K hK => ?_)
                                  refine goes_ Try.func35 (by kernel_rfl) rfl #[.slice (some ad265) y260.length co84, .int .u8 ((rd_T54 x14_15 (ji51)).f0)] (by rfl) rfl rfl (by (try simp only [List.map_toArray, List.map_cons, List.map_nil]); first | done | (simp only [hji51]; rfl) | rfl | (simp only [List.length_drop, List.length_take]; rfl)) ?_
                                  with_reducible refine (split_At.calls kj15 _ _ y260 ((rd_T54 x14_15 (ji51)).f0) t266 t267 _ ?side1 ?side2 A54.out).mono ?_
                                  (case side1 => repeat (first | exact (Kd.V_reads' HO264.out).2.2 | (with_reducible refine Kd.C_alloc ?_ _) | (with_reducible refine Kd.C_drewN ?_ _) | (with_reducible refine Kd.C_drew ?_)))
                                  (case side2 => exact (Kd.V_reads' HO264.out).2.1)
                                  rintro e w89 ⟨v268, rfl, ho0, hb⟩
                                  have HS0_ := (hb.cell (World.block_lt_of_cell? _ _ (hHeld.1))).trans (hHeld.1)
                                  have HS1_ := (hb.cell (World.block_lt_of_cell? _ _ (hHeld.2))).trans (hHeld.2)
                                  refine ⟨_, rfl, ?_⟩
                                  have n0_ := Aside0.mk (Kd.N_elder' (by (with_reducible repeat (first | apply Kd.N_alloc | apply Kd.N_drewN | apply Kd.N_drew)); exact HO_14.out) (Kd.R_base ho0) hb)
                                  have n1_ := Aside0.mk (Kd.R_elder' (by (with_reducible repeat (first | apply Kd.R_alloc | apply Kd.R_drewN | apply Kd.R_drew)); exact HO257.out) (Kd.R_base ho0) hb)
                                  have n2_ := Aside0.mk (Kd.V_elder' (by (with_reducible repeat (first | apply Kd.V_alloc | apply Kd.V_drewN | apply Kd.V_drew)); exact HO264.out) (Kd.R_base ho0) hb)
                                  have n3_ := Aside0.mk (Kd.V_elder' (by (with_reducible repeat (first | apply Kd.V_alloc | apply Kd.V_drewN | apply Kd.V_drew)); exact HL265_1.out) (Kd.R_base ho0) hb)
                                  have n4_ := Aside0.mk (Kd.R_lower (Kd.R_new' (Kd.R_newM (M := fun k_ => (u.heap.size ≤ k_)) ho0 (below_size (by repeat (first | (with_reducible first | exact HB.out | apply below_alloc | apply pw_below_drewN | apply below_drew1) | exact HB.out))) (fun k_ h_ => h_)) (Kd.R_lt (by (with_reducible repeat (first | apply Kd.R_alloc | apply Kd.R_drewN | apply Kd.R_drew)); exact HO257.out))) (below_size (by repeat (first | (with_reducible first | exact HB.out | apply below_alloc | apply pw_below_drewN | apply below_drew1) | exact HB.out))))
                                  have n5_ := Aside0.mk (Kd.C_below (by repeat (first | (with_reducible exact HR265_1.out) | (with_reducible refine Kd.C_alloc ?_ _) | (with_reducible refine Kd.C_drewN ?_ _) | (with_reducible refine Kd.C_drew ?_) | exact HR265_1.out)) hb)
                                  have n6_ := Aside0.mk (below_step (by repeat (first | (with_reducible first | exact HB.out | apply below_alloc | apply pw_below_drewN | apply below_drew1) | exact HB.out)) hb)
                                  clear HO_14
                                  clear HO257
                                  clear HO264
                                  clear HL265_1
                                  clear HR265_1
                                  clear HB
                                  have HO_14 := n0_
                                  have HO257 := n1_
                                  have HO264 := n2_
                                  have HL265_1 := n3_
                                  have HO269 := n4_
                                  have HR265_1 := n5_
                                  have HB := n6_
                                  clear n0_ n1_ n2_ n3_ n4_ n5_ n6_
                                  (try clear hb)
                                  (try clear hb2)
                                  (try clear hk)
                                  (try clear hi)
                                  (try clear ho0)
                                  refine hK.out _ _ ⟨HS0_, HS1_⟩ (fun hHeld => ?_)
                                  clear hK K
                                  refine norm_ (a' := ?_) ?_ ?_
                                  rotate_left
                                  · show Act.put _ (some 129) _ = _
                                    simp only [Act.put, List.setIfInBounds_toArray, List.set_cons_zero, List.set_cons_succ, i64_w, i32_w]
                                    rfl
                                  refine pure_ (i := 11) (N := some 118) (v := ?_) (a' := ?_) #[true, true, true, true, true, true, true, true, true, true, true, true, false, false, false, false] rfl rfl (any_of HT_.out (by kernel_rfl)) (fun _ _ _ h => h) (Or.inl ⟨by rfl, ?_⟩) ?_ ?_
                                  rotate_left
                                  · intro w'
                                    go_simp
                                    with_reducible rfl
                                  rotate_left
                                  · simp only [Act.put, List.setIfInBounds_toArray, List.set_cons_zero, List.set_cons_succ, i64_w, i32_w]
                                    rfl
                                  refine pure_ (i := 12) (N := some 130) (v := ?_) (a' := ?_) #[true, true, true, true, true, true, true, true, true, true, true, true, true, false, false, false] rfl rfl (any_of HT_.out (by kernel_rfl)) (fun _ _ _ h => h) (Or.inl ⟨by rfl, ?_⟩) ?_ ?_
                                  rotate_left
                                  · intro w'
                                    go_simp
                                    with_reducible rfl
                                  rotate_left
                                  · simp only [Act.put, List.setIfInBounds_toArray, List.set_cons_zero, List.set_cons_succ, i64_w, i32_w]
                                    rfl
                                  refine pure_ (i := 13) (N := some 131) (v := ?_) (a' := ?_) #[true, true, true, true, true, true, true, true, true, true, true, true, true, true, false, false] rfl rfl (any_of HT_.out (by kernel_rfl)) (fun _ _ _ h => h) (Or.inl ⟨by rfl, ?_⟩) ?_ ?_
                                  rotate_left
                                  · intro w'
                                    go_simp
                                    with_reducible rfl
                                  rotate_left
                                  · simp only [Act.put, List.setIfInBounds_toArray, List.set_cons_zero, List.set_cons_succ, i64_w, i32_w]
                                    rfl
                                  refine pure_ (i := 14) (N := some 22) (v := ?_) (a' := ?_) #[true, true, true, true, true, true, true, true, true, true, true, true, true, true, true, false] rfl rfl (any_of HT_.out (by kernel_rfl)) (fun _ _ _ h => h) (Or.inl ⟨by rfl, ?_⟩) ?_ ?_
                                  rotate_left
                                  · intro w'
                                    go_simp
                                    with_reducible rfl
                                  rotate_left
                                  · simp only [Act.put, List.setIfInBounds_toArray, List.set_cons_zero, List.set_cons_succ, i64_w, i32_w]
                                    rfl
                                  refine pure_ (i := 15) (N := some 23) (v := ?_) (a' := ?_) #[true, true, true, true, true, true, true, true, true, true, true, true, true, true, true, true] rfl rfl (any_of HT_.out (by kernel_rfl)) (fun _ _ _ h => h) (Or.inl ⟨by rfl, ?_⟩) ?_ ?_
                                  rotate_left
                                  · intro w'
                                    go_simp
                                    with_reducible rfl
                                  rotate_left
                                  · simp only [Act.put, List.setIfInBounds_toArray, List.set_cons_zero, List.set_cons_succ, i64_w, i32_w]
                                    rfl
                                  refine done_ (done_of HT_.out (by kernel_rfl)) ?_
                                  obtain ⟨Ao90, co90, eo90⟩ := Kd.R_slice HO257.out
                                  subst eo90
                                  try go_wp2_with (first | (go_at_call 37; (with_reducible refine (chatelaineref01_Same.calls kj15 _ _ t254 _ _ l0 true _ ?side1 ?side2 ?side3 ?side4 A56.out).mono ?_); (case side1 => repeat (first | exact (Kd.R_reads' HO257.out).2.2 | (with_reducible refine Kd.C_alloc ?_ _) | (with_reducible refine Kd.C_drewN ?_ _) | (with_reducible refine Kd.C_drew ?_))); (case side2 => exact (Kd.R_reads' HO257.out).2.1); (case side3 => repeat (first | exact (Kd.C_below HR0.out HB.out) | (with_reducible refine Kd.C_alloc ?_ _) | (with_reducible refine Kd.C_drewN ?_ _) | (with_reducible refine Kd.C_drew ?_))); (case side4 => exact HC0.out); rintro e w' ⟨rfl, ⟨nd, rfl⟩⟩))
                                  go_ret
                                  exact ⟨by first | rfl | (simp [errW_none, errW_some] <;> rfl) | (simp only [← hji51]; first | rfl | (simp [errW_none, errW_some] <;> rfl)) | (simp [*, errW_none, errW_some] <;> rfl), below_step HW.out (below_step HV.out (by repeat (first | (with_reducible first | exact HB.out | apply below_alloc | apply pw_below_drewN | apply below_drew1) | exact HB.out)))⟩
                              · replace c57 := Bool.eq_false_iff.mpr c57
                                subst c57
                                have H1 : (some false) = some r := by rw [if_neg (show ¬ (false = true) by decide)] at H; exact H
                                clear H
                                have H := H1
                                clear H1
                                obtain rfl := Option.some.inj H
                                obtain ⟨Ao91, co91, eo91⟩ := Kd.N_slice HO_14.out
                                subst eo91
                                try go_wp2_with (first | ((with_reducible refine gate_callee (f := 36) rfl ?_); refine goesL_ (some 109) rfl rfl Try.func36 (by kernel_rfl) rfl #[.slice Ao91 x14_15.length co91] rfl (by (try simp only [List.map_toArray, List.map_cons, List.map_nil]); first | done | rfl | (simp only [List.length_drop, List.length_take]; rfl)) ?_; (with_reducible refine (split_Join.calls kj15 _ _ x14_15 t254 t255 _ ?side1 ?side2 A47.out).mono ?_); (case side1 => repeat (first | exact (Kd.N_reads' HO_14.out).2.2 | (with_reducible refine Kd.C_alloc ?_ _) | (with_reducible refine Kd.C_drewN ?_ _) | (with_reducible refine Kd.C_drew ?_))); (case side2 => exact (Kd.N_reads' HO_14.out).2.1); rintro e w92 ⟨v256, rfl, ho0, hb⟩; refine ⟨_, rfl, ?_⟩; have n0_ := Aside0.mk (Kd.N_elder' (by (with_reducible repeat (first | apply Kd.N_alloc | apply Kd.N_drewN | apply Kd.N_drew)); exact HO_14.out) (Kd.R_base ho0) hb); have n1_ := Aside0.mk (Kd.R_lower (Kd.R_newM (M := fun k_ => (u.heap.size ≤ k_)) ho0 (below_size (by repeat (first | (with_reducible first | exact HB.out | apply below_alloc | apply pw_below_drewN | apply below_drew1) | exact HB.out))) (fun k_ h_ => h_)) (below_size (by repeat (first | (with_reducible first | exact HB.out | apply below_alloc | apply pw_below_drewN | apply below_drew1) | exact HB.out)))); have n2_ := Aside0.mk (below_step (by repeat (first | (with_reducible first | exact HB.out | apply below_alloc | apply pw_below_drewN | apply below_drew1) | exact HB.out)) hb); clear HO_14; clear HB; have HO_14 := n0_; have HO257 := n1_; have HB := n2_; clear n0_ n1_ n2_; (try clear hb); (try clear hb2); (try clear hk); (try clear hi); (try clear ho0)) | ((with_reducible refine gate_callee (f := 39) rfl ?_); refine goesL_ (some 115) rfl rfl Try.func39 (by kernel_rfl) rfl #[.slice Ao91 x14_15.length co91, .int .i64 a3] rfl (by (try simp only [List.map_toArray, List.map_cons, List.map_nil]); first | done | rfl | (simp only [List.length_drop, List.length_take]; rfl)) ?_; (with_reducible refine (split_Fits.calls kj15 _ _ x14_15 a3 t258 t259 _ ?side1 ?side2 A48.out).mono ?_); (case side1 => repeat (first | exact (Kd.N_reads' HO_14.out).2.2 | (with_reducible refine Kd.C_alloc ?_ _) | (with_reducible refine Kd.C_drewN ?_ _) | (with_reducible refine Kd.C_drew ?_))); (case side2 => exact (Kd.N_reads' HO_14.out).2.1); rintro e w93 ⟨rfl, hb⟩; refine ⟨_, rfl, ?_⟩; have n0_ := Aside0.mk (Kd.N_below (by (with_reducible repeat (first | apply Kd.N_alloc | apply Kd.N_drewN | apply Kd.N_drew)); exact HO_14.out) hb); have n1_ := Aside0.mk (Kd.R_below (by (with_reducible repeat (first | apply Kd.R_alloc | apply Kd.R_drewN | apply Kd.R_drew)); exact HO257.out) hb); have n2_ := Aside0.mk (below_step (by repeat (first | (with_reducible first | exact HB.out | apply below_alloc | apply pw_below_drewN | apply below_drew1) | exact HB.out)) hb); clear HO_14; clear HO257; clear HB; have HO_14 := n0_; have HO257 := n1_; have HB := n2_; clear n0_ n1_ n2_; (try clear hb); (try clear hb2); (try clear hk); (try clear hi)))
                                have n0_ := Aside0.mk (Kd.N_drew HO_14.out)
                                have n1_ := Aside0.mk (Kd.R_drew HO257.out)
                                have n2_ := Aside0.mk (below_drew1 HB.out)
                                clear HO_14
                                clear HO257
                                clear HB
                                have HO_14 := n0_
                                have HO257 := n1_
                                have HB := n2_
                                clear n0_ n1_ n2_
                                have q95 : (a3 : Int) ≤ ((x14_15.length : Int) : Int) := of_decide_eq_true (by first | (with_reducible assumption) | assumption)
                                obtain ⟨i095, hi095, _, hsz95, _⟩ := info_parts info54
                                have hroom95 : x14_15.length ≤ co91 := (Kd.N_reads' HO_14.out).2.1
                                have hC95 : Kd.F k54 _ _ Ao91 x14_15.length x14_15 := (Kd.V_at (base := u.heap.size) (Kd.N_V HO_14.out)).2.2
                                have hcut95 := cut_to (P := Try.prog) 49 54 .i64 Try.underlying49 hi095 Ao91 x14_15.length co91 a3 (of_decide_eq_true (by first | (with_reducible assumption) | assumption)) q95 hroom95
                                have hr95 := Kd.F_take (m := (a3 : Int).toNat) hC95 (by omega)
                                have hy95 : y260.length = (a3 : Int).toNat := (by rw [Ny260.out, List.length_take]; omega)
                                rw [← Ny260.out] at hr95
                                rw [← hy95] at hcut95
                                have HO264 := Aside0.mk (show Kd.V k54 54 _ u.heap.size _ (.slice Ao91 y260.length co91) y260 from Kd.V_mk (by omega) hr95)
                                have HC264 := Aside0.mk (show y260.length ≤ co91 from by omega)
                                clear hr95 hC95 hroom95 hi095 hsz95
                                have KY95 := Aside0.mk hy95
                                clear hy95
                                replace q95 := eq_true q95
                                have p265 : 0 ≤ ((ji51) : Int) := of_decide_eq_true (by first | (with_reducible assumption) | assumption)
                                have q265 : (ji51) < (x14_15.length : Int) := of_decide_eq_true (by first | (with_reducible assumption) | assumption)
                                obtain ⟨ad265, A265_1, c265_1, e265, hx265_0, hx265_1, hl265_1, hi265_1⟩ := at_T54 (Kd.N_reads' HO_14.out).2.2 (ji51) p265 q265
                                cases e265
                                obtain ⟨ce265, hce265, hMe265, hcc265⟩ := Kd.N_get HO_14.out z54 (ji51) p265 (by first | exact q265 | exact of_decide_eq_true (by first | (with_reducible assumption) | assumption) | (have e_ := (Kd.N_reads' HO_14.out).1; omega))
                                obtain ⟨ua265_1, uc265_1, rfl, ul265_1, ge265_1⟩ := k54_openF hMe265
                                have hv265_1 := hcc265 1 _ rfl
                                rw [add_field _ _ 1 (by omega)] at hv265_1
                                replace hv265_1 := Option.some.inj (hv265_1.symm.trans hx265_1)
                                injection hv265_1 with hva_ hvn_ hvc_
                                rw [hva_] at ge265_1
                                rw [hvc_] at ul265_1
                                have HL265_1 := Aside0.mk (show Kd.V (Kd.int .u8) 5 _ u.heap.size _ _ ((rd_T54 x14_15 (ji51)).f1) from Kd.V_mk ul265_1 ge265_1)
                                clear hva_ hvn_ hvc_ ge265_1 ul265_1
                                clear hcc265 hce265
                                have HR265_1 := Aside0.mk hi265_1
                                have HC265_1 := Aside0.mk hl265_1
                                clear hi265_1 hl265_1
                                replace p265 := eq_true p265
                                replace q265 := eq_true q265
                                refine start_ (n := 16) (S := fun w' => w'.cell? (ad265.add (((ji51)).toNat * 2)) = some (.int .u8 ((rd_T54 x14_15 (ji51)).f0)) ∧ w'.cell? ⟨(ad265.add (((ji51)).toNat * 2)).block, (ad265.add (((ji51)).toNat * 2)).off + 1, none⟩ = some (.slice A265_1 ((rd_T54 x14_15 (ji51)).f1).length c265_1)) (ds := []) #[false, false, false, false, false, false, false, false, false, false, false, false, false, false, false, false] (by kernel_rfl) rfl rfl ⟨hx265_0, hx265_1⟩ (fun hHeld => ?_); refine with_tabW chatelainelaw45_SplitBack.tab25 chatelainelaw45_SplitBack.bits25 (fun HT_ HW_ => ?_)
                                generalize w93.drew = w94 at HO_14 HO257 HB HL265_1 HO264 HR265_1 hx265_0 hx265_1 hHeld ⊢
                                refine pure_ (i := 0) (N := some 119) (v := ?_) (a' := ?_) #[true, false, false, false, false, false, false, false, false, false, false, false, false, false, false, false] rfl rfl (any_of HT_.out (by kernel_rfl)) (fun _ _ _ h => h) (Or.inl ⟨by rfl, ?_⟩) ?_ ?_
                                rotate_left
                                · intro w'
                                  go_simp
                                  with_reducible rfl
                                rotate_left
                                · simp only [Act.put, List.setIfInBounds_toArray, List.set_cons_zero, List.set_cons_succ, i64_w, i32_w]
                                  rfl
                                refine pure_ (i := 1) (N := some 120) (v := ?_) (a' := ?_) #[true, true, false, false, false, false, false, false, false, false, false, false, false, false, false, false] rfl rfl (any_of HT_.out (by kernel_rfl)) (fun _ _ _ h => h) (Or.inl ⟨by rfl, ?_⟩) ?_ ?_
                                rotate_left
                                · intro w'
                                  go_simp
                                  with_reducible rfl
                                rotate_left
                                · simp only [Act.put, List.setIfInBounds_toArray, List.set_cons_zero, List.set_cons_succ, i64_w, i32_w]
                                  rfl
                                refine pure_ (i := 2) (N := some 121) (v := ?_) (a' := ?_) #[true, true, true, false, false, false, false, false, false, false, false, false, false, false, false, false] rfl rfl (any_of HT_.out (by kernel_rfl)) (fun _ _ _ h => h) (Or.inl ⟨by rfl, ?_⟩) ?_ ?_
                                rotate_left
                                · intro w'
                                  go_simp
                                  with_reducible rfl
                                rotate_left
                                · simp only [Act.put, List.setIfInBounds_toArray, List.set_cons_zero, List.set_cons_succ, i64_w, i32_w]
                                  rfl
                                refine pure_ (i := 3) (N := some 122) (v := ?_) (a' := ?_) #[true, true, true, true, false, false, false, false, false, false, false, false, false, false, false, false] rfl rfl (any_of HT_.out (by kernel_rfl)) (fun _ _ _ h => h) (Or.inl ⟨by rfl, ?_⟩) ?_ ?_
                                rotate_left
                                · intro w'
                                  go_simp
                                  with_reducible rfl
                                rotate_left
                                · simp only [Act.put, List.setIfInBounds_toArray, List.set_cons_zero, List.set_cons_succ, i64_w, i32_w]
                                  rfl
                                refine pure_ (i := 4) (N := some 123) (v := ?_) (a' := ?_) #[true, true, true, true, true, false, false, false, false, false, false, false, false, false, false, false] rfl rfl (any_of HT_.out (by kernel_rfl)) (fun _ _ _ h => h) (Or.inl ⟨by rfl, ?_⟩) ?_ ?_
                                rotate_left
                                · intro w'
                                  go_simp
                                  with_reducible rfl
                                rotate_left
                                · simp only [Act.put, List.setIfInBounds_toArray, List.set_cons_zero, List.set_cons_succ, i64_w, i32_w]
                                  rfl
                                refine pure_ (i := 5) (N := some 124) (v := ?_) (a' := ?_) #[true, true, true, true, true, true, false, false, false, false, false, false, false, false, false, false] rfl rfl (any_of HT_.out (by kernel_rfl)) (fun _ _ _ h => h) (Or.inl ⟨by rfl, ?_⟩) ?_ ?_
                                rotate_left
                                · intro w'
                                  go_simp
                                  with_reducible rfl
                                rotate_left
                                · simp only [Act.put, List.setIfInBounds_toArray, List.set_cons_zero, List.set_cons_succ, i64_w, i32_w]
                                  rfl
                                refine pure_ (i := 6) (N := some 125) (v := ?_) (a' := ?_) #[true, true, true, true, true, true, true, false, false, false, false, false, false, false, false, false] rfl rfl (any_of HT_.out (by kernel_rfl)) (fun _ _ _ h => h) (Or.inl ⟨by rfl, ?_⟩) ?_ ?_
                                rotate_left
                                · intro w'
                                  go_simp
                                  with_reducible rfl
                                rotate_left
                                · simp only [Act.put, List.setIfInBounds_toArray, List.set_cons_zero, List.set_cons_succ, i64_w, i32_w]
                                  rfl
                                refine pure_ (i := 7) (N := some 126) (v := ?_) (a' := ?_) #[true, true, true, true, true, true, true, true, false, false, false, false, false, false, false, false] rfl rfl (any_of HT_.out (by kernel_rfl)) (fun _ _ _ h => h) (Or.inl ⟨by rfl, ?_⟩) ?_ ?_
                                rotate_left
                                · intro w'
                                  go_simp
                                  with_reducible rfl
                                rotate_left
                                · simp only [Act.put, List.setIfInBounds_toArray, List.set_cons_zero, List.set_cons_succ, i64_w, i32_w]
                                  rfl
                                refine pure_ (i := 8) (N := some 127) (v := ?_) (a' := ?_) #[true, true, true, true, true, true, true, true, true, false, false, false, false, false, false, false] rfl rfl (any_of HT_.out (by kernel_rfl)) (fun _ _ _ h => h) (Or.inl ⟨by rfl, ?_⟩) ?_ ?_
                                rotate_left
                                · intro w'
                                  go_simp
                                  with_reducible rfl
                                rotate_left
                                · simp only [Act.put, List.setIfInBounds_toArray, List.set_cons_zero, List.set_cons_succ, i64_w, i32_w]
                                  rfl
                                refine take_ (i := 9) (N := some 128) (v := ?_) (a' := ?_) #[true, true, true, true, true, true, true, true, true, true, false, false, false, false, false, false] rfl rfl (take_ofW HT_.out HW_.out (by kernel_rfl)) (fun _ _ _ h => h) (Or.inl ⟨by rfl, ?_⟩) hHeld ?_ ?_
                                rotate_left
                                · rintro w' ⟨s0, s1⟩
                                  go_simp
                                  with_reducible rfl
                                rotate_left
                                · simp only [Act.put, List.setIfInBounds_toArray, List.set_cons_zero, List.set_cons_succ, i64_w, i32_w]
                                  rfl
                                refine one_ (i := 10) (N := some 129) #[true, true, true, true, true, true, true, true, true, true, true, false, false, false, false, false] rfl rfl (one_of HT_.out (by kernel_rfl)) (by decide) (fun K hK => ?_)
                                refine goes_ Try.func35 (by kernel_rfl) rfl #[.slice (some ad265) y260.length co91, .int .u8 ((rd_T54 x14_15 (ji51)).f0)] (by rfl) rfl rfl (by (try simp only [List.map_toArray, List.map_cons, List.map_nil]); first | done | (simp only [hji51]; rfl) | rfl | (simp only [List.length_drop, List.length_take]; rfl)) ?_
                                with_reducible refine (split_At.calls kj15 _ _ y260 ((rd_T54 x14_15 (ji51)).f0) t266 t267 _ ?side1 ?side2 A54.out).mono ?_
                                (case side1 => repeat (first | exact (Kd.V_reads' HO264.out).2.2 | (with_reducible refine Kd.C_alloc ?_ _) | (with_reducible refine Kd.C_drewN ?_ _) | (with_reducible refine Kd.C_drew ?_)))
                                (case side2 => exact (Kd.V_reads' HO264.out).2.1)
                                rintro e w96 ⟨v268, rfl, ho0, hb⟩
                                have HS0_ := (hb.cell (World.block_lt_of_cell? _ _ (hHeld.1))).trans (hHeld.1)
                                have HS1_ := (hb.cell (World.block_lt_of_cell? _ _ (hHeld.2))).trans (hHeld.2)
                                refine ⟨_, rfl, ?_⟩
                                have n0_ := Aside0.mk (Kd.N_elder' (by (with_reducible repeat (first | apply Kd.N_alloc | apply Kd.N_drewN | apply Kd.N_drew)); exact HO_14.out) (Kd.R_base ho0) hb)
                                have n1_ := Aside0.mk (Kd.R_elder' (by (with_reducible repeat (first | apply Kd.R_alloc | apply Kd.R_drewN | apply Kd.R_drew)); exact HO257.out) (Kd.R_base ho0) hb)
                                have n2_ := Aside0.mk (Kd.V_elder' (by (with_reducible repeat (first | apply Kd.V_alloc | apply Kd.V_drewN | apply Kd.V_drew)); exact HO264.out) (Kd.R_base ho0) hb)
                                have n3_ := Aside0.mk (Kd.V_elder' (by (with_reducible repeat (first | apply Kd.V_alloc | apply Kd.V_drewN | apply Kd.V_drew)); exact HL265_1.out) (Kd.R_base ho0) hb)
                                have n4_ := Aside0.mk (Kd.R_lower (Kd.R_new' (Kd.R_newM (M := fun k_ => (u.heap.size ≤ k_)) ho0 (below_size (by repeat (first | (with_reducible first | exact HB.out | apply below_alloc | apply pw_below_drewN | apply below_drew1) | exact HB.out))) (fun k_ h_ => h_)) (Kd.R_lt (by (with_reducible repeat (first | apply Kd.R_alloc | apply Kd.R_drewN | apply Kd.R_drew)); exact HO257.out))) (below_size (by repeat (first | (with_reducible first | exact HB.out | apply below_alloc | apply pw_below_drewN | apply below_drew1) | exact HB.out))))
                                have n5_ := Aside0.mk (Kd.C_below (by repeat (first | (with_reducible exact HR265_1.out) | (with_reducible refine Kd.C_alloc ?_ _) | (with_reducible refine Kd.C_drewN ?_ _) | (with_reducible refine Kd.C_drew ?_) | exact HR265_1.out)) hb)
                                have n6_ := Aside0.mk (below_step (by repeat (first | (with_reducible first | exact HB.out | apply below_alloc | apply pw_below_drewN | apply below_drew1) | exact HB.out)) hb)
                                clear HO_14
                                clear HO257
                                clear HO264
                                clear HL265_1
                                clear HR265_1
                                clear HB
                                have HO_14 := n0_
                                have HO257 := n1_
                                have HO264 := n2_
                                have HL265_1 := n3_
                                have HO269 := n4_
                                have HR265_1 := n5_
                                have HB := n6_
                                clear n0_ n1_ n2_ n3_ n4_ n5_ n6_
                                (try clear hb)
                                (try clear hb2)
                                (try clear hk)
                                (try clear hi)
                                (try clear ho0)
                                refine hK.out _ _ ⟨HS0_, HS1_⟩ (fun hHeld => ?_)
                                clear hK K
                                refine norm_ (a' := ?_) ?_ ?_
                                rotate_left
                                · show Act.put _ (some 129) _ = _
                                  simp only [Act.put, List.setIfInBounds_toArray, List.set_cons_zero, List.set_cons_succ, i64_w, i32_w]
                                  rfl
                                refine pure_ (i := 11) (N := some 118) (v := ?_) (a' := ?_) #[true, true, true, true, true, true, true, true, true, true, true, true, false, false, false, false] rfl rfl (any_of HT_.out (by kernel_rfl)) (fun _ _ _ h => h) (Or.inl ⟨by rfl, ?_⟩) ?_ ?_
                                rotate_left
                                · intro w'
                                  go_simp
                                  with_reducible rfl
                                rotate_left
                                · simp only [Act.put, List.setIfInBounds_toArray, List.set_cons_zero, List.set_cons_succ, i64_w, i32_w]
                                  rfl
                                refine pure_ (i := 12) (N := some 130) (v := ?_) (a' := ?_) #[true, true, true, true, true, true, true, true, true, true, true, true, true, false, false, false] rfl rfl (any_of HT_.out (by kernel_rfl)) (fun _ _ _ h => h) (Or.inl ⟨by rfl, ?_⟩) ?_ ?_
                                rotate_left
                                · intro w'
                                  go_simp
                                  with_reducible rfl
                                rotate_left
                                · simp only [Act.put, List.setIfInBounds_toArray, List.set_cons_zero, List.set_cons_succ, i64_w, i32_w]
                                  rfl
                                refine pure_ (i := 13) (N := some 131) (v := ?_) (a' := ?_) #[true, true, true, true, true, true, true, true, true, true, true, true, true, true, false, false] rfl rfl (any_of HT_.out (by kernel_rfl)) (fun _ _ _ h => h) (Or.inl ⟨by rfl, ?_⟩) ?_ ?_
                                rotate_left
                                · intro w'
                                  go_simp
                                  with_reducible rfl
                                rotate_left
                                · simp only [Act.put, List.setIfInBounds_toArray, List.set_cons_zero, List.set_cons_succ, i64_w, i32_w]
                                  rfl
                                refine pure_ (i := 14) (N := some 22) (v := ?_) (a' := ?_) #[true, true, true, true, true, true, true, true, true, true, true, true, true, true, true, false] rfl rfl (any_of HT_.out (by kernel_rfl)) (fun _ _ _ h => h) (Or.inl ⟨by rfl, ?_⟩) ?_ ?_
                                rotate_left
                                · intro w'
                                  go_simp
                                  with_reducible rfl
                                rotate_left
                                · simp only [Act.put, List.setIfInBounds_toArray, List.set_cons_zero, List.set_cons_succ, i64_w, i32_w]
                                  rfl
                                refine pure_ (i := 15) (N := some 23) (v := ?_) (a' := ?_) #[true, true, true, true, true, true, true, true, true, true, true, true, true, true, true, true] rfl rfl (any_of HT_.out (by kernel_rfl)) (fun _ _ _ h => h) (Or.inl ⟨by rfl, ?_⟩) ?_ ?_
                                rotate_left
                                · intro w'
                                  go_simp
                                  with_reducible rfl
                                rotate_left
                                · simp only [Act.put, List.setIfInBounds_toArray, List.set_cons_zero, List.set_cons_succ, i64_w, i32_w]
                                  rfl
                                refine done_ (done_of HT_.out (by kernel_rfl)) ?_
                                obtain ⟨Ao97, co97, eo97⟩ := Kd.R_slice HO257.out
                                subst eo97
                                try go_wp2_with (first | (go_at_call 37; (with_reducible refine (chatelaineref01_Same.calls kj15 _ _ t254 _ _ l0 false _ ?side1 ?side2 ?side3 ?side4 A56.out).mono ?_); (case side1 => repeat (first | exact (Kd.R_reads' HO257.out).2.2 | (with_reducible refine Kd.C_alloc ?_ _) | (with_reducible refine Kd.C_drewN ?_ _) | (with_reducible refine Kd.C_drew ?_))); (case side2 => exact (Kd.R_reads' HO257.out).2.1); (case side3 => repeat (first | exact (Kd.C_below HR0.out HB.out) | (with_reducible refine Kd.C_alloc ?_ _) | (with_reducible refine Kd.C_drewN ?_ _) | (with_reducible refine Kd.C_drew ?_))); (case side4 => exact HC0.out); rintro e w' ⟨rfl, ⟨nd, rfl⟩⟩))
                                go_ret
                                exact ⟨by first | rfl | (simp [errW_none, errW_some] <;> rfl) | (simp only [← hji51]; first | rfl | (simp [errW_none, errW_some] <;> rfl)) | (simp [*, errW_none, errW_some] <;> rfl), below_step HW.out (below_step HV.out (by repeat (first | (with_reducible first | exact HB.out | apply below_alloc | apply pw_below_drewN | apply below_drew1) | exact HB.out)))⟩
                            · rw [if_neg c55] at H
                              have c55b0 : (t255 == 0) = false := beq_eq_false_iff_ne.mpr c55
                              have c55b1 : (t255 != 0) = true := bne_iff_ne.mpr c55
                              obtain rfl := Option.some.inj H
                              obtain ⟨Ao98, co98, eo98⟩ := Kd.N_slice HO_14.out
                              subst eo98
                              try go_wp2_with (first | ((with_reducible refine gate_callee (f := 36) rfl ?_); refine goesL_ (some 109) rfl rfl Try.func36 (by kernel_rfl) rfl #[.slice Ao98 x14_15.length co98] rfl (by (try simp only [List.map_toArray, List.map_cons, List.map_nil]); first | done | rfl | (simp only [List.length_drop, List.length_take]; rfl)) ?_; (with_reducible refine (split_Join.calls kj15 _ _ x14_15 t254 t255 _ ?side1 ?side2 A47.out).mono ?_); (case side1 => repeat (first | exact (Kd.N_reads' HO_14.out).2.2 | (with_reducible refine Kd.C_alloc ?_ _) | (with_reducible refine Kd.C_drewN ?_ _) | (with_reducible refine Kd.C_drew ?_))); (case side2 => exact (Kd.N_reads' HO_14.out).2.1); rintro e w99 ⟨v256, rfl, ho0, hb⟩; refine ⟨_, rfl, ?_⟩; have n0_ := Aside0.mk (Kd.N_elder' (by (with_reducible repeat (first | apply Kd.N_alloc | apply Kd.N_drewN | apply Kd.N_drew)); exact HO_14.out) (Kd.R_base ho0) hb); have n1_ := Aside0.mk (Kd.R_lower (Kd.R_newM (M := fun k_ => (u.heap.size ≤ k_)) ho0 (below_size (by repeat (first | (with_reducible first | exact HB.out | apply below_alloc | apply pw_below_drewN | apply below_drew1) | exact HB.out))) (fun k_ h_ => h_)) (below_size (by repeat (first | (with_reducible first | exact HB.out | apply below_alloc | apply pw_below_drewN | apply below_drew1) | exact HB.out)))); have n2_ := Aside0.mk (below_step (by repeat (first | (with_reducible first | exact HB.out | apply below_alloc | apply pw_below_drewN | apply below_drew1) | exact HB.out)) hb); clear HO_14; clear HB; have HO_14 := n0_; have HO257 := n1_; have HB := n2_; clear n0_ n1_ n2_; (try clear hb); (try clear hb2); (try clear hk); (try clear hi); (try clear ho0)) | ((with_reducible refine gate_callee (f := 39) rfl ?_); refine goesL_ (some 115) rfl rfl Try.func39 (by kernel_rfl) rfl #[.slice Ao98 x14_15.length co98, .int .i64 a3] rfl (by (try simp only [List.map_toArray, List.map_cons, List.map_nil]); first | done | rfl | (simp only [List.length_drop, List.length_take]; rfl)) ?_; (with_reducible refine (split_Fits.calls kj15 _ _ x14_15 a3 t258 t259 _ ?side1 ?side2 A48.out).mono ?_); (case side1 => repeat (first | exact (Kd.N_reads' HO_14.out).2.2 | (with_reducible refine Kd.C_alloc ?_ _) | (with_reducible refine Kd.C_drewN ?_ _) | (with_reducible refine Kd.C_drew ?_))); (case side2 => exact (Kd.N_reads' HO_14.out).2.1); rintro e w100 ⟨rfl, hb⟩; refine ⟨_, rfl, ?_⟩; have n0_ := Aside0.mk (Kd.N_below (by (with_reducible repeat (first | apply Kd.N_alloc | apply Kd.N_drewN | apply Kd.N_drew)); exact HO_14.out) hb); have n1_ := Aside0.mk (Kd.R_below (by (with_reducible repeat (first | apply Kd.R_alloc | apply Kd.R_drewN | apply Kd.R_drew)); exact HO257.out) hb); have n2_ := Aside0.mk (below_step (by repeat (first | (with_reducible first | exact HB.out | apply below_alloc | apply pw_below_drewN | apply below_drew1) | exact HB.out)) hb); clear HO_14; clear HO257; clear HB; have HO_14 := n0_; have HO257 := n1_; have HB := n2_; clear n0_ n1_ n2_; (try clear hb); (try clear hb2); (try clear hk); (try clear hi)))
                              have n0_ := Aside0.mk (Kd.N_drew HO_14.out)
                              have n1_ := Aside0.mk (Kd.R_drew HO257.out)
                              have n2_ := Aside0.mk (below_drew1 HB.out)
                              clear HO_14
                              clear HO257
                              clear HB
                              have HO_14 := n0_
                              have HO257 := n1_
                              have HB := n2_
                              clear n0_ n1_ n2_
                              have q102 : (a3 : Int) ≤ ((x14_15.length : Int) : Int) := of_decide_eq_true (by first | (with_reducible assumption) | assumption)
                              obtain ⟨i0102, hi0102, _, hsz102, _⟩ := info_parts info54
                              have hroom102 : x14_15.length ≤ co98 := (Kd.N_reads' HO_14.out).2.1
                              have hC102 : Kd.F k54 _ _ Ao98 x14_15.length x14_15 := (Kd.V_at (base := u.heap.size) (Kd.N_V HO_14.out)).2.2
                              have hcut102 := cut_to (P := Try.prog) 49 54 .i64 Try.underlying49 hi0102 Ao98 x14_15.length co98 a3 (of_decide_eq_true (by first | (with_reducible assumption) | assumption)) q102 hroom102
                              have hr102 := Kd.F_take (m := (a3 : Int).toNat) hC102 (by omega)
                              have hy102 : y260.length = (a3 : Int).toNat := (by rw [Ny260.out, List.length_take]; omega)
                              rw [← Ny260.out] at hr102
                              rw [← hy102] at hcut102
                              have HO264 := Aside0.mk (show Kd.V k54 54 _ u.heap.size _ (.slice Ao98 y260.length co98) y260 from Kd.V_mk (by omega) hr102)
                              have HC264 := Aside0.mk (show y260.length ≤ co98 from by omega)
                              clear hr102 hC102 hroom102 hi0102 hsz102
                              have KY102 := Aside0.mk hy102
                              clear hy102
                              replace q102 := eq_true q102
                              have p265 : 0 ≤ ((ji51) : Int) := of_decide_eq_true (by first | (with_reducible assumption) | assumption)
                              have q265 : (ji51) < (x14_15.length : Int) := of_decide_eq_true (by first | (with_reducible assumption) | assumption)
                              obtain ⟨ad265, A265_1, c265_1, e265, hx265_0, hx265_1, hl265_1, hi265_1⟩ := at_T54 (Kd.N_reads' HO_14.out).2.2 (ji51) p265 q265
                              cases e265
                              obtain ⟨ce265, hce265, hMe265, hcc265⟩ := Kd.N_get HO_14.out z54 (ji51) p265 (by first | exact q265 | exact of_decide_eq_true (by first | (with_reducible assumption) | assumption) | (have e_ := (Kd.N_reads' HO_14.out).1; omega))
                              obtain ⟨ua265_1, uc265_1, rfl, ul265_1, ge265_1⟩ := k54_openF hMe265
                              have hv265_1 := hcc265 1 _ rfl
                              rw [add_field _ _ 1 (by omega)] at hv265_1
                              replace hv265_1 := Option.some.inj (hv265_1.symm.trans hx265_1)
                              injection hv265_1 with hva_ hvn_ hvc_
                              rw [hva_] at ge265_1
                              rw [hvc_] at ul265_1
                              have HL265_1 := Aside0.mk (show Kd.V (Kd.int .u8) 5 _ u.heap.size _ _ ((rd_T54 x14_15 (ji51)).f1) from Kd.V_mk ul265_1 ge265_1)
                              clear hva_ hvn_ hvc_ ge265_1 ul265_1
                              clear hcc265 hce265
                              have HR265_1 := Aside0.mk hi265_1
                              have HC265_1 := Aside0.mk hl265_1
                              clear hi265_1 hl265_1
                              replace p265 := eq_true p265
                              replace q265 := eq_true q265
                              refine start_ (n := 16) (S := fun w' => w'.cell? (ad265.add (((ji51)).toNat * 2)) = some (.int .u8 ((rd_T54 x14_15 (ji51)).f0)) ∧ w'.cell? ⟨(ad265.add (((ji51)).toNat * 2)).block, (ad265.add (((ji51)).toNat * 2)).off + 1, none⟩ = some (.slice A265_1 ((rd_T54 x14_15 (ji51)).f1).length c265_1)) (ds := []) #[false, false, false, false, false, false, false, false, false, false, false, false, false, false, false, false] (by kernel_rfl) rfl rfl ⟨hx265_0, hx265_1⟩ (fun hHeld => ?_); refine with_tabW chatelainelaw45_SplitBack.tab25 chatelainelaw45_SplitBack.bits25 (fun HT_ HW_ => ?_)
                              generalize w100.drew = w101 at HO_14 HO257 HB HL265_1 HO264 HR265_1 hx265_0 hx265_1 hHeld ⊢
                              refine pure_ (i := 0) (N := some 119) (v := ?_) (a' := ?_) #[true, false, false, false, false, false, false, false, false, false, false, false, false, false, false, false] rfl rfl (any_of HT_.out (by kernel_rfl)) (fun _ _ _ h => h) (Or.inl ⟨by rfl, ?_⟩) ?_ ?_
                              rotate_left
                              · intro w'
                                go_simp
                                with_reducible rfl
                              rotate_left
                              · simp only [Act.put, List.setIfInBounds_toArray, List.set_cons_zero, List.set_cons_succ, i64_w, i32_w]
                                rfl
                              refine pure_ (i := 1) (N := some 120) (v := ?_) (a' := ?_) #[true, true, false, false, false, false, false, false, false, false, false, false, false, false, false, false] rfl rfl (any_of HT_.out (by kernel_rfl)) (fun _ _ _ h => h) (Or.inl ⟨by rfl, ?_⟩) ?_ ?_
                              rotate_left
                              · intro w'
                                go_simp
                                with_reducible rfl
                              rotate_left
                              · simp only [Act.put, List.setIfInBounds_toArray, List.set_cons_zero, List.set_cons_succ, i64_w, i32_w]
                                rfl
                              refine pure_ (i := 2) (N := some 121) (v := ?_) (a' := ?_) #[true, true, true, false, false, false, false, false, false, false, false, false, false, false, false, false] rfl rfl (any_of HT_.out (by kernel_rfl)) (fun _ _ _ h => h) (Or.inl ⟨by rfl, ?_⟩) ?_ ?_
                              rotate_left
                              · intro w'
                                go_simp
                                with_reducible rfl
                              rotate_left
                              · simp only [Act.put, List.setIfInBounds_toArray, List.set_cons_zero, List.set_cons_succ, i64_w, i32_w]
                                rfl
                              refine pure_ (i := 3) (N := some 122) (v := ?_) (a' := ?_) #[true, true, true, true, false, false, false, false, false, false, false, false, false, false, false, false] rfl rfl (any_of HT_.out (by kernel_rfl)) (fun _ _ _ h => h) (Or.inl ⟨by rfl, ?_⟩) ?_ ?_
                              rotate_left
                              · intro w'
                                go_simp
                                with_reducible rfl
                              rotate_left
                              · simp only [Act.put, List.setIfInBounds_toArray, List.set_cons_zero, List.set_cons_succ, i64_w, i32_w]
                                rfl
                              refine pure_ (i := 4) (N := some 123) (v := ?_) (a' := ?_) #[true, true, true, true, true, false, false, false, false, false, false, false, false, false, false, false] rfl rfl (any_of HT_.out (by kernel_rfl)) (fun _ _ _ h => h) (Or.inl ⟨by rfl, ?_⟩) ?_ ?_
                              rotate_left
                              · intro w'
                                go_simp
                                with_reducible rfl
                              rotate_left
                              · simp only [Act.put, List.setIfInBounds_toArray, List.set_cons_zero, List.set_cons_succ, i64_w, i32_w]
                                rfl
                              refine pure_ (i := 5) (N := some 124) (v := ?_) (a' := ?_) #[true, true, true, true, true, true, false, false, false, false, false, false, false, false, false, false] rfl rfl (any_of HT_.out (by kernel_rfl)) (fun _ _ _ h => h) (Or.inl ⟨by rfl, ?_⟩) ?_ ?_
                              rotate_left
                              · intro w'
                                go_simp
                                with_reducible rfl
                              rotate_left
                              · simp only [Act.put, List.setIfInBounds_toArray, List.set_cons_zero, List.set_cons_succ, i64_w, i32_w]
                                rfl
                              refine pure_ (i := 6) (N := some 125) (v := ?_) (a' := ?_) #[true, true, true, true, true, true, true, false, false, false, false, false, false, false, false, false] rfl rfl (any_of HT_.out (by kernel_rfl)) (fun _ _ _ h => h) (Or.inl ⟨by rfl, ?_⟩) ?_ ?_
                              rotate_left
                              · intro w'
                                go_simp
                                with_reducible rfl
                              rotate_left
                              · simp only [Act.put, List.setIfInBounds_toArray, List.set_cons_zero, List.set_cons_succ, i64_w, i32_w]
                                rfl
                              refine pure_ (i := 7) (N := some 126) (v := ?_) (a' := ?_) #[true, true, true, true, true, true, true, true, false, false, false, false, false, false, false, false] rfl rfl (any_of HT_.out (by kernel_rfl)) (fun _ _ _ h => h) (Or.inl ⟨by rfl, ?_⟩) ?_ ?_
                              rotate_left
                              · intro w'
                                go_simp
                                with_reducible rfl
                              rotate_left
                              · simp only [Act.put, List.setIfInBounds_toArray, List.set_cons_zero, List.set_cons_succ, i64_w, i32_w]
                                rfl
                              refine pure_ (i := 8) (N := some 127) (v := ?_) (a' := ?_) #[true, true, true, true, true, true, true, true, true, false, false, false, false, false, false, false] rfl rfl (any_of HT_.out (by kernel_rfl)) (fun _ _ _ h => h) (Or.inl ⟨by rfl, ?_⟩) ?_ ?_
                              rotate_left
                              · intro w'
                                go_simp
                                with_reducible rfl
                              rotate_left
                              · simp only [Act.put, List.setIfInBounds_toArray, List.set_cons_zero, List.set_cons_succ, i64_w, i32_w]
                                rfl
                              refine take_ (i := 9) (N := some 128) (v := ?_) (a' := ?_) #[true, true, true, true, true, true, true, true, true, true, false, false, false, false, false, false] rfl rfl (take_ofW HT_.out HW_.out (by kernel_rfl)) (fun _ _ _ h => h) (Or.inl ⟨by rfl, ?_⟩) hHeld ?_ ?_
                              rotate_left
                              · rintro w' ⟨s0, s1⟩
                                go_simp
                                with_reducible rfl
                              rotate_left
                              · simp only [Act.put, List.setIfInBounds_toArray, List.set_cons_zero, List.set_cons_succ, i64_w, i32_w]
                                rfl
                              refine one_ (i := 10) (N := some 129) #[true, true, true, true, true, true, true, true, true, true, true, false, false, false, false, false] rfl rfl (one_of HT_.out (by kernel_rfl)) (by decide) (fun K hK => ?_)
                              refine goes_ Try.func35 (by kernel_rfl) rfl #[.slice (some ad265) y260.length co98, .int .u8 ((rd_T54 x14_15 (ji51)).f0)] (by rfl) rfl rfl (by (try simp only [List.map_toArray, List.map_cons, List.map_nil]); first | done | (simp only [hji51]; rfl) | rfl | (simp only [List.length_drop, List.length_take]; rfl)) ?_
                              with_reducible refine (split_At.calls kj15 _ _ y260 ((rd_T54 x14_15 (ji51)).f0) t266 t267 _ ?side1 ?side2 A54.out).mono ?_
                              (case side1 => repeat (first | exact (Kd.V_reads' HO264.out).2.2 | (with_reducible refine Kd.C_alloc ?_ _) | (with_reducible refine Kd.C_drewN ?_ _) | (with_reducible refine Kd.C_drew ?_)))
                              (case side2 => exact (Kd.V_reads' HO264.out).2.1)
                              rintro e w103 ⟨v268, rfl, ho0, hb⟩
                              have HS0_ := (hb.cell (World.block_lt_of_cell? _ _ (hHeld.1))).trans (hHeld.1)
                              have HS1_ := (hb.cell (World.block_lt_of_cell? _ _ (hHeld.2))).trans (hHeld.2)
                              refine ⟨_, rfl, ?_⟩
                              have n0_ := Aside0.mk (Kd.N_elder' (by (with_reducible repeat (first | apply Kd.N_alloc | apply Kd.N_drewN | apply Kd.N_drew)); exact HO_14.out) (Kd.R_base ho0) hb)
                              have n1_ := Aside0.mk (Kd.R_elder' (by (with_reducible repeat (first | apply Kd.R_alloc | apply Kd.R_drewN | apply Kd.R_drew)); exact HO257.out) (Kd.R_base ho0) hb)
                              have n2_ := Aside0.mk (Kd.V_elder' (by (with_reducible repeat (first | apply Kd.V_alloc | apply Kd.V_drewN | apply Kd.V_drew)); exact HO264.out) (Kd.R_base ho0) hb)
                              have n3_ := Aside0.mk (Kd.V_elder' (by (with_reducible repeat (first | apply Kd.V_alloc | apply Kd.V_drewN | apply Kd.V_drew)); exact HL265_1.out) (Kd.R_base ho0) hb)
                              have n4_ := Aside0.mk (Kd.R_lower (Kd.R_new' (Kd.R_newM (M := fun k_ => (u.heap.size ≤ k_)) ho0 (below_size (by repeat (first | (with_reducible first | exact HB.out | apply below_alloc | apply pw_below_drewN | apply below_drew1) | exact HB.out))) (fun k_ h_ => h_)) (Kd.R_lt (by (with_reducible repeat (first | apply Kd.R_alloc | apply Kd.R_drewN | apply Kd.R_drew)); exact HO257.out))) (below_size (by repeat (first | (with_reducible first | exact HB.out | apply below_alloc | apply pw_below_drewN | apply below_drew1) | exact HB.out))))
                              have n5_ := Aside0.mk (Kd.C_below (by repeat (first | (with_reducible exact HR265_1.out) | (with_reducible refine Kd.C_alloc ?_ _) | (with_reducible refine Kd.C_drewN ?_ _) | (with_reducible refine Kd.C_drew ?_) | exact HR265_1.out)) hb)
                              have n6_ := Aside0.mk (below_step (by repeat (first | (with_reducible first | exact HB.out | apply below_alloc | apply pw_below_drewN | apply below_drew1) | exact HB.out)) hb)
                              clear HO_14
                              clear HO257
                              clear HO264
                              clear HL265_1
                              clear HR265_1
                              clear HB
                              have HO_14 := n0_
                              have HO257 := n1_
                              have HO264 := n2_
                              have HL265_1 := n3_
                              have HO269 := n4_
                              have HR265_1 := n5_
                              have HB := n6_
                              clear n0_ n1_ n2_ n3_ n4_ n5_ n6_
                              (try clear hb)
                              (try clear hb2)
                              (try clear hk)
                              (try clear hi)
                              (try clear ho0)
                              refine hK.out _ _ ⟨HS0_, HS1_⟩ (fun hHeld => ?_)
                              clear hK K
                              refine norm_ (a' := ?_) ?_ ?_
                              rotate_left
                              · show Act.put _ (some 129) _ = _
                                simp only [Act.put, List.setIfInBounds_toArray, List.set_cons_zero, List.set_cons_succ, i64_w, i32_w]
                                rfl
                              refine pure_ (i := 11) (N := some 118) (v := ?_) (a' := ?_) #[true, true, true, true, true, true, true, true, true, true, true, true, false, false, false, false] rfl rfl (any_of HT_.out (by kernel_rfl)) (fun _ _ _ h => h) (Or.inl ⟨by rfl, ?_⟩) ?_ ?_
                              rotate_left
                              · intro w'
                                go_simp
                                with_reducible rfl
                              rotate_left
                              · simp only [Act.put, List.setIfInBounds_toArray, List.set_cons_zero, List.set_cons_succ, i64_w, i32_w]
                                rfl
                              refine pure_ (i := 12) (N := some 130) (v := ?_) (a' := ?_) #[true, true, true, true, true, true, true, true, true, true, true, true, true, false, false, false] rfl rfl (any_of HT_.out (by kernel_rfl)) (fun _ _ _ h => h) (Or.inl ⟨by rfl, ?_⟩) ?_ ?_
                              rotate_left
                              · intro w'
                                go_simp
                                with_reducible rfl
                              rotate_left
                              · simp only [Act.put, List.setIfInBounds_toArray, List.set_cons_zero, List.set_cons_succ, i64_w, i32_w]
                                rfl
                              refine pure_ (i := 13) (N := some 131) (v := ?_) (a' := ?_) #[true, true, true, true, true, true, true, true, true, true, true, true, true, true, false, false] rfl rfl (any_of HT_.out (by kernel_rfl)) (fun _ _ _ h => h) (Or.inl ⟨by rfl, ?_⟩) ?_ ?_
                              rotate_left
                              · intro w'
                                go_simp
                                with_reducible rfl
                              rotate_left
                              · simp only [Act.put, List.setIfInBounds_toArray, List.set_cons_zero, List.set_cons_succ, i64_w, i32_w]
                                rfl
                              refine pure_ (i := 14) (N := some 22) (v := ?_) (a' := ?_) #[true, true, true, true, true, true, true, true, true, true, true, true, true, true, true, false] rfl rfl (any_of HT_.out (by kernel_rfl)) (fun _ _ _ h => h) (Or.inl ⟨by rfl, ?_⟩) ?_ ?_
                              rotate_left
                              · intro w'
                                go_simp
                                with_reducible rfl
                              rotate_left
                              · simp only [Act.put, List.setIfInBounds_toArray, List.set_cons_zero, List.set_cons_succ, i64_w, i32_w]
                                rfl
                              refine pure_ (i := 15) (N := some 23) (v := ?_) (a' := ?_) #[true, true, true, true, true, true, true, true, true, true, true, true, true, true, true, true] rfl rfl (any_of HT_.out (by kernel_rfl)) (fun _ _ _ h => h) (Or.inl ⟨by rfl, ?_⟩) ?_ ?_
                              rotate_left
                              · intro w'
                                go_simp
                                with_reducible rfl
                              rotate_left
                              · simp only [Act.put, List.setIfInBounds_toArray, List.set_cons_zero, List.set_cons_succ, i64_w, i32_w]
                                rfl
                              refine done_ (done_of HT_.out (by kernel_rfl)) ?_
                              try go_wp2
                              go_ret
                              exact ⟨by first | rfl | (simp [errW_none, errW_some] <;> rfl) | (simp only [← hji51]; first | rfl | (simp [errW_none, errW_some] <;> rfl)) | (simp [*, errW_none, errW_some] <;> rfl), below_step HW.out (below_step HV.out (by repeat (first | (with_reducible first | exact HB.out | apply below_alloc | apply pw_below_drewN | apply below_drew1) | exact HB.out)))⟩
                          · rw [if_neg c53] at H
                            exact absurd H (by simp)
                        · rw [if_neg c52] at H
                          exact absurd H (by simp)
                      · rw [if_neg c50] at H
                        exact absurd H (by simp)
                    · rw [if_neg c49] at H
                      exact absurd H (by simp)
            · rw [if_neg c15] at H
              exact absurd H (by simp)
          · rw [if_neg c14] at H
            have c14b0 : (a4 == 0) = false := beq_eq_false_iff_ne.mpr c14
            have c14b1 : (a4 != 0) = true := bne_iff_ne.mpr c14
            obtain rfl := Option.some.inj H
            go_wp2
            go_ret
            exact ⟨by first | rfl | (simp [errW_none, errW_some] <;> rfl) | (simp [*, errW_none, errW_some] <;> rfl), below_step HW.out (below_step HV.out (by repeat (first | (with_reducible first | exact HB.out | apply below_alloc | apply pw_below_drewN | apply below_drew1) | exact HB.out)))⟩
  · replace c8 := Bool.eq_false_iff.mpr c8
    subst c8
    have H1 : (some false) = some r := by rw [if_neg (show ¬ (false = true) by decide)] at H; exact H
    clear H
    have H := H1
    clear H1
    obtain rfl := Option.some.inj H
    go_wp2_with (first | ((with_reducible refine gate_callee (f := 30) rfl ?_); refine goesL_ (some 24) rfl rfl Try.func30 (by kernel_rfl) rfl #[] rfl (by (try simp only [List.map_toArray, List.map_cons, List.map_nil]); first | done | rfl | (simp only [List.length_drop, List.length_take]; rfl)) ?_; (with_reducible refine (chatelainelaw45_awake.calls k  false _ A7.out).mono ?_); rintro e w104 ⟨rfl, hb⟩; refine ⟨_, rfl, ?_⟩; have n1_ := Aside0.mk (below_step (by repeat (first | (with_reducible first | exact HB.out | apply below_alloc | apply pw_below_drewN | apply below_drew1) | exact HB.out)) hb); clear HB; have HB := n1_; clear n1_; (try clear hb); (try clear hb2); (try clear hk); (try clear hi)))
    go_ret
    exact ⟨by first | rfl | (simp [errW_none, errW_some] <;> rfl) | (simp [*, errW_none, errW_some] <;> rfl), below_step HW.out (by repeat (first | (with_reducible first | exact HB.out | apply below_alloc | apply pw_below_drewN | apply below_drew1) | exact HB.out))⟩

end Go.Proofs.Ytphoelhelmnibaa.PQ
