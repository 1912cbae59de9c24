/- split.Split's test by a closure: is a row of another length than the secret? The closure, IndexFunc and ContainsFunc walked. -/
import Derived.Test.YtphoelhelmnibaaPQx0
namespace Go.Proofs.Ytphoelhelmnibaa.PQ
open Go.RowKit Go.Proofs.YtphoelhelmnibaaW.PrintWords Go.Proofs.YtphoelhelmnibaaW.PrintLast Go.Proofs.YtphoelhelmnibaaW.PrintMore
set_option linter.unusedVariables false
set_option linter.unusedSimpArgs false

/-- From row x on: is one of another length? -/
def split_uneven.l0 : Nat → List Int → List (List Int) → Int → Option Bool
  | 0, _, _, _ => none
  | k + 1, l0, l3, x => if x < (l3.length : Int) then (if 0 ≤ x then (if ((rd_L1 l3 x).length : Int) = (l0.length : Int) then split_uneven.l0 k l0 l3 (wrap64 (x + 1)) else some true) else none) else some false
def split_uneven.f (k : Nat) (l0 : List Int) (l3 : List (List Int)) : Option Bool := if (l3.length : Int) < 4611686018427387904 then split_uneven.l0 k l0 l3 0 else none
theorem split_uneven.mono_l : ∀ k l0 l3 x, LeO (split_uneven.l0 k l0 l3 x) (split_uneven.l0 (k + 1) l0 l3 x)
  | 0, _, _, _ => fun r h => by simp [split_uneven.l0] at h
  | k + 1, l0, l3, x => by
    unfold split_uneven.l0
    repeat' first
      | (with_reducible exact split_uneven.mono_l k _ _ _)
      | (with_reducible exact LeO.refl _)
      | (with_reducible exact LeO.none _)
      | (with_reducible refine LeO.ite ?_ ?_)
theorem split_uneven.mono : ∀ a0 a1 k, LeO (split_uneven.f k a0 a1) (split_uneven.f (k + 1) a0 a1) := by
  intro a0 a1 k
  unfold split_uneven.f
  repeat' first
      | (with_reducible exact split_uneven.mono_l k _ _ _)
      | (with_reducible exact LeO.none _)
      | (with_reducible refine LeO.ite ?_ ?_)

/-- A call through a function value that binds what it captured. -/
theorem goesV_ {P : Program} {ops : Array Oper} {Q : Exit → Act → World → Prop} {rest : List Oper} {oi : Oper} {a : Act} {w : World} (N : Option Tmp) (hd : oi.dst = N) (hg : oi.guard = none) {f : FuncId} {fn : Func} {c : Operand} {xs : Array Operand} {ts : Array TypeId} {cap : Array Value}
    (hop : oi.op = .call { callee := .value c, args := xs, argTypes := ts }) (hf : P.funcs[f]? = some fn) (hname : (fn.name == "runtime.NumGoroutine") = false) (hb : fn.body.isSome = true) (args : Array Value)
    (hc : a.eval c = .func (.func f) #[] cap) (hargs : xs.map a.eval ++ cap = args)
    (h : Calls P f args w fun e w' => ∃ v, e = .returned v ∧ wpList P ops Q rest (a.put N v) w') : wpList P ops Q (oi :: rest) a w := by
  refine wpList_plain hg fun K hK => ?_
  have he := enters_ hf hname hb args w
  have hrun : (execOp a.eval oi).run P w = .ok (.enter f args) w := by
    unfold execOp
    simp [hop, resolve, Deferred.ofValue, hc, invoke, hargs, he]
  unfold Oper.wp
  rw [hrun, Oper.upon_enter]
  refine h.mono fun e w'' hh => ?_
  obtain ⟨v, rfl, hk⟩ := hh
  subst hd
  exact hK _ _ hk

/-- The closure: are two lengths apart? -/
theorem uneven1 (A : Option Addr) (n c : Nat) (A0 : Option Addr) (m c0 gb : Nat) (w : World) (hcell : w.cell? ⟨gb, 0, none⟩ = some (.slice A0 m c0)) :
    Calls Try.prog 48 #[.slice A n c, .pointer (some ⟨gb, 0, none⟩)] w fun e w' => e = .returned (.bool ((n : Int) != (m : Int))) ∧ Drawn0 w w' := by
  go_enter Try.func48, Try.ntmps48
  go_wp2
  go_ret
  exact ⟨by first | rfl | (simp; done) | (simp [*]; done), by repeat (first | exact Drawn0.refl _ | apply Drawn0.step)⟩

set_option maxHeartbeats 8000000 in
set_option maxRecDepth 100000 in
/-- IndexFunc: the first row of another length; -1 without one. -/
theorem uneven_index (k : Nat) (A0 : Option Addr) (c0 gb : Nat) (l0 : List Int) (A3 : Option Addr) (c3 : Nat) (l3 : List (List Int)) (r : Bool) (w : World) (hcell : w.cell? ⟨gb, 0, none⟩ = some (.slice A0 l0.length c0)) (hr3 : Kd.C (Kd.slice 5 (Kd.int .u8)) w A3 l3.length l3) (hc3 : l3.length ≤ c3) (hlen : (l3.length : Int) < 4611686018427387904) (h : split_uneven.l0 k l0 l3 0 = some r) :
    Calls Try.prog 55 #[.slice A3 l3.length c3, .func (.func 48) #[] #[.pointer (some ⟨gb, 0, none⟩)]] w fun e w' => (∃ i : Int, e = .returned (.int .i64 i) ∧ decide (0 ≤ i) = r) ∧ Drawn0 w w' := by
  have HS := Aside0.mk hcell
  have HR3 := Aside0.mk hr3
  have HC3 := Aside0.mk hc3
  clear hr3 hc3
  have H' := Aside0.mk h
  clear h
  go_enter Try.func55, Try.ntmps55
  go_wp2
  go_loopg [5, 8] k (fun kq v5 v8 w' => ∃ (x8 : Int), v8 = .int .i64 x8 ∧ Aside0 (split_uneven.l0 kq l0 l3 x8 = some r) ∧ Aside0 (kq ≤ k) ∧ Drawn0 w w')
  case atStart => exact ⟨(0), (by first | rfl | (simp; done) | (simp [*]; done)), H', ⟨Nat.le_refl _⟩, by repeat (first | exact Drawn0.refl _ | apply Drawn0.step)⟩
  case round =>
    clear H'
    obtain ⟨x8, rfl, HA, HK1, ⟨m1, rfl⟩⟩ := hrel
    cases gk with
    | zero => exact absurd HA.out (by simp [split_uneven.l0])
    | succ k1 =>
      have H := HA.out
      clear HA
      simp only [split_uneven.l0] at H
      by_cases c3' : x8 < (l3.length : Int)
      · rw [if_pos c3'] at H
        have c3b0 : decide (x8 < (l3.length : Int)) = true := decide_eq_true c3'
        by_cases c4 : 0 ≤ x8
        · rw [if_pos c4] at H
          have c4b0 : decide (0 ≤ x8) = true := decide_eq_true c4
          have p101 : 0 ≤ (x8 : Int) := c4
          have q101 : x8 < (l3.length : Int) := c3'
          obtain ⟨ad101, A101_0, c101_0, e101, hx101_0, hl101_0, hi101_0⟩ := at_L1 HR3.out x8 p101 q101
          cases e101
          have hcell2 : (World.drewN w m1).cell? ⟨gb, 0, none⟩ = some (.slice A0 l0.length c0) := by
            first | exact HS.out | (simp; exact HS.out)
          replace p101 := eq_true p101
          replace q101 := eq_true q101
          by_cases c5 : ((rd_L1 l3 x8).length : Int) = (l0.length : Int)
          · rw [if_pos c5] at H
            have c5b0 : (((rd_L1 l3 x8).length : Int) != (l0.length : Int)) = false := bne_eq_false_iff_eq.mpr c5
            have H' := Aside0.mk H
            clear H
            go_wp2_with (fail)
            refine (uneven1 _ _ _ A0 l0.length c0 gb _ hcell2).mono ?_
            rintro e w' ⟨rfl, ⟨nd, rfl⟩⟩
            rw [c5b0]
            dsimp only
            go_wp2
            go_roundg k1
            case measure => have := HK1.out; omega
            case rel => exact ⟨(wrap64 (x8 + 1)), (by rw [show wrap64 (x8 + 1) = x8 + 1 by unfold wrap64; omega]), H', ⟨by have := HK1.out; omega⟩, by repeat (first | exact Drawn0.refl _ | apply Drawn0.step)⟩
          · rw [if_neg c5] at H
            have c5b0 : (((rd_L1 l3 x8).length : Int) != (l0.length : Int)) = true := bne_iff_ne.mpr c5
            obtain rfl := Option.some.inj H
            go_wp2_with (fail)
            refine (uneven1 _ _ _ A0 l0.length c0 gb _ hcell2).mono ?_
            rintro e w' ⟨rfl, ⟨nd, rfl⟩⟩
            rw [c5b0]
            dsimp only
            go_wp2
            go_ret
            exact ⟨⟨x8, by first | rfl | (simp; done) | (simp [*]; done), c4b0⟩, by repeat (first | exact Drawn0.refl _ | apply Drawn0.step)⟩
        · rw [if_neg c4] at H
          exact absurd H (by simp)
      · rw [if_neg c3'] at H
        have c3b0 : decide (x8 < (l3.length : Int)) = false := decide_eq_false c3'
        obtain rfl := Option.some.inj H
        go_wp2
        go_ret
        exact ⟨⟨-1, by first | rfl | (simp; done) | (simp [*]; done), by decide⟩, by repeat (first | exact Drawn0.refl _ | apply Drawn0.step)⟩

/-- ContainsFunc over the closure that compares with the secret's length. -/
theorem split_uneven.calls (k : Nat) (A0 : Option Addr) (c0 gb : Nat) (l0 : List Int) (A3 : Option Addr) (c3 : Nat) (l3 : List (List Int)) (r : Bool) (w : World) (hcell : w.cell? ⟨gb, 0, none⟩ = some (.slice A0 l0.length c0)) (hr3 : Kd.C (Kd.slice 5 (Kd.int .u8)) w A3 l3.length l3) (hc3 : l3.length ≤ c3) (h : split_uneven.f k l0 l3 = some r) :
    Calls Try.prog 47 #[.slice A3 l3.length c3, .func (.func 48) #[] #[.pointer (some ⟨gb, 0, none⟩)]] w fun e w' => e = .returned (.bool r) ∧ Drawn0 w w' := by
  unfold split_uneven.f at h
  by_cases hl : (l3.length : Int) < 4611686018427387904
  · rw [if_pos hl] at h
    have H := uneven_index k A0 c0 gb l0 A3 c3 l3 r w hcell hr3 hc3 hl h
    clear h hcell hr3 hc3 hl
    go_enter Try.func47, Try.ntmps47
    go_wp2_with (fail)
    refine H.mono ?_
    rintro e w' ⟨⟨i, rfl, hi⟩, ⟨nd, rfl⟩⟩
    dsimp only
    go_wp2
    go_ret
    exact ⟨by first | rfl | (rw [hi]) | (simp; done) | (simp [*]; done), by repeat (first | exact Drawn0.refl _ | apply Drawn0.step)⟩
  · rw [if_neg hl] at h
    cases h
end Go.Proofs.Ytphoelhelmnibaa.PQ
