/-
What comes in is no longer than its weight allows; pairs of numbers; an ask.
-/
import Derived.Test.YtphoelhelmnibaaOp
import Derived.SizedLaws
import Derived.OpenShut
namespace Go.Proofs.Ytphoelhelmnibaa.Op
open Go.ChangeShapes Go.WideShapes Go.RowKit Go.Deep Go.Proofs.Ytphoelhelmnibaa.Gf Go.Proofs.Ytphoelhelmnibaa.Ar Go.Proofs.Ytphoelhelmnibaa.Pv Go.Proofs.Ytphoelhelmnibaa.Pw Go.Proofs.Ytphoelhelmnibaa.PQ Go.Proofs.YtphoelhelmnibaaW.PrintWords Go.Proofs.YtphoelhelmnibaaW.PrintLast
section
variable {H : Type} {enc : TypeId × Value → H} {W : World} {base : Nat} {sp : Nat → Bool} {held : Bool}
theorem weigh_slice {t e : TypeId} {x : DataW H × List MemPlace} {A : Option Addr} {n c fuel : Nat} (hall : ∀ m ∈ x.1.weights Try.prog t, m ≤ reachBytes) (hu : Try.prog.underlying t = some (.slice e)) (hb : 1 ≤ Try.prog.bytesOf e)
    (hf : DataW.trod enc Try.prog W base sp held fuel t [.slice A n c] = some x) : n ≤ 140737488355328 := by
  rcases open_slice hu hf with ⟨hcs, _⟩ | ⟨a, len, cap, m, k, D, Pl, hcs, _, _, _, _, rfl, _⟩
  · simp only [List.cons.injEq, Value.slice.injEq, and_true] at hcs
    omega
  · simp only [List.cons.injEq, Value.slice.injEq, and_true] at hcs
    obtain ⟨_, rfl, _⟩ := hcs
    have h := hall ((((List.range n).map D).length + ((List.range (m - n)).map fun j => D (n + j)).length) * Try.prog.bytesOf e) (by simp [DataW.weights, hu])
    have h2 := Nat.le_mul_of_pos_right ((((List.range n).map D).length + ((List.range (m - n)).map fun j => D (n + j)).length)) hb
    have h3 : reachBytes ≤ 140737488355328 := by decide
    rw [List.length_map, List.length_range] at h h2
    omega
theorem weigh_all {ts : List TypeId} {ds : List (DataW H)} (hsz : (DataW.weightsEach Try.prog ts ds).all (· ≤ reachBytes) = true) {j : Nat} {t : TypeId} {d : DataW H} (ht : ts[j]? = some t) (hd : ds[j]? = some d) : ∀ m ∈ d.weights Try.prog t, m ≤ reachBytes := by
  intro m hm
  have := List.all_eq_true.1 hsz m (DataW.weights_mem_each ht hd m hm)
  simpa using this
theorem sized_arg {ts : List TypeId} {ds : List (DataW H)} (hsz : (DataW.weightsEach Try.prog ts ds).all (· ≤ reachBytes) = true) {j : Nat} {t e : TypeId} {d : DataW H} (ht : ts[j]? = some t) (hd : ds[j]? = some d) (hu : Try.prog.underlying t = some (.slice e)) (hb : 1 ≤ Try.prog.bytesOf e)
    {A : Option Addr} {n c : Nat} {ps : List MemPlace} (h : DataW.Trod enc Try.prog W base sp held t (.slice A n c) d ps) : n ≤ 140737488355328 := by
  obtain ⟨fuel, hf⟩ := h
  exact weigh_slice (x := (d, ps)) (weigh_all hsz ht hd) hu hb hf
variable {r : Reach} {b0 : Nat} {v : Value} {x : DataW H} {ps : List MemPlace}
theorem cells_two {cs : Array Value} (h : cs.size = 2) : ∃ a b, cs = #[a, b] := by
  obtain ⟨l⟩ := cs
  match l, h with
  | [a, b], _ => exact ⟨a, b, rfl⟩
theorem cells_three {cs : Array Value} (h : cs.size = 3) : ∃ a b c, cs = #[a, b, c] := by
  obtain ⟨l⟩ := cs
  match l, h with
  | [a, b, c], _ => exact ⟨a, b, c, rfl⟩
/-- Two numbers in an array. -/
theorem open_two (hv : Value.okWide Try.prog W r b0 46 v) (h : DataW.Trod enc Try.prog W base sp held 46 v x ps) : ∃ n m : Int, v = .agg #[.int .i64 n, .int .i64 m] ∧ (Lit.int .i64 n).wf = true ∧ (Lit.int .i64 m).wf = true := by
  obtain ⟨cs, rfl, hs⟩ := okWide_array Try.underlying46 hv
  obtain ⟨a, b, rfl⟩ := cells_two (hs.trans (by kernel_rfl))
  obtain ⟨fuel, hf⟩ := h
  obtain ⟨xs, m, _, hx, hl, hn, hg⟩ := DataW.trod_array Try.underlying46 hf
  have e3 : Try.prog.cellsOf 3 = 1 := by kernel_rfl
  have h0 := hg 0 (by omega)
  have h1 := hg 1 (by omega)
  rw [e3] at h0 h1
  have c0 : (((Value.agg #[a, b]).cells.toList).drop (0 * 1)).take 1 = [a] := rfl
  have c1 : (((Value.agg #[a, b]).cells.toList).drop (1 * 1)).take 1 = [b] := rfl
  rw [c0, List.getElem?_eq_getElem (by omega)] at h0
  rw [c1, List.getElem?_eq_getElem (by omega)] at h1
  obtain ⟨n, e0, _, w0⟩ := DataW.trod_int Try.underlying3 h0
  obtain ⟨k, e1, _, w1⟩ := DataW.trod_int Try.underlying3 h1
  simp only [List.cons.injEq, and_true] at e0 e1
  subst e0 e1
  exact ⟨n, k, rfl, w0, w1⟩
/-- An ask: how many, how many suffice, rows. -/
theorem open_ask (hv : Value.okWide Try.prog W r b0 70 v) (h : DataW.Trod enc Try.prog W base sp held 70 v x ps) (hall : ∀ m ∈ x.weights Try.prog 70, m ≤ reachBytes) :
    ∃ (n m : F) (A : Option Addr) (c : Nat) (p : List (List F)), v = .agg #[.int .u8 (toI n), .int .u8 (toI m), .slice A (rws p).length c] ∧ (rws p).length ≤ c ∧ Kd.C (Kd.slice 5 (Kd.int .u8)) W A (rws p).length (rws p) ∧ p.length ≤ 140737488355328 := by
  obtain ⟨cs, rfl, hs⟩ := okWide_struct Try.underlying70 hv
  obtain ⟨a, b, d, rfl⟩ := cells_three (hs.trans (by kernel_rfl))
  obtain ⟨fuel, hf⟩ := h
  obtain ⟨y0, y1, k, hx, _, h0, h1⟩ := trod_struct2 Try.underlying70 hf
  have e68 : Try.prog.cellsOf 68 = 2 := by kernel_rfl
  have e47 : Try.prog.cellsOf 47 = 1 := by kernel_rfl
  have e5 : Try.prog.cellsOf 5 = 1 := by kernel_rfl
  simp only [e68, e47] at h0 h1
  have c0 : (((Value.agg #[a, b, d]).cells.toList).drop 0).take 2 = [a, b] := rfl
  have c1 : (((Value.agg #[a, b, d]).cells.toList).drop 2).take 1 = [d] := rfl
  rw [c0] at h0
  rw [c1] at h1
  obtain ⟨xs, m, _, _, _, hn, hg⟩ := DataW.trod_array Try.underlying68 h0
  have g0 := hg 0 (by omega)
  have g1 := hg 1 (by omega)
  rw [e5] at g0 g1
  have d0 : (([a, b] : List Value).drop (0 * 1)).take 1 = [a] := rfl
  have d1 : (([a, b] : List Value).drop (1 * 1)).take 1 = [b] := rfl
  rw [d0, List.getElem?_eq_getElem (by omega)] at g0
  rw [d1, List.getElem?_eq_getElem (by omega)] at g1
  obtain ⟨n0, e0, _, w0⟩ := DataW.trod_int Try.underlying5 g0
  obtain ⟨n1, e1, _, w1⟩ := DataW.trod_int Try.underlying5 g1
  simp only [List.cons.injEq, and_true] at e0 e1
  subst e0 e1
  obtain ⟨f0, rfl⟩ := exists_byte n0 w0
  obtain ⟨f1, rfl⟩ := exists_byte n1 w1
  obtain ⟨l, ⟨A, c, hcs, hl, hC⟩, _, hok⟩ := (opens_slice Try.underlying47 (by kernel_rfl) opens_bytes : Opens enc W base sp held (Kd.slice 45 (Kd.slice 5 (Kd.int .u8))) 47 _) _ _ _ h1
  obtain ⟨p, rfl⟩ := to_rows hok
  simp only [List.cons.injEq, and_true] at hcs
  subst hcs
  have hxe : x = (.agg [y0.1, y1.1] : DataW H) := congrArg Prod.fst hx
  have hall2 : ∀ m ∈ y1.1.weights Try.prog 47, m ≤ reachBytes := by
    intro m hm
    refine hall m ?_
    rw [hxe]
    simp only [DataW.weights, Try.underlying70]
    exact DataW.weights_mem_each (j := 1) rfl rfl m hm
  have hp := weigh_slice hall2 Try.underlying47 (of_decide_eq_true (by kernel_rfl)) h1
  rw [rws_length] at hp
  exact ⟨f0, f1, A, c, p, rfl, hl, hC, hp⟩
end
end Go.Proofs.Ytphoelhelmnibaa.Op
