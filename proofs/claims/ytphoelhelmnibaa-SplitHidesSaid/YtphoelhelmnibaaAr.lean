/-
Arrays of bytes (and of whole numbers, and of bools) as rows given by a function of the place: what an index, a store, a comparison comes to.
-/
import Derived.Test.YtphoelhelmnibaaGf
import Derived.Test.YtphoelhelmnibaaProg
import Derived.Test.YtphoelhelmnibaaWMore
import Derived.Laws.Rows
import Derived.Laws.Tables
import Derived.Laws.StructEq
import Derived.OpenShut
import Derived.ProofKit
namespace Go.Proofs.Ytphoelhelmnibaa.Ar
open Go.RowKit Go.ChangeShapes Go.WideShapes Go.Proofs.Ytphoelhelmnibaa.Gf Go.Proofs.YtphoelhelmnibaaW.PrintWords

def rowV (n : Nat) (f : Nat → Value) : Array Value := Array.ofFn (n := n) fun j => f j.val
theorem rowV_size (n : Nat) (f : Nat → Value) : (rowV n f).size = n := by unfold rowV; exact Array.size_ofFn
theorem rowV_get (n : Nat) (f : Nat → Value) (j : Nat) (h : j < n) : (rowV n f)[j]? = some (f j) := by
  unfold rowV; rw [Array.getElem?_ofFn, dif_pos h]
theorem rowV_none (n : Nat) (f : Nat → Value) (j : Nat) (h : n ≤ j) : (rowV n f)[j]? = none := by
  unfold rowV; rw [Array.getElem?_ofFn, dif_neg (by omega)]
theorem rowV_ext (n : Nat) (f : Nat → Value) (cs : Array Value) (hs : cs.size = n) (h : ∀ j, j < n → cs[j]? = some (f j)) : cs = rowV n f := by
  apply Array.ext_getElem?
  intro j
  by_cases hj : j < n
  · rw [h j hj, rowV_get n f j hj]
  · rw [rowV_none n f j (by omega)]; exact Array.getElem?_eq_none (by omega)
theorem rowV_congr (n : Nat) (f g : Nat → Value) (h : ∀ j, j < n → f j = g j) : rowV n f = rowV n g :=
  (rowV_ext n g (rowV n f) (rowV_size n f) (fun j hj => by rw [rowV_get n f j hj, h j hj]))
theorem rowV_set (n : Nat) (f : Nat → Value) (i : Nat) (v : Value) : (rowV n f).setIfInBounds i v = rowV n (fun j => if j = i then v else f j) := by
  apply rowV_ext n _ _ (by rw [Array.size_setIfInBounds, rowV_size])
  intro j hj
  rw [Array.getElem?_setIfInBounds, rowV_size]
  by_cases e : i = j
  · subst e; rw [if_pos rfl, if_pos hj, if_pos rfl]
  · rw [if_neg e, rowV_get n f j hj, if_neg (fun h => e h.symm)]
/-- a row of bytes -/
def rowB (n : Nat) (f : Nat → F) : Array Value := rowV n fun j => .int .u8 (toI (f j))
theorem rowB_size (n : Nat) (f : Nat → F) : (rowB n f).size = n := rowV_size n _
theorem rowB_get (n : Nat) (f : Nat → F) (j : Nat) (h : j < n) : (rowB n f)[j]? = some (.int .u8 (toI (f j))) := rowV_get n _ j h
theorem rowB_set (n : Nat) (f : Nat → F) (i : Nat) (v : F) : (rowB n f).setIfInBounds i (.int .u8 (toI v)) = rowB n (fun j => if j = i then v else f j) := by
  unfold rowB; rw [rowV_set]; apply rowV_congr; intro j hj
  by_cases e : j = i
  · simp only [e, if_true]
  · simp only [e, if_false]
theorem rowB_congr (n : Nat) (f g : Nat → F) (h : ∀ j, j < n → f j = g j) : rowB n f = rowB n g :=
  rowV_congr n _ _ (fun j hj => by rw [h j hj])
theorem rowB_one (n : Nat) (f : Nat → F) : (rowB n f).all (·.oneCell') = true := by
  rw [Array.all_eq_true]; intro i hi
  have h : (rowB n f)[i]? = some (rowB n f)[i] := Array.getElem?_eq_getElem hi
  rw [rowB_get n f i (by rwa [rowB_size] at hi)] at h
  rw [← Option.some.inj h]; rfl
theorem rowB_inj {n : Nat} {f g : Nat → F} (h : rowB n f = rowB n g) : ∀ j, j < n → f j = g j := by
  intro j hj
  have e := rowB_get n f j hj
  rw [h, rowB_get n g j hj] at e
  injection e with e; injection e with _ e
  exact (toI_inj e).symm
/-- are two rows of bytes the same? -/
def sameB (n : Nat) (f g : Nat → F) : Bool := (List.range n).all fun i => f i == g i
theorem sameB_iff (n : Nat) (f g : Nat → F) : sameB n f g = true ↔ ∀ j, j < n → f j = g j := by
  unfold sameB; rw [List.all_eq_true]
  exact ⟨fun h j hj => by simpa using h j (List.mem_range.2 hj), fun h j hj => by simpa using h j (List.mem_range.1 hj)⟩
theorem sameB_refl (n : Nat) (f : Nat → F) : sameB n f f = true := (sameB_iff n f f).2 fun _ _ => rfl

section
variable {P : Program} (w : World)
theorem run_equalIn_row (d : Nat) (t e : TypeId) (n : Nat) (ht : P.underlying t = some (.array n e)) (he : P.underlying e = some (.int .u8)) (hsz : ∀ w, (sizeOf e).run P w = .ok 1 w) (f g : Nat → F) :
    (Op.equalIn (d + 2) t (.agg (rowB n f)) (.agg (rowB n g))).run P w = .ok (sameB n f g) w := by
  rw [sameB, List.range_eq_range', Op.equalIn]
  simp only [Sem.run_bind, run_underlying ht, Result.andThen_ok, hsz, Std.Legacy.Range.forIn_eq_forIn_range', Std.Legacy.Range.size, Nat.sub_zero, Nat.add_sub_cancel, Nat.div_one]
  have hl : ∀ i ∈ List.range' 0 n 1, i < n := fun i hi => by simpa using (List.mem_range'_1.1 hi).2
  generalize List.range' 0 n 1 = l at hl ⊢
  induction l with
  | nil => simp
  | cons i l ih =>
    have hi : i < n := hl i (by simp)
    have px : (part e (rowB n f) (i * 1)).run P w = .ok (.int .u8 (toI (f i))) w := by
      simp [part, isAgg, run_underlying he, rowB_get n f i hi]
    have py : (part e (rowB n g) (i * 1)).run P w = .ok (.int .u8 (toI (g i))) w := by
      simp [part, isAgg, run_underlying he, rowB_get n g i hi]
    have pe : (Op.equalIn (d + 1) e (.int .u8 (toI (f i))) (.int .u8 (toI (g i)))).run P w = .ok (f i == g i) w := by
      rw [run_equalIn_int w d e .u8 .u8 _ _ he]
      congr 1
      rw [Bool.eq_iff_iff]
      simp [toI_eq_iff]
    simp only [List.forIn_cons, Sem.run_bind, px, py, pe, Result.andThen_ok, List.all_cons]
    cases hb : (f i == g i)
    · simp
    · simp only [Bool.not_true, Bool.false_eq_true, if_false, Sem.run_pure, Result.andThen_ok, Bool.true_and]
      exact ih fun j hj => hl j (by simp [hj])
theorem run_eql_row (t e : TypeId) (n : Nat) (ht : P.underlying t = some (.array n e)) (he : P.underlying e = some (.int .u8)) (hsz : ∀ w, (sizeOf e).run P w = .ok 1 w) (f g : Nat → F) :
    (binOp .eql t (.agg (rowB n f)) (.agg (rowB n g))).run P w = .ok (.bool (sameB n f g)) w := by
  rw [run_eql_struct, run_equalIn_row w 9998 t e n ht he hsz f g]; rfl
theorem run_neq_row (t e : TypeId) (n : Nat) (ht : P.underlying t = some (.array n e)) (he : P.underlying e = some (.int .u8)) (hsz : ∀ w, (sizeOf e).run P w = .ok 1 w) (f g : Nat → F) :
    (binOp .neq t (.agg (rowB n f)) (.agg (rowB n g))).run P w = .ok (.bool (!sameB n f g)) w := by
  rw [run_neq_struct, run_equalIn_row w 9998 t e n ht he hsz f g]; rfl
theorem run_index_rowV (t e : TypeId) (n : Nat) (k : IntKind) (ht : P.underlying t = some (.array n e)) (he : (isAgg e).run P w = .ok false w) (hsz : ∀ w, (sizeOf e).run P w = .ok 1 w) (f : Nat → Value) (i : Int) (h0 : 0 ≤ i) (h1 : i < n) :
    (Instr.index t (.agg (rowV n f)) (.int k i)).run P w = .ok (f i.toNat) w := by
  have hp : (part e (rowV n f) (i.toNat * 1)).run P w = .ok (f i.toNat) w := by
    rw [Nat.mul_one]
    simp [part, he, Sem.run_bind, rowV_get n f i.toNat (by omega)]
  simp [Instr.index, asIntOf, run_underlying ht, hsz, Sem.run_bind, h0, h1]
  simpa using hp
end
theorem size5 (w : World) : (sizeOf 5).run Try.prog w = .ok 1 w := by kernel_rfl
theorem size4 (w : World) : (sizeOf 4).run Try.prog w = .ok 1 w := by kernel_rfl
theorem size3 (w : World) : (sizeOf 3).run Try.prog w = .ok 1 w := by kernel_rfl
theorem agg5 (w : World) : (isAgg 5).run Try.prog w = .ok false w := by kernel_rfl
theorem agg3 (w : World) : (isAgg 3).run Try.prog w = .ok false w := by kernel_rfl
theorem agg4 (w : World) : (isAgg 4).run Try.prog w = .ok false w := by kernel_rfl
theorem eql25 (w : World) (f g : Nat → F) : (binOp .eql 25 (.agg (rowB 16 f)) (.agg (rowB 16 g))).run Try.prog w = .ok (.bool (sameB 16 f g)) w := run_eql_row w 25 5 16 Try.underlying25 Try.underlying5 size5 f g
theorem neq25 (w : World) (f g : Nat → F) : (binOp .neq 25 (.agg (rowB 16 f)) (.agg (rowB 16 g))).run Try.prog w = .ok (.bool (!sameB 16 f g)) w := run_neq_row w 25 5 16 Try.underlying25 Try.underlying5 size5 f g
theorem eql36 (w : World) (f g : Nat → F) : (binOp .eql 36 (.agg (rowB 256 f)) (.agg (rowB 256 g))).run Try.prog w = .ok (.bool (sameB 256 f g)) w := run_eql_row w 36 5 256 Try.underlying36 Try.underlying5 size5 f g
theorem equalIn25 (w : World) (f g : Nat → F) : (Op.equalIn 10000 25 (.agg (rowB 16 f)) (.agg (rowB 16 g))).run Try.prog w = .ok (sameB 16 f g) w := run_equalIn_row w 9998 25 5 16 Try.underlying25 Try.underlying5 size5 f g
theorem equalIn36 (w : World) (f g : Nat → F) : (Op.equalIn 10000 36 (.agg (rowB 256 f)) (.agg (rowB 256 g))).run Try.prog w = .ok (sameB 256 f g) w := run_equalIn_row w 9998 36 5 256 Try.underlying36 Try.underlying5 size5 f g
theorem index25 (w : World) (f : Nat → F) (k : IntKind) (i : Int) (h0 : 0 ≤ i) (h1 : i < 16) : (Instr.index 25 (.agg (rowB 16 f)) (.int k i)).run Try.prog w = .ok (.int .u8 (toI (f i.toNat))) w :=
  run_index_rowV w 25 5 16 k Try.underlying25 (agg5 w) size5 _ i h0 h1
theorem index36 (w : World) (f : Nat → F) (k : IntKind) (i : Int) (h0 : 0 ≤ i) (h1 : i < 256) : (Instr.index 36 (.agg (rowB 256 f)) (.int k i)).run Try.prog w = .ok (.int .u8 (toI (f i.toNat))) w :=
  run_index_rowV w 36 5 256 k Try.underlying36 (agg5 w) size5 _ i h0 h1
theorem info25 : (Try.prog.info? 25).map (·.size) = some 16 := by kernel_rfl
theorem info36 : (Try.prog.info? 36).map (·.size) = some 256 := by kernel_rfl

theorem okWide_array {P : Program} {w : World} {r : Reach} {base : Nat} {t e : TypeId} {n : Nat} {v : Value} (ht : P.underlying t = some (.array n e)) (h : Value.okWide P w r base t v) : ∃ cs : Array Value, v = .agg cs ∧ cs.size = P.cellsOf t := by
  simp only [Value.okWide, ht] at h
  obtain ⟨cs, h1, h2, _⟩ := h
  exact ⟨cs, h1, h2⟩

/-- An array of bytes that came in. -/
theorem open_row {H : Type} {enc : TypeId × Value → H} {w : World} {base : Nat} {spare : Nat → Bool} {held : Bool} (t n : Nat) (ht : Try.prog.underlying t = some (.array n 5)) (hC : Try.prog.cellsOf t = n) (hC5 : Try.prog.cellsOf 5 = 1)
    {v : Value} {d : DataW H} {p : List MemPlace} (hv : ∃ cs : Array Value, v = .agg cs ∧ cs.size = n) (h : DataW.Trod enc Try.prog w base spare held t v d p) : ∃ f : Nat → F, v = .agg (rowB n f) := by
  obtain ⟨cs, rfl, hs⟩ := hv
  obtain ⟨fuel, hf⟩ := h
  obtain ⟨xs, m, _, hx, hl, hn, hg⟩ := DataW.trod_array ht hf
  have hcs : (Value.agg cs).cells.toList = cs.toList := rfl
  have key : ∀ j, j < n → ∃ a : F, cs[j]? = some (.int .u8 (toI a)) := by
    intro j hj
    have h1 := hg j hj
    rw [hC5, Nat.mul_one, hcs] at h1
    have hjl : j < cs.toList.length := by rw [Array.length_toList]; omega
    have hone : (cs.toList.drop j).take 1 = [cs.toList[j]'hjl] := by rw [List.drop_eq_getElem_cons hjl]; rfl
    rw [hone] at h1
    have hxj : xs[j]? = some (xs[j]'(by omega)) := List.getElem?_eq_getElem (by omega)
    rw [hxj] at h1
    obtain ⟨a, e0, _, wa⟩ := DataW.trod_int Try.underlying5 h1
    simp only [List.cons.injEq, and_true] at e0
    obtain ⟨b, rfl⟩ := exists_byte a wa
    exact ⟨b, by rw [← Array.getElem?_toList, List.getElem?_eq_getElem hjl, e0]⟩
  refine ⟨fun j => match cs[j]? with | some (.int .u8 a) => ofI a | _ => 0#8, ?_⟩
  congr 1
  apply rowV_ext n _ cs hs
  intro j hj
  obtain ⟨a, ha⟩ := key j hj
  show _ = some (Value.int .u8 (toI _))
  simp only [ha, ofI_toI]
end Go.Proofs.Ytphoelhelmnibaa.Ar
