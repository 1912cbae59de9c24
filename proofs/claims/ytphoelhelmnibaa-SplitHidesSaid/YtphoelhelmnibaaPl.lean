/-
Polynomials over the field of bytes: a function of degree below m that vanishes at m places vanishes everywhere.
-/
import Derived.Test.YtphoelhelmnibaaGf
namespace Go.Proofs.Ytphoelhelmnibaa.Pl
open Go.Proofs.Ytphoelhelmnibaa.Gf

/-- A polynomial's value; the lowest coefficient first. -/
def ev : List F → F → F
  | [], _ => 0#8
  | c :: cs, x => c ^^^ mul x (ev cs x)
/-- What is left of a polynomial when (x + r) is taken out. -/
def dv (r : F) : List F → List F
  | [] => []
  | [_] => []
  | _ :: c :: cs => ev (c :: cs) r :: dv r (c :: cs)
theorem dv_length (r : F) : ∀ p : List F, (dv r p).length = p.length - 1
  | [] => rfl
  | [_] => rfl
  | a :: c :: cs => by
    have := dv_length r (c :: cs)
    simp only [dv, List.length_cons] at this ⊢
    omega
theorem xor_cancel (a b : F) (h : a ^^^ b = 0#8) : a = b := by
  have : (a ^^^ b) ^^^ b = b := by rw [h, BitVec.zero_xor]
  rw [BitVec.xor_assoc, BitVec.xor_self, BitVec.xor_zero] at this
  exact this
theorem ev_dv (r x : F) : ∀ p : List F, ev p x = mul (x ^^^ r) (ev (dv r p) x) ^^^ ev p r
  | [] => by simp [ev, dv, mul_zero]
  | [c] => by simp [ev, dv, mul_zero]
  | a :: c :: cs => by
    have h := ev_dv r x (c :: cs)
    show a ^^^ mul x (ev (c :: cs) x) = mul (x ^^^ r) (ev (c :: cs) r ^^^ mul x (ev (dv r (c :: cs)) x)) ^^^ (a ^^^ mul r (ev (c :: cs) r))
    rw [h]
    generalize ev (dv r (c :: cs)) x = d
    generalize ev (c :: cs) r = s
    rw [mul_right, mul_right, mul_left x r s, mul_left x r (mul x d), mul_left x r d, mul_right]
    have e : mul x (mul r d) = mul r (mul x d) := by rw [← mul_assoc, mul_comm x r, mul_assoc]
    rw [e]
    generalize mul x (mul x d) = A
    generalize mul r (mul x d) = B
    generalize mul x s = C
    generalize mul r s = D
    ext i hi
    simp only [BitVec.getElem_xor]
    cases a[i] <;> cases A[i] <;> cases B[i] <;> cases C[i] <;> cases D[i] <;> rfl
theorem roots : ∀ (xs p : List F), xs.Nodup → p.length ≤ xs.length → (∀ x ∈ xs, ev p x = 0#8) → ∀ y, ev p y = 0#8
  | [], p, _, hl, _, y => by
    have : p = [] := List.length_eq_zero_iff.mp (by simpa using hl)
    subst this
    rfl
  | r :: xs, p, hn, hl, hz, y => by
    have hr := hz r (by simp)
    have hd : ∀ x ∈ xs, ev (dv r p) x = 0#8 := by
      intro x hx
      have h := ev_dv r x p
      rw [hz x (by simp [hx]), hr, BitVec.xor_zero] at h
      rcases mul_eq_zero _ _ h.symm with h0 | h0
      · have e := xor_cancel _ _ h0
        subst e
        exact absurd hx (List.nodup_cons.mp hn).1
      · exact h0
    have hy := roots xs (dv r p) (List.nodup_cons.mp hn).2 (by rw [dv_length]; simp only [List.length_cons] at hl; omega) hd y
    rw [ev_dv r y p, hy, mul_zero, hr, BitVec.xor_zero]
/-- A function of degree below m. -/
def Deg (m : Nat) (f : F → F) : Prop := ∃ p : List F, p.length ≤ m ∧ ∀ x, f x = ev p x
def addP : List F → List F → List F
  | [], q => q
  | p, [] => p
  | a :: p, b :: q => (a ^^^ b) :: addP p q
theorem addP_length : ∀ p q : List F, (addP p q).length = max p.length q.length
  | [], q => by simp [addP]
  | a :: p, [] => by simp [addP]
  | a :: p, b :: q => by simp [addP, addP_length p q]
theorem ev_addP (x : F) : ∀ p q : List F, ev (addP p q) x = ev p x ^^^ ev q x
  | [], q => by simp [addP, ev]
  | a :: p, [] => by simp [addP, ev]
  | a :: p, b :: q => by simp only [addP, ev, ev_addP x p q, mul_right]; exact xor4 _ _ _ _
theorem Deg.add {m : Nat} {f g : F → F} (hf : Deg m f) (hg : Deg m g) : Deg m fun x => f x ^^^ g x := by
  obtain ⟨p, hp, ef⟩ := hf
  obtain ⟨q, hq, eg⟩ := hg
  exact ⟨addP p q, by rw [addP_length]; omega, fun x => by dsimp only; rw [ev_addP, ef, eg]⟩
theorem ev_map (c x : F) : ∀ p : List F, ev (p.map (mul c)) x = mul c (ev p x)
  | [] => by simp [ev, mul_zero]
  | a :: p => by
    simp only [List.map_cons, ev, ev_map c x p, mul_right]
    rw [← mul_assoc, mul_comm x c, mul_assoc]
theorem Deg.scale {m : Nat} {f : F → F} (c : F) (hf : Deg m f) : Deg m fun x => mul c (f x) := by
  obtain ⟨p, hp, ef⟩ := hf
  exact ⟨p.map (mul c), by simpa using hp, fun x => by dsimp only; rw [ev_map, ef]⟩
theorem Deg.shift {m : Nat} {f : F → F} (hf : Deg m f) : Deg (m + 1) fun x => mul x (f x) := by
  obtain ⟨p, hp, ef⟩ := hf
  exact ⟨0#8 :: p, by simp; omega, fun x => by simp [ev, ef]⟩
theorem Deg.more {m n : Nat} {f : F → F} (hf : Deg m f) (h : m ≤ n) : Deg n f := by
  obtain ⟨p, hp, ef⟩ := hf
  exact ⟨p, by omega, ef⟩
theorem Deg.const (c : F) : Deg 1 fun _ => c := ⟨[c], by simp, fun x => by simp [ev, mul_zero]⟩
theorem Deg.zero (m : Nat) : Deg m fun _ => 0#8 := ⟨[], by simp, fun _ => rfl⟩
theorem Deg.lin {m : Nat} {f : F → F} (a : F) (hf : Deg m f) : Deg (m + 1) fun x => mul (x ^^^ a) (f x) := by
  have h := (hf.shift).add ((hf.scale a).more (Nat.le_succ m))
  obtain ⟨p, hp, ef⟩ := h
  exact ⟨p, hp, fun x => by dsimp only; rw [← ef]; exact mul_left x a (f x)⟩
theorem Deg.ev (p : List F) : Deg p.length (Pl.ev p) := ⟨p, Nat.le_refl _, fun _ => rfl⟩
/-- Two functions of degree below m that agree at m places are one. -/
theorem Deg.same {m : Nat} {f g : F → F} (hf : Deg m f) (hg : Deg m g) (xs : List F) (hn : xs.Nodup) (hl : m ≤ xs.length) (h : ∀ x ∈ xs, f x = g x) (y : F) : f y = g y := by
  obtain ⟨p, hp, e⟩ := hf.add hg
  refine xor_cancel _ _ ?_
  rw [show f y ^^^ g y = _ from e y]
  refine roots xs p hn (by omega) (fun x hx => ?_) y
  rw [← e x]
  show f x ^^^ g x = 0#8
  rw [h x hx, BitVec.xor_self]
end Go.Proofs.Ytphoelhelmnibaa.Pl
