/-
Newton's polynomial goes through the shares.
-/
import Derived.Test.YtphoelhelmnibaaNt
namespace Go.Proofs.Ytphoelhelmnibaa.Nu
open Go.Proofs.Ytphoelhelmnibaa.Gf Go.Proofs.Ytphoelhelmnibaa.Pl Go.Proofs.Ytphoelhelmnibaa.Pv Go.Proofs.Ytphoelhelmnibaa.Pw Go.Proofs.Ytphoelhelmnibaa.Py Go.Proofs.Ytphoelhelmnibaa.Pz Go.Proofs.Ytphoelhelmnibaa.Nt
/-- One row and a multiple of another, as long as the first. -/
def zp (w : F) : List F → List F → List F
  | a :: p, b :: q => (a ^^^ mul w b) :: zp w p q
  | a :: p, [] => (a ^^^ mul w 0#8) :: zp w p []
  | [], _ => []
theorem zp_length (w : F) : ∀ p q : List F, (zp w p q).length = p.length
  | a :: p, b :: q => by simp [zp, zp_length w p q]
  | a :: p, [] => by simp [zp, zp_length w p []]
  | [], _ => by simp [zp]
theorem zp_get (w : F) : ∀ (p q : List F) (t : Nat) (h : t < p.length), (zp w p q)[t]'(by rw [zp_length]; exact h) = p.getD t 0#8 ^^^ mul w (q.getD t 0#8)
  | a :: p, b :: q, 0, _ => rfl
  | a :: p, b :: q, t + 1, h => by
    have := zp_get w p q t (by simpa using h)
    simpa [zp] using this
  | a :: p, [], 0, _ => by simp [zp]
  | a :: p, [], t + 1, h => by
    have := zp_get w p [] t (by simpa using h)
    simpa [zp] using this
  | [], _, t, h => by simp at h
theorem mix_eq (w : F) (p q : List F) : mix w p q p.length = zp w p q := by
  apply List.ext_getElem
  · rw [mix_length, zp_length]
  · intro t h1 h2
    rw [zp_get w p q t (by rw [mix_length] at h1; exact h1)]
    rw [mix_length] at h1
    simp [mix, h1]
theorem ev_zp (w x : F) : ∀ p q : List F, q.length = p.length + 1 → q.getD p.length 0#8 = 0#8 → ev (zp w p q) x = ev p x ^^^ mul w (ev q x)
  | [], [c], _, h => by
    have hc : c = 0#8 := by simpa using h
    subst hc
    simp [zp, ev, mul_zero]
  | [], [], h, _ => by simp at h
  | [], _ :: _ :: _, h, _ => by simp at h
  | a :: p, [], h, _ => by simp at h
  | a :: p, b :: q, h, h0 => by
    have := ev_zp w x p q (by simpa using h) (by simpa using h0)
    simp only [zp, ev, this, mul_right]
    rw [xor4, ← mul_assoc x w, mul_comm x w, mul_assoc]
/-- q times (x + X), the coefficient that comes from below carried along. -/
def sh (X : F) : F → List F → List F
  | _, [] => []
  | v, c :: cs => (mul c X ^^^ v) :: sh X c cs
theorem sh_length (X : F) : ∀ (q : List F) (v : F), (sh X v q).length = q.length
  | [], _ => rfl
  | c :: cs, v => by simp [sh, sh_length X cs c]
theorem sh_get (X : F) : ∀ (q : List F) (v : F) (t : Nat) (h : t < q.length), (sh X v q)[t]'(by rw [sh_length]; exact h) = mul (q.getD t 0#8) X ^^^ (if 0 < t then q.getD (t - 1) 0#8 else v)
  | c :: cs, v, 0, _ => rfl
  | c :: cs, v, t + 1, h => by
    have := sh_get X cs c t (by simpa using h)
    simp only [sh, List.getElem_cons_succ, this, List.getD_cons_succ]
    cases t <;> simp
  | [], _, t, h => by simp at h
theorem nx_eq (X : F) (q : List F) : nx X q q.length = sh X 0#8 q := by
  apply List.ext_getElem
  · rw [nx_length, sh_length]
  · intro t h1 h2
    rw [nx_length] at h1
    rw [sh_get X q 0#8 t h1]
    simp [nx, h1]
theorem ev_sh (X x : F) : ∀ (q : List F) (v : F), q ≠ [] → q.getD (q.length - 1) 0#8 = 0#8 → ev (sh X v q) x = v ^^^ mul (x ^^^ X) (ev q x)
  | [], _, h, _ => absurd rfl h
  | [c], v, _, h => by
    have hc : c = 0#8 := by simpa using h
    subst hc
    simp [sh, ev, mul_zero, zero_mul]
  | c :: b :: cs, v, _, h => by
    have := ev_sh X x (b :: cs) c (by simp) (by simpa using h)
    rw [sh]
    show (mul c X ^^^ v) ^^^ mul x (ev (sh X c (b :: cs)) x) = v ^^^ mul (x ^^^ X) (c ^^^ mul x (ev (b :: cs) x))
    rw [this]
    generalize ev (b :: cs) x = s
    rw [mul_right, mul_right, mul_left x X c, mul_comm c X, ← mul_assoc x (x ^^^ X) s, mul_comm x (x ^^^ X), mul_assoc]
    generalize mul (x ^^^ X) (mul x s) = A
    generalize mul X c = B
    generalize mul x c = C
    ext i hi
    simp only [BitVec.getElem_xor]
    cases A[i] <;> cases B[i] <;> cases C[i] <;> cases v[i] <;> rfl
theorem newt_q_zero (l : List (F × List F)) (t : Nat) : ∀ i n, i < n → n ≤ l.length → (newt l t i).2.getD n 0#8 = 0#8
  | 0, n, h, hn => by
    obtain ⟨n, rfl⟩ : ∃ m, n = m + 1 := ⟨n - 1, by omega⟩
    simp [newt, show n < l.length by omega]
  | i + 1, n, h, hn => by
    have hq := (newt_length l t i).2
    have e : (newt l t (i + 1)).2 = nx (l.getD i (0#8, [])).1 (newt l t i).2 (newt l t i).2.length := rfl
    rw [e, nx_eq]
    have hlt : n < (newt l t i).2.length := by omega
    have hg := sh_get (l.getD i (0#8, [])).1 (newt l t i).2 0#8 n hlt
    rw [List.getD_eq_getElem?_getD, List.getElem?_eq_getElem (by rw [sh_length]; exact hlt), Option.getD_some, hg, newt_q_zero l t i n (by omega) hn, zero_mul, if_pos (by omega), newt_q_zero l t i (n - 1) (by omega) (by omega), BitVec.xor_zero]
/-- What holds of Newton's polynomials after i shares. -/
theorem newt_holds (l : List (F × List F)) (t : Nat) (hn : (l.map Prod.fst).Nodup) : ∀ i, i ≤ l.length →
    (∀ j (h : j < l.length), j < i → ev (newt l t i).1 l[j].1 = l[j].2.getD t 0#8 ∧ ev (newt l t i).2 l[j].1 = 0#8) ∧
    (∀ x, (∀ j (h : j < l.length), j < i → l[j].1 ≠ x) → ev (newt l t i).2 x ≠ 0#8)
  | 0, _ => by
    refine ⟨fun j h hj => absurd hj (by omega), fun x _ => ?_⟩
    have hz : ∀ n, ev (List.replicate n 0#8) x = 0#8 := by
      intro n
      induction n with
      | zero => rfl
      | succ n ih => simp [List.replicate_succ, ev, ih, mul_zero]
    simp [newt, ev, hz, mul_zero]
  | i + 1, hi => by
    obtain ⟨h1, h2⟩ := newt_holds l t hn i (by omega)
    have hil : i < l.length := by omega
    obtain ⟨n1, n2⟩ := newt_length l t i
    have ea : l.getD i (0#8, []) = l[i] := by simp [hil]
    have hq0 := newt_q_zero l t i l.length (by omega) (Nat.le_refl _)
    have hne : ∀ j (h : j < l.length), j < i → l[j].1 ≠ l[i].1 := by
      intro j h hj he
      have := (List.getElem_inj (h₀ := by simpa using h) (h₁ := by simpa using hil) hn).mp (by simpa using he)
      omega
    have hqi := h2 l[i].1 hne
    have ep : ∀ x, ev (newt l t (i + 1)).1 x = ev (newt l t i).1 x ^^^ mul (mul (ev (newt l t i).1 l[i].1 ^^^ l[i].2.getD t 0#8) (inv (ev (newt l t i).2 l[i].1))) (ev (newt l t i).2 x) := by
      intro x
      have e : (newt l t (i + 1)).1 = mix (mul (ev (newt l t i).1 l[i].1 ^^^ l[i].2.getD t 0#8) (inv (ev (newt l t i).2 l[i].1))) (newt l t i).1 (newt l t i).2 (newt l t i).1.length := by simp only [newt, ea]
      rw [e, mix_eq, ev_zp _ _ _ _ (by omega) (by rw [n1]; exact hq0)]
    have eq : ∀ x, ev (newt l t (i + 1)).2 x = mul (x ^^^ l[i].1) (ev (newt l t i).2 x) := by
      intro x
      have e : (newt l t (i + 1)).2 = nx l[i].1 (newt l t i).2 (newt l t i).2.length := by simp only [newt, ea]
      rw [e, nx_eq, ev_sh _ _ _ _ (by intro h0; rw [h0] at n2; simp at n2) (by rw [n2]; exact hq0), BitVec.zero_xor]
    refine ⟨fun j h hj => ?_, fun x hx => ?_⟩
    · rw [ep, eq]
      by_cases e : j = i
      · subst e
        rw [mul_assoc, mul_comm (inv _), mul_inv _ hqi, mul_one, ← BitVec.xor_assoc, BitVec.xor_self, BitVec.zero_xor, BitVec.xor_self, zero_mul]
        exact ⟨rfl, rfl⟩
      · obtain ⟨ha, hb⟩ := h1 j h (by omega)
        rw [ha, hb, mul_zero, mul_zero, BitVec.xor_zero]
        exact ⟨rfl, rfl⟩
    · rw [eq]
      intro h0
      rcases mul_eq_zero _ _ h0 with h3 | h3
      · exact hx i hil (by omega) (xor_cancel _ _ h3).symm
      · exact h2 x (fun j h hj => hx j h (by omega)) h3
/-- Newton's polynomial is of degree below the number of shares and goes through them. -/
theorem newton_point (l : List (F × List F)) (t : Nat) (hn : (l.map Prod.fst).Nodup) (f : F → F) (hf : Deg l.length f) (hy : ∀ i (h : i < l.length), f l[i].1 = l[i].2.getD t 0#8) (x : F) : ev (newt l t l.length).1 x = f x := by
  have h := (newt_holds l t hn l.length (Nat.le_refl _)).1
  have hd := Deg.ev (newt l t l.length).1
  rw [(newt_length l t l.length).1] at hd
  refine Deg.same hd hf (l.map Prod.fst) hn (by simp) ?_ x
  intro z hz
  obtain ⟨j, hj, rfl⟩ := List.getElem_of_mem hz
  have hj' : j < l.length := by simpa using hj
  simp only [List.getElem_map]
  rw [(h j hj' hj').1, hy j hj']
end Go.Proofs.Ytphoelhelmnibaa.Nu
