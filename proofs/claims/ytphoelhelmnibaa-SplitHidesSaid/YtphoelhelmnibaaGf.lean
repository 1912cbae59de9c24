/-
The field of 256 elements in plain Lean: products, their laws, inverses and powers; how Go's byte arithmetic spells them; no program in sight.
-/
import Derived.RowKit
import Derived.Laws.Entries
import Derived.Laws.BitsLemmas
namespace Go.Proofs.Ytphoelhelmnibaa.Gf
open Go.RowKit
abbrev F := BitVec 8
def xt (a : F) : F := (a <<< 1) ^^^ (bif a.msb then 0x1b#8 else 0#8)
def sel (c : Bool) (a : F) : F := bif c then a else 0#8
def mulK : Nat → F → F → F
  | 0, _, _ => 0#8
  | k + 1, a, b => sel (b.getLsbD 0) a ^^^ mulK k (xt a) (b >>> 1)
def mul (a b : F) : F := mulK 8 a b
def toI (a : F) : Int := (a.toNat : Int)
def ofI (x : Int) : F := BitVec.ofInt 8 x

theorem xor4 (a b c d : F) : (a ^^^ b) ^^^ (c ^^^ d) = (a ^^^ c) ^^^ (b ^^^ d) := by
  simp only [BitVec.xor_assoc]; congr 1; simp only [← BitVec.xor_assoc]; rw [BitVec.xor_comm b c]
theorem sel_xor (c : Bool) (a b : F) : sel c (a ^^^ b) = sel c a ^^^ sel c b := by cases c <;> simp [sel]
theorem sel_bxor (c d : Bool) (a : F) : sel (c ^^ d) a = sel c a ^^^ sel d a := by cases c <;> cases d <;> simp [sel]
theorem xt_xor (a b : F) : xt (a ^^^ b) = xt a ^^^ xt b := by
  unfold xt; rw [BitVec.shiftLeft_xor_distrib, BitVec.msb_xor, xor4]; congr 1
  cases a.msb <;> cases b.msb <;> rfl
theorem mulK_right (k : Nat) : ∀ a b c : F, mulK k a (b ^^^ c) = mulK k a b ^^^ mulK k a c := by
  induction k with
  | zero => intro a b c; simp [mulK]
  | succ k ih => intro a b c; simp only [mulK]; rw [BitVec.getLsbD_xor, sel_bxor, BitVec.ushiftRight_xor_distrib, ih, xor4]
theorem mulK_left (k : Nat) : ∀ a b c : F, mulK k (a ^^^ b) c = mulK k a c ^^^ mulK k b c := by
  induction k with
  | zero => intro a b c; simp [mulK]
  | succ k ih => intro a b c; simp only [mulK]; rw [sel_xor, xt_xor, ih, xor4]
theorem mul_right (a b c : F) : mul a (b ^^^ c) = mul a b ^^^ mul a c := mulK_right 8 a b c
theorem mul_left (a b c : F) : mul (a ^^^ b) c = mul a c ^^^ mul b c := mulK_left 8 a b c
theorem mulK_zero (k : Nat) : ∀ a : F, mulK k a 0#8 = 0#8 := by
  induction k with
  | zero => intro a; rfl
  | succ k ih => intro a; simp only [mulK]; rw [BitVec.zero_ushiftRight, ih]; simp [sel]
theorem mulK_enough (k : Nat) : ∀ a b : F, b.toNat < 2 ^ k → mulK (k + 1) a b = mulK k a b := by
  induction k with
  | zero => intro a b h; have : b = 0#8 := BitVec.eq_of_toNat_eq (by simp at h ⊢; omega); subst this; simp [mulK, sel]
  | succ k ih =>
    intro a b h
    have e : mulK (k + 1 + 1) a b = sel (b.getLsbD 0) a ^^^ mulK (k + 1) (xt a) (b >>> 1) := rfl
    rw [e, ih _ _ (by rw [BitVec.toNat_ushiftRight, Nat.shiftRight_eq_div_pow]; rw [Nat.pow_succ] at h; omega)]; rfl
theorem mul_step (a b : F) : mul a b = sel (b.getLsbD 0) a ^^^ mul (xt a) (b >>> 1) := by
  have h : mul (xt a) (b >>> 1) = mulK 7 (xt a) (b >>> 1) := mulK_enough 7 _ _ (by rw [BitVec.toNat_ushiftRight, Nat.shiftRight_eq_div_pow]; omega)
  rw [h]; rfl
theorem mul_zero (a : F) : mul a 0#8 = 0#8 := mulK_zero 8 a
theorem zero_mul (a : F) : mul 0#8 a = 0#8 := by
  have h := mul_left 0#8 0#8 a
  simpa using h

/-- every element is a sum of the eight -/
theorem split_bits (x : F) : x = sel (x.getLsbD 0) 1#8 ^^^ sel (x.getLsbD 1) 2#8 ^^^ sel (x.getLsbD 2) 4#8 ^^^ sel (x.getLsbD 3) 8#8 ^^^ sel (x.getLsbD 4) 16#8 ^^^ sel (x.getLsbD 5) 32#8 ^^^ sel (x.getLsbD 6) 64#8 ^^^ sel (x.getLsbD 7) 128#8 := by
  revert x; decide +kernel
theorem basis (P : F → Prop) (h0 : P 0#8) (hx : ∀ a b, P a → P b → P (a ^^^ b)) (hb : ∀ i : Fin 8, P (1#8 <<< i.val)) (x : F) : P x := by
  have hs : ∀ c (i : Fin 8), P (sel c (1#8 <<< i.val)) := by intro c i; cases c; exact h0; exact hb i
  rw [split_bits x]
  exact hx _ _ (hx _ _ (hx _ _ (hx _ _ (hx _ _ (hx _ _ (hx _ _ (hs _ 0) (hs _ 1)) (hs _ 2)) (hs _ 3)) (hs _ 4)) (hs _ 5)) (hs _ 6)) (hs _ 7)
theorem mul_comm (a b : F) : mul a b = mul b a := by
  refine basis (fun a => mul a b = mul b a) ?_ ?_ ?_ a
  · rw [mul_zero, zero_mul]
  · intro x y hx hy; show mul (x ^^^ y) b = mul b (x ^^^ y); rw [mul_left, mul_right, hx, hy]
  · intro i
    refine basis (fun b => mul (1#8 <<< i.val) b = mul b (1#8 <<< i.val)) ?_ ?_ ?_ b
    · rw [mul_zero, zero_mul]
    · intro x y hx hy; show mul _ (x ^^^ y) = mul (x ^^^ y) _; rw [mul_left, mul_right, hx, hy]
    · revert i; decide +kernel
theorem mul_assoc (a b c : F) : mul (mul a b) c = mul a (mul b c) := by
  refine basis (fun a => mul (mul a b) c = mul a (mul b c)) ?_ ?_ ?_ a
  · simp only [zero_mul]
  · intro x y hx hy; show mul (mul (x ^^^ y) b) c = mul (x ^^^ y) (mul b c); rw [mul_left, mul_left, mul_left, hx, hy]
  · intro i
    refine basis (fun b => mul (mul (1#8 <<< i.val) b) c = mul (1#8 <<< i.val) (mul b c)) ?_ ?_ ?_ b
    · simp only [zero_mul, mul_zero]
    · intro x y hx hy; show mul (mul _ (x ^^^ y)) c = mul _ (mul (x ^^^ y) c); rw [mul_right, mul_left, mul_left, mul_right, hx, hy]
    · intro j
      refine basis (fun c => mul (mul (1#8 <<< i.val) (1#8 <<< j.val)) c = mul (1#8 <<< i.val) (mul (1#8 <<< j.val) c)) ?_ ?_ ?_ c
      · simp only [mul_zero]
      · intro x y hx hy; show mul _ (x ^^^ y) = mul _ (mul _ (x ^^^ y)); rw [mul_right, mul_right, mul_right, hx, hy]
      · revert i j; decide +kernel
theorem mul_one (a : F) : mul a 1#8 = a := by revert a; decide +kernel
theorem one_mul (a : F) : mul 1#8 a = a := by rw [mul_comm, mul_one]

/-! ### powers and inverses -/
def powN (a : F) : Nat → F
  | 0 => 1#8
  | n + 1 => mul (powN a n) a
theorem powN_add (a : F) (m n : Nat) : powN a (m + n) = mul (powN a m) (powN a n) := by
  induction n with
  | zero => simp only [powN, Nat.add_zero, mul_one]
  | succ n ih => rw [← Nat.add_assoc]; simp only [powN]; rw [ih, mul_assoc]
theorem powN_one (a : F) : powN a 1 = a := by simp only [powN, one_mul]
theorem powN_sq (a : F) (n : Nat) : powN (mul a a) n = powN a (2 * n) := by
  induction n with
  | zero => rfl
  | succ n ih => rw [show 2 * (n + 1) = 2 * n + 1 + 1 from by omega]; simp only [powN]; rw [ih, mul_assoc]
theorem powN_mul (a : F) (m n : Nat) : powN (powN a m) n = powN a (m * n) := by
  induction n with
  | zero => rfl
  | succ n ih => show mul (powN (powN a m) n) (powN a m) = _; rw [ih, Nat.mul_succ, powN_add]
theorem powN_base (a b : F) (n : Nat) : powN (mul a b) n = mul (powN a n) (powN b n) := by
  induction n with
  | zero => simp only [powN, mul_one]
  | succ n ih => simp only [powN]; rw [ih, mul_assoc, mul_assoc, ← mul_assoc (powN b n), mul_comm (powN b n) a, mul_assoc]
theorem powN_zero (n : Nat) (h : 0 < n) : powN 0#8 n = 0#8 := by
  obtain ⟨m, rfl⟩ : ∃ m, n = m + 1 := ⟨n - 1, by omega⟩
  simp only [powN, mul_zero]
def invK : Nat → F → F → F
  | 0, _, o => o
  | k + 1, a, o => invK k (mul a a) (mul o (mul a a))
def inv (a : F) : F := invK 7 a 1#8
theorem mul_inv (a : F) : a ≠ 0#8 → mul a (inv a) = 1#8 := by revert a; decide +kernel
theorem inv_zero : inv 0#8 = 0#8 := by decide +kernel
theorem one_ne : (1#8 : F) ≠ 0#8 := by decide
theorem inv_ne (a : F) (h : a ≠ 0#8) : inv a ≠ 0#8 := by
  intro e; have := mul_inv a h; rw [e, mul_zero] at this; exact one_ne this.symm
theorem mul_cancel (a b c : F) (ha : a ≠ 0#8) (h : mul a b = mul a c) : b = c := by
  have e : ∀ x, mul (inv a) (mul a x) = x := fun x => by rw [← mul_assoc, mul_comm (inv a), mul_inv a ha, one_mul]
  rw [← e b, h, e c]
theorem inv_of (a b : F) (h : mul a b = 1#8) : b = inv a := by
  have ha : a ≠ 0#8 := by intro e; rw [e, zero_mul] at h; exact one_ne h.symm
  exact mul_cancel a _ _ ha (h.trans (mul_inv a ha).symm)
theorem inv_inv (a : F) : inv (inv a) = a := by
  by_cases h : a = 0#8
  · subst h; rw [inv_zero, inv_zero]
  · exact (inv_of (inv a) a (by rw [mul_comm]; exact mul_inv a h)).symm
theorem mul_eq_zero (a b : F) (h : mul a b = 0#8) : a = 0#8 ∨ b = 0#8 := by
  by_cases ha : a = 0#8
  · exact .inl ha
  · exact .inr (mul_cancel a b 0#8 ha (h.trans (mul_zero a).symm))
theorem powSq (a : F) (ha : a ≠ 0#8) : powN a 255 = 1#8 := by
  have h1 : ∀ a : F, a ≠ 0#8 → mul (inv a) a = 1#8 := fun a h => by rw [mul_comm]; exact mul_inv a h
  have h2 : inv a = powN a 254 := by
    have e : ∀ n, powN (mul a a) n = powN a (2 * n) := powN_sq a
    show mul (mul (mul (mul (mul (mul (mul 1#8 _) _) _) _) _) _) _ = _
    have p1 : mul a a = powN a 2 := by simp only [powN, one_mul]
    rw [one_mul, p1]
    simp only [← powN_add]
  have h3 : powN a 255 = mul (powN a 254) a := rfl
  rw [h3, ← h2]; exact h1 a ha

/-! ### bytes as Go's whole numbers -/
theorem ofI_toI (a : F) : ofI (toI a) = a := by
  unfold ofI toI; simp
theorem toI_ofI (x : Int) (h0 : 0 ≤ x) (h1 : x < 256) : toI (ofI x) = x := by
  obtain ⟨n, rfl⟩ := Int.eq_ofNat_of_zero_le h0
  unfold ofI toI; rw [BitVec.ofInt_natCast, BitVec.toNat_ofNat]
  rw [Nat.mod_eq_of_lt (by omega)]
theorem toI_range (a : F) : 0 ≤ toI a ∧ toI a < 256 := by
  unfold toI; have := a.isLt; omega
theorem toI_lo (a : F) : 0 ≤ toI a := (toI_range a).1
theorem toI_hi (a : F) : toI a < 256 := (toI_range a).2
theorem toI_inj {a b : F} (h : toI a = toI b) : a = b := by rw [← ofI_toI a, h, ofI_toI]
theorem toI_eq_iff (a b : F) : toI a = toI b ↔ a = b := ⟨toI_inj, fun h => by rw [h]⟩
theorem exists_toI (x : Int) (h0 : 0 ≤ x) (h1 : x < 256) : ∃ a : F, x = toI a := ⟨ofI x, (toI_ofI x h0 h1).symm⟩
theorem wf_u8 (x : Int) (h : (Lit.int .u8 x).wf = true) : 0 ≤ x ∧ x < 256 := by
  simp only [Lit.wf, IntKind.min, IntKind.max, IntKind.signed, IntKind.bits, Bool.and_eq_true] at h
  simp at h; omega
theorem wf_i64 (x : Int) (h : (Lit.int .i64 x).wf = true) : -9223372036854775808 ≤ x ∧ x ≤ 9223372036854775807 := by
  simp only [Lit.wf, IntKind.min, IntKind.max, IntKind.signed, IntKind.bits, Bool.and_eq_true] at h
  simp at h; omega
theorem exists_byte (x : Int) (h : (Lit.int .u8 x).wf = true) : ∃ a : F, x = toI a := exists_toI x (wf_u8 x h).1 (wf_u8 x h).2
theorem wf_toI (a : F) : (Lit.int .u8 (toI a)).wf = true := by
  have := toI_range a
  simp only [Lit.wf, IntKind.min, IntKind.max, IntKind.signed, IntKind.bits, Bool.and_eq_true]
  simp; omega
theorem wrap_u8_toI (a : F) : IntKind.u8.wrap ((a.toNat : Nat) : Int) = toI a := by
  rw [IntKind.wrap_u8]; unfold toI; have := a.isLt; omega
theorem bits_xor_u8 (x y : Int) : Go.bits .xor .u8 x y = toI (ofI x ^^^ ofI y) := wrap_u8_toI (ofI x ^^^ ofI y)
theorem bits_and_u8 (x y : Int) : Go.bits .and .u8 x y = toI (ofI x &&& ofI y) := wrap_u8_toI (ofI x &&& ofI y)
theorem bits_or_u8 (x y : Int) : Go.bits .or .u8 x y = toI (ofI x ||| ofI y) := wrap_u8_toI (ofI x ||| ofI y)
theorem xor_toI (a b : F) : Go.bits .xor .u8 (toI a) (toI b) = toI (a ^^^ b) := by rw [bits_xor_u8, ofI_toI, ofI_toI]
theorem wrap64_toI (a : F) : wrap64 (toI a) = toI a := by unfold wrap64; have := toI_range a; omega
theorem toI_zero : toI 0#8 = 0 := rfl
theorem toI_one : toI 1#8 = 1 := rfl
theorem bits_xor_i64 (m n : Nat) (hm : m < 2 ^ 62) (hn : n < 2 ^ 62) : Go.bits .xor .i64 (m : Int) (n : Int) = ((m ^^^ n : Nat) : Int) := by
  have h : m ^^^ n < 2 ^ 62 := Nat.xor_lt_two_pow hm hn
  have hk : (2 : Nat) ^ IntKind.i64.bits = 2 ^ 64 := rfl
  have hm' : m % 2 ^ IntKind.i64.bits = m := by rw [hk]; exact Nat.mod_eq_of_lt (by omega)
  have hn' : n % 2 ^ IntKind.i64.bits = n := by rw [hk]; exact Nat.mod_eq_of_lt (by omega)
  simp only [Go.bits, BitVec.ofInt_natCast, BitVec.toNat_xor, BitVec.toNat_ofNat, hm', hn']
  rw [IntKind.wrap_i64]
  omega

/-! ### the program's loop of a product -/
theorem xt_spell (a : F) : Go.bits .xor .u8 ((toI a * 2) % 256) (Go.bits .and .u8 27 ((-(toI a / 128)) % 256)) = toI (xt a) := by
  revert a; decide +kernel
theorem low_spell (b : F) : (-(Go.bits .and .u8 (toI b) 1)) % 256 = bif b.getLsbD 0 then 255 else 0 := by
  revert b; decide +kernel
theorem and_ones (a : F) : Go.bits .and .u8 (toI a) 255 = toI a := by revert a; decide +kernel
theorem and_none (a : F) : Go.bits .and .u8 (toI a) 0 = 0 := by revert a; decide +kernel
theorem pick_spell (a b : F) : Go.bits .and .u8 (toI a) ((-(Go.bits .and .u8 (toI b) 1)) % 256) = toI (sel (b.getLsbD 0) a) := by
  rw [low_spell]; cases b.getLsbD 0
  · exact and_none a
  · exact and_ones a
theorem half_spell (b : F) : toI b / (2 : Int) = toI (b >>> (1 : Nat)) := by
  unfold toI; rw [BitVec.toNat_ushiftRight, Nat.shiftRight_eq_div_pow]; omega
theorem times_loop (l0 : Nat → Int → Int → Int → Option Int)
    (h : ∀ k x0 x1 x5, l0 (k + 1) x0 x1 x5 = if x1 > 0 then (l0 k (Go.bits .xor .u8 ((x0 * 2) % 256) (Go.bits .and .u8 27 ((-(x0 / 128)) % 256))) (x1 / 2) (Go.bits .xor .u8 x5 (Go.bits .and .u8 x0 ((-(Go.bits .and .u8 x1 1)) % 256)))) else (some x5))
    (n : Nat) : ∀ (k : Nat) (a b o : F), b.toNat < 2 ^ n → n < k → l0 k (toI a) (toI b) (toI o) = some (toI (o ^^^ mul a b)) := by
  induction n with
  | zero =>
    intro k a b o hb hk
    obtain ⟨k, rfl⟩ : ∃ m, k = m + 1 := ⟨k - 1, by omega⟩
    have : b = 0#8 := BitVec.eq_of_toNat_eq (by simp at hb ⊢; omega)
    subst this
    rw [h, if_neg (by decide), mul_zero, BitVec.xor_zero]
  | succ n ih =>
    intro k a b o hb hk
    obtain ⟨k, rfl⟩ : ∃ m, k = m + 1 := ⟨k - 1, by omega⟩
    rw [h]
    by_cases hz : toI b > 0
    · rw [if_pos hz, xt_spell, pick_spell, xor_toI, half_spell, ih _ _ _ _ (by rw [BitVec.toNat_ushiftRight, Nat.shiftRight_eq_div_pow]; rw [Nat.pow_succ] at hb; omega) (by omega), BitVec.xor_assoc, ← mul_step]
    · have : b = 0#8 := BitVec.eq_of_toNat_eq (by unfold toI at hz; simp; omega)
      subst this
      rw [if_neg hz, mul_zero, BitVec.xor_zero]
theorem inverse_loop (t : Nat → Int → Int → Option Int) (l0 : Nat → Int → Int → Int → Option Int) (K : Nat) (ht : ∀ k, K ≤ k → ∀ a b : F, t k (toI a) (toI b) = some (toI (mul a b)))
    (h : ∀ k x0 x3 x4, l0 (k + 1) x0 x3 x4 = if x4 < 7 then ((t k x0 x0).bind fun t104 => ((t k x3 t104).bind fun t105 => (l0 k t104 t105 (wrap64 (x4 + 1))))) else (some x3))
    (n : Nat) : ∀ (k : Nat) (a o : F), n ≤ 7 → K + n < k → l0 k (toI a) (toI o) (((7 - n : Nat) : Int)) = some (toI (invK n a o)) := by
  induction n with
  | zero =>
    intro k a o hn hk
    obtain ⟨k, rfl⟩ : ∃ m, k = m + 1 := ⟨k - 1, by omega⟩
    rw [h, if_neg (by omega)]; rfl
  | succ n ih =>
    intro k a o hn hk
    obtain ⟨k, rfl⟩ : ∃ m, k = m + 1 := ⟨k - 1, by omega⟩
    have e : wrap64 (((7 - (n + 1) : Nat) : Int) + 1) = ((7 - n : Nat) : Int) := by unfold wrap64; omega
    rw [h, if_pos (by omega), ht k (by omega)]
    simp only [Option.bind_some]
    rw [ht k (by omega)]
    simp only [Option.bind_some]
    rw [e, ih k _ _ (by omega) (by omega)]; rfl

/-! ### the document's product -/
def dstep (j : Nat) (n : Nat) : Nat := n ^^^ (bif n.testBit (14 - j) then 283 * 2 ^ (6 - j) else 0)
def dred : Nat → Nat → Nat
  | 0, n => n
  | j + 1, n => dstep j (dred j n)
def dcl (a b : Nat) : Nat → Nat
  | 0 => 0
  | i + 1 => dcl a b i ^^^ (bif b.testBit i then a * 2 ^ i else 0)
theorem nxor4 (a b c d : Nat) : (a ^^^ b) ^^^ (c ^^^ d) = (a ^^^ c) ^^^ (b ^^^ d) := by
  simp only [Nat.xor_assoc]; congr 1; simp only [← Nat.xor_assoc]; rw [Nat.xor_comm b c]
theorem dstep_xor (j m n : Nat) : dstep j (m ^^^ n) = dstep j m ^^^ dstep j n := by
  unfold dstep; rw [Nat.testBit_xor, nxor4]; congr 1
  cases m.testBit (14 - j) <;> cases n.testBit (14 - j) <;> simp
theorem dred_xor (j : Nat) : ∀ m n : Nat, dred j (m ^^^ n) = dred j m ^^^ dred j n := by
  induction j with
  | zero => intro m n; rfl
  | succ j ih => intro m n; simp only [dred]; rw [ih, dstep_xor]
theorem dred_zero : dred 7 0 = 0 := by decide
def xtp : Nat → F → F
  | 0, a => a
  | n + 1, a => xtp n (xt a)
theorem dred_one : ∀ (a : F) (i : Fin 8), dred 7 (a.toNat * 2 ^ i.val) = (xtp i.val a).toNat := by decide +kernel
theorem mulK_more (n : Nat) : ∀ (a b : F), (mulK n a b).toNat = (List.range n).foldl (fun s i => s ^^^ (bif b.getLsbD i then (xtp i a).toNat else 0)) 0 := by
  have gen : ∀ (l : List Nat) (f : Nat → Nat) (s : Nat), l.foldl (fun s i => s ^^^ f i) s = s ^^^ l.foldl (fun s i => s ^^^ f i) 0 := by
    intro l f
    induction l with
    | nil => intro s; simp
    | cons x l ih => intro s; simp only [List.foldl_cons]; rw [ih, ih (0 ^^^ f x), Nat.zero_xor, Nat.xor_assoc]
  induction n with
  | zero => intro a b; rfl
  | succ n ih =>
    intro a b
    simp only [mulK]
    rw [BitVec.toNat_xor, ih, List.range_succ_eq_map, List.foldl_cons, List.foldl_map, gen _ _ (0 ^^^ _), Nat.zero_xor]
    congr 1
    · cases b.getLsbD 0 <;> rfl
    · congr 1; funext s i; congr 1
      rw [BitVec.getLsbD_ushiftRight, Nat.add_comm]; rfl
theorem dcl_fold (a b : Nat) (n : Nat) : dcl a b n = (List.range n).foldl (fun s i => s ^^^ (bif b.testBit i then a * 2 ^ i else 0)) 0 := by
  induction n with
  | zero => rfl
  | succ n ih => rw [List.range_succ, List.foldl_append, ← ih]; rfl
theorem dred_dcl (a b : F) (n : Nat) (hn : n ≤ 8) : dred 7 (dcl a.toNat b.toNat n) = (List.range n).foldl (fun s i => s ^^^ (bif b.getLsbD i then (xtp i a).toNat else 0)) 0 := by
  induction n with
  | zero => exact dred_zero
  | succ n ih =>
    rw [List.range_succ, List.foldl_append, ← ih (by omega)]
    show dred 7 (_ ^^^ _) = _
    rw [dred_xor]
    simp only [List.foldl_cons, List.foldl_nil]
    congr 1
    rw [BitVec.testBit_toNat]
    cases b.getLsbD n
    · exact dred_zero
    · exact dred_one a ⟨n, by omega⟩
theorem doc_product (a b : F) : dred 7 (dcl a.toNat b.toNat 8) = (mul a b).toNat := by
  rw [dred_dcl a b 8 (by omega)]; exact (mulK_more 8 a b).symm
theorem dcl_lt (a b : Nat) (ha : a < 2 ^ 8) : ∀ n, n ≤ 8 → dcl a b n < 2 ^ 16 := by
  intro n
  induction n with
  | zero => intro _; show 0 < _; decide
  | succ n ih =>
    intro hn
    refine Nat.xor_lt_two_pow (ih (by omega)) ?_
    cases b.testBit n
    · show 0 < _; decide
    · show a * 2 ^ n < _
      calc a * 2 ^ n < 2 ^ 8 * 2 ^ n := Nat.mul_lt_mul_of_pos_right ha (Nat.two_pow_pos n)
        _ = 2 ^ (8 + n) := (Nat.pow_add 2 8 n).symm
        _ ≤ 2 ^ 16 := Nat.pow_le_pow_right (by decide) (by omega)
theorem dred_lt (n : Nat) (h : n < 2 ^ 16) : ∀ j, j ≤ 7 → dred j n < 2 ^ 16 := by
  intro j
  induction j with
  | zero => intro _; exact h
  | succ j ih =>
    intro hj
    refine Nat.xor_lt_two_pow (ih (by omega)) ?_
    cases (dred j n).testBit (14 - j)
    · show 0 < _; decide
    · show 283 * 2 ^ (6 - j) < _
      have : 2 ^ (6 - j) ≤ 2 ^ 6 := Nat.pow_le_pow_right (by decide) (by omega)
      omega
theorem odd_spell (x p : Nat) (hx : x < 2 ^ 62) : (Int.tmod (wrap64 (Int.tdiv (x : Int) ((2 ^ p : Nat) : Int))) 2 = 1) ↔ (x.testBit p = true) := by
  have e : Int.tdiv (x : Int) ((2 ^ p : Nat) : Int) = ((x / 2 ^ p : Nat) : Int) := rfl
  have hle : x / 2 ^ p ≤ x := Nat.div_le_self _ _
  rw [e, Nat.testBit_eq_decide_div_mod_eq, decide_eq_true_eq]
  generalize x / 2 ^ p = q at *
  have e2 : wrap64 (q : Int) = (q : Int) := by unfold wrap64; omega
  have e3 : Int.tmod (q : Int) 2 = ((q % 2 : Nat) : Int) := rfl
  rw [e2, e3]
  exact ⟨fun h => by omega, fun h => by omega⟩
theorem ref_times_loop1 (l1 : Nat → Int → Int → Int → Option Int)
    (h : ∀ k x5 x8 x9, l1 (k + 1) x5 x8 x9 = if x9 ≥ 256 then (if x9 = 0 then (none) else (if (Int.tmod (wrap64 (Int.tdiv x5 x9)) 2) = 1 then (l1 k (Go.bits .xor .i64 x5 x8) (wrap64 (Int.tdiv x8 2)) (wrap64 (Int.tdiv x9 2))) else (l1 k x5 (wrap64 (Int.tdiv x8 2)) (wrap64 (Int.tdiv x9 2))))) else (some x5))
    (n : Nat) (hn : n < 2 ^ 16) (d : Nat) : ∀ (k j : Nat) (e8 e9 : Int), j + d = 7 → d < k → e8 = ((283 * 2 ^ (7 - j) / 2 : Nat) : Int) → e9 = ((2 ^ (14 - j) : Nat) : Int) → l1 k ((dred j n : Nat) : Int) e8 e9 = some ((dred 7 n : Nat) : Int) := by
  induction d with
  | zero =>
    intro k j e8 e9 hj hk h8 h9
    obtain ⟨k, rfl⟩ : ∃ m, k = m + 1 := ⟨k - 1, by omega⟩
    obtain rfl : j = 7 := by omega
    rw [h, h9, if_neg (by decide)]
  | succ d ih =>
    intro k j e8 e9 hj hk h8 h9
    obtain ⟨k, rfl⟩ : ∃ m, k = m + 1 := ⟨k - 1, by omega⟩
    have hp : 2 ^ 8 ≤ 2 ^ (14 - j) := Nat.pow_le_pow_right (by decide) (by omega)
    have hlt := dred_lt n hn j (by omega)
    have s8 : 283 * 2 ^ (7 - j) / 2 = 283 * 2 ^ (6 - j) := by
      rw [show 7 - j = (6 - j) + 1 from by omega, Nat.pow_succ, ← Nat.mul_assoc]; exact Nat.mul_div_cancel _ (by decide)
    have b8 : 283 * 2 ^ (6 - j) < 2 ^ 62 := by
      have : 2 ^ (6 - j) ≤ 2 ^ 6 := Nat.pow_le_pow_right (by decide) (by omega)
      omega
    have b9 : 2 ^ (14 - j) < 2 ^ 62 := Nat.pow_lt_pow_right (by decide) (by omega)
    have s9 : 2 ^ (14 - j) / 2 = 2 ^ (14 - (j + 1)) := by
      rw [show 14 - j = (14 - (j + 1)) + 1 from by omega, Nat.pow_succ]; exact Nat.mul_div_cancel _ (by decide)
    have n8 : wrap64 (Int.tdiv e8 2) = ((283 * 2 ^ (7 - (j + 1)) / 2 : Nat) : Int) := by
      have t : Int.tdiv ((283 * 2 ^ (7 - j) / 2 : Nat) : Int) 2 = ((283 * 2 ^ (7 - j) / 2 / 2 : Nat) : Int) := rfl
      rw [h8, t, s8, show 7 - (j + 1) = 6 - j from by omega]; unfold wrap64; omega
    have n9 : wrap64 (Int.tdiv e9 2) = ((2 ^ (14 - (j + 1)) : Nat) : Int) := by
      have t : Int.tdiv ((2 ^ (14 - j) : Nat) : Int) 2 = ((2 ^ (14 - j) / 2 : Nat) : Int) := rfl
      rw [h9, t, s9]
      have : 2 ^ (14 - (j + 1)) < 2 ^ 62 := Nat.pow_lt_pow_right (by decide) (by omega)
      unfold wrap64; omega
    have step : dred (j + 1) n = dred j n ^^^ (bif (dred j n).testBit (14 - j) then 283 * 2 ^ (6 - j) else 0) := rfl
    rw [h, if_pos (by rw [h9]; omega), if_neg (by rw [h9]; omega)]
    have hodd := odd_spell (dred j n) (14 - j) (by omega)
    rw [← h9] at hodd
    have := ih k (j + 1) _ _ (by omega) (by omega) n8 n9
    cases hb : (dred j n).testBit (14 - j)
    · rw [if_neg (by rw [hodd, hb]; decide)]
      rw [step, hb] at this; simpa using this
    · rw [if_pos (by rw [hodd, hb])]
      rw [step, hb] at this
      have e : Go.bits .xor .i64 ((dred j n : Nat) : Int) e8 = ((dred j n ^^^ 283 * 2 ^ (6 - j) : Nat) : Int) := by rw [h8, s8]; exact bits_xor_i64 _ _ (by omega) b8
      rw [e]
      exact this
theorem ref_times_loop (l0 : Nat → Int → Int → Int → Int → Int → Option Int) (l1 : Nat → Int → Int → Int → Option Int)
    (h : ∀ k x0 x1 x5 x6 x7, l0 (k + 1) x0 x1 x5 x6 x7 = if x7 < 8 then (if x6 = 0 then (none) else (if (Int.tmod (wrap64 (Int.tdiv x1 x6)) 2) = 1 then (l0 k x0 x1 (Go.bits .xor .i64 x5 (wrap64 (x0 * x6))) (wrap64 (x6 * 2)) (wrap64 (x7 + 1))) else (l0 k x0 x1 x5 (wrap64 (x6 * 2)) (wrap64 (x7 + 1))))) else (l1 k x5 18112 16384))
    (h1 : ∀ k x5 x8 x9, l1 (k + 1) x5 x8 x9 = if x9 ≥ 256 then (if x9 = 0 then (none) else (if (Int.tmod (wrap64 (Int.tdiv x5 x9)) 2) = 1 then (l1 k (Go.bits .xor .i64 x5 x8) (wrap64 (Int.tdiv x8 2)) (wrap64 (Int.tdiv x9 2))) else (l1 k x5 (wrap64 (Int.tdiv x8 2)) (wrap64 (Int.tdiv x9 2))))) else (some x5))
    (a b : F) (d : Nat) : ∀ (k i : Nat), i + d = 8 → d + 8 < k → l0 k (toI a) (toI b) ((dcl a.toNat b.toNat i : Nat) : Int) ((2 ^ i : Nat) : Int) (i : Int) = some (toI (mul a b)) := by
  have ha := a.isLt
  have hb := b.isLt
  induction d with
  | zero =>
    intro k i hi hk
    obtain ⟨k, rfl⟩ : ∃ m, k = m + 1 := ⟨k - 1, by omega⟩
    obtain rfl : i = 8 := by omega
    rw [h, if_neg (by decide)]
    have := ref_times_loop1 l1 h1 (dcl a.toNat b.toNat 8) (dcl_lt _ _ ha 8 (by omega)) 7 k 0 18112 16384 (by omega) (by omega) (by decide) (by decide)
    rw [show dred 0 (dcl a.toNat b.toNat 8) = dcl a.toNat b.toNat 8 from rfl, doc_product] at this
    exact this
  | succ d ih =>
    intro k i hi hk
    obtain ⟨k, rfl⟩ : ∃ m, k = m + 1 := ⟨k - 1, by omega⟩
    have hp : 0 < 2 ^ i := Nat.two_pow_pos i
    have hp2 : 2 ^ i ≤ 2 ^ 8 := Nat.pow_le_pow_right (by decide) (by omega)
    have hm : a.toNat * 2 ^ i < 2 ^ 62 := by
      calc a.toNat * 2 ^ i < 2 ^ 8 * 2 ^ i := Nat.mul_lt_mul_of_pos_right ha hp
        _ = 2 ^ (8 + i) := (Nat.pow_add 2 8 i).symm
        _ ≤ 2 ^ 62 := Nat.pow_le_pow_right (by decide) (by omega)
    have hc := dcl_lt a.toNat b.toNat ha i (by omega)
    have n6 : wrap64 (((2 ^ i : Nat) : Int) * 2) = ((2 ^ (i + 1) : Nat) : Int) := by rw [Nat.pow_succ]; unfold wrap64; omega
    have n7 : wrap64 ((i : Int) + 1) = ((i + 1 : Nat) : Int) := by unfold wrap64; omega
    have n5 : wrap64 (toI a * ((2 ^ i : Nat) : Int)) = ((a.toNat * 2 ^ i : Nat) : Int) := by
      have e : toI a * ((2 ^ i : Nat) : Int) = ((a.toNat * 2 ^ i : Nat) : Int) := by unfold toI; rw [Int.natCast_mul]
      rw [e]; unfold wrap64; omega
    have step : dcl a.toNat b.toNat (i + 1) = dcl a.toNat b.toNat i ^^^ (bif b.toNat.testBit i then a.toNat * 2 ^ i else 0) := rfl
    rw [h, if_pos (by omega), if_neg (by omega)]
    have hodd : (Int.tmod (wrap64 (Int.tdiv (toI b) ((2 ^ i : Nat) : Int))) 2 = 1) ↔ (b.toNat.testBit i = true) := odd_spell _ _ (by omega)
    have := ih k (i + 1) (by omega) (by omega)
    rw [step] at this
    rw [n6, n7]
    cases hbit : b.toNat.testBit i
    · rw [if_neg (by rw [hodd, hbit]; decide)]; rw [hbit] at this; simpa using this
    · rw [if_pos (by rw [hodd, hbit]), n5, bits_xor_i64 _ _ (by omega) hm]; rw [hbit] at this; exact this
theorem ref_inverse_loop (t : Nat → Int → Int → Option Int) (l0 : Nat → Int → Int → Option Int) (K : Nat) (ht : ∀ k, K ≤ k → ∀ a b : F, t k (toI a) (toI b) = some (toI (mul a b)))
    (h : ∀ k x0 x3, l0 (k + 1) x0 x3 = if x3 < 256 then ((t k x0 x3).bind fun t106 => (if t106 = 1 then (some x3) else (l0 k x0 (wrap64 (x3 + 1))))) else (some 0))
    (a : F) (d : Nat) : ∀ (k i : Nat), i + d = 256 → K + d < k → (a ≠ 0#8 → i ≤ (inv a).toNat) → l0 k (toI a) (i : Int) = some (toI (inv a)) := by
  induction d with
  | zero =>
    intro k i hi hk hle
    obtain ⟨k, rfl⟩ : ∃ m, k = m + 1 := ⟨k - 1, by omega⟩
    rw [h, if_neg (by omega)]
    by_cases ha : a = 0#8
    · subst ha; rw [inv_zero]; rfl
    · have := hle ha; have := (inv a).isLt; omega
  | succ d ih =>
    intro k i hi hk hle
    obtain ⟨k, rfl⟩ : ∃ m, k = m + 1 := ⟨k - 1, by omega⟩
    have ei : (i : Int) = toI (BitVec.ofNat 8 i) := by unfold toI; rw [BitVec.toNat_ofNat, Nat.mod_eq_of_lt (by omega)]
    rw [h, if_pos (by omega)]
    rw [show t k (toI a) (i : Int) = some (toI (mul a (BitVec.ofNat 8 i))) from by rw [ei]; exact ht k (by omega) _ _]
    simp only [Option.bind_some]
    by_cases e : toI (mul a (BitVec.ofNat 8 i)) = 1
    · rw [if_pos e, ei, inv_of a _ (toI_inj e)]
    · rw [if_neg e, show wrap64 ((i : Int) + 1) = ((i + 1 : Nat) : Int) from by unfold wrap64; omega]
      refine ih k (i + 1) (by omega) (by omega) (fun ha => ?_)
      have h1 := hle ha
      rcases Nat.lt_or_eq_of_le h1 with h2 | h2
      · exact h2
      · exact absurd (by rw [h2, BitVec.ofNat_toNat]; simp only [BitVec.setWidth_eq]; rw [mul_inv a ha]; rfl) e

/-! ### powers by the program's loop -/
theorem and_one_i64 (n : Nat) (hn : n < 2 ^ 63) : Go.bits .and .i64 (n : Int) 1 = ((n % 2 : Nat) : Int) := by
  have hk : (2 : Nat) ^ IntKind.i64.bits = 2 ^ 64 := rfl
  have hn' : n % 2 ^ IntKind.i64.bits = n := by rw [hk]; exact Nat.mod_eq_of_lt (by omega)
  have h1' : 1 % 2 ^ IntKind.i64.bits = 1 := by rw [hk]
  rw [show (1 : Int) = ((1 : Nat) : Int) from rfl]
  simp only [Go.bits, BitVec.ofInt_natCast, BitVec.toNat_and, BitVec.toNat_ofNat, hn', h1', Nat.and_one_is_mod]
  rw [IntKind.wrap_i64]
  omega
theorem power_loop (t : Nat → Int → Int → Option Int) (l0 : Nat → Int → Int → Int → Option Int) (K : Nat) (ht : ∀ k, K ≤ k → ∀ a b : F, t k (toI a) (toI b) = some (toI (mul a b)))
    (h : ∀ k x0 x1 x5, l0 (k + 1) x0 x1 x5 = if x1 > 0 then (if (Go.bits .and .i64 x1 1) = 1 then ((t k x5 x0).bind fun t108 => ((t k x0 x0).bind fun t109 => (l0 k t109 (x1 / 2) t108))) else ((t k x0 x0).bind fun t110 => (l0 k t110 (x1 / 2) x5))) else (some x5))
    (p : Nat) : ∀ (k n : Nat) (a o : F), p ≤ 63 → n < 2 ^ p → K + p < k → l0 k (toI a) (n : Int) (toI o) = some (toI (mul o (powN a n))) := by
  induction p with
  | zero =>
    intro k n a o hp hn hk
    obtain ⟨k, rfl⟩ : ∃ m, k = m + 1 := ⟨k - 1, by omega⟩
    obtain rfl : n = 0 := by simp at hn; omega
    rw [h, if_neg (by decide)]; simp only [powN, mul_one]
  | succ p ih =>
    intro k n a o hp hn hk
    obtain ⟨k, rfl⟩ : ∃ m, k = m + 1 := ⟨k - 1, by omega⟩
    have hbig : 2 ^ (p + 1) ≤ 2 ^ 63 := Nat.pow_le_pow_right (by decide) hp
    rw [Nat.pow_succ] at hn hbig
    rw [h]
    by_cases hz : (n : Int) > 0
    · rw [if_pos hz, and_one_i64 n (by omega)]
      have e2 : (n : Int) / 2 = ((n / 2 : Nat) : Int) := by omega
      by_cases ho : ((n % 2 : Nat) : Int) = 1
      · rw [if_pos ho, ht k (by omega)]
        simp only [Option.bind_some]
        rw [ht k (by omega)]
        simp only [Option.bind_some]
        rw [e2, ih k _ _ _ (by omega) (by omega) (by omega), powN_sq, mul_assoc]
        have : n = 1 + 2 * (n / 2) := by omega
        rw [show powN a n = powN a (1 + 2 * (n / 2)) from congrArg _ this, powN_add, powN_one]
      · rw [if_neg ho, ht k (by omega)]
        simp only [Option.bind_some]
        rw [e2, ih k _ _ _ (by omega) (by omega) (by omega), powN_sq]
        have : n = 2 * (n / 2) := by omega
        rw [show powN a n = powN a (2 * (n / 2)) from congrArg _ this]
    · obtain rfl : n = 0 := by omega
      rw [if_neg hz]; simp only [powN, mul_one]
end Go.Proofs.Ytphoelhelmnibaa.Gf
