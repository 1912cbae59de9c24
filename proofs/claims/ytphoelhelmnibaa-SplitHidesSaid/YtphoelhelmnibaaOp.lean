/-
What comes in, read as plain lists: bytes, rows of bytes, shares, numbers.
-/
import Derived.Test.YtphoelhelmnibaaPw
import Derived.Test.YtphoelhelmnibaaAr
import Derived.Deep.Slices
import Derived.ChangeSame
namespace Go.Proofs.Ytphoelhelmnibaa.Op
open Go.ChangeShapes Go.WideShapes Go.RowKit Go.Deep Go.Proofs.Ytphoelhelmnibaa.Gf Go.Proofs.Ytphoelhelmnibaa.Pv Go.Proofs.Ytphoelhelmnibaa.Pw Go.Proofs.Ytphoelhelmnibaa.PQ Go.Proofs.YtphoelhelmnibaaW.PrintWords Go.Proofs.YtphoelhelmnibaaW.PrintLast
/-- Rows of bytes. -/
def rws (rows : List (List F)) : List (List Int) := rows.map byI
theorem rws_length (rows : List (List F)) : (rws rows).length = rows.length := by simp [rws]
theorem rd_rws (rows : List (List F)) (n : Nat) (h : n < rows.length) : rd_L1 (rws rows) (n : Int) = byI rows[n] := by
  simp [rd_L1, rws, h]
section
variable {H : Type} {enc : TypeId × Value → H} {W : World} {base : Nat} {sp : Nat → Bool} {held : Bool}
/-- Whatever reads as a datum of type t is of the kind d, and is as ok says. -/
def Opens {α : Type} (enc : TypeId × Value → H) (W : World) (base : Nat) (sp : Nat → Bool) (held : Bool) (d : Kd α) (t : TypeId) (ok : α → Prop) : Prop :=
  ∀ fuel cs x, DataW.trod enc Try.prog W base sp held fuel t cs = some x → ∃ a, d.K W a cs ∧ ok a
theorem opens_u8 : Opens enc W base sp held (Kd.int .u8) 5 (fun a => ∃ f : F, a = toI f) := by
  intro fuel cs x h
  obtain ⟨a, rfl, _, wa⟩ := DataW.trod_int Try.underlying5 h
  exact ⟨a, rfl, exists_byte a wa⟩
theorem opens_i64 : Opens enc W base sp held (Kd.int .i64) 3 (fun a => (Lit.int .i64 a).wf = true) := by
  intro fuel cs x h
  obtain ⟨a, rfl, _, wa⟩ := DataW.trod_int Try.underlying3 h
  exact ⟨a, rfl, wa⟩
theorem opens_slice {α : Type} [Inhabited α] {d : Kd α} {t e : TypeId} {ok : α → Prop} (ht : Try.prog.underlying t = some (.slice e)) (hc : Try.prog.cellsOf e = d.sz) (h : Opens enc W base sp held d e ok) :
    Opens enc W base sp held (Kd.slice e d) t (fun l => l.length ≤ 9223372036854775807 ∧ ∀ a ∈ l, ok a) := by
  intro fuel cs x hx
  rcases open_slice ht hx with ⟨rfl, _⟩ | ⟨a, len, cap, m, n, D, Pl, rfl, hb, hl, hm, hmm, _, hel⟩
  · exact ⟨[], ⟨none, 0, rfl, Nat.le_refl _, ⟨rfl, by simp, fun h => absurd h (Nat.lt_irrefl 0)⟩⟩, by simp, by simp⟩
  · have hlm : len ≤ m := by rw [hmm]; split <;> omega
    have hcap : cap ≤ 9223372036854775807 := by unfold maxLen at hm; omega
    obtain ⟨q, hq⟩ := choose_lt (α := α) (n := len) (p := fun i b => ok b ∧ ∃ cs', W.cells? base (a.add (i * d.sz)) d.sz = some cs' ∧ d.K W b cs') (fun i hi => by
      obtain ⟨cs', h1, h2⟩ := hel i (by omega)
      obtain ⟨b, hb1, hb2⟩ := h n cs' _ h2
      rw [hc] at h1
      exact ⟨b, hb2, cs', h1, hb1⟩)
    have hql : ((List.range len).map q).length = len := by simp
    refine ⟨(List.range len).map q, ⟨some a, cap, by rw [hql], by rw [hql]; exact hl, ?_⟩, by rw [hql]; omega, ?_⟩
    · refine ⟨rfl, by rw [hql]; omega, fun _ => ⟨a, rfl, fun j p hj => ?_⟩⟩
      have hjl : j < len := by
        have := (List.getElem?_eq_some_iff.1 hj).1
        rwa [hql] at this
      have hp : q j = p := by
        rw [List.getElem?_map, List.getElem?_range hjl] at hj
        exact Option.some.inj hj
      obtain ⟨_, cs', h1, h2⟩ := hq j hjl
      obtain ⟨_, hlen, hcell⟩ := World.cells?_some h1
      rw [hp] at h2
      refine ⟨cs', hlen, h2, fun i u hu => ?_⟩
      have hi : i < d.sz := by
        have := (List.getElem?_eq_some_iff.1 hu).1
        omega
      rw [← Go.Deep.add_add, hcell i hi, hu]
    · intro b hb'
      obtain ⟨i, hi, rfl⟩ := List.mem_map.1 hb'
      exact (hq i (List.mem_range.1 hi)).1
instance : Inhabited S54 := ⟨z54⟩
def okB (l : List Int) : Prop := l.length ≤ 9223372036854775807 ∧ ∀ a ∈ l, ∃ f : F, a = toI f
def okS (s : S54) : Prop := (∃ f : F, s.f0 = toI f) ∧ okB s.f1
theorem opens_bytes : Opens enc W base sp held (Kd.slice 5 (Kd.int .u8)) 45 okB := opens_slice Try.underlying45 (by kernel_rfl) opens_u8
theorem opens_share : Opens enc W base sp held k54 54 okS := by
  intro fuel cs x h
  obtain ⟨y0, y1, n, _, hl, h0, h1⟩ := trod_struct2 Try.underlying54 h
  have hl2 : cs.length = 2 := hl.trans (by kernel_rfl)
  match cs, hl2 with
  | [v0, v1], _ =>
    have e0 : Try.prog.cellsOf 5 = 1 := by kernel_rfl
    have e1 : Try.prog.cellsOf 45 = 1 := by kernel_rfl
    simp only [e0, e1, List.drop_zero, List.drop_succ_cons, List.take_succ_cons, List.take_zero] at h0 h1
    obtain ⟨a, ha, oa⟩ := opens_u8 _ _ _ h0
    obtain ⟨b, hb, ob⟩ := opens_bytes _ _ _ h1
    exact ⟨⟨a, b⟩, ⟨[v0], [v1], rfl, ha, hb⟩, oa, ob⟩
theorem to_bytes {l : List Int} (h : ∀ a ∈ l, ∃ f : F, a = toI f) : ∃ p : List F, l = byI p := by
  refine ⟨l.map ofI, ?_⟩
  unfold byI
  rw [List.map_map]
  conv => lhs; rw [← List.map_id l]
  apply List.map_congr_left
  intro a ha
  obtain ⟨f, rfl⟩ := h a ha
  simp [ofI_toI]
theorem to_rows {l : List (List Int)} (h : ∀ r ∈ l, okB r) : ∃ p : List (List F), l = rws p := by
  induction l with
  | nil => exact ⟨[], rfl⟩
  | cons r l ih =>
    obtain ⟨p, rfl⟩ := ih fun x hx => h x (List.mem_cons_of_mem _ hx)
    obtain ⟨q, rfl⟩ := to_bytes (h r List.mem_cons_self).2
    exact ⟨q :: p, rfl⟩
theorem to_shares {l : List S54} (h : ∀ s ∈ l, okS s) : ∃ p : List (F × List F), l = shs p := by
  induction l with
  | nil => exact ⟨[], rfl⟩
  | cons r l ih =>
    obtain ⟨p, rfl⟩ := ih fun x hx => h x (List.mem_cons_of_mem _ hx)
    obtain ⟨⟨a, ha⟩, hb⟩ := h r List.mem_cons_self
    obtain ⟨q, hq⟩ := to_bytes hb.2
    refine ⟨(a, q) :: p, ?_⟩
    cases r
    simp only at ha hq
    subst ha hq
    rfl
variable {r : Reach} {b0 : Nat} {v : Value} {x : DataW H} {ps : List MemPlace}
/-- An argument of a slice's type. -/
theorem open_arg {α : Type} {d : Kd α} {t e : TypeId} {ok : List α → Prop} (ht : Try.prog.underlying t = some (.slice e)) (ho : Opens enc W base sp held (Kd.slice e d) t ok) (hv : Value.okWide Try.prog W r b0 t v) (h : DataW.Trod enc Try.prog W base sp held t v x ps) :
    ∃ A c l, v = .slice A l.length c ∧ l.length ≤ c ∧ d.C W A l.length l ∧ ok l := by
  obtain ⟨A0, n0, c0, rfl⟩ := okWide_slice ht hv
  obtain ⟨fuel, hf⟩ := h
  obtain ⟨l, ⟨A, c, hcs, hl, hC⟩, hok⟩ := ho _ _ _ hf
  have : (Value.slice A0 n0 c0) = .slice A l.length c := by simpa [Value.cells] using hcs
  exact ⟨A, c, l, this, hl, hC, hok⟩
theorem open_bytes (hv : Value.okWide Try.prog W r b0 45 v) (h : DataW.Trod enc Try.prog W base sp held 45 v x ps) :
    ∃ A c, ∃ p : List F, v = .slice A (byI p).length c ∧ (byI p).length ≤ c ∧ Kd.C (Kd.int .u8) W A (byI p).length (byI p) ∧ p.length ≤ 9223372036854775807 := by
  obtain ⟨A, c, l, rfl, hl, hC, hlen, hok⟩ := open_arg Try.underlying45 opens_bytes hv h
  obtain ⟨p, rfl⟩ := to_bytes hok
  exact ⟨A, c, p, rfl, hl, hC, by rwa [byI_length] at hlen⟩
theorem open_rows_ (hv : Value.okWide Try.prog W r b0 47 v) (h : DataW.Trod enc Try.prog W base sp held 47 v x ps) :
    ∃ A c, ∃ p : List (List F), v = .slice A (rws p).length c ∧ (rws p).length ≤ c ∧ Kd.C (Kd.slice 5 (Kd.int .u8)) W A (rws p).length (rws p) ∧ p.length ≤ 9223372036854775807 := by
  obtain ⟨A, c, l, rfl, hl, hC, hlen, hok⟩ := open_arg Try.underlying47 (opens_slice Try.underlying47 (by kernel_rfl) opens_bytes) hv h
  obtain ⟨p, rfl⟩ := to_rows hok
  exact ⟨A, c, p, rfl, hl, hC, by rwa [rws_length] at hlen⟩
theorem open_shares (hv : Value.okWide Try.prog W r b0 49 v) (h : DataW.Trod enc Try.prog W base sp held 49 v x ps) :
    ∃ A c, ∃ p : List (F × List F), v = .slice A (shs p).length c ∧ (shs p).length ≤ c ∧ Kd.C k54 W A (shs p).length (shs p) ∧ p.length ≤ 9223372036854775807 := by
  obtain ⟨A, c, l, rfl, hl, hC, hlen, hok⟩ := open_arg Try.underlying49 (opens_slice Try.underlying49 (by kernel_rfl) opens_share) hv h
  obtain ⟨p, rfl⟩ := to_shares hok
  exact ⟨A, c, p, rfl, hl, hC, by rwa [shs_length] at hlen⟩
theorem open_ints_ (hv : Value.okWide Try.prog W r b0 42 v) (h : DataW.Trod enc Try.prog W base sp held 42 v x ps) :
    ∃ A c, ∃ l : List Int, v = .slice A l.length c ∧ l.length ≤ c ∧ Kd.C (Kd.int .i64) W A l.length l ∧ (l.length ≤ 9223372036854775807 ∧ ∀ a ∈ l, (Lit.int .i64 a).wf = true) := by
  obtain ⟨A, c, l, rfl, hl, hC, hok⟩ := open_arg Try.underlying42 (opens_slice Try.underlying42 (by kernel_rfl) opens_i64) hv h
  exact ⟨A, c, l, rfl, hl, hC, hok⟩
end
end Go.Proofs.Ytphoelhelmnibaa.Op
