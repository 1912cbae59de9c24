/-
  No cell of these rows narrows 'for every input' (looked for: loops, veiled, ifaces, maps, wideKeys, modest, calm, conditions, laid).
  DERIVED. THE GIVEN ROWS OF THIS SEAT. 11 by the template 'for every input the law returns true; each argument reads behind the call as it read before'; 0 by the template 'total and deterministic' (their statements: YtphoelhelmnibaaTotals.lean).
  GIVEN WITH THE SEED: the statements are not yours to turn. If you find one false, say at which input.
  Laid BY PROGRAM, IN A SANDBOX (cutbox-rows.mjs): the forced cells as the released guide's own fill.sh prints them over the translation f00f848f2922da1b… (all of the seat's roots in one cut). By AI agents, Wed Nov 11 2026. No macro, syntax, notation, axiom, sorry.
-/
import Derived.Test.YtphoelhelmnibaaChecked
import GoSem.Claim
import GoSem.ClaimJoined
import GoSem.ClaimMapViews
import Derived.JoinedTies
import Derived.KernelRfl
namespace Go.Proofs.Ytphoelhelmnibaa
/- THE CELL 'sum', in the pinned program and in every row, IS THE sha256 OF THE DUMP (.gsa) THAT YtphoelhelmnibaaProg.lean LOADS. Nothing in Lean hashes anything: it is a label: what it is worth is what the hold of that sum in a sandbox is worth. -/
noncomputable def Try.pinned : Pinned := { name := "ytphoelhelmnibaa", sum := "f00f848f2922da1bf411e8a44a9467b6eef9f77537184f22c279106bf0f935c1", checked := Try.checked }
namespace Rows
def none {H : Type} : Left H := { results := [], args := [] }

/-- 'chatelainelaw03.SboxApart': WHATEVER THE INPUT: true; the input reads as it did. -/
def sboxApartSpec : ChangeSpec := { name := "sboxApart", fn := fun _ => fun
  | [d1, d2] => { results := [.lit (.bool true)], args := [d1, d2] }
  | _ => none }
def sboxApartRow : OpenClaim := { program := "ytphoelhelmnibaa", sum := "f00f848f2922da1bf411e8a44a9467b6eef9f77537184f22c279106bf0f935c1", func := "chatelaine/chatelainelaw03.SboxApart", spec := "sboxApart", apart := false }
def SboxApartSaid : Prop := sboxApartRow.holds Try.pinned (OpenSpec.ofChange sboxApartSpec)

/-- ITS FALSE NEIGHBOUR: 'it returns false'. Refute it at one input. -/
def sboxApartWrong : ChangeSpec := { name := "sboxApart", fn := fun _ => fun
  | [d1, d2] => { results := [.lit (.bool false)], args := [d1, d2] }
  | _ => none }
def SboxApartWrongFalsely : Prop := sboxApartRow.holds Try.pinned (OpenSpec.ofChange sboxApartWrong)

/-- 'chatelainelaw02.GfDoubles': WHATEVER THE INPUT: true; the input reads as it did. -/
def gfDoublesSpec : ChangeSpec := { name := "gfDoubles", fn := fun _ => fun
  | [d1, d2] => { results := [.lit (.bool true)], args := [d1, d2] }
  | _ => none }
def gfDoublesRow : OpenClaim := { program := "ytphoelhelmnibaa", sum := "f00f848f2922da1bf411e8a44a9467b6eef9f77537184f22c279106bf0f935c1", func := "chatelaine/chatelainelaw02.GfDoubles", spec := "gfDoubles", apart := false }
def GfDoublesSaid : Prop := gfDoublesRow.holds Try.pinned (OpenSpec.ofChange gfDoublesSpec)

/-- ITS FALSE NEIGHBOUR: 'it returns false'. Refute it at one input. -/
def gfDoublesWrong : ChangeSpec := { name := "gfDoubles", fn := fun _ => fun
  | [d1, d2] => { results := [.lit (.bool false)], args := [d1, d2] }
  | _ => none }
def GfDoublesWrongFalsely : Prop := gfDoublesRow.holds Try.pinned (OpenSpec.ofChange gfDoublesWrong)

/-- 'chatelainelaw02.GfApart': WHATEVER THE INPUT: true; the input reads as it did. -/
def gfApartSpec : ChangeSpec := { name := "gfApart", fn := fun _ => fun
  | [d1, d2] => { results := [.lit (.bool true)], args := [d1, d2] }
  | _ => none }
def gfApartRow : OpenClaim := { program := "ytphoelhelmnibaa", sum := "f00f848f2922da1bf411e8a44a9467b6eef9f77537184f22c279106bf0f935c1", func := "chatelaine/chatelainelaw02.GfApart", spec := "gfApart", apart := false }
def GfApartSaid : Prop := gfApartRow.holds Try.pinned (OpenSpec.ofChange gfApartSpec)

/-- ITS FALSE NEIGHBOUR: 'it returns false'. Refute it at one input. -/
def gfApartWrong : ChangeSpec := { name := "gfApart", fn := fun _ => fun
  | [d1, d2] => { results := [.lit (.bool false)], args := [d1, d2] }
  | _ => none }
def GfApartWrongFalsely : Prop := gfApartRow.holds Try.pinned (OpenSpec.ofChange gfApartWrong)

/-- 'chatelainelaw02.GfTimes': WHATEVER THE INPUT: true; the input reads as it did. -/
def gfTimesSpec : ChangeSpec := { name := "gfTimes", fn := fun _ => fun
  | [d1, d2, d3] => { results := [.lit (.bool true)], args := [d1, d2, d3] }
  | _ => none }
def gfTimesRow : OpenClaim := { program := "ytphoelhelmnibaa", sum := "f00f848f2922da1bf411e8a44a9467b6eef9f77537184f22c279106bf0f935c1", func := "chatelaine/chatelainelaw02.GfTimes", spec := "gfTimes", apart := false }
def GfTimesSaid : Prop := gfTimesRow.holds Try.pinned (OpenSpec.ofChange gfTimesSpec)

/-- ITS FALSE NEIGHBOUR: 'it returns false'. Refute it at one input. -/
def gfTimesWrong : ChangeSpec := { name := "gfTimes", fn := fun _ => fun
  | [d1, d2, d3] => { results := [.lit (.bool false)], args := [d1, d2, d3] }
  | _ => none }
def GfTimesWrongFalsely : Prop := gfTimesRow.holds Try.pinned (OpenSpec.ofChange gfTimesWrong)

/-- 'chatelainelaw02.GfLaws': WHATEVER THE INPUT: true; the input reads as it did. -/
def gfLawsSpec : ChangeSpec := { name := "gfLaws", fn := fun _ => fun
  | [d1, d2, d3] => { results := [.lit (.bool true)], args := [d1, d2, d3] }
  | _ => none }
def gfLawsRow : OpenClaim := { program := "ytphoelhelmnibaa", sum := "f00f848f2922da1bf411e8a44a9467b6eef9f77537184f22c279106bf0f935c1", func := "chatelaine/chatelainelaw02.GfLaws", spec := "gfLaws", unfollowed := true, recurses := true, apart := false }
def GfLawsSaid : Prop := gfLawsRow.holds Try.pinned (OpenSpec.ofChange gfLawsSpec)

/-- ITS FALSE NEIGHBOUR: 'it returns false'. Refute it at one input. -/
def gfLawsWrong : ChangeSpec := { name := "gfLaws", fn := fun _ => fun
  | [d1, d2, d3] => { results := [.lit (.bool false)], args := [d1, d2, d3] }
  | _ => none }
def GfLawsWrongFalsely : Prop := gfLawsRow.holds Try.pinned (OpenSpec.ofChange gfLawsWrong)

/-- 'chatelainelaw03.SboxSwaps': WHATEVER THE INPUT: true; the input reads as it did. -/
def sboxSwapsSpec : ChangeSpec := { name := "sboxSwaps", fn := fun _ => fun
  | [d] => { results := [.lit (.bool true)], args := [d] }
  | _ => none }
def sboxSwapsRow : OpenClaim := { program := "ytphoelhelmnibaa", sum := "f00f848f2922da1bf411e8a44a9467b6eef9f77537184f22c279106bf0f935c1", func := "chatelaine/chatelainelaw03.SboxSwaps", spec := "sboxSwaps", apart := false }
def SboxSwapsSaid : Prop := sboxSwapsRow.holds Try.pinned (OpenSpec.ofChange sboxSwapsSpec)

/-- ITS FALSE NEIGHBOUR: 'it returns false'. Refute it at one input. -/
def sboxSwapsWrong : ChangeSpec := { name := "sboxSwaps", fn := fun _ => fun
  | [d] => { results := [.lit (.bool false)], args := [d] }
  | _ => none }
def SboxSwapsWrongFalsely : Prop := sboxSwapsRow.holds Try.pinned (OpenSpec.ofChange sboxSwapsWrong)

/-- 'chatelainelaw03.SboxOf': WHATEVER THE INPUT: true; the input reads as it did. -/
def sboxOfSpec : ChangeSpec := { name := "sboxOf", fn := fun _ => fun
  | [d] => { results := [.lit (.bool true)], args := [d] }
  | _ => none }
def sboxOfRow : OpenClaim := { program := "ytphoelhelmnibaa", sum := "f00f848f2922da1bf411e8a44a9467b6eef9f77537184f22c279106bf0f935c1", func := "chatelaine/chatelainelaw03.SboxOf", spec := "sboxOf", apart := false }
def SboxOfSaid : Prop := sboxOfRow.holds Try.pinned (OpenSpec.ofChange sboxOfSpec)

/-- ITS FALSE NEIGHBOUR: 'it returns false'. Refute it at one input. -/
def sboxOfWrong : ChangeSpec := { name := "sboxOf", fn := fun _ => fun
  | [d] => { results := [.lit (.bool false)], args := [d] }
  | _ => none }
def SboxOfWrongFalsely : Prop := sboxOfRow.holds Try.pinned (OpenSpec.ofChange sboxOfWrong)

/-- 'chatelainelaw45.SplitSplits': WHATEVER THE INPUT: true; the input reads as it did. -/
def splitSplitsSpec : ChangeSpec := { name := "splitSplits", fn := fun _ => fun
  | [d1, d2, d3] => { results := [.lit (.bool true)], args := [d1, d2, d3] }
  | _ => none }
def splitSplitsRow : OpenClaim := { program := "ytphoelhelmnibaa", sum := "f00f848f2922da1bf411e8a44a9467b6eef9f77537184f22c279106bf0f935c1", func := "chatelaine/chatelainelaw45.SplitSplits", spec := "splitSplits", unfollowed := true, recurses := true, apart := false }
def SplitSplitsSaid : Prop := splitSplitsRow.holds Try.pinned (OpenSpec.ofChange splitSplitsSpec)

/-- ITS FALSE NEIGHBOUR: 'it returns false'. Refute it at one input. -/
def splitSplitsWrong : ChangeSpec := { name := "splitSplits", fn := fun _ => fun
  | [d1, d2, d3] => { results := [.lit (.bool false)], args := [d1, d2, d3] }
  | _ => none }
def SplitSplitsWrongFalsely : Prop := splitSplitsRow.holds Try.pinned (OpenSpec.ofChange splitSplitsWrong)

/-- 'chatelainelaw45.SplitHides': WHATEVER THE INPUT: true; the input reads as it did. -/
def splitHidesSpec : ChangeSpec := { name := "splitHides", fn := fun _ => fun
  | [d1, d2, d3] => { results := [.lit (.bool true)], args := [d1, d2, d3] }
  | _ => none }
def splitHidesRow : OpenClaim := { program := "ytphoelhelmnibaa", sum := "f00f848f2922da1bf411e8a44a9467b6eef9f77537184f22c279106bf0f935c1", func := "chatelaine/chatelainelaw45.SplitHides", spec := "splitHides", unfollowed := true, recurses := true, apart := false }
def SplitHidesSaid : Prop := splitHidesRow.holds Try.pinned (OpenSpec.ofChange splitHidesSpec)

/-- ITS FALSE NEIGHBOUR: 'it returns false'. Refute it at one input. -/
def splitHidesWrong : ChangeSpec := { name := "splitHides", fn := fun _ => fun
  | [d1, d2, d3] => { results := [.lit (.bool false)], args := [d1, d2, d3] }
  | _ => none }
def SplitHidesWrongFalsely : Prop := splitHidesRow.holds Try.pinned (OpenSpec.ofChange splitHidesWrong)

/-- 'chatelainelaw45.SplitAt': WHATEVER THE INPUT: true; the input reads as it did. -/
def splitAtSpec : ChangeSpec := { name := "splitAt", fn := fun _ => fun
  | [d1, d2, d3] => { results := [.lit (.bool true)], args := [d1, d2, d3] }
  | _ => none }
def splitAtRow : OpenClaim := { program := "ytphoelhelmnibaa", sum := "f00f848f2922da1bf411e8a44a9467b6eef9f77537184f22c279106bf0f935c1", func := "chatelaine/chatelainelaw45.SplitAt", spec := "splitAt", unfollowed := true, recurses := true, apart := false }
def SplitAtSaid : Prop := splitAtRow.holds Try.pinned (OpenSpec.ofChange splitAtSpec)

/-- ITS FALSE NEIGHBOUR: 'it returns false'. Refute it at one input. -/
def splitAtWrong : ChangeSpec := { name := "splitAt", fn := fun _ => fun
  | [d1, d2, d3] => { results := [.lit (.bool false)], args := [d1, d2, d3] }
  | _ => none }
def SplitAtWrongFalsely : Prop := splitAtRow.holds Try.pinned (OpenSpec.ofChange splitAtWrong)

/-- 'chatelainelaw45.SplitBack': WHATEVER THE INPUT: true; the input reads as it did. -/
def splitBackSpec : ChangeSpec := { name := "splitBack", fn := fun _ => fun
  | [d1, d2, d3] => { results := [.lit (.bool true)], args := [d1, d2, d3] }
  | _ => none }
def splitBackRow : OpenClaim := { program := "ytphoelhelmnibaa", sum := "f00f848f2922da1bf411e8a44a9467b6eef9f77537184f22c279106bf0f935c1", func := "chatelaine/chatelainelaw45.SplitBack", spec := "splitBack", unfollowed := true, recurses := true, apart := false }
def SplitBackSaid : Prop := splitBackRow.holds Try.pinned (OpenSpec.ofChange splitBackSpec)

/-- ITS FALSE NEIGHBOUR: 'it returns false'. Refute it at one input. -/
def splitBackWrong : ChangeSpec := { name := "splitBack", fn := fun _ => fun
  | [d1, d2, d3] => { results := [.lit (.bool false)], args := [d1, d2, d3] }
  | _ => none }
def SplitBackWrongFalsely : Prop := splitBackRow.holds Try.pinned (OpenSpec.ofChange splitBackWrong)

/- THE SECOND FORM. 'bulk': how many values and letters a reading holds, each counted each time it is reached (what is shared counts as often as it is met; a slice's spare places count too). A statement '..UptoSaid' is the law's where the arguments, and the package variables that the reading takes, are together of bulk at most 1048576: NARROWER than '..Said'. Prove '..Said' where nothing that the law and all that it calls make is longer than what came in: it says more and counts as full. Else prove '..UptoSaid'. A law counts once. -/
mutual
def uptoBulk {H : Type} : DataW H → Nat
  | .lit (.string bytes) => bytes.length + 1
  | .lit _ => 1
  | .nil => 1
  | .ptr d => uptoBulk d + 1
  | .slice elems spare => uptoBulkAll elems + uptoBulkAll spare + 1
  | .agg parts => uptoBulkAll parts + 1
  | .iface _ d => uptoBulk d + 1
  | .map entries => uptoBulkEntries entries + 1
  | .held _ => 1
def uptoBulkAll {H : Type} : List (DataW H) → Nat
  | [] => 0
  | d :: r => uptoBulk d + uptoBulkAll r
def uptoBulkEntries {H : Type} : List (Lit × DataW H) → Nat
  | [] => 0
  | x :: r => uptoBulkEntry x + uptoBulkEntries r
def uptoBulkEntry {H : Type} : Lit × DataW H → Nat
  | (.string bytes, d) => bytes.length + uptoBulk d + 1
  | (_, d) => uptoBulk d + 1
 end
def uptoSmall : (H : Type) → List (DataW H) → Bool := fun _ ds => decide (uptoBulkAll ds ≤ 1048576)
def OpenSpec.upto (s : _root_.Go.ChangeSpec) : _root_.Go.OpenSpec := { _root_.Go.OpenSpec.ofChange s with cond := some uptoSmall }

/-- 'chatelainelaw03.SboxApart', WHERE WHAT IT READS IS OF BULK AT MOST 1048576: true; the input reads as it did. -/
def sboxApartUptoRow : OpenClaim := { program := "ytphoelhelmnibaa", sum := "f00f848f2922da1bf411e8a44a9467b6eef9f77537184f22c279106bf0f935c1", func := "chatelaine/chatelainelaw03.SboxApart", spec := "sboxApart", apart := false, narrowed := true }
def SboxApartUptoSaid : Prop := sboxApartUptoRow.holds Try.pinned (OpenSpec.upto sboxApartSpec)

/-- 'chatelainelaw02.GfDoubles', WHERE WHAT IT READS IS OF BULK AT MOST 1048576: true; the input reads as it did. -/
def gfDoublesUptoRow : OpenClaim := { program := "ytphoelhelmnibaa", sum := "f00f848f2922da1bf411e8a44a9467b6eef9f77537184f22c279106bf0f935c1", func := "chatelaine/chatelainelaw02.GfDoubles", spec := "gfDoubles", apart := false, narrowed := true }
def GfDoublesUptoSaid : Prop := gfDoublesUptoRow.holds Try.pinned (OpenSpec.upto gfDoublesSpec)

/-- 'chatelainelaw02.GfApart', WHERE WHAT IT READS IS OF BULK AT MOST 1048576: true; the input reads as it did. -/
def gfApartUptoRow : OpenClaim := { program := "ytphoelhelmnibaa", sum := "f00f848f2922da1bf411e8a44a9467b6eef9f77537184f22c279106bf0f935c1", func := "chatelaine/chatelainelaw02.GfApart", spec := "gfApart", apart := false, narrowed := true }
def GfApartUptoSaid : Prop := gfApartUptoRow.holds Try.pinned (OpenSpec.upto gfApartSpec)

/-- 'chatelainelaw02.GfTimes', WHERE WHAT IT READS IS OF BULK AT MOST 1048576: true; the input reads as it did. -/
def gfTimesUptoRow : OpenClaim := { program := "ytphoelhelmnibaa", sum := "f00f848f2922da1bf411e8a44a9467b6eef9f77537184f22c279106bf0f935c1", func := "chatelaine/chatelainelaw02.GfTimes", spec := "gfTimes", apart := false, narrowed := true }
def GfTimesUptoSaid : Prop := gfTimesUptoRow.holds Try.pinned (OpenSpec.upto gfTimesSpec)

/-- 'chatelainelaw02.GfLaws', WHERE WHAT IT READS IS OF BULK AT MOST 1048576: true; the input reads as it did. -/
def gfLawsUptoRow : OpenClaim := { program := "ytphoelhelmnibaa", sum := "f00f848f2922da1bf411e8a44a9467b6eef9f77537184f22c279106bf0f935c1", func := "chatelaine/chatelainelaw02.GfLaws", spec := "gfLaws", unfollowed := true, recurses := true, apart := false, narrowed := true }
def GfLawsUptoSaid : Prop := gfLawsUptoRow.holds Try.pinned (OpenSpec.upto gfLawsSpec)

/-- 'chatelainelaw03.SboxSwaps', WHERE WHAT IT READS IS OF BULK AT MOST 1048576: true; the input reads as it did. -/
def sboxSwapsUptoRow : OpenClaim := { program := "ytphoelhelmnibaa", sum := "f00f848f2922da1bf411e8a44a9467b6eef9f77537184f22c279106bf0f935c1", func := "chatelaine/chatelainelaw03.SboxSwaps", spec := "sboxSwaps", apart := false, narrowed := true }
def SboxSwapsUptoSaid : Prop := sboxSwapsUptoRow.holds Try.pinned (OpenSpec.upto sboxSwapsSpec)

/-- 'chatelainelaw03.SboxOf', WHERE WHAT IT READS IS OF BULK AT MOST 1048576: true; the input reads as it did. -/
def sboxOfUptoRow : OpenClaim := { program := "ytphoelhelmnibaa", sum := "f00f848f2922da1bf411e8a44a9467b6eef9f77537184f22c279106bf0f935c1", func := "chatelaine/chatelainelaw03.SboxOf", spec := "sboxOf", apart := false, narrowed := true }
def SboxOfUptoSaid : Prop := sboxOfUptoRow.holds Try.pinned (OpenSpec.upto sboxOfSpec)

/-- 'chatelainelaw45.SplitSplits', WHERE WHAT IT READS IS OF BULK AT MOST 1048576: true; the input reads as it did. -/
def splitSplitsUptoRow : OpenClaim := { program := "ytphoelhelmnibaa", sum := "f00f848f2922da1bf411e8a44a9467b6eef9f77537184f22c279106bf0f935c1", func := "chatelaine/chatelainelaw45.SplitSplits", spec := "splitSplits", unfollowed := true, recurses := true, apart := false, narrowed := true }
def SplitSplitsUptoSaid : Prop := splitSplitsUptoRow.holds Try.pinned (OpenSpec.upto splitSplitsSpec)

/-- 'chatelainelaw45.SplitHides', WHERE WHAT IT READS IS OF BULK AT MOST 1048576: true; the input reads as it did. -/
def splitHidesUptoRow : OpenClaim := { program := "ytphoelhelmnibaa", sum := "f00f848f2922da1bf411e8a44a9467b6eef9f77537184f22c279106bf0f935c1", func := "chatelaine/chatelainelaw45.SplitHides", spec := "splitHides", unfollowed := true, recurses := true, apart := false, narrowed := true }
def SplitHidesUptoSaid : Prop := splitHidesUptoRow.holds Try.pinned (OpenSpec.upto splitHidesSpec)

/-- 'chatelainelaw45.SplitAt', WHERE WHAT IT READS IS OF BULK AT MOST 1048576: true; the input reads as it did. -/
def splitAtUptoRow : OpenClaim := { program := "ytphoelhelmnibaa", sum := "f00f848f2922da1bf411e8a44a9467b6eef9f77537184f22c279106bf0f935c1", func := "chatelaine/chatelainelaw45.SplitAt", spec := "splitAt", unfollowed := true, recurses := true, apart := false, narrowed := true }
def SplitAtUptoSaid : Prop := splitAtUptoRow.holds Try.pinned (OpenSpec.upto splitAtSpec)

/-- 'chatelainelaw45.SplitBack', WHERE WHAT IT READS IS OF BULK AT MOST 1048576: true; the input reads as it did. -/
def splitBackUptoRow : OpenClaim := { program := "ytphoelhelmnibaa", sum := "f00f848f2922da1bf411e8a44a9467b6eef9f77537184f22c279106bf0f935c1", func := "chatelaine/chatelainelaw45.SplitBack", spec := "splitBack", unfollowed := true, recurses := true, apart := false, narrowed := true }
def SplitBackUptoSaid : Prop := splitBackUptoRow.holds Try.pinned (OpenSpec.upto splitBackSpec)

end Rows
end Go.Proofs.Ytphoelhelmnibaa
