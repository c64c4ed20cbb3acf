/-
  No cell of these rows narrows 'for every input' (looked for: loops, veiled, ifaces, maps, wideKeys, modest, calm, conditions, laid).
  DERIVED. THE GIVEN ROWS OF THIS SEAT. 5 by the template 'for every input the law returns true; each argument reads behind the call as it read before'; 0 by the template 'total and deterministic' (their statements: YtgpmaljekfbchaaTotals.lean).
  GIVEN WITH THE SEED: the statements are not yours to turn. If you find one false, say at which input.
  Laid BY PROGRAM, IN A SANDBOX (cutbox-rows.mjs): the forced cells as the released guide's own fill.sh prints them over the translation f13580d68ef06ea6… (all of the seat's roots in one cut). By AI agents, Wed Nov 11 2026. No macro, syntax, notation, axiom, sorry.
-/
import Derived.Test.YtgpmaljekfbchaaChecked
import GoSem.Claim
import GoSem.ClaimJoined
import GoSem.ClaimMapViews
import Derived.JoinedTies
import Derived.KernelRfl
namespace Go.Proofs.Ytgpmaljekfbchaa
/- THE CELL 'sum', in the pinned program and in every row, IS THE sha256 OF THE DUMP (.gsa) THAT YtgpmaljekfbchaaProg.lean LOADS. Nothing in Lean hashes anything: it is a label: what it is worth is what the hold of that sum in a sandbox is worth. -/
noncomputable def Try.pinned : Pinned := { name := "ytgpmaljekfbchaa", sum := "f13580d68ef06ea69fef8c421368052a1ccd61b83d6b4e1391184b75c55e81a0", checked := Try.checked }
namespace Rows
def none {H : Type} : Left H := { results := [], args := [] }

/-- 'tenementlaw03.PmapFills': WHATEVER THE INPUT: true; the input reads as it did. -/
def pmapFillsSpec : ChangeSpec := { name := "pmapFills", fn := fun _ => fun
  | [d1, d2] => { results := [.lit (.bool true)], args := [d1, d2] }
  | _ => none }
def pmapFillsRow : OpenClaim := { program := "ytgpmaljekfbchaa", sum := "f13580d68ef06ea69fef8c421368052a1ccd61b83d6b4e1391184b75c55e81a0", func := "tenement/tenementlaw03.PmapFills", spec := "pmapFills", apart := false }
def PmapFillsSaid : Prop := pmapFillsRow.holds Try.pinned (OpenSpec.ofChange pmapFillsSpec)

/-- ITS FALSE NEIGHBOUR: 'it returns false'. Refute it at one input. -/
def pmapFillsWrong : ChangeSpec := { name := "pmapFills", fn := fun _ => fun
  | [d1, d2] => { results := [.lit (.bool false)], args := [d1, d2] }
  | _ => none }
def PmapFillsWrongFalsely : Prop := pmapFillsRow.holds Try.pinned (OpenSpec.ofChange pmapFillsWrong)

/-- 'tenementlaw03.PmapBack': WHATEVER THE INPUT: true; the input reads as it did. -/
def pmapBackSpec : ChangeSpec := { name := "pmapBack", fn := fun _ => fun
  | [d1, d2] => { results := [.lit (.bool true)], args := [d1, d2] }
  | _ => none }
def pmapBackRow : OpenClaim := { program := "ytgpmaljekfbchaa", sum := "f13580d68ef06ea69fef8c421368052a1ccd61b83d6b4e1391184b75c55e81a0", func := "tenement/tenementlaw03.PmapBack", spec := "pmapBack", apart := false }
def PmapBackSaid : Prop := pmapBackRow.holds Try.pinned (OpenSpec.ofChange pmapBackSpec)

/-- ITS FALSE NEIGHBOUR: 'it returns false'. Refute it at one input. -/
def pmapBackWrong : ChangeSpec := { name := "pmapBack", fn := fun _ => fun
  | [d1, d2] => { results := [.lit (.bool false)], args := [d1, d2] }
  | _ => none }
def PmapBackWrongFalsely : Prop := pmapBackRow.holds Try.pinned (OpenSpec.ofChange pmapBackWrong)

/-- 'tenementlaw03.PmapPlays': WHATEVER THE INPUT: true; the input reads as it did. -/
def pmapPlaysSpec : ChangeSpec := { name := "pmapPlays", fn := fun _ => fun
  | [d1, d2] => { results := [.lit (.bool true)], args := [d1, d2] }
  | _ => none }
def pmapPlaysRow : OpenClaim := { program := "ytgpmaljekfbchaa", sum := "f13580d68ef06ea69fef8c421368052a1ccd61b83d6b4e1391184b75c55e81a0", func := "tenement/tenementlaw03.PmapPlays", spec := "pmapPlays", apart := false }
def PmapPlaysSaid : Prop := pmapPlaysRow.holds Try.pinned (OpenSpec.ofChange pmapPlaysSpec)

/-- ITS FALSE NEIGHBOUR: 'it returns false'. Refute it at one input. -/
def pmapPlaysWrong : ChangeSpec := { name := "pmapPlays", fn := fun _ => fun
  | [d1, d2] => { results := [.lit (.bool false)], args := [d1, d2] }
  | _ => none }
def PmapPlaysWrongFalsely : Prop := pmapPlaysRow.holds Try.pinned (OpenSpec.ofChange pmapPlaysWrong)

/-- 'tenementlaw03.PmapZero': WHATEVER THE INPUT: true; the input reads as it did. -/
def pmapZeroSpec : ChangeSpec := { name := "pmapZero", fn := fun _ => fun
  | [d1, d2] => { results := [.lit (.bool true)], args := [d1, d2] }
  | _ => none }
def pmapZeroRow : OpenClaim := { program := "ytgpmaljekfbchaa", sum := "f13580d68ef06ea69fef8c421368052a1ccd61b83d6b4e1391184b75c55e81a0", func := "tenement/tenementlaw03.PmapZero", spec := "pmapZero", apart := false }
def PmapZeroSaid : Prop := pmapZeroRow.holds Try.pinned (OpenSpec.ofChange pmapZeroSpec)

/-- ITS FALSE NEIGHBOUR: 'it returns false'. Refute it at one input. -/
def pmapZeroWrong : ChangeSpec := { name := "pmapZero", fn := fun _ => fun
  | [d1, d2] => { results := [.lit (.bool false)], args := [d1, d2] }
  | _ => none }
def PmapZeroWrongFalsely : Prop := pmapZeroRow.holds Try.pinned (OpenSpec.ofChange pmapZeroWrong)

/-- 'tenementlaw03.PmapCopies': WHATEVER THE INPUT: true; the input reads as it did. -/
def pmapCopiesSpec : ChangeSpec := { name := "pmapCopies", fn := fun _ => fun
  | [d1, d2, d3] => { results := [.lit (.bool true)], args := [d1, d2, d3] }
  | _ => none }
def pmapCopiesRow : OpenClaim := { program := "ytgpmaljekfbchaa", sum := "f13580d68ef06ea69fef8c421368052a1ccd61b83d6b4e1391184b75c55e81a0", func := "tenement/tenementlaw03.PmapCopies", spec := "pmapCopies", apart := false }
def PmapCopiesSaid : Prop := pmapCopiesRow.holds Try.pinned (OpenSpec.ofChange pmapCopiesSpec)

/-- ITS FALSE NEIGHBOUR: 'it returns false'. Refute it at one input. -/
def pmapCopiesWrong : ChangeSpec := { name := "pmapCopies", fn := fun _ => fun
  | [d1, d2, d3] => { results := [.lit (.bool false)], args := [d1, d2, d3] }
  | _ => none }
def PmapCopiesWrongFalsely : Prop := pmapCopiesRow.holds Try.pinned (OpenSpec.ofChange pmapCopiesWrong)

/- THE SECOND FORM. 'bulk': how many values and letters a reading holds, each counted each time it is reached (what is shared counts as often as it is met; a slice's spare places count too). A statement '..UptoSaid' is the law's where the arguments, and the package variables that the reading takes, are together of bulk at most 1048576: NARROWER than '..Said'. Prove '..Said' where nothing that the law and all that it calls make is longer than what came in: it says more and counts as full. Else prove '..UptoSaid'. A law counts once. -/
mutual
def uptoBulk {H : Type} : DataW H → Nat
  | .lit (.string bytes) => bytes.length + 1
  | .lit _ => 1
  | .nil => 1
  | .ptr d => uptoBulk d + 1
  | .slice elems spare => uptoBulkAll elems + uptoBulkAll spare + 1
  | .agg parts => uptoBulkAll parts + 1
  | .iface _ d => uptoBulk d + 1
  | .map entries => uptoBulkEntries entries + 1
  | .held _ => 1
def uptoBulkAll {H : Type} : List (DataW H) → Nat
  | [] => 0
  | d :: r => uptoBulk d + uptoBulkAll r
def uptoBulkEntries {H : Type} : List (Lit × DataW H) → Nat
  | [] => 0
  | x :: r => uptoBulkEntry x + uptoBulkEntries r
def uptoBulkEntry {H : Type} : Lit × DataW H → Nat
  | (.string bytes, d) => bytes.length + uptoBulk d + 1
  | (_, d) => uptoBulk d + 1
 end
def uptoSmall : (H : Type) → List (DataW H) → Bool := fun _ ds => decide (uptoBulkAll ds ≤ 1048576)
def OpenSpec.upto (s : _root_.Go.ChangeSpec) : _root_.Go.OpenSpec := { _root_.Go.OpenSpec.ofChange s with cond := some uptoSmall }

/-- 'tenementlaw03.PmapFills', WHERE WHAT IT READS IS OF BULK AT MOST 1048576: true; the input reads as it did. -/
def pmapFillsUptoRow : OpenClaim := { program := "ytgpmaljekfbchaa", sum := "f13580d68ef06ea69fef8c421368052a1ccd61b83d6b4e1391184b75c55e81a0", func := "tenement/tenementlaw03.PmapFills", spec := "pmapFills", apart := false, narrowed := true }
def PmapFillsUptoSaid : Prop := pmapFillsUptoRow.holds Try.pinned (OpenSpec.upto pmapFillsSpec)

/-- 'tenementlaw03.PmapBack', WHERE WHAT IT READS IS OF BULK AT MOST 1048576: true; the input reads as it did. -/
def pmapBackUptoRow : OpenClaim := { program := "ytgpmaljekfbchaa", sum := "f13580d68ef06ea69fef8c421368052a1ccd61b83d6b4e1391184b75c55e81a0", func := "tenement/tenementlaw03.PmapBack", spec := "pmapBack", apart := false, narrowed := true }
def PmapBackUptoSaid : Prop := pmapBackUptoRow.holds Try.pinned (OpenSpec.upto pmapBackSpec)

/-- 'tenementlaw03.PmapPlays', WHERE WHAT IT READS IS OF BULK AT MOST 1048576: true; the input reads as it did. -/
def pmapPlaysUptoRow : OpenClaim := { program := "ytgpmaljekfbchaa", sum := "f13580d68ef06ea69fef8c421368052a1ccd61b83d6b4e1391184b75c55e81a0", func := "tenement/tenementlaw03.PmapPlays", spec := "pmapPlays", apart := false, narrowed := true }
def PmapPlaysUptoSaid : Prop := pmapPlaysUptoRow.holds Try.pinned (OpenSpec.upto pmapPlaysSpec)

/-- 'tenementlaw03.PmapZero', WHERE WHAT IT READS IS OF BULK AT MOST 1048576: true; the input reads as it did. -/
def pmapZeroUptoRow : OpenClaim := { program := "ytgpmaljekfbchaa", sum := "f13580d68ef06ea69fef8c421368052a1ccd61b83d6b4e1391184b75c55e81a0", func := "tenement/tenementlaw03.PmapZero", spec := "pmapZero", apart := false, narrowed := true }
def PmapZeroUptoSaid : Prop := pmapZeroUptoRow.holds Try.pinned (OpenSpec.upto pmapZeroSpec)

/-- 'tenementlaw03.PmapCopies', WHERE WHAT IT READS IS OF BULK AT MOST 1048576: true; the input reads as it did. -/
def pmapCopiesUptoRow : OpenClaim := { program := "ytgpmaljekfbchaa", sum := "f13580d68ef06ea69fef8c421368052a1ccd61b83d6b4e1391184b75c55e81a0", func := "tenement/tenementlaw03.PmapCopies", spec := "pmapCopies", apart := false, narrowed := true }
def PmapCopiesUptoSaid : Prop := pmapCopiesUptoRow.holds Try.pinned (OpenSpec.upto pmapCopiesSpec)

end Rows
end Go.Proofs.Ytgpmaljekfbchaa
