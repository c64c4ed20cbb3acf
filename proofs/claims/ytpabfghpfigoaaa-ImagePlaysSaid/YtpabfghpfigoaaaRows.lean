/-
  No cell of these rows narrows 'for every input' (looked for: loops, veiled, ifaces, maps, wideKeys, modest, calm, conditions, laid).
  DERIVED. THE GIVEN ROWS OF THIS SEAT. 5 by the template 'for every input the law returns true; each argument reads behind the call as it read before'; 0 by the template 'total and deterministic' (their statements: YtpabfghpfigoaaaTotals.lean).
  GIVEN WITH THE SEED: the statements are not yours to turn. If you find one false, say at which input.
  Laid BY PROGRAM, IN A SANDBOX (cutbox-rows.mjs): the forced cells as the released guide's own fill.sh prints them over the translation e8cdcbf20d495b8e… (all of the seat's roots in one cut). By AI agents, Wed Nov 11 2026. No macro, syntax, notation, axiom, sorry.
-/
import Derived.Test.YtpabfghpfigoaaaChecked
import GoSem.Claim
import GoSem.ClaimJoined
import GoSem.ClaimMapViews
import Derived.JoinedTies
import Derived.KernelRfl
namespace Go.Proofs.Ytpabfghpfigoaaa
/- THE CELL 'sum', in the pinned program and in every row, IS THE sha256 OF THE DUMP (.gsa) THAT YtpabfghpfigoaaaProg.lean LOADS. Nothing in Lean hashes anything: it is a label: what it is worth is what the hold of that sum in a sandbox is worth. -/
noncomputable def Try.pinned : Pinned := { name := "ytpabfghpfigoaaa", sum := "e8cdcbf20d495b8e1c2bbb1a1e0b34d952847dc2af3d01d86f3a5f528f2bbdfa", checked := Try.checked }
namespace Rows
def none {H : Type} : Left H := { results := [], args := [] }

/-- 'tenementlaw12.ImageNeeds': WHATEVER THE INPUT: true; the input reads as it did. -/
def imageNeedsSpec : ChangeSpec := { name := "imageNeeds", fn := fun _ => fun
  | [d1, d2, d3, d4, d5] => { results := [.lit (.bool true)], args := [d1, d2, d3, d4, d5] }
  | _ => none }
def imageNeedsRow : OpenClaim := { program := "ytpabfghpfigoaaa", sum := "e8cdcbf20d495b8e1c2bbb1a1e0b34d952847dc2af3d01d86f3a5f528f2bbdfa", func := "tenement/tenementlaw12.ImageNeeds", spec := "imageNeeds", unfollowed := true, recurses := true, apart := false }
def ImageNeedsSaid : Prop := imageNeedsRow.holds Try.pinned (OpenSpec.ofChange imageNeedsSpec)

/-- ITS FALSE NEIGHBOUR: 'it returns false'. Refute it at one input. -/
def imageNeedsWrong : ChangeSpec := { name := "imageNeeds", fn := fun _ => fun
  | [d1, d2, d3, d4, d5] => { results := [.lit (.bool false)], args := [d1, d2, d3, d4, d5] }
  | _ => none }
def ImageNeedsWrongFalsely : Prop := imageNeedsRow.holds Try.pinned (OpenSpec.ofChange imageNeedsWrong)

/-- 'tenementlaw12.ImageZero': WHATEVER THE INPUT: true; the input reads as it did. -/
def imageZeroSpec : ChangeSpec := { name := "imageZero", fn := fun _ => fun
  | [d1, d2] => { results := [.lit (.bool true)], args := [d1, d2] }
  | _ => none }
def imageZeroRow : OpenClaim := { program := "ytpabfghpfigoaaa", sum := "e8cdcbf20d495b8e1c2bbb1a1e0b34d952847dc2af3d01d86f3a5f528f2bbdfa", func := "tenement/tenementlaw12.ImageZero", spec := "imageZero", unfollowed := true, recurses := true, apart := false }
def ImageZeroSaid : Prop := imageZeroRow.holds Try.pinned (OpenSpec.ofChange imageZeroSpec)

/-- ITS FALSE NEIGHBOUR: 'it returns false'. Refute it at one input. -/
def imageZeroWrong : ChangeSpec := { name := "imageZero", fn := fun _ => fun
  | [d1, d2] => { results := [.lit (.bool false)], args := [d1, d2] }
  | _ => none }
def ImageZeroWrongFalsely : Prop := imageZeroRow.holds Try.pinned (OpenSpec.ofChange imageZeroWrong)

/-- 'tenementlaw12.ImageBase': WHATEVER THE INPUT: true; the input reads as it did. -/
def imageBaseSpec : ChangeSpec := { name := "imageBase", fn := fun _ => fun
  | [d1, d2, d3] => { results := [.lit (.bool true)], args := [d1, d2, d3] }
  | _ => none }
def imageBaseRow : OpenClaim := { program := "ytpabfghpfigoaaa", sum := "e8cdcbf20d495b8e1c2bbb1a1e0b34d952847dc2af3d01d86f3a5f528f2bbdfa", func := "tenement/tenementlaw12.ImageBase", spec := "imageBase", unfollowed := true, recurses := true, apart := false }
def ImageBaseSaid : Prop := imageBaseRow.holds Try.pinned (OpenSpec.ofChange imageBaseSpec)

/-- ITS FALSE NEIGHBOUR: 'it returns false'. Refute it at one input. -/
def imageBaseWrong : ChangeSpec := { name := "imageBase", fn := fun _ => fun
  | [d1, d2, d3] => { results := [.lit (.bool false)], args := [d1, d2, d3] }
  | _ => none }
def ImageBaseWrongFalsely : Prop := imageBaseRow.holds Try.pinned (OpenSpec.ofChange imageBaseWrong)

/-- 'tenementlaw12.ImageTrims': WHATEVER THE INPUT: true; the input reads as it did. -/
def imageTrimsSpec : ChangeSpec := { name := "imageTrims", fn := fun _ => fun
  | [d1, d2, d3, d4] => { results := [.lit (.bool true)], args := [d1, d2, d3, d4] }
  | _ => none }
def imageTrimsRow : OpenClaim := { program := "ytpabfghpfigoaaa", sum := "e8cdcbf20d495b8e1c2bbb1a1e0b34d952847dc2af3d01d86f3a5f528f2bbdfa", func := "tenement/tenementlaw12.ImageTrims", spec := "imageTrims", unfollowed := true, recurses := true, apart := false }
def ImageTrimsSaid : Prop := imageTrimsRow.holds Try.pinned (OpenSpec.ofChange imageTrimsSpec)

/-- ITS FALSE NEIGHBOUR: 'it returns false'. Refute it at one input. -/
def imageTrimsWrong : ChangeSpec := { name := "imageTrims", fn := fun _ => fun
  | [d1, d2, d3, d4] => { results := [.lit (.bool false)], args := [d1, d2, d3, d4] }
  | _ => none }
def ImageTrimsWrongFalsely : Prop := imageTrimsRow.holds Try.pinned (OpenSpec.ofChange imageTrimsWrong)

/-- 'tenementlaw12.ImagePlays': WHATEVER THE INPUT: true; the input reads as it did. -/
def imagePlaysSpec : ChangeSpec := { name := "imagePlays", fn := fun _ => fun
  | [d1, d2, d3] => { results := [.lit (.bool true)], args := [d1, d2, d3] }
  | _ => none }
def imagePlaysRow : OpenClaim := { program := "ytpabfghpfigoaaa", sum := "e8cdcbf20d495b8e1c2bbb1a1e0b34d952847dc2af3d01d86f3a5f528f2bbdfa", func := "tenement/tenementlaw12.ImagePlays", spec := "imagePlays", unfollowed := true, recurses := true, apart := false }
def ImagePlaysSaid : Prop := imagePlaysRow.holds Try.pinned (OpenSpec.ofChange imagePlaysSpec)

/-- ITS FALSE NEIGHBOUR: 'it returns false'. Refute it at one input. -/
def imagePlaysWrong : ChangeSpec := { name := "imagePlays", fn := fun _ => fun
  | [d1, d2, d3] => { results := [.lit (.bool false)], args := [d1, d2, d3] }
  | _ => none }
def ImagePlaysWrongFalsely : Prop := imagePlaysRow.holds Try.pinned (OpenSpec.ofChange imagePlaysWrong)

/- THE SECOND FORM. 'bulk': how many values and letters a reading holds, each counted each time it is reached (what is shared counts as often as it is met; a slice's spare places count too). A statement '..UptoSaid' is the law's where the arguments, and the package variables that the reading takes, are together of bulk at most 1048576: NARROWER than '..Said'. Prove '..Said' where nothing that the law and all that it calls make is longer than what came in: it says more and counts as full. Else prove '..UptoSaid'. A law counts once. -/
mutual
def uptoBulk {H : Type} : DataW H → Nat
  | .lit (.string bytes) => bytes.length + 1
  | .lit _ => 1
  | .nil => 1
  | .ptr d => uptoBulk d + 1
  | .slice elems spare => uptoBulkAll elems + uptoBulkAll spare + 1
  | .agg parts => uptoBulkAll parts + 1
  | .iface _ d => uptoBulk d + 1
  | .map entries => uptoBulkEntries entries + 1
  | .held _ => 1
def uptoBulkAll {H : Type} : List (DataW H) → Nat
  | [] => 0
  | d :: r => uptoBulk d + uptoBulkAll r
def uptoBulkEntries {H : Type} : List (Lit × DataW H) → Nat
  | [] => 0
  | x :: r => uptoBulkEntry x + uptoBulkEntries r
def uptoBulkEntry {H : Type} : Lit × DataW H → Nat
  | (.string bytes, d) => bytes.length + uptoBulk d + 1
  | (_, d) => uptoBulk d + 1
 end
def uptoSmall : (H : Type) → List (DataW H) → Bool := fun _ ds => decide (uptoBulkAll ds ≤ 1048576)
def OpenSpec.upto (s : _root_.Go.ChangeSpec) : _root_.Go.OpenSpec := { _root_.Go.OpenSpec.ofChange s with cond := some uptoSmall }

/-- 'tenementlaw12.ImageNeeds', WHERE WHAT IT READS IS OF BULK AT MOST 1048576: true; the input reads as it did. -/
def imageNeedsUptoRow : OpenClaim := { program := "ytpabfghpfigoaaa", sum := "e8cdcbf20d495b8e1c2bbb1a1e0b34d952847dc2af3d01d86f3a5f528f2bbdfa", func := "tenement/tenementlaw12.ImageNeeds", spec := "imageNeeds", unfollowed := true, recurses := true, apart := false, narrowed := true }
def ImageNeedsUptoSaid : Prop := imageNeedsUptoRow.holds Try.pinned (OpenSpec.upto imageNeedsSpec)

/-- 'tenementlaw12.ImageZero', WHERE WHAT IT READS IS OF BULK AT MOST 1048576: true; the input reads as it did. -/
def imageZeroUptoRow : OpenClaim := { program := "ytpabfghpfigoaaa", sum := "e8cdcbf20d495b8e1c2bbb1a1e0b34d952847dc2af3d01d86f3a5f528f2bbdfa", func := "tenement/tenementlaw12.ImageZero", spec := "imageZero", unfollowed := true, recurses := true, apart := false, narrowed := true }
def ImageZeroUptoSaid : Prop := imageZeroUptoRow.holds Try.pinned (OpenSpec.upto imageZeroSpec)

/-- 'tenementlaw12.ImageBase', WHERE WHAT IT READS IS OF BULK AT MOST 1048576: true; the input reads as it did. -/
def imageBaseUptoRow : OpenClaim := { program := "ytpabfghpfigoaaa", sum := "e8cdcbf20d495b8e1c2bbb1a1e0b34d952847dc2af3d01d86f3a5f528f2bbdfa", func := "tenement/tenementlaw12.ImageBase", spec := "imageBase", unfollowed := true, recurses := true, apart := false, narrowed := true }
def ImageBaseUptoSaid : Prop := imageBaseUptoRow.holds Try.pinned (OpenSpec.upto imageBaseSpec)

/-- 'tenementlaw12.ImageTrims', WHERE WHAT IT READS IS OF BULK AT MOST 1048576: true; the input reads as it did. -/
def imageTrimsUptoRow : OpenClaim := { program := "ytpabfghpfigoaaa", sum := "e8cdcbf20d495b8e1c2bbb1a1e0b34d952847dc2af3d01d86f3a5f528f2bbdfa", func := "tenement/tenementlaw12.ImageTrims", spec := "imageTrims", unfollowed := true, recurses := true, apart := false, narrowed := true }
def ImageTrimsUptoSaid : Prop := imageTrimsUptoRow.holds Try.pinned (OpenSpec.upto imageTrimsSpec)

/-- 'tenementlaw12.ImagePlays', WHERE WHAT IT READS IS OF BULK AT MOST 1048576: true; the input reads as it did. -/
def imagePlaysUptoRow : OpenClaim := { program := "ytpabfghpfigoaaa", sum := "e8cdcbf20d495b8e1c2bbb1a1e0b34d952847dc2af3d01d86f3a5f528f2bbdfa", func := "tenement/tenementlaw12.ImagePlays", spec := "imagePlays", unfollowed := true, recurses := true, apart := false, narrowed := true }
def ImagePlaysUptoSaid : Prop := imagePlaysUptoRow.holds Try.pinned (OpenSpec.upto imagePlaysSpec)

end Rows
end Go.Proofs.Ytpabfghpfigoaaa
