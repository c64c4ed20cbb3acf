/-
  No cell of these rows narrows 'for every input' (looked for: loops, veiled, ifaces, maps, wideKeys, modest, calm, conditions, laid).
  DERIVED. THE GIVEN ROWS OF THIS SEAT. 6 by the template 'for every input the law returns true; each argument reads behind the call as it read before'; 0 by the template 'total and deterministic' (their statements: YtkdhkloabbcipaaTotals.lean).
  GIVEN WITH THE SEED: the statements are not yours to turn. If you find one false, say at which input.
  Laid BY PROGRAM, IN A SANDBOX (cutbox-rows.mjs): the forced cells as the released guide's own fill.sh prints them over the translation 43b571609f16c17e… (all of the seat's roots in one cut). By AI agents, Wed Nov 11 2026. No macro, syntax, notation, axiom, sorry.
-/
import Derived.Test.YtkdhkloabbcipaaChecked
import GoSem.Claim
import GoSem.ClaimJoined
import GoSem.ClaimMapViews
import Derived.JoinedTies
import Derived.KernelRfl
namespace Go.Proofs.Ytkdhkloabbcipaa
/- THE CELL 'sum', in the pinned program and in every row, IS THE sha256 OF THE DUMP (.gsa) THAT YtkdhkloabbcipaaProg.lean LOADS. Nothing in Lean hashes anything: it is a label: what it is worth is what the hold of that sum in a sandbox is worth. -/
noncomputable def Try.pinned : Pinned := { name := "ytkdhkloabbcipaa", sum := "43b571609f16c17e23293e3f750b78547254b46b0d0030f9c799d4873940c400", checked := Try.checked }
namespace Rows
def none {H : Type} : Left H := { results := [], args := [] }

/-- 'tenementlaw14.BridgeCredits': WHATEVER THE INPUT: true; the input reads as it did. -/
def bridgeCreditsSpec : ChangeSpec := { name := "bridgeCredits", fn := fun _ => fun
  | [d1, d2, d3, d4] => { results := [.lit (.bool true)], args := [d1, d2, d3, d4] }
  | _ => none }
def bridgeCreditsRow : OpenClaim := { program := "ytkdhkloabbcipaa", sum := "43b571609f16c17e23293e3f750b78547254b46b0d0030f9c799d4873940c400", func := "tenement/tenementlaw14.BridgeCredits", spec := "bridgeCredits", apart := false }
def BridgeCreditsSaid : Prop := bridgeCreditsRow.holds Try.pinned (OpenSpec.ofChange bridgeCreditsSpec)

/-- ITS FALSE NEIGHBOUR: 'it returns false'. Refute it at one input. -/
def bridgeCreditsWrong : ChangeSpec := { name := "bridgeCredits", fn := fun _ => fun
  | [d1, d2, d3, d4] => { results := [.lit (.bool false)], args := [d1, d2, d3, d4] }
  | _ => none }
def BridgeCreditsWrongFalsely : Prop := bridgeCreditsRow.holds Try.pinned (OpenSpec.ofChange bridgeCreditsWrong)

/-- 'tenementlaw14.BridgeLearns': WHATEVER THE INPUT: true; the input reads as it did. -/
def bridgeLearnsSpec : ChangeSpec := { name := "bridgeLearns", fn := fun _ => fun
  | [d1, d2, d3, d4, d5] => { results := [.lit (.bool true)], args := [d1, d2, d3, d4, d5] }
  | _ => none }
def bridgeLearnsRow : OpenClaim := { program := "ytkdhkloabbcipaa", sum := "43b571609f16c17e23293e3f750b78547254b46b0d0030f9c799d4873940c400", func := "tenement/tenementlaw14.BridgeLearns", spec := "bridgeLearns", apart := false }
def BridgeLearnsSaid : Prop := bridgeLearnsRow.holds Try.pinned (OpenSpec.ofChange bridgeLearnsSpec)

/-- ITS FALSE NEIGHBOUR: 'it returns false'. Refute it at one input. -/
def bridgeLearnsWrong : ChangeSpec := { name := "bridgeLearns", fn := fun _ => fun
  | [d1, d2, d3, d4, d5] => { results := [.lit (.bool false)], args := [d1, d2, d3, d4, d5] }
  | _ => none }
def BridgeLearnsWrongFalsely : Prop := bridgeLearnsRow.holds Try.pinned (OpenSpec.ofChange bridgeLearnsWrong)

/-- 'tenementlaw14.BridgeOnce': WHATEVER THE INPUT: true; the input reads as it did. -/
def bridgeOnceSpec : ChangeSpec := { name := "bridgeOnce", fn := fun _ => fun
  | [d1, d2, d3] => { results := [.lit (.bool true)], args := [d1, d2, d3] }
  | _ => none }
def bridgeOnceRow : OpenClaim := { program := "ytkdhkloabbcipaa", sum := "43b571609f16c17e23293e3f750b78547254b46b0d0030f9c799d4873940c400", func := "tenement/tenementlaw14.BridgeOnce", spec := "bridgeOnce", apart := false }
def BridgeOnceSaid : Prop := bridgeOnceRow.holds Try.pinned (OpenSpec.ofChange bridgeOnceSpec)

/-- ITS FALSE NEIGHBOUR: 'it returns false'. Refute it at one input. -/
def bridgeOnceWrong : ChangeSpec := { name := "bridgeOnce", fn := fun _ => fun
  | [d1, d2, d3] => { results := [.lit (.bool false)], args := [d1, d2, d3] }
  | _ => none }
def BridgeOnceWrongFalsely : Prop := bridgeOnceRow.holds Try.pinned (OpenSpec.ofChange bridgeOnceWrong)

/-- 'tenementlaw14.BridgeZero': WHATEVER THE INPUT: true; the input reads as it did. -/
def bridgeZeroSpec : ChangeSpec := { name := "bridgeZero", fn := fun _ => fun
  | [d1, d2] => { results := [.lit (.bool true)], args := [d1, d2] }
  | _ => none }
def bridgeZeroRow : OpenClaim := { program := "ytkdhkloabbcipaa", sum := "43b571609f16c17e23293e3f750b78547254b46b0d0030f9c799d4873940c400", func := "tenement/tenementlaw14.BridgeZero", spec := "bridgeZero", apart := false }
def BridgeZeroSaid : Prop := bridgeZeroRow.holds Try.pinned (OpenSpec.ofChange bridgeZeroSpec)

/-- ITS FALSE NEIGHBOUR: 'it returns false'. Refute it at one input. -/
def bridgeZeroWrong : ChangeSpec := { name := "bridgeZero", fn := fun _ => fun
  | [d1, d2] => { results := [.lit (.bool false)], args := [d1, d2] }
  | _ => none }
def BridgeZeroWrongFalsely : Prop := bridgeZeroRow.holds Try.pinned (OpenSpec.ofChange bridgeZeroWrong)

/-- 'tenementlaw14.BridgePlays': WHATEVER THE INPUT: true; the input reads as it did. -/
def bridgePlaysSpec : ChangeSpec := { name := "bridgePlays", fn := fun _ => fun
  | [d1, d2] => { results := [.lit (.bool true)], args := [d1, d2] }
  | _ => none }
def bridgePlaysRow : OpenClaim := { program := "ytkdhkloabbcipaa", sum := "43b571609f16c17e23293e3f750b78547254b46b0d0030f9c799d4873940c400", func := "tenement/tenementlaw14.BridgePlays", spec := "bridgePlays", apart := false }
def BridgePlaysSaid : Prop := bridgePlaysRow.holds Try.pinned (OpenSpec.ofChange bridgePlaysSpec)

/-- ITS FALSE NEIGHBOUR: 'it returns false'. Refute it at one input. -/
def bridgePlaysWrong : ChangeSpec := { name := "bridgePlays", fn := fun _ => fun
  | [d1, d2] => { results := [.lit (.bool false)], args := [d1, d2] }
  | _ => none }
def BridgePlaysWrongFalsely : Prop := bridgePlaysRow.holds Try.pinned (OpenSpec.ofChange bridgePlaysWrong)

/-- 'tenementlaw14.BridgeCounts': WHATEVER THE INPUT: true; the input reads as it did. -/
def bridgeCountsSpec : ChangeSpec := { name := "bridgeCounts", fn := fun _ => fun
  | [d1, d2] => { results := [.lit (.bool true)], args := [d1, d2] }
  | _ => none }
def bridgeCountsRow : OpenClaim := { program := "ytkdhkloabbcipaa", sum := "43b571609f16c17e23293e3f750b78547254b46b0d0030f9c799d4873940c400", func := "tenement/tenementlaw14.BridgeCounts", spec := "bridgeCounts", apart := false }
def BridgeCountsSaid : Prop := bridgeCountsRow.holds Try.pinned (OpenSpec.ofChange bridgeCountsSpec)

/-- ITS FALSE NEIGHBOUR: 'it returns false'. Refute it at one input. -/
def bridgeCountsWrong : ChangeSpec := { name := "bridgeCounts", fn := fun _ => fun
  | [d1, d2] => { results := [.lit (.bool false)], args := [d1, d2] }
  | _ => none }
def BridgeCountsWrongFalsely : Prop := bridgeCountsRow.holds Try.pinned (OpenSpec.ofChange bridgeCountsWrong)

/- THE SECOND FORM. 'bulk': how many values and letters a reading holds, each counted each time it is reached (what is shared counts as often as it is met; a slice's spare places count too). A statement '..UptoSaid' is the law's where the arguments, and the package variables that the reading takes, are together of bulk at most 1048576: NARROWER than '..Said'. Prove '..Said' where nothing that the law and all that it calls make is longer than what came in: it says more and counts as full. Else prove '..UptoSaid'. A law counts once. -/
mutual
def uptoBulk {H : Type} : DataW H → Nat
  | .lit (.string bytes) => bytes.length + 1
  | .lit _ => 1
  | .nil => 1
  | .ptr d => uptoBulk d + 1
  | .slice elems spare => uptoBulkAll elems + uptoBulkAll spare + 1
  | .agg parts => uptoBulkAll parts + 1
  | .iface _ d => uptoBulk d + 1
  | .map entries => uptoBulkEntries entries + 1
  | .held _ => 1
def uptoBulkAll {H : Type} : List (DataW H) → Nat
  | [] => 0
  | d :: r => uptoBulk d + uptoBulkAll r
def uptoBulkEntries {H : Type} : List (Lit × DataW H) → Nat
  | [] => 0
  | x :: r => uptoBulkEntry x + uptoBulkEntries r
def uptoBulkEntry {H : Type} : Lit × DataW H → Nat
  | (.string bytes, d) => bytes.length + uptoBulk d + 1
  | (_, d) => uptoBulk d + 1
 end
def uptoSmall : (H : Type) → List (DataW H) → Bool := fun _ ds => decide (uptoBulkAll ds ≤ 1048576)
def OpenSpec.upto (s : _root_.Go.ChangeSpec) : _root_.Go.OpenSpec := { _root_.Go.OpenSpec.ofChange s with cond := some uptoSmall }

/-- 'tenementlaw14.BridgeCredits', WHERE WHAT IT READS IS OF BULK AT MOST 1048576: true; the input reads as it did. -/
def bridgeCreditsUptoRow : OpenClaim := { program := "ytkdhkloabbcipaa", sum := "43b571609f16c17e23293e3f750b78547254b46b0d0030f9c799d4873940c400", func := "tenement/tenementlaw14.BridgeCredits", spec := "bridgeCredits", apart := false, narrowed := true }
def BridgeCreditsUptoSaid : Prop := bridgeCreditsUptoRow.holds Try.pinned (OpenSpec.upto bridgeCreditsSpec)

/-- 'tenementlaw14.BridgeLearns', WHERE WHAT IT READS IS OF BULK AT MOST 1048576: true; the input reads as it did. -/
def bridgeLearnsUptoRow : OpenClaim := { program := "ytkdhkloabbcipaa", sum := "43b571609f16c17e23293e3f750b78547254b46b0d0030f9c799d4873940c400", func := "tenement/tenementlaw14.BridgeLearns", spec := "bridgeLearns", apart := false, narrowed := true }
def BridgeLearnsUptoSaid : Prop := bridgeLearnsUptoRow.holds Try.pinned (OpenSpec.upto bridgeLearnsSpec)

/-- 'tenementlaw14.BridgeOnce', WHERE WHAT IT READS IS OF BULK AT MOST 1048576: true; the input reads as it did. -/
def bridgeOnceUptoRow : OpenClaim := { program := "ytkdhkloabbcipaa", sum := "43b571609f16c17e23293e3f750b78547254b46b0d0030f9c799d4873940c400", func := "tenement/tenementlaw14.BridgeOnce", spec := "bridgeOnce", apart := false, narrowed := true }
def BridgeOnceUptoSaid : Prop := bridgeOnceUptoRow.holds Try.pinned (OpenSpec.upto bridgeOnceSpec)

/-- 'tenementlaw14.BridgeZero', WHERE WHAT IT READS IS OF BULK AT MOST 1048576: true; the input reads as it did. -/
def bridgeZeroUptoRow : OpenClaim := { program := "ytkdhkloabbcipaa", sum := "43b571609f16c17e23293e3f750b78547254b46b0d0030f9c799d4873940c400", func := "tenement/tenementlaw14.BridgeZero", spec := "bridgeZero", apart := false, narrowed := true }
def BridgeZeroUptoSaid : Prop := bridgeZeroUptoRow.holds Try.pinned (OpenSpec.upto bridgeZeroSpec)

/-- 'tenementlaw14.BridgePlays', WHERE WHAT IT READS IS OF BULK AT MOST 1048576: true; the input reads as it did. -/
def bridgePlaysUptoRow : OpenClaim := { program := "ytkdhkloabbcipaa", sum := "43b571609f16c17e23293e3f750b78547254b46b0d0030f9c799d4873940c400", func := "tenement/tenementlaw14.BridgePlays", spec := "bridgePlays", apart := false, narrowed := true }
def BridgePlaysUptoSaid : Prop := bridgePlaysUptoRow.holds Try.pinned (OpenSpec.upto bridgePlaysSpec)

/-- 'tenementlaw14.BridgeCounts', WHERE WHAT IT READS IS OF BULK AT MOST 1048576: true; the input reads as it did. -/
def bridgeCountsUptoRow : OpenClaim := { program := "ytkdhkloabbcipaa", sum := "43b571609f16c17e23293e3f750b78547254b46b0d0030f9c799d4873940c400", func := "tenement/tenementlaw14.BridgeCounts", spec := "bridgeCounts", apart := false, narrowed := true }
def BridgeCountsUptoSaid : Prop := bridgeCountsUptoRow.holds Try.pinned (OpenSpec.upto bridgeCountsSpec)

end Rows
end Go.Proofs.Ytkdhkloabbcipaa
