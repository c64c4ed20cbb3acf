/-
  Commit: the plain law.
-/
import Derived.Test.YtlhjocgkmeoheaaDoorJo
namespace Go.Proofs.YtlhjocgkmeoheaaDoor
open Go.RowKit Go.Tn Go.MapKept
open Go.Proofs

theorem miss_size {A : Tree} (G : GT A) : ∀ (f : Nat) (n : ByteArray), Val n.data.toList → (miss A f n).length + 1 ≤ n.size
  | 0, n, h => by have := val_size h; simpa [miss] using this
  | f + 1, n, hv => by
    unfold miss
    by_cases hn : n ∈ nms A
    · rw [if_pos hn]; have := val_size hv; simpa using this
    · rw [if_neg hn]
      obtain ⟨h1, h2⟩ := upB_val hv (Val.ne_root G hn)
      have := miss_size G f _ h1
      simp
      omega
/-- On the first tree a write fails by its name alone. -/
theorem errW_A0 (n : ByteArray) : errW A0 n = parseE n.data.toList := by
  by_cases hp : parseE n.data.toList = 0
  · rw [hp]
    refine errW_ok hp (.inr ?_)
    have h1 := miss_size GT0 (n.size + 1) n hp
    have h2 : n.size ≤ 256 := by have := Val.len hp; simpa using this
    unfold missing
    have h3 : A0.length = 1 := rfl
    omega
  · exact errW_bad hp

/-- Has a write of the first k come? -/
def came (A : Tree) (ns : List ByteArray) (o : Nat → Option Int) : Nat → Bool
  | 0 => false
  | k + 1 => came A ns o k || decide (errW (wAll A ns o k) (ns.getD k ByteArray.empty) = 0)
/-- How many have come. -/
def many (A : Tree) (ns : List ByteArray) (o : Nat → Option Int) : Nat → Nat
  | 0 => 0
  | k + 1 => many A ns o k + if errW (wAll A ns o k) (ns.getD k ByteArray.empty) = 0 then 1 else 0
theorem many_zero (A : Tree) (ns : List ByteArray) (o : Nat → Option Int) : ∀ k, (many A ns o k = 0 ↔ came A ns o k = false)
  | 0 => by simp [many, came]
  | k + 1 => by
    have := many_zero A ns o k
    unfold many came
    generalize errW (wAll A ns o k) (ns.getD k ByteArray.empty) = e
    by_cases h : e = 0
    · simp [h]
    · simp [h, this]
theorem many_le (A : Tree) (ns : List ByteArray) (o : Nat → Option Int) : ∀ k, many A ns o k ≤ k
  | 0 => Nat.le_refl _
  | k + 1 => by
    have := many_le A ns o k
    unfold many
    split <;> omega
theorem wAll_same {A : Tree} {ns : List ByteArray} {o : Nat → Option Int} : ∀ {k : Nat}, came A ns o k = false → wAll A ns o k = A
  | 0, _ => rfl
  | k + 1, h => by
    unfold came at h
    simp only [Bool.or_eq_false_iff, decide_eq_false_iff_not] at h
    unfold wAll resW
    rw [if_neg h.2]
    exact wAll_same h.1
theorem came_mono {A : Tree} {ns : List ByteArray} {o : Nat → Option Int} : ∀ {k j : Nat}, j ≤ k → came A ns o k = false → came A ns o j = false
  | 0, j, h, _ => by obtain rfl : j = 0 := (by omega); rfl
  | k + 1, j, h, hc => by
    by_cases e : j = k + 1
    · rw [e]; exact hc
    · unfold came at hc
      simp only [Bool.or_eq_false_iff] at hc
      exact came_mono (by omega) hc.1
/-- Names that all fail on the first tree fail on every one. -/
theorem fail_all {ns : List ByteArray} {o o' : Nat → Option Int} {B : Tree} {n : Nat} (h : came A0 ns o n = false) : ∀ k, k ≤ n → wAll B ns o' k = B
  | 0, _ => rfl
  | k + 1, hk => by
    unfold wAll resW
    rw [fail_all h k (by omega)]
    have h1 : came A0 ns o (k + 1) = false := came_mono hk h
    unfold came at h1
    simp only [Bool.or_eq_false_iff, decide_eq_false_iff_not] at h1
    rw [wAll_same h1.1, errW_A0] at h1
    rw [if_neg]
    rw [errW_bad h1.2]
    exact h1.2
end Go.Proofs.YtlhjocgkmeoheaaDoor
