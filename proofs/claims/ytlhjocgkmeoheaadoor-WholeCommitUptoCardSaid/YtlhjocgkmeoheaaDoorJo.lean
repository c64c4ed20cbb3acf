/-
  Commit: two stores side by side.
-/
import Derived.Test.YtlhjocgkmeoheaaDoorNo
namespace Go.Proofs.YtlhjocgkmeoheaaDoor
open Go.RowKit Go.Tn Go.MapKept
open Go.Proofs

section
variable {B : Nat} {w w' : World} {sb mt mo g tb : Nat} {A : Tree} {op : Option Nat}

theorem IMap.not_blk {b : Nat} {f : Int → Option Value} {s : Nat} {t : TypeId} {cs : Array Value} (h : IMap w b f) (hb : Blk w s t cs) : s ≠ b := hb.ne_map h

/-- Turned blocks of no concern: the transaction's, rows of changes, new ones. -/
theorem SH.modS {S : List Nat} {cs : Array Value} (h : SH w sb mt mo A g op) (hb : Blk w tb 52 cs) (hS : ∀ s ∈ S, w.heap.size ≤ s ∨ ∃ cs, Blk w s 69 cs) (hm : Tn.Mod (tb :: S) w w') : SH w' sb mt mo A g op := by
  refine h.mod hm ?_ ?_ ?_ ?_
  · intro hs
    rcases List.mem_cons.1 hs with e | hs
    · exact h.blk.ne_ hb (by decide) e
    · rcases hS sb hs with h1 | ⟨cs', h1⟩
      · have := h.blk.lt; omega
      · exact h.blk.ne_ h1 (by decide) rfl
  · intro hs
    rcases List.mem_cons.1 hs with e | hs
    · exact h.th.ne_blk hb e.symm
    · rcases hS mt hs with h1 | ⟨cs', h1⟩
      · have := h.th.is.lt; omega
      · exact h.th.ne_blk h1 rfl
  · intro hs
    rcases List.mem_cons.1 hs with e | hs
    · exact hb.ne_map h.mo e.symm
    · rcases hS mo hs with h1 | ⟨cs', h1⟩
      · have := h.mo.lt; omega
      · exact h1.ne_map h.mo rfl
  · intro s hs
    rcases List.mem_cons.1 hs with e | hs
    · subst e; exact cold_blk hb (by decide) (by decide)
    · rcases hS s hs with h1 | ⟨cs', h1⟩
      · exact cold_new h1
      · exact cold_blk h1 (by decide) (by decide)
/-- Another store's block is turned. -/
theorem SH.modB {sb' : Nat} {cs : Array Value} (h : SH w sb mt mo A g op) (hb : Blk w sb' 47 cs) (hne : sb ≠ sb') (hm : Tn.Mod [sb'] w w') : SH w' sb mt mo A g op :=
  h.mod hm (by simpa using hne) (by simpa using (h.th.ne_blk hb).symm) (by simpa using (hb.ne_map h.mo).symm) ((Cold.nil _).cons (cold_blk hb (by decide) (by decide)))
/-- Another store's map of transactions is turned. -/
theorem SH.modM {mo' : Nat} {f : Int → Option Value} (h : SH w sb mt mo A g op) (hb : IMap w mo' f) (h1 : mt ≠ mo') (h2 : mo ≠ mo') (hm : Tn.Mod [mo'] w w') : SH w' sb mt mo A g op :=
  h.mod hm (by simpa using h.blk.ne_map hb) (by simpa using h1) (by simpa using h2) ((Cold.nil _).cons (by obtain ⟨es, c, hb, _⟩ := hb; exact cold_map hb))
theorem XH.modB {sb' m2 cnt g2 : Nat} {cs : Array Value} (h : XH B w tb m2 A g2 cnt) (hb : Blk w sb' 47 cs) (hm : Tn.Mod [sb'] w w') : XH B w' tb m2 A g2 cnt := by
  obtain ⟨v, hv, _⟩ := h.blk
  refine h.mod hm (by simpa using hv.ne_ hb (by decide)) (by simpa using (h.th.ne_blk hb).symm) ((Cold.nil _).cons (cold_blk hb (by decide) (by decide))) ?_
  intro s hs cs' h'
  simp at hs
  subst hs
  exact h'.ne_ hb (by decide) rfl
/-- A row of strings that is given: its block is of no kind that a store turns. -/
theorem RowS.modS {S : List Nat} {cs cq : Array Value} {q : Nat} {l : List ByteArray} (h : RowS w q l) (hq : Blk w q 9 cq) (hb : Blk w tb 52 cs) (hS : ∀ s ∈ S, w.heap.size ≤ s ∨ ∃ cs, Blk w s 69 cs) (hm : Tn.Mod (tb :: S) w w') : RowS w' q l ∧ Blk w' q 9 cq := by
  have hn : q ∉ tb :: S := by
    intro hs
    rcases List.mem_cons.1 hs with e | hs
    · exact hq.ne_ hb (by decide) e
    · rcases hS q hs with h1 | ⟨cs', h1⟩
      · have := hq.lt; omega
      · exact hq.ne_ h1 (by decide) rfl
  exact ⟨h.mod hm hn, hq.mod hm hn⟩
end

/-! ### the plain law -/
/-- All writes of a list of names, the i-th with the byte i. -/
def wAll (A : Tree) (ns : List ByteArray) (o : Nat → Option Int) : Nat → Tree
  | 0 => A
  | k + 1 => resW (wAll A ns o k) (ns.getD k ByteArray.empty) (o k)
theorem GT.wAll {A : Tree} (G : GT A) (ns : List ByteArray) (o : Nat → Option Int) : ∀ k, GT (wAll A ns o k)
  | 0 => G
  | k + 1 => (G.wAll ns o k).resW _ _
/-- A write on the first tree fails by its name alone. -/
theorem miss_len {A : Tree} (G : GT A) : ∀ (f : Nat) (n : ByteArray), Val n.data.toList → (miss A f n).length + 1 ≤ n.size + 1
  | 0, n, _ => by simp [miss]
  | f + 1, n, hv => by
    unfold miss
    by_cases hn : n ∈ nms A
    · rw [if_pos hn]; simp
    · rw [if_neg hn]
      obtain ⟨h1, h2⟩ := upB_val hv (Val.ne_root G hn)
      have := miss_len G f _ h1
      simp
      omega
end Go.Proofs.YtlhjocgkmeoheaaDoor
