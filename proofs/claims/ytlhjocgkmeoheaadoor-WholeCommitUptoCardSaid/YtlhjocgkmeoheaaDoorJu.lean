/-
  Commit: the law's state when the transaction is closed.
-/
import Derived.Test.YtlhjocgkmeoheaaDoorJt
namespace Go.Proofs.YtlhjocgkmeoheaaDoor
open Go.RowKit Go.Tn Go.MapKept
open Go.Proofs

structure JU (w wr : World) (sb mt mo sb2 mt2 mo2 : Nat) (As At : Tree) (gs gt : Nat) : Prop where
  md : Tn.Mod [] w wr
  s : SH wr sb mt mo As gs none
  t : SH wr sb2 mt2 mo2 At gt none
  nb : sb ≠ sb2
  f3 : w.heap.size ≤ sb2

section
variable {w wr : World} {sb mt mo sb2 mt2 mo2 tb m2 : Nat} {As At Ax : Tree} {gs gt gx cnt : Nat}
theorem JU.mod0 {W : World} (h : JU w wr sb mt mo sb2 mt2 mo2 As At gs gt) (hm : Tn.Mod [] wr W) : JU w W sb mt mo sb2 mt2 mo2 As At gs gt :=
  ⟨h.md.andThen hm, h.s.mod0 hm, h.t.mod0 hm, h.nb, h.f3⟩
/-- A write on the second store. -/
theorem JU.writeT (h : JU w wr sb mt mo sb2 mt2 mo2 As At gs gt) (G : GT At) (hg : gt + 1 < 4611686018427387904) (name : ByteArray) {v : Value} {o : Option Int} (hv : NV wr v o) :
    Calls Tryd.prog 6 #[.pointer (some ⟨sb2, 0, none⟩), .int .i64 0, .int .i64 0, .string name, v] wr fun e w' => e = .returned (.int .i64 (errW At name)) ∧
      ∃ mt2', JU w w' sb mt mo sb2 mt2' mo2 As (resW At name o) gs (gt + if errW At name = 0 then 1 else 0) := by
  refine (write_f0 h.t G hg name hv).mono ?_
  rintro e w' ⟨rfl, ⟨mt2', ht, _⟩, hm⟩
  exact ⟨rfl, mt2', ⟨h.md.trans hm (by intro t ht; simp at ht; subst ht; exact .inr h.f3), h.s.modB h.t.blk h.nb hm, ht, h.nb, h.f3⟩⟩

/-- The transaction ends, and nothing comes of it. -/
theorem JT.endIdle (h : JT w wr sb mt mo sb2 mt2 mo2 tb m2 As At Ax gs gt gx cnt) (c : Bool) (hc : c = false ∨ cnt = 0) :
    Calls Tryd.prog 7 #[.pointer (some ⟨sb, 0, none⟩), .int .i64 0, .int .i64 1, .bool c] wr fun e w' => e = .returned (.int .i64 0) ∧ JU w w' sb mt mo sb2 mt2 mo2 As At gs gt :=
  (end_idle h.s h.x c hc).mono fun e w' ⟨h1, h2, hm⟩ => ⟨h1, h.md.trans hm (by intro t ht; simp at ht; subst ht; exact .inr h.f2), h2, h.t.modM h.s.mo h.n1 h.n2 hm, h.nb, h.f3⟩
theorem JT.endMet (h : JT w wr sb mt mo sb2 mt2 mo2 tb m2 As At Ax gs gt gx cnt) (hc : cnt ≠ 0) (hg : gx ≠ gs) :
    Calls Tryd.prog 7 #[.pointer (some ⟨sb, 0, none⟩), .int .i64 0, .int .i64 1, .bool true] wr fun e w' => e = .returned (.int .i64 101) ∧ JU w w' sb mt mo sb2 mt2 mo2 As At gs gt :=
  (end_met h.s h.x hc hg).mono fun e w' ⟨h1, h2, hm⟩ => ⟨h1, h.md.trans hm (by intro t ht; simp at ht; subst ht; exact .inr h.f2), h2, h.t.modM h.s.mo h.n1 h.n2 hm, h.nb, h.f3⟩
theorem JT.endGood (h : JT w wr sb mt mo sb2 mt2 mo2 tb m2 As At Ax gs gt gs cnt) (hc : cnt ≠ 0) (hg : gs + 1 < 4611686018427387904) :
    Calls Tryd.prog 7 #[.pointer (some ⟨sb, 0, none⟩), .int .i64 0, .int .i64 1, .bool true] wr fun e w' => e = .returned (.int .i64 0) ∧ JU w w' sb m2 mo sb2 mt2 mo2 Ax At (gs + 1) gt := by
  refine (end_good h.s h.x hc h.n3 hg).mono fun e w' ⟨h1, h2, hm⟩ => ⟨h1, h.md.trans hm ?_, h2, ?_, h.nb, h.f3⟩
  · intro t ht
    simp at ht
    rcases ht with rfl | rfl
    · exact .inr h.f2
    · exact .inr h.f1
  · refine h.t.mod hm ?_ ?_ ?_ ?_
    · simp
      exact ⟨h.t.blk.ne_map h.s.mo, h.nb.symm⟩
    · simp
      exact ⟨h.n1, (h.t.th.ne_blk h.s.blk).symm⟩
    · simp
      exact ⟨h.n2, (h.s.blk.ne_map h.t.mo).symm⟩
    · exact ((Cold.nil _).cons (cold_blk h.s.blk (by decide) (by decide))).cons (by obtain ⟨es, c, hb, _⟩ := h.s.mo; exact cold_map hb)
end
end Go.Proofs.YtlhjocgkmeoheaaDoor
