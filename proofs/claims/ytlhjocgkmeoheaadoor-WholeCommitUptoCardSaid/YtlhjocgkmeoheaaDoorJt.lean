/-
  Commit: the law's state while the transaction is open.
-/
import Derived.Test.YtlhjocgkmeoheaaDoorPw
namespace Go.Proofs.YtlhjocgkmeoheaaDoor
open Go.RowKit Go.Tn Go.MapKept
open Go.Proofs

/-- Strings that are given. -/
def Giv (w : World) (P : Option Addr) (ns : List ByteArray) : Prop := ∀ i, i < ns.length → ∃ b off, P = some ⟨b, off, none⟩ ∧ w.cell? ⟨b, off + i, none⟩ = some (.string (ns.getD i ByteArray.empty))
theorem Giv.mod0 {w w' : World} {P : Option Addr} {ns : List ByteArray} (h : Giv w P ns) (hm : Tn.Mod [] w w') : Giv w' P ns := fun i hi => by
  obtain ⟨b, off, h1, h2⟩ := h i hi
  exact ⟨b, off, h1, (hm.cell (p := ⟨b, off + i, none⟩) (cell_lt h2) (by simp)).trans h2⟩

structure JT (w wr : World) (sb mt mo sb2 mt2 mo2 tb m2 : Nat) (As At Ax : Tree) (gs gt gx cnt : Nat) : Prop where
  md : Tn.Mod [] w wr
  s : SH wr sb mt mo As gs (some tb)
  t : SH wr sb2 mt2 mo2 At gt none
  x : XH w.heap.size wr tb m2 Ax gx cnt
  nb : sb ≠ sb2
  n1 : mt2 ≠ mo
  n2 : mo2 ≠ mo
  n3 : m2 ≠ mo
  f1 : w.heap.size ≤ sb
  f2 : w.heap.size ≤ mo
  f3 : w.heap.size ≤ sb2
  f4 : w.heap.size ≤ tb

section
variable {w wr : World} {sb mt mo sb2 mt2 mo2 tb m2 : Nat} {As At Ax : Tree} {gs gt gx cnt : Nat}
theorem JT.mod0 {W : World} (h : JT w wr sb mt mo sb2 mt2 mo2 tb m2 As At Ax gs gt gx cnt) (hm : Tn.Mod [] wr W) : JT w W sb mt mo sb2 mt2 mo2 tb m2 As At Ax gs gt gx cnt :=
  ⟨h.md.andThen hm, h.s.mod0 hm, h.t.mod0 hm, h.x.mod0 hm, h.nb, h.n1, h.n2, h.n3, h.f1, h.f2, h.f3, h.f4⟩

/-- A write in the transaction. -/
theorem JT.writeX (h : JT w wr sb mt mo sb2 mt2 mo2 tb m2 As At Ax gs gt gx cnt) (G : GT Ax) (hb : cnt + 256 ≤ 1073741824) (name : ByteArray) {v : Value} {o : Option Int} (hv : NV wr v o) :
    Calls Tryd.prog 6 #[.pointer (some ⟨sb, 0, none⟩), .int .i64 0, .int .i64 1, .string name, v] wr fun e w' => e = .returned (.int .i64 (errW Ax name)) ∧
      ∃ m2' cnt', JT w w' sb mt mo sb2 mt2 mo2 tb m2' As At (resW Ax name o) gs gt gx cnt' ∧ cnt' ≤ cnt + 256 ∧ (if errW Ax name = 0 then cnt < cnt' else cnt' = cnt) := by
  refine (write_f1 (B := w.heap.size) h.md.size h.s h.x G hb name hv).mono ?_
  rintro e w' ⟨rfl, m2', cnt', S, hx, hm2, hc1, hc2, hm, hS⟩
  obtain ⟨v0, hvb, _⟩ := h.x.blk
  have hS' : ∀ s ∈ S, wr.heap.size ≤ s ∨ ∃ cs, Blk wr s 69 cs := fun s hs => (hS s hs).2
  have hmo := h.s.mo.lt
  refine ⟨rfl, m2', cnt', ⟨h.md.trans hm ?_, h.s.modS hvb hS' hm, h.t.modS hvb hS' hm, hx, h.nb, h.n1, h.n2, ?_, h.f1, h.f2, h.f3, h.f4⟩, hc1, hc2⟩
  · intro t ht
    right
    rcases List.mem_cons.1 ht with rfl | ht
    · exact h.f4
    · exact (hS t ht).1
  · rcases hm2 with rfl | h1
    · exact h.n3
    · omega

/-- A direct write on the first store. -/
theorem JT.writeS (h : JT w wr sb mt mo sb2 mt2 mo2 tb m2 As At Ax gs gt gx cnt) (G : GT As) (hg : gs + 1 < 4611686018427387904) (name : ByteArray) {v : Value} {o : Option Int} (hv : NV wr v o) :
    Calls Tryd.prog 6 #[.pointer (some ⟨sb, 0, none⟩), .int .i64 0, .int .i64 0, .string name, v] wr fun e w' => e = .returned (.int .i64 (errW As name)) ∧
      ∃ mt', JT w w' sb mt' mo sb2 mt2 mo2 tb m2 (resW As name o) At Ax (gs + if errW As name = 0 then 1 else 0) gt gx cnt := by
  refine (write_f0 h.s G hg name hv).mono ?_
  rintro e w' ⟨rfl, ⟨mt', hs, _⟩, hm⟩
  exact ⟨rfl, mt', ⟨h.md.trans hm (by intro t ht; simp at ht; subst ht; exact .inr h.f1), hs, h.t.modB h.s.blk h.nb.symm hm, h.x.modB h.s.blk hm, h.nb, h.n1, h.n2, h.n3, h.f1, h.f2, h.f3, h.f4⟩⟩

/-- A write on the second store. -/
theorem JT.writeT (h : JT w wr sb mt mo sb2 mt2 mo2 tb m2 As At Ax gs gt gx cnt) (G : GT At) (hg : gt + 1 < 4611686018427387904) (name : ByteArray) {v : Value} {o : Option Int} (hv : NV wr v o) :
    Calls Tryd.prog 6 #[.pointer (some ⟨sb2, 0, none⟩), .int .i64 0, .int .i64 0, .string name, v] wr fun e w' => e = .returned (.int .i64 (errW At name)) ∧
      ∃ mt2', JT w w' sb mt mo sb2 mt2' mo2 tb m2 As (resW At name o) Ax gs (gt + if errW At name = 0 then 1 else 0) gx cnt := by
  have hmo := h.s.mo.lt
  refine (write_f0 h.t G hg name hv).mono ?_
  rintro e w' ⟨rfl, ⟨mt2', ht, hmt⟩, hm⟩
  refine ⟨rfl, mt2', ⟨h.md.trans hm (by intro t ht; simp at ht; subst ht; exact .inr h.f3), h.s.modB h.t.blk h.nb hm, ht, h.x.modB h.t.blk hm, h.nb, ?_, h.n2, h.n3, h.f1, h.f2, h.f3, h.f4⟩⟩
  rcases hmt with rfl | h1
  · exact h.n1
  · omega
end
end Go.Proofs.YtlhjocgkmeoheaaDoor
