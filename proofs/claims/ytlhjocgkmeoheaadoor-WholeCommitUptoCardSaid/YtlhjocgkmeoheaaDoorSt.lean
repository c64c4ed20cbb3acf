/-
  Commit: a store in the heap; none, domain, trans, view, asked.
-/
import Derived.Test.YtlhjocgkmeoheaaDoorTr
import Derived.Test.YtlhjocgkmeoheaaDoorPs
import Derived.Test.YtlhjocgkmeoheaaDoorMap
namespace Go.Proofs.YtlhjocgkmeoheaaDoor
open Go.RowKit Go.Tn Go.MapKept
open Go.Proofs

def openF (op : Option Nat) : Int → Option Value := fun n => if n = 1 then op.map (fun tb => .pointer (some ⟨tb, 0, none⟩)) else none
def storeCells (mt mo : Nat) (g : Nat) : Array Value := #[.map (some mt), .int .i64 g, .map (some mo), .slice none 0 0, .slice none 0 0, .slice none 0 0, .slice none 0 0, .slice none 0 0, .slice none 0 0, .slice none 0 0, .slice none 0 0, .slice none 0 0]

/-- A store: its tree, its generation, its one open transaction. -/
structure SH (w : World) (sb mt mb : Nat) (A : Tree) (g : Nat) (op : Option Nat) : Prop where
  blk : Blk w sb 47 (storeCells mt mb g)
  th : TH w mt A
  mo : IMap w mb (openF op)
  gb : g < 4611686018427387904
  ne : mt ≠ mb

/-- A slice of changes. -/
def Chg (w : World) (v : Value) (cnt : Nat) : Prop := ∃ xs, w.ownsRow 0 69 2 v cnt xs ∧ xs.length = cnt * 2 ∧ cnt ≤ 1073741824 ∧ ∀ i, i < cnt → ∃ s a l c, xs[i * 2]? = some (.string s) ∧ xs[i * 2 + 1]? = some (.slice a l c)

/-- A transaction. -/
structure XH (B : Nat) (w : World) (tb m2 : Nat) (A : Tree) (g : Nat) (cnt : Nat) : Prop where
  blk : ∃ v, Blk w tb 52 #[.int .i64 0, .int .i64 g, .map (some m2), v] ∧ Chg w v cnt ∧ ∀ b, v.ownBlock = some b → B ≤ b
  th : TH w m2 A

section
variable {B : Nat} {w w' : World} {sb mt mo g : Nat} {A : Tree} {op : Option Nat}
theorem SH.c0 (h : SH w sb mt mo A g op) : w.cell? ⟨sb, 0, none⟩ = some (.map (some mt)) := h.blk.cell 0
theorem SH.c1 (h : SH w sb mt mo A g op) : w.cell? ⟨sb, 1, none⟩ = some (.int .i64 g) := h.blk.cell 1
theorem SH.c2 (h : SH w sb mt mo A g op) : w.cell? ⟨sb, 2, none⟩ = some (.map (some mo)) := h.blk.cell 2
theorem SH.c3 (h : SH w sb mt mo A g op) : w.cell? ⟨sb, 3, none⟩ = some (.slice none 0 0) := h.blk.cell 3
theorem SH.mod (h : SH w sb mt mo A g op) {S : List Nat} (hm : Tn.Mod S w w') (h0 : sb ∉ S) (h1 : mt ∉ S) (h2 : mo ∉ S) (hc : Cold S w) : SH w' sb mt mo A g op :=
  ⟨h.blk.mod hm h0, h.th.mod hm h1 hc, h.mo.of_heap (hm.block mo h.mo.lt h2), h.gb, h.ne⟩
theorem SH.mod0 (h : SH w sb mt mo A g op) (hm : Tn.Mod [] w w') : SH w' sb mt mo A g op := h.mod hm (by simp) (by simp) (by simp) (Cold.nil _)
theorem Chg.mod {v : Value} {cnt : Nat} (h : Chg w v cnt) {S : List Nat} (hm : Tn.Mod S w w') (hS : ∀ b, v.ownBlock = some b → b ∉ S) : Chg w' v cnt := by
  obtain ⟨xs, h1, h2⟩ := h
  exact ⟨xs, ownsRow_of_heap' h1 fun b hb => hm.block b (h1.lt b hb).2 (hS b hb), h2⟩
theorem Chg.blk {v : Value} {cnt b : Nat} (h : Chg w v cnt) (hb : v.ownBlock = some b) : ∃ cs, Blk w b 69 cs := by
  obtain ⟨xs, h1, h2⟩ := h
  rcases h1.2 with ⟨rfl, _⟩ | ⟨g, cap, cur, rfl, _, hh, _⟩
  · simp [Value.ownBlock] at hb
  · simp [Value.ownBlock] at hb
    subst hb
    exact ⟨_, hh⟩
theorem XH.mod {tb m2 cnt : Nat} (h : XH B w tb m2 A g cnt) {S : List Nat} (hm : Tn.Mod S w w') (h0 : tb ∉ S) (h1 : m2 ∉ S) (hc : Cold S w) (h69 : ∀ s ∈ S, ∀ cs, ¬ Blk w s 69 cs) : XH B w' tb m2 A g cnt := by
  obtain ⟨⟨v, hb, hch, hown⟩, ht⟩ := h
  refine ⟨⟨v, hb.mod hm h0, hch.mod hm (fun b hb hs => ?_), hown⟩, ht.mod hm h1 hc⟩
  obtain ⟨cs, hcs⟩ := hch.blk hb
  exact h69 b hs cs hcs
theorem XH.mod0 {tb m2 cnt : Nat} (h : XH B w tb m2 A g cnt) (hm : Tn.Mod [] w w') : XH B w' tb m2 A g cnt := h.mod hm (by simp) (by simp) (Cold.nil _) (by simp)

theorem eqmap (w : World) (mt : Nat) : (binOp .eql 41 (.map (some mt)) (.map none)).run Tryd.prog w = .ok (.bool false) w := by kernel_rfl
attribute [local go_sem] eqmap
set_option maxRecDepth 100000 in
theorem none_f (h : SH w sb mt mo A g op) : Calls Tryd.prog 16 #[.pointer (some ⟨sb, 0, none⟩)] w fun e w' => e = .returned (.bool false) ∧ w = w' := by
  have c0 := h.c0
  clear h
  go_enter Tryd.func16, Tryd.ntmps16
  go_wp2
  go_ret
  exact ⟨rfl, rfl⟩
theorem domain_f (h : SH w sb mt mo A g op) : Calls Tryd.prog 10 #[.pointer (some ⟨sb, 0, none⟩), .int .i64 0] w fun e w' => e = .returned (.int .i64 0) ∧ w = w' := by
  have H := hid (none_f h)
  clear h
  go_enter Tryd.func10, Tryd.ntmps10
  go_wp2_with (go_at_call 16; refine H.out.mono ?_; rintro e w' ⟨rfl, rfl⟩)
  go_ret
  exact ⟨rfl, rfl⟩

theorem look42 {b : Nat} (h : IsM w b) (n : Int) : (Instr.lookup 42 (.map (some b)) (.int .i64 n) true).run Tryd.prog w = .ok (.tuple #[(mget w b n).getD (.pointer none), .bool (mget w b n).isSome]) w := by
  have hz : ∀ w, (zeroValue 49).run Tryd.prog w = .ok (.pointer none) w := fun w => by kernel_rfl
  exact h.look Tryd.underlying42 Tryd.underlying3 hz n true
theorem look42b {b : Nat} (h : IsM w b) (n : Int) : (Instr.lookup 42 (.map (some b)) (.int .i64 n) false).run Tryd.prog w = .ok ((mget w b n).getD (.pointer none)) w := by
  have hz : ∀ w, (zeroValue 49).run Tryd.prog w = .ok (.pointer none) w := fun w => by kernel_rfl
  exact h.look Tryd.underlying42 Tryd.underlying3 hz n false
attribute [local go_sem] look42 look42b

/-- trans, where the transaction is open. -/
theorem trans_f {tb : Nat} (h : SH w sb mt mo A g (some tb)) (hd : w.cell? ⟨tb, 0, none⟩ = some (.int .i64 0)) :
    Calls Tryd.prog 14 #[.pointer (some ⟨sb, 0, none⟩), .int .i64 0, .int .i64 1] w fun e w' => e = .returned (.tuple #[.pointer (some ⟨tb, 0, none⟩), .int .i64 0]) ∧ w = w' := by
  have c2 := h.c2
  have hi := h.mo.is
  have hg : mget w mo 1 = some (.pointer (some ⟨tb, 0, none⟩)) := h.mo.get 1
  clear h
  go_enter Tryd.func14, Tryd.ntmps14
  go_wp2
  go_ret2
  exact ⟨rfl, rfl⟩
/-- trans, where none is open. -/
theorem trans_none (h : SH w sb mt mo A g none) :
    Calls Tryd.prog 14 #[.pointer (some ⟨sb, 0, none⟩), .int .i64 0, .int .i64 1] w fun e w' => e = .returned (.tuple #[.pointer none, .int .i64 6]) ∧ w = w' := by
  have c2 := h.c2
  have hi := h.mo.is
  have hg : mget w mo 1 = none := h.mo.get 1
  clear h
  go_enter Tryd.func14, Tryd.ntmps14
  go_wp2
  go_ret2
  exact ⟨rfl, rfl⟩
theorem view_f0 (h : SH w sb mt mo A g op) : Calls Tryd.prog 20 #[.pointer (some ⟨sb, 0, none⟩), .int .i64 0] w fun e w' => e = .returned (.map (some mt)) ∧ w = w' := by
  have c0 := h.c0
  clear h
  go_enter Tryd.func20, Tryd.ntmps20
  go_wp2
  go_ret
  exact ⟨rfl, rfl⟩
theorem view_f1 {tb m2 : Nat} (h : SH w sb mt mo A g (some tb)) (hd : w.cell? ⟨tb, 2, none⟩ = some (.map (some m2))) : Calls Tryd.prog 20 #[.pointer (some ⟨sb, 0, none⟩), .int .i64 1] w fun e w' => e = .returned (.map (some m2)) ∧ w = w' := by
  have c2 := h.c2
  have hi := h.mo.is
  have hg : mget w mo 1 = some (.pointer (some ⟨tb, 0, none⟩)) := h.mo.get 1
  clear h
  go_enter Tryd.func20, Tryd.ntmps20
  go_wp2
  go_ret
  exact ⟨rfl, rfl⟩

set_option maxRecDepth 100000 in
/-- asked; the transaction is none, or the open one. -/
theorem asked_f0 (h : SH w sb mt mo A g op) (s : ByteArray) : Calls Tryd.prog 12 #[.pointer (some ⟨sb, 0, none⟩), .int .i64 0, .int .i64 0, .string s] w fun e w' => e = .returned (.int .i64 (parseE s.data.toList)) ∧ Tn.Mod [] w w' := by
  have H := hid (domain_f h)
  clear h
  by_cases h0 : parseE s.data.toList = 0
  · rw [h0]
    go_enter Tryd.func12, Tryd.ntmps12
    go_wp2_with (first
      | (go_at_call 10; refine H.out.mono ?_; rintro e w' ⟨rfl, rfl⟩)
      | (go_at_call 19; refine (parse_f s _).mono ?_; rintro e w9 ⟨⟨v, n, rfl⟩, hm⟩; rw [h0]; replace hm := hid hm))
    go_ret
    exact ⟨rfl, hm.out⟩
  · have hb : (parseE s.data.toList == 0) = false := by simpa using h0
    go_enter Tryd.func12, Tryd.ntmps12
    go_wp2_with (first
      | (go_at_call 10; refine H.out.mono ?_; rintro e w' ⟨rfl, rfl⟩)
      | (go_at_call 19; refine (parse_f s _).mono ?_; rintro e w9 ⟨⟨v, n, rfl⟩, hm⟩; replace hm := hid hm))
    go_ret
    exact ⟨rfl, hm.out⟩
set_option maxRecDepth 100000 in
theorem asked_f1 {tb m2 cnt g2 : Nat} {A2 : Tree} (h : SH w sb mt mo A g (some tb)) (hx : XH B w tb m2 A2 g2 cnt) (s : ByteArray) : Calls Tryd.prog 12 #[.pointer (some ⟨sb, 0, none⟩), .int .i64 0, .int .i64 1, .string s] w fun e w' => e = .returned (.int .i64 (parseE s.data.toList)) ∧ Tn.Mod [] w w' := by
  have H := hid (domain_f h)
  have HT := hid (show ∀ w', Tn.Mod [] w w' → Calls Tryd.prog 14 #[.pointer (some ⟨sb, 0, none⟩), .int .i64 0, .int .i64 1] w' fun e w2 => e = .returned (.tuple #[.pointer (some ⟨tb, 0, none⟩), .int .i64 0]) ∧ w' = w2 from fun w' hm => by
    obtain ⟨⟨v, hb, _⟩, _⟩ := hx.mod0 hm
    exact trans_f (h.mod0 hm) (hb.cell 0))
  clear h hx
  by_cases h0 : parseE s.data.toList = 0
  · rw [h0]
    go_enter Tryd.func12, Tryd.ntmps12
    go_wp2_with (first
      | (go_at_call 10; refine H.out.mono ?_; rintro e w' ⟨rfl, rfl⟩)
      | (go_at_call 14; refine (HT.out _ hm.out).mono ?_; rintro e w' ⟨rfl, rfl⟩)
      | (go_at_call 19; refine (parse_f s _).mono ?_; rintro e w9 ⟨⟨v, n, rfl⟩, hm⟩; rw [h0]; replace hm := hid hm))
    go_ret
    exact ⟨rfl, hm.out⟩
  · have hb : (parseE s.data.toList == 0) = false := by simpa using h0
    go_enter Tryd.func12, Tryd.ntmps12
    go_wp2_with (first
      | (go_at_call 10; refine H.out.mono ?_; rintro e w' ⟨rfl, rfl⟩)
      | (go_at_call 19; refine (parse_f s _).mono ?_; rintro e w9 ⟨⟨v, n, rfl⟩, hm⟩; replace hm := hid hm))
    go_ret
    exact ⟨rfl, hm.out⟩
end
end Go.Proofs.YtlhjocgkmeoheaaDoor
