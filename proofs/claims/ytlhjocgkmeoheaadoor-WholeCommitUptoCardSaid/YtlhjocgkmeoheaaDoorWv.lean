/-
  Commit: a value that is appended to nothing; nodes by their value.
-/
import Derived.Test.YtlhjocgkmeoheaaDoorAb
import Derived.Test.YtlhjocgkmeoheaaDoorCh
import Derived.Test.YtlhjocgkmeoheaaDoorReg
import Derived.Maps.AppendAt
namespace Go.Proofs.YtlhjocgkmeoheaaDoor
open Go.RowKit Go.Tn Go.MapKept
open Go.Proofs
attribute [-go_sem] Builtin.append_

/-- A value: nothing, or one byte. -/
def NV (w : World) (v : Value) (o : Option Int) : Prop := match o with | none => v = .slice none 0 0 | some z => ∃ b c, v = .slice (some ⟨b, 0, none⟩) 1 c ∧ VB w b z
theorem NV.mod0 {w w' : World} {v : Value} {o : Option Int} (h : NV w v o) (hm : Tn.Mod [] w w') : NV w' v o := by
  cases o with
  | none => exact h
  | some z => obtain ⟨b, c, h1, h2⟩ := h; exact ⟨b, c, h1, h2.mod hm (Cold.nil _)⟩
theorem NV.slice {w : World} {v : Value} {o : Option Int} (h : NV w v o) : ∃ a l c, v = .slice a l c ∧ l ≤ 1 := by
  cases o with
  | none => exact ⟨_, _, _, h, by omega⟩
  | some z => obtain ⟨b, c, h1, h2⟩ := h; exact ⟨_, _, _, h1, by omega⟩
theorem Node.mk' {w : World} {v : Value} {o : Option Int} {pb pc : Nat} (h : NV w v o) (hp : PB w pb) (hc : 1 ≤ pc) : Node w (.agg #[v, .slice (some ⟨pb, 0, none⟩) 1 pc]) o := by
  cases o with
  | none =>
    obtain rfl : v = .slice none 0 0 := h
    exact ⟨none, 0, 0, pb, pc, rfl, hp, ⟨rfl, rfl, rfl⟩, hc⟩
  | some z =>
    obtain ⟨b, c, rfl, h2⟩ := h
    exact ⟨some ⟨b, 0, none⟩, 1, c, pb, pc, rfl, hp, ⟨b, rfl, rfl, h2⟩, hc⟩
theorem Node.out {w : World} {x : Value} {o : Option Int} (h : Node w x o) : ∃ v pb pc, x = .agg #[v, .slice (some ⟨pb, 0, none⟩) 1 pc] ∧ NV w v o ∧ PB w pb ∧ 1 ≤ pc := by
  obtain ⟨a, l, c, pb, pc, rfl, hp, ho, hc⟩ := h
  refine ⟨_, pb, pc, rfl, ?_, hp, hc⟩
  cases o with
  | none => obtain ⟨rfl, rfl, rfl⟩ := ho; exact rfl
  | some z => obtain ⟨b, rfl, rfl, h2⟩ := ho; exact ⟨b, c, rfl, h2⟩

theorem Node.mod0 {w w' : World} {v : Value} {o : Option Int} (h : Node w v o) (hm : Tn.Mod [] w w') : Node w' v o := h.mod hm (Cold.nil _)
theorem PB.mod0 {w w' : World} {pb : Nat} (h : PB w pb) (hm : Tn.Mod [] w w') : PB w' pb := h.mod hm (Cold.nil _)

theorem info5 : (Tryd.prog.info? 5).map (fun i => (i.zero, i.size, i.bytes)) = some (some (.int .u8 0), 1, 1) := by kernel_rfl

theorem app29 {w : World} {v : Value} {o : Option Int} (h : NV w v o) (ty : TypeId) : ∃ v' w', (Builtin.append_ #[29, 29] ty #[.slice none 0 0, v]).run Tryd.prog w = .ok v' w' ∧ NV w' v' o ∧ Tn.Mod [] w w' := by
  obtain ⟨i5, hi5, hz0, hz1, hz2⟩ := info_parts info5
  cases o with
  | none =>
    obtain rfl : v = .slice none 0 0 := h
    refine ⟨_, w, ?_, rfl, Mod.refl _ _⟩
    simp [Builtin.append_, run_underlying Tryd.underlying29, sizeOf, typeInfo, hi5, Builtin.lenOf, run_firstCells_none]
  | some z =>
    obtain ⟨b, c, rfl, cs, hb, h0⟩ := h
    have hown : w.ownsRow w.heap.size 5 1 (.slice none 0 0) 0 [] := ⟨by simp, .inl ⟨rfl, rfl⟩⟩
    obtain ⟨v', w', hr, ho, hg, hn, hw⟩ := run_append_own_at (P := Tryd.prog) w w.heap.size 29 ty 5 i5 _ 1 1 Tryd.underlying29 hi5 hz0 hz1 hz2 rfl (by decide) (.slice none 0 0) 0 [] hown ⟨b, 0, none⟩ 1 c [.int .u8 z] (by simp)
      (fun j u hj => by
        match j, hj with
        | 0, hj =>
          simp at hj
          subst hj
          have := hb.cell 0
          rw [h0] at this
          simpa [Addr.add] using this)
      (fun u hu => by simp at hu; subst hu; rfl) (by unfold maxLen; omega) (by omega) (Nat.le_refl _)
    refine ⟨v', w', hr, ?_, (Mod.refl _ w).grown hg (fun k hk => by simp [Value.ownBlock] at hk)⟩
    obtain ⟨_, ⟨rfl, h⟩ | ⟨q', c', cur, rfl, hbq, hg2, h3, h4, h5, h6⟩⟩ := ho
    · omega
    · refine ⟨q', c', rfl, cur, hg2, ?_⟩
      have h7 : (cur.toList.take ((0 + 1) * 1))[0]? = some (.int .u8 z) := by rw [h6]; simp
      rw [List.getElem?_take, if_pos (by omega), Array.getElem?_toList] at h7
      exact h7

theorem wpList_app29 {ops : Array Oper} {rest : List Oper} {o : Oper} {A : Act} {w : World} {Q : Exit → Act → World → Prop} (hgd : o.guard = none) (s x : Operand)
    (ho : o.op = .call { callee := .builtin .append, args := #[s, x], argTypes := #[29, 29] }) (hs : A.eval s = .slice none 0 0) {v : Value} {ov : Option Int} (hx : A.eval x = v) (hb : NV w v ov)
    (h : ∀ v' w', NV w' v' ov → Tn.Mod [] w w' → wpList Tryd.prog ops Q rest (A.put o.dst v') w') :
    wpList Tryd.prog ops Q (o :: rest) A w := by
  refine wpList_plain hgd fun K hK => ?_
  obtain ⟨v', w', hr, h2, h3⟩ := app29 hb o.type
  unfold Oper.wp execOp
  simp only [ho, resolve, invoke, builtin, Sem.run_bind, Sem.run_pure, Result.andThen_ok, List.map_toArray, List.map_cons, List.map_nil, hs, hx, hr]
  exact hK _ _ (h v' w' h2 h3)
end Go.Proofs.YtlhjocgkmeoheaaDoor
