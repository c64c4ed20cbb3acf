/-
  Layer 14, the reference: a port stored back whole: lemmas.
-/
import Derived.Test.YtkdhkloabbcipaaN
import Derived.Test.YtkdhkloabbcipaaEa
namespace Go.Tn
open Go.RowKit

theorem setCell_comm (w : World) (b i j : Nat) (u v : Value) (h : i ≠ j) : (w.setCell ⟨b, i, none⟩ u).setCell ⟨b, j, none⟩ v = (w.setCell ⟨b, j, none⟩ v).setCell ⟨b, i, none⟩ u := by
  unfold World.setCell
  congr 1
  apply Array.ext_getElem?
  intro k
  simp only [Array.getElem?_modify]
  by_cases hk : b = k
  · subst hk
    simp only [if_true]
    cases w.heap[b]? with
    | none => rfl
    | some o =>
      cases o <;> try rfl
      simp only [Option.map_some, Option.isSome_none, Bool.false_eq_true, if_false]
      refine congrArg some ?_
      congr 1
      apply Array.ext_getElem?
      intro m
      simp only [Array.getElem?_setIfInBounds, Array.size_setIfInBounds]
      by_cases h1 : i = m <;> by_cases h2 : j = m <;> simp [h1, h2]
      omega
  · simp [hk]

theorem setCell_front (w : World) (b i0 i1 i2 i3 : Nat) (v0 v1 v2 v3 : Value) (h0 : i3 ≠ i0) (h1 : i3 ≠ i1) (h2 : i3 ≠ i2) : (((w.setCell ⟨b, i3, none⟩ v3).setCell ⟨b, i0, none⟩ v0).setCell ⟨b, i1, none⟩ v1).setCell ⟨b, i2, none⟩ v2 = (((w.setCell ⟨b, i0, none⟩ v0).setCell ⟨b, i1, none⟩ v1).setCell ⟨b, i2, none⟩ v2).setCell ⟨b, i3, none⟩ v3 := by
  rw [setCell_comm w b i3 i0 _ _ h0, setCell_comm _ b i3 i1 _ _ h1, setCell_comm _ b i3 i2 _ _ h2]

section
variable {P : Program} {w : World}
theorem step_append_q {ops : Array Oper} {o : Oper} {a : Act} {K : Act → World → Prop} {Q : Exit → Act → World → Prop} {E : Prop} (hgd : o.guard = none) (s x : Operand) (t : TypeId)
    (ho : o.op = .call { callee := .builtin .append, args := #[s, x], argTypes := #[t, t] }) {e : TypeId} {i : TypeInfo} {z : Value} {bytes : Nat} (ht : P.underlying t = some (.slice e)) (hi : P.info? e = some i) (hz : i.zero = some z)
    (hsize : i.size = 1) (hby : i.bytes = bytes) (hzs : z.cells.size = 1) {A : Option Addr} {n cap : Nat} {xs : List Value} (h : QRow w e A cap xs) (hn : n = xs.length) (hs : a.eval s = .slice A n cap)
    {ad : Addr} {c : Nat} {u : Value} (hx : a.eval x = .slice (some ad) 1 c) (hu : w.cell? ad = some u) (h1 : u.oneCell' = true) (h63 : xs.length + 1 ≤ maxLen) (hbytes : (xs.length + 1) * bytes ≤ 140737488355328)
    (hK : ∀ g off cap' w', QRow w' e (some ⟨g, off, none⟩) cap' (xs ++ [u]) → Mod (blkOf A) w w' → (g ∈ blkOf A ∨ w.heap.size ≤ g) → g < w'.heap.size → K (a.put o.dst (.slice (some ⟨g, off, none⟩) (n + 1) cap')) w') :
    if Region.wanted o (yielded ops a.tmps) = true then Oper.wp P o a w K Q else E := by
  have hw : Region.wanted o (yielded ops a.tmps) = true := by simp [Region.wanted, hgd]
  rw [if_pos hw]
  exact wp_append_q s x t ho ht hi hz hsize hby hzs h hn hs hx hu h1 h63 hbytes hK
end

namespace P14
theorem set_same (P : Po) (j : Nat) : P.set j (P.c j) = P := by
  unfold Po.set
  cases P
  congr 1
  funext k
  by_cases h : k = j <;> simp [h]
theorem onP_id (S : St) (k : Nat) : onP S (k : Int) (fun P => P) = S := by
  simp only [onP, upd_same]
theorem onP_setq (S : St) (k : Nat) : onP S (k : Int) (fun P => P.setq (S.L k).q) = S := by
  simp only [onP, Int.toNat_natCast]
  have : (S.L k).setq (S.L k).q = S.L k := rfl
  rw [this, upd_same]
theorem Bytes.cells {w : World} {b off : Nat} {fr : List Int} (h : Bytes w (some ⟨b, off, none⟩) fr) : ∀ i u, (fr.map (Value.int .u8))[i]? = some u → w.cell? ((⟨b, off, none⟩ : Addr).add i) = some u := by
  intro i u hu
  obtain ⟨y, hy, rfl⟩ : ∃ y, fr[i]? = some y ∧ u = .int .u8 y := by
    simp only [List.getElem?_map, Option.map_eq_some_iff] at hu
    obtain ⟨y, hy, e⟩ := hu
    exact ⟨y, hy, e.symm⟩
  have hl : 0 < fr.length := by have := (List.getElem?_eq_some_iff.1 hy).1; omega
  obtain ⟨b', off', e, _, hc⟩ := h.2 hl
  injection e with e
  injection e with e1 e2
  subst e1 e2
  have hadd : (⟨b, off, none⟩ : Addr).add i = ⟨b, off + i, none⟩ := by
    unfold Addr.add
    split
    · rename_i h; subst h; rfl
    · rfl
  rw [hadd]
  exact hc i y hy
end P14
end Go.Tn

namespace Go.Proofs.Ytkdhkloabbcipaa
open Go.RowKit Go.Tn Go.Tn.P14

section
variable {w w' : World} {q rp ac : Nat} {A : Option Addr} {FP FP' : List Nat} {C : Nat → Option Addr × Nat} {S : St}

/-- A number is stored that stands there. -/
theorem RC.keep (h : RC w q rp A ac FP C S) {k j : Nat} (hk : k < S.n) (hj : j < 13) (h3 : j ≠ 3) {x : Int} (e : (S.L k).c (rr j) = x) : RC (w.setCell ⟨rp, k * 13 + j, none⟩ (.int .i64 x)) q rp A ac FP C S := by
  have := h.onp hk hj h3 x (fun P => P) (by rw [← e, set_same])
  rwa [onP_id] at this
/-- A queue is stored that stands there. -/
theorem RC.keepq (h : RC w q rp A ac FP C S) {k n : Nat} (hk : k < S.n) (e : (S.L k).q.length = n) : RC (w.setCell ⟨rp, k * 13 + 3, none⟩ (.slice (C k).1 n (C k).2)) q rp A ac FP C S := by
  obtain ⟨xs, h1, h2⟩ := h.rows.que k hk
  have := h.putq hk (Mod.refl [] w) (by simp) h1 h2 (fun b hb => .inl hb) (fun b hb => hb) (fun b hb => h.rows.own k hk b hb) h.rows.old
  rw [e, onP_setq] at this
  have e1 : P14.upd C k ((C k).1, (C k).2) = C := upd_same C k
  rwa [e1] at this
theorem rr_cases {j : Nat} (hj : j < 13) (h3 : j ≠ 3) : (j = 8 ∧ rr j = 4) ∨ (j = 12 ∧ rr j = 8) ∨ (rr j ≠ 4 ∧ rr j ≠ 8) := by
  unfold rr
  split <;> omega
end

end Go.Proofs.Ytkdhkloabbcipaa
