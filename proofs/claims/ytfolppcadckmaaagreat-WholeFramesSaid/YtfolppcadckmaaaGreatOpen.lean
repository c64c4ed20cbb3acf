/-
  Arguments opened: a slice of structs of one-cell fields, as cells; over any program.
-/
import Derived.Deep.Slices
import Derived.Deep.Fields
import Derived.ChangeSame
import Derived.SizedLaws
import Derived.WalkKit
import Derived.ProofKit
import Derived.OpenShut
namespace Go.Tn
open Go.ChangeShapes Go.WideShapes Go.Deep Go.RowKit

section
variable {H : Type} {enc : TypeId × Value → H} {P : Program} {w : World} {base : Nat} {spare : Nat → Bool} {held : Bool}

/-- An argument that is a slice of structs whose fields are one cell each. -/
theorem open_slice_fields {t e : TypeId} {fs : Array Field} {fuel : Nat} {cs : List Value} {x : DataW H × List MemPlace} (ht : P.underlying t = some (.slice e)) (he : P.underlying e = some (.struct fs))
    (hone : oneCellFields P fs = true) (hC : P.cellsOf e = fs.size) (h : DataW.trod enc P w base spare held fuel t cs = some x) :
    (cs = [.slice none 0 0] ∧ x = (.nil, [])) ∨
    ∃ (a : Addr) (len cap m : Nat) (D : Nat → DataW H) (Pl : Nat → List MemPlace), cs = [.slice (some a) len cap] ∧ base ≤ a.block ∧ len ≤ cap ∧ cap ≤ maxLen ∧ m = (if spare a.block then cap else len) ∧
      x = (.slice ((List.range len).map D) ((List.range (m - len)).map fun j => D (len + j)), MemPlace.row a (m * fs.size) ++ (List.range m).flatMap Pl) ∧
      ∀ i, i < m → ∃ (ys : List (DataW H × List MemPlace)) (n : Nat), D i = .agg (ys.map (·.1)) ∧ Pl i = ys.flatMap (·.2) ∧ ys.length = fs.size ∧
        ∀ (j : Nat) (f : Field), fs[j]? = some f → ∃ (v : Value) (y : DataW H × List MemPlace), w.cell? (a.add (i * fs.size + j)) = some v ∧ ys[j]? = some y ∧ DataW.trod enc P w base spare held n f.type [v] = some y := by
  rcases open_slice ht h with h0 | ⟨a, len, cap, m, n, D, Pl, hcs, hb, hl, hm, hmm, hx, hi⟩
  · exact .inl h0
  · refine .inr ⟨a, len, cap, m, D, Pl, hcs, hb, hl, hm, hmm, by rw [hC] at hx; exact hx, fun i him => ?_⟩
    obtain ⟨cs', hc, ht'⟩ := hi i him
    rw [hC] at hc
    obtain ⟨ys, n', hn', hy, hlen, hyl, hf⟩ := DataW.trod_struct he ht'
    obtain ⟨_, hcl, hat⟩ := World.cells?_some hc
    simp only [Prod.mk.injEq] at hy
    refine ⟨ys, n', hy.1, hy.2, hyl, fun j f hj => ?_⟩
    obtain ⟨ho, hk⟩ := hone_of hone j f hj
    have hjl : j < fs.size := (Array.getElem?_eq_some_iff.1 hj).1
    have hcell := hat j hjl
    have hv : cs'[j]? = some (cs'[j]'(by omega)) := List.getElem?_eq_getElem (by omega)
    have h1 := hf j f hj
    rw [ho, hk] at h1
    have hone' : (cs'.drop j).take 1 = [cs'[j]'(by omega)] := by
      rw [List.drop_eq_getElem_cons (by omega)]
      rfl
    rw [hone'] at h1
    have hys : ys[j]? = some (ys[j]'(by omega)) := List.getElem?_eq_getElem (by omega)
    refine ⟨_, _, ?_, hys, h1.trans hys⟩
    rw [← Go.Deep.add_add, hcell, hv]

theorem sized_mem {ts : List TypeId} {ds : List (DataW H)} (h : (DataW.weightsEach P ts ds).all (· ≤ reachBytes) = true) {j : Nat} {t : TypeId} {d : DataW H} (ht : ts[j]? = some t) (hd : ds[j]? = some d) :
    ∀ n ∈ d.weights P t, n ≤ reachBytes := fun n hn => by
  have := List.all_eq_true.1 h n (DataW.weights_mem_each ht hd n hn)
  simpa using this

end

theorem add_none (b off n : Nat) : (⟨b, off, none⟩ : Addr).add n = ⟨b, off + n, none⟩ := by
  unfold Addr.add
  split
  · rename_i h; subst h; rfl
  · rfl

/-- What a walk is told of a slice of structs of three ints: where its cells lie, and the numbers in them. -/
def IsOps (w : World) (a : Option Addr) (len : Nat) : Prop :=
  len * 24 ≤ 140737488351232 ∧ (0 < len → ∃ b off, a = some ⟨b, off, none⟩ ∧ b < w.heap.size ∧ ∃ X Y Z : Nat → Int, ∀ i, i < len →
    w.cell? ⟨b, off + i * 3, none⟩ = some (.int .i64 (X i)) ∧ w.cell? ⟨b, off + i * 3 + 1, none⟩ = some (.int .i64 (Y i)) ∧ w.cell? ⟨b, off + i * 3 + 2, none⟩ = some (.int .i64 (Z i)))

theorem open_ops {H : Type} {enc : TypeId × Value → H} {P : Program} {w : World} {base : Nat} {t e q : TypeId} {f0 f1 f2 : Field} {v : Value} {d : DataW H} {ps : List MemPlace} {b0 : Nat}
    (ht : P.underlying t = some (.slice e)) (he : P.underlying e = some (.struct #[f0, f1, f2])) (hq : P.underlying q = some (.int .i64)) (h0 : f0.type = q) (h1 : f1.type = q) (h2 : f2.type = q)
    (hone : oneCellFields P #[f0, f1, f2] = true) (hC : P.cellsOf e = 3) (hby : P.bytesOf e = 24)
    (hv : Value.okWide P w .any b0 t v) (h : DataW.Trod enc P w base (fun _ => true) true t v d ps) (hs : ∀ n ∈ d.weights P t, n ≤ reachBytes) :
    ∃ a len cap, v = .slice a len cap ∧ IsOps w a len := by
  obtain ⟨a, len, cap, rfl⟩ := okWide_slice ht hv
  refine ⟨a, len, cap, rfl, ?_⟩
  obtain ⟨fuel, hf⟩ := h
  rcases open_slice_fields ht he hone hC hf with ⟨hcs, _⟩ | ⟨ad, l, c, m, D, Pl, hcs, _, hl, hm, hmm, hx, hi⟩
  · simp [Value.cells] at hcs
    obtain ⟨rfl, rfl, rfl⟩ := hcs
    exact ⟨by omega, fun h => absurd h (by omega)⟩
  · simp [Value.cells] at hcs
    obtain ⟨rfl, rfl, rfl⟩ := hcs
    simp only [Prod.mk.injEq] at hx
    have hw := hs ((((List.range len).map D).length + ((List.range (m - len)).map fun j => D (len + j)).length) * P.bytesOf e) (by rw [hx.1]; simp [DataW.weights, ht])
    simp only [if_true] at hmm
    subst hmm
    simp only [hby, List.length_map, List.length_range, reachBytes] at hw
    refine ⟨by omega, fun hpos => ?_⟩
    have hcell : ∀ i, i < len → ∃ x y z, w.cell? (ad.add (i * 3 + 0)) = some (.int .i64 x) ∧ w.cell? (ad.add (i * 3 + 1)) = some (.int .i64 y) ∧ w.cell? (ad.add (i * 3 + 2)) = some (.int .i64 z) := by
      intro i hil
      obtain ⟨ys, n, _, _, _, hfld⟩ := hi i (by omega)
      obtain ⟨v0, y0, c0, _, t0⟩ := hfld 0 f0 rfl
      obtain ⟨v1, y1, c1, _, t1⟩ := hfld 1 f1 rfl
      obtain ⟨v2, y2, c2, _, t2⟩ := hfld 2 f2 rfl
      rw [h0] at t0
      rw [h1] at t1
      rw [h2] at t2
      obtain ⟨x0, e0, _, _⟩ := DataW.trod_int hq t0
      obtain ⟨x1, e1, _, _⟩ := DataW.trod_int hq t1
      obtain ⟨x2, e2, _, _⟩ := DataW.trod_int hq t2
      simp at e0 e1 e2
      subst e0 e1 e2
      exact ⟨x0, x1, x2, c0, c1, c2⟩
    obtain ⟨b, off, spot⟩ := ad
    obtain ⟨x, y, z, hc0, hc1, _⟩ := hcell 0 hpos
    have hspot : spot = none := by
      have := World.cell?_spot hc0
      simpa [Addr.add] using this
    subst hspot
    refine ⟨b, off, rfl, ?_, fun i => if h : i < len then Classical.choose (hcell i h) else 0, fun i => if h : i < len then Classical.choose (Classical.choose_spec (hcell i h)) else 0,
      fun i => if h : i < len then Classical.choose (Classical.choose_spec (Classical.choose_spec (hcell i h))) else 0, fun i hil => ?_⟩
    · have := World.block_lt_of_cell? _ _ hc1
      simpa [Addr.add] using this
    · have := Classical.choose_spec (Classical.choose_spec (Classical.choose_spec (hcell i hil)))
      simp only [dif_pos hil]
      obtain ⟨g0, g1, g2⟩ := this
      refine ⟨?_, ?_, ?_⟩
      · exact (congrArg w.cell? (add_none b off (i * 3))).symm.trans g0
      · exact (congrArg w.cell? (add_none b off (i * 3 + 1))).symm.trans g1
      · exact (congrArg w.cell? (add_none b off (i * 3 + 2))).symm.trans g2

theorem IsOps.mod {S : List Nat} {w w' : World} {a : Option Addr} {len : Nat} (h : IsOps w a len) (hc : ∀ p : Addr, p.block < w.heap.size → w'.cell? p = w.cell? p) (hs : w.heap.size ≤ w'.heap.size) : IsOps w' a len := by
  refine ⟨h.1, fun hp => ?_⟩
  obtain ⟨b, off, rfl, hb, X, Y, Z, hx⟩ := h.2 hp
  refine ⟨b, off, rfl, by omega, X, Y, Z, fun i hi => ?_⟩
  obtain ⟨h0, h1, h2⟩ := hx i hi
  exact ⟨(hc _ hb).trans h0, (hc _ hb).trans h1, (hc _ hb).trans h2⟩

end Go.Tn
