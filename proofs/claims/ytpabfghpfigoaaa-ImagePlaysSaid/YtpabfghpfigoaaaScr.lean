/-
  Arguments opened: a slice of structs of three ints, a byte and a slice of bytes; over any program.
-/
import Derived.Test.YtpabfghpfigoaaaArgs
import Derived.Test.YtpabfghpfigoaaaBase
namespace Go.Tn
open Go.ChangeShapes Go.WideShapes Go.Deep Go.RowKit

def blkOf : Option Addr → List Nat
  | some a => [a.block]
  | none => []
def Bytes (w : World) (A : Option Addr) (fr : List Int) : Prop := (∀ y, y ∈ fr → 0 ≤ y ∧ y ≤ 255) ∧ (0 < fr.length → ∃ b off, A = some ⟨b, off, none⟩ ∧ b < w.heap.size ∧ ∀ (j : Nat) (y : Int), fr[j]? = some y → w.cell? ⟨b, off + j, none⟩ = some (.int .u8 y))

/-- One operation: its cells at b, off. -/
structure OpV where
  x : Int
  y : Int
  z : Int
  u : Int
  F : Option Addr
  cf : Nat
  fr : List Int
def OpAt (w : World) (b off : Nat) (o : OpV) : Prop :=
  w.cell? ⟨b, off, none⟩ = some (.int .i64 o.x) ∧ w.cell? ⟨b, off + 1, none⟩ = some (.int .i64 o.y) ∧ w.cell? ⟨b, off + 2, none⟩ = some (.int .i64 o.z) ∧ w.cell? ⟨b, off + 3, none⟩ = some (.int .u8 o.u) ∧
    w.cell? ⟨b, off + 4, none⟩ = some (.slice o.F o.fr.length o.cf) ∧ Bytes w o.F o.fr ∧ o.fr.length ≤ 140737488351232 ∧ 0 ≤ o.u ∧ o.u ≤ 255
/-- What a walk is told of a script: where its cells lie, and what is in them. -/
def IsScr (w : World) (a : Option Addr) (len : Nat) (O : Nat → OpV) : Prop :=
  len * 56 ≤ 140737488351232 ∧ (0 < len → ∃ b off, a = some ⟨b, off, none⟩ ∧ b < w.heap.size ∧ ∀ i, i < len → OpAt w b (off + i * 5) (O i))

theorem weights_all {H : Type} {P : Program} {e : TypeId} : ∀ {ds : List (DataW H)} {d : DataW H} {n : Nat}, d ∈ ds → n ∈ d.weights P e → n ∈ DataW.weightsAll P e ds
  | x :: r, d, n, hd, hn => by
    simp only [DataW.weightsAll, List.mem_append]
    rcases List.mem_cons.1 hd with rfl | h
    · exact .inl hn
    · exact .inr (weights_all h hn)

section
variable {H : Type} {enc : TypeId × Value → H} {P : Program} {w : World} {base : Nat}

/-- A slice of bytes in a cell. -/
theorem bytes_of {t e : TypeId} {v : Value} {y : DataW H × List MemPlace} {n : Nat} (ht : P.underlying t = some (.slice e)) (he : P.underlying e = some (.int .u8)) (hc : P.cellsOf e = 1) (hby : P.bytesOf e = 1)
    (h : DataW.trod enc P w base (fun _ => true) true n t [v] = some y) (hs : ∀ k ∈ y.1.weights P t, k ≤ reachBytes) :
    ∃ F cf fr, v = .slice F (fr : List Int).length cf ∧ Bytes w F fr ∧ fr.length ≤ 140737488351232 := by
  rcases open_ints ht he hc h with ⟨hcs, hx⟩ | ⟨ad, l, c, zs, hcs, _, hl, hm, hz, hx, hcell, hwz⟩
  · simp at hcs
    exact ⟨none, 0, [], hcs, ⟨fun y hy => by simp at hy, fun h => by simp at h⟩, by simp⟩
  · simp at hcs
    simp only [if_true] at hz
    have hw := hs (((lits .u8 (zs.take l) : List (DataW H)).length + (lits .u8 (zs.drop l) : List (DataW H)).length) * P.bytesOf e) (by rw [hx]; simp [DataW.weights, ht])
    simp only [hby, lits, List.length_map, List.length_take, List.length_drop, reachBytes] at hw
    have hlen : (zs.take l).length = l := by rw [List.length_take]; omega
    refine ⟨some ad, c, zs.take l, by rw [hlen]; exact hcs, ⟨fun y hy => u8_wf (hwz y (List.mem_of_mem_take hy)), fun hpos => ?_⟩, by rw [hlen]; omega⟩
    rw [hlen] at hpos
    obtain ⟨b, off, spot⟩ := ad
    have h0 := hcell 0 (by omega)
    have hspot : spot = none := by
      have := World.cell?_spot h0
      simpa [Addr.add] using this
    subst hspot
    refine ⟨b, off, rfl, ?_, fun j y hj => ?_⟩
    · have := World.block_lt_of_cell? _ _ h0
      simpa [Addr.add] using this
    · have hjl := (List.getElem?_eq_some_iff.1 hj).1
      rw [hlen] at hjl
      have h1 := hcell j (by omega)
      rw [List.getElem?_take_of_lt hjl] at hj
      rw [List.getD_eq_getElem?_getD, hj] at h1
      exact (congrArg w.cell? (add_none b off j)).symm.trans h1

theorem open_scr {t e q tb ts eb : TypeId} {f0 f1 f2 f3 f4 : Field} {v : Value} {d : DataW H} {ps : List MemPlace} {b0 : Nat}
    (ht : P.underlying t = some (.slice e)) (he : P.underlying e = some (.struct #[f0, f1, f2, f3, f4])) (hq : P.underlying q = some (.int .i64)) (hb : P.underlying tb = some (.int .u8)) (hts : P.underlying ts = some (.slice eb)) (heb : P.underlying eb = some (.int .u8)) (hcb : P.cellsOf eb = 1) (hbb : P.bytesOf eb = 1)
    (h0 : f0.type = q) (h1 : f1.type = q) (h2 : f2.type = q) (h3 : f3.type = tb) (h4 : f4.type = ts)
    (hone : oneCellFields P #[f0, f1, f2, f3, f4] = true) (hC : P.cellsOf e = 5) (hby : P.bytesOf e = 56)
    (hv : Value.okWide P w .any b0 t v) (h : DataW.Trod enc P w base (fun _ => true) true t v d ps) (hs : ∀ n ∈ d.weights P t, n ≤ reachBytes) :
    ∃ a len cap, v = .slice a len cap ∧ ∃ O, IsScr w a len O := by
  obtain ⟨a, len, cap, rfl⟩ := okWide_slice ht hv
  refine ⟨a, len, cap, rfl, ?_⟩
  obtain ⟨fuel, hf⟩ := h
  rcases open_slice_fields ht he hone hC hf with ⟨hcs, _⟩ | ⟨ad, l, c, m, D, Pl, hcs, _, hl, hm, hmm, hx, hi⟩
  · simp [Value.cells] at hcs
    obtain ⟨rfl, rfl, rfl⟩ := hcs
    exact ⟨fun _ => ⟨0, 0, 0, 0, none, 0, []⟩, by omega, fun h => absurd h (by omega)⟩
  · simp [Value.cells] at hcs
    obtain ⟨rfl, rfl, rfl⟩ := hcs
    simp only [Prod.mk.injEq] at hx
    have hw := hs ((((List.range len).map D).length + ((List.range (m - len)).map fun j => D (len + j)).length) * P.bytesOf e) (by rw [hx.1]; simp [DataW.weights, ht])
    simp only [if_true] at hmm
    subst hmm
    simp only [hby, List.length_map, List.length_range, reachBytes] at hw
    by_cases hpos : 0 < len
    case neg => exact ⟨fun _ => ⟨0, 0, 0, 0, none, 0, []⟩, by omega, fun h => absurd h (by omega)⟩
    have hcell : ∀ i, i < len → ∃ x y z u F cf fr, w.cell? (ad.add (i * 5 + 0)) = some (.int .i64 x) ∧ w.cell? (ad.add (i * 5 + 1)) = some (.int .i64 y) ∧ w.cell? (ad.add (i * 5 + 2)) = some (.int .i64 z) ∧ w.cell? (ad.add (i * 5 + 3)) = some (.int .u8 u) ∧
        w.cell? (ad.add (i * 5 + 4)) = some (.slice F (fr : List Int).length cf) ∧ Bytes w F fr ∧ fr.length ≤ 140737488351232 ∧ 0 ≤ u ∧ u ≤ 255 := by
      intro i hil
      obtain ⟨ys, n, hD, _, _, hfld⟩ := hi i (by omega)
      obtain ⟨v0, y0, c0, _, t0⟩ := hfld 0 f0 rfl
      obtain ⟨v1, y1, c1, _, t1⟩ := hfld 1 f1 rfl
      obtain ⟨v2, y2, c2, _, t2⟩ := hfld 2 f2 rfl
      obtain ⟨v3, y3, c3, _, t3⟩ := hfld 3 f3 rfl
      obtain ⟨v4, y4, c4, hy4, t4⟩ := hfld 4 f4 rfl
      rw [h0] at t0
      rw [h1] at t1
      rw [h2] at t2
      rw [h3] at t3
      rw [h4] at t4
      obtain ⟨x0, e0, _, _⟩ := DataW.trod_int hq t0
      obtain ⟨x1, e1, _, _⟩ := DataW.trod_int hq t1
      obtain ⟨x2, e2, _, _⟩ := DataW.trod_int hq t2
      obtain ⟨x3, e3, g3, k3⟩ := DataW.trod_int hb t3
      simp at e0 e1 e2 e3
      subst e0 e1 e2 e3
      obtain ⟨F, cf, fr, rfl, hB, hL⟩ := bytes_of hts heb hcb hbb t4 (fun k hk => hs k (by
        rw [hx.1]
        simp only [DataW.weights, ht]
        refine List.mem_cons_of_mem _ (List.mem_append_left _ (weights_all (List.mem_map.2 ⟨i, List.mem_range.2 hil, rfl⟩) ?_))
        rw [hD]
        simp only [DataW.weights, he]
        exact DataW.weights_mem_each (j := 4) (t := ts) (by simp [h4]) (by rw [List.getElem?_map, hy4]; rfl) k hk))
      have hu := u8_wf (by first | exact g3 | exact k3)
      exact ⟨x0, x1, x2, x3, F, cf, fr, c0, c1, c2, c3, c4, hB, hL, hu.1, hu.2⟩
    obtain ⟨b, off, spot⟩ := ad
    obtain ⟨x, y, z, u, F, cf, fr, hc0, _⟩ := hcell 0 hpos
    have hspot : spot = none := by
      have := World.cell?_spot hc0
      simpa [Addr.add] using this
    subst hspot
    have hO : ∀ i, ∃ o : OpV, i < len → OpAt w b (off + i * 5) o := by
      intro i
      by_cases hil : i < len
      · obtain ⟨x, y, z, u, F, cf, fr, g0, g1, g2, g3, g4, g5, g6, g7⟩ := hcell i hil
        refine ⟨⟨x, y, z, u, F, cf, fr⟩, fun _ => ⟨?_, ?_, ?_, ?_, ?_, g5, g6, g7⟩⟩
        · exact (congrArg w.cell? (add_none b off (i * 5))).symm.trans g0
        · exact (congrArg w.cell? (add_none b off (i * 5 + 1))).symm.trans g1
        · exact (congrArg w.cell? (add_none b off (i * 5 + 2))).symm.trans g2
        · exact (congrArg w.cell? (add_none b off (i * 5 + 3))).symm.trans g3
        · exact (congrArg w.cell? (add_none b off (i * 5 + 4))).symm.trans g4
      · exact ⟨⟨0, 0, 0, 0, none, 0, []⟩, fun h => absurd h hil⟩
    obtain ⟨O, hall⟩ := Classical.axiomOfChoice hO
    refine ⟨O, by omega, fun hpos => ⟨b, off, rfl, ?_, hall⟩⟩
    have := World.block_lt_of_cell? _ _ hc0
    simpa [Addr.add] using this
end

end Go.Tn
