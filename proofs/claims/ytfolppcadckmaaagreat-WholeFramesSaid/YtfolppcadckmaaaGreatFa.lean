/-
  Frames: the arguments opened: slices of bytes; slices of slices of bytes.
-/
import Derived.Test.YtfolppcadckmaaaGreatLw
import Derived.Test.YtfolppcadckmaaaGreatArgs
import Derived.Deep.Matrix
namespace Go.Tn
open Go.ChangeShapes Go.WideShapes Go.Deep Go.RowKit

def IsRows (w : World) (B : Option Addr) (k : Nat) : Prop :=
  24 * k ≤ 140737488351232 ∧ (0 < k → ∃ b off, B = some ⟨b, off, none⟩ ∧ b < w.heap.size ∧ ∃ (A : Nat → Option Addr) (L C : Nat → Nat) (G : Nat → Nat → Int), ∀ r, r < k → w.cell? ⟨b, off + r, none⟩ = some (.slice (A r) (L r) (C r)) ∧
    (0 < L r → ∃ b' off', A r = some ⟨b', off', none⟩ ∧ b' < w.heap.size ∧ ∀ c, c < L r → w.cell? ⟨b', off' + c, none⟩ = some (.int .u8 (G r c)) ∧ 0 ≤ G r c ∧ G r c ≤ 255))

section
variable {H : Type} {enc : TypeId × Value → H} {P : Program} {w : World} {base : Nat}

theorem open_u8rows {t e q : TypeId} {v : Value} {d : DataW H} {ps : List MemPlace} {b0 : Nat} (ht : P.underlying t = some (.slice e)) (he : P.underlying e = some (.slice q)) (hq : P.underlying q = some (.int .u8)) (ce : P.cellsOf e = 1) (cq : P.cellsOf q = 1) (hby : P.bytesOf e = 24)
    (hv : Value.okWide P w .any b0 t v) (h : DataW.Trod enc P w base (fun _ => true) true t v d ps) (hs : ∀ n ∈ d.weights P t, n ≤ reachBytes) :
    ∃ a len cap, v = .slice a len cap ∧ IsRows w a len := by
  obtain ⟨a, len, cap, rfl⟩ := okWide_slice ht hv
  refine ⟨a, len, cap, rfl, ?_⟩
  obtain ⟨fuel, hf⟩ := h
  rcases open_int_rows ht he hq ce cq hf with ⟨hcs, hx⟩ | ⟨ad, l, c, A, L, C, Z, hcs, _, hl, hm, hx, hrow⟩
  · simp [Value.cells] at hcs
    obtain ⟨rfl, rfl, rfl⟩ := hcs
    exact ⟨by omega, fun h => absurd h (by omega)⟩
  · simp [Value.cells] at hcs
    obtain ⟨rfl, rfl, rfl⟩ := hcs
    simp only [Prod.mk.injEq] at hx
    have hw := hs ((((List.range len).map fun r => intRow (H := H) .u8 (A r) (L r) (Z r)).length + ((List.range (cap - len)).map fun j => intRow (H := H) .u8 (A (len + j)) (L (len + j)) (Z (len + j))).length) * P.bytesOf e) (by rw [hx.1]; simp [DataW.weights, ht])
    simp only [hby, List.length_map, List.length_range, reachBytes] at hw
    refine ⟨by omega, fun hpos => ?_⟩
    obtain ⟨b, off, spot⟩ := ad
    have h0 := (hrow 0 (by omega)).1
    have hspot : spot = none := by
      have := World.cell?_spot h0
      simpa [Addr.add] using this
    subst hspot
    refine ⟨b, off, rfl, ?_, A, L, C, fun r c => (Z r).getD c 0, fun r hr => ?_⟩
    · have := World.block_lt_of_cell? _ _ h0
      simpa [Addr.add] using this
    · obtain ⟨h1, h2, _, h4, h5, h6, h7⟩ := hrow r (by omega)
      refine ⟨(congrArg w.cell? (add_none b off r)).symm.trans h1, fun hL => ?_⟩
      cases hA : A r with
      | none => have := h6 hA; omega
      | some a' =>
        obtain ⟨b', off', spot'⟩ := a'
        have h8 := (h7 _ hA).2
        have h9 := h8 0 (by omega)
        have hspot : spot' = none := by
          have := World.cell?_spot h9
          simpa [Addr.add] using this
        subst hspot
        refine ⟨b', off', rfl, ?_, fun c hc => ?_⟩
        · have := World.block_lt_of_cell? _ _ h9
          simpa [Addr.add] using this
        · have hmem : (Z r).getD c 0 ∈ Z r := by
            rw [List.getD_eq_getElem?_getD, List.getElem?_eq_getElem (by omega)]
            exact List.getElem_mem _
          have h10 := u8_wf (h5 _ hmem)
          exact ⟨(congrArg w.cell? (add_none b' off' c)).symm.trans (h8 c (by omega)), h10.1, h10.2⟩
end
end Go.Tn
namespace Go.Proofs.YtfolppcadckmaaaGreat
open Go.RowKit Go.Tn
open Go.Proofs

theorem frames_law (a0 : Option Addr) (n c0 : Nat) (a1 : Option Addr) (k c1 : Nat) (W : World) (h0 : IsU8s W a0 n) (h1 : IsRows W a1 k) :
    Calls Tryz.prog 3 #[.slice a0 n c0, .slice a1 k c1] W fun e w' => e = .returned (.bool true) ∧ Below W.heap.size W w' := by
  have hA : ∃ gs : Nat → Nat, ∀ j, j < n → ∃ b off, a0 = some ⟨b, off, none⟩ ∧ (∀ W', Tn.Mod [] W W' → W'.cell? ⟨b, off + j, none⟩ = some (.int .u8 (gs j : Nat))) ∧ gs j < 256 := by
    by_cases hn : 0 < n
    · obtain ⟨b, off, e, hb, Y, hY⟩ := h0.2 hn
      refine ⟨fun j => (Y j).toNat, fun j hj => ⟨b, off, e, fun W' hm => ?_, show (Y j).toNat < 256 by have := hY j hj; omega⟩⟩
      have h2 := hY j hj
      show _ = some (Value.int .u8 (((Y j).toNat : Nat) : Int))
      rw [show (((Y j).toNat : Nat) : Int) = Y j by omega]
      exact (hm.cell (p := ⟨b, _, none⟩) hb (by simp)).trans h2.1
    · exact ⟨fun _ => 0, fun j hj => by omega⟩
  have hB : ∃ (fa : Nat → Option Addr) (fl fc : Nat → Nat) (fg : Nat → Nat → Int), ∀ j, j < k → (∃ b off, a1 = some ⟨b, off, none⟩ ∧ ∀ W', Tn.Mod [] W W' → W'.cell? ⟨b, off + j, none⟩ = some (.slice (fa j) (fl j) (fc j))) ∧
      (∀ W', Tn.Mod [] W W' → Bys W' (fa j) (fl j) (fg j)) ∧ ∀ t, t < fl j → 0 ≤ fg j t ∧ fg j t ≤ 255 := by
    by_cases hk : 0 < k
    · obtain ⟨b, off, e, hb, A, L, C, G, hG⟩ := h1.2 hk
      refine ⟨A, L, C, G, fun j hj => ⟨⟨b, off, e, fun W' hm => (hm.cell (p := ⟨b, _, none⟩) hb (by simp)).trans (hG j hj).1⟩, fun W' hm h3 => ?_, fun t ht => ?_⟩⟩
      · obtain ⟨b', off', e', hb', hc⟩ := (hG j hj).2 h3
        exact ⟨b', off', e', Nat.lt_of_lt_of_le hb' hm.size, fun t ht => (hm.cell (p := ⟨b', _, none⟩) hb' (by simp)).trans (hc t ht).1⟩
      · obtain ⟨b', off', e', hb', hc⟩ := (hG j hj).2 (by omega)
        exact (hc t ht).2
    · exact ⟨fun _ => none, fun _ => 0, fun _ => 0, fun _ _ => 0, fun j hj => by omega⟩
  obtain ⟨gs, hgs⟩ := hA
  obtain ⟨fa, fl, fc, fg, hf⟩ := hB
  have hn := h0.1
  have hk := h1.1
  refine (law_f (gs := gs) (fa := fa) (fl := fl) (fc := fc) (fg := fg) ⟨by omega, by omega, hgs, fun j hj => (hf j hj).1, fun j hj => (hf j hj).2.1, fun j hj => (hf j hj).2.2⟩).mono ?_
  rintro e w' ⟨rfl, hm⟩
  exact ⟨rfl, hm.below (Nat.le_refl _) (fun _ h => by cases h)⟩
end Go.Proofs.YtfolppcadckmaaaGreat
