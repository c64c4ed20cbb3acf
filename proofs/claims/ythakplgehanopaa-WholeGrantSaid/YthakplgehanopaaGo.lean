/-
  Whole: a grant as an argument, opened.
-/
import Derived.Test.YthakplgehanopaaGw
namespace Go.Proofs.Ythakplgehanopaa
open Go.ChangeShapes Go.WideShapes Go.ChangeAt Go.RowKit Go.Tn
open Go.Proofs

theorem cells23 : Try.prog.cellsOf 23 = 7 := by kernel_rfl
theorem cells3 : Try.prog.cellsOf 3 = 1 := by kernel_rfl
theorem cells4 : Try.prog.cellsOf 4 = 1 := by kernel_rfl

set_option maxRecDepth 100000 in
theorem open_grant {H : Type} {enc : TypeId × Value → H} {w : World} {base b0 : Nat} {v : Value} {d : DataW H} {ps : List MemPlace} (hv : Value.okWide Try.prog w .any b0 23 v) (h : DataW.Trod enc Try.prog w base (fun _ => true) true 23 v d ps) :
    ∃ (K : Int) (ro sub : Bool) (D P O L : Int), v = .agg #[.int .i64 K, .bool ro, .bool sub, .int .i64 D, .int .i64 P, .int .i64 O, .int .i64 L] ∧ (-9223372036854775808 ≤ O ∧ O ≤ 9223372036854775807) ∧ (-9223372036854775808 ≤ L ∧ L ≤ 9223372036854775807) := by
  obtain ⟨cs, rfl, hsz⟩ := okWide_struct Try.underlying23 hv
  rw [cells23] at hsz
  obtain ⟨l, rfl⟩ : ∃ l : List Value, cs = l.toArray := ⟨cs.toList, by simp⟩
  rw [List.size_toArray] at hsz
  match l, hsz with
  | [c0, c1, c2, c3, c4, c5, c6], _ =>
    obtain ⟨fuel, hf⟩ := h
    obtain ⟨ys, m, _, _, _, hl, hf⟩ := DataW.trod_struct Try.underlying23 hf
    match ys, hl with
    | [y0, y1, y2, y3, y4, y5, y6], _ =>
      have h0 := hf 0 _ rfl
      have h1 := hf 1 _ rfl
      have h2 := hf 2 _ rfl
      have h3 := hf 3 _ rfl
      have h4 := hf 4 _ rfl
      have h5 := hf 5 _ rfl
      have h6 := hf 6 _ rfl
      simp [Value.cells, cells3, cells4] at h0 h1 h2 h3 h4 h5 h6
      obtain ⟨n0, e0, _, w0⟩ := DataW.trod_int Try.underlying3 h0
      cases e0
      obtain ⟨n1, e1, _⟩ := DataW.trod_bool Try.underlying4 h1
      cases e1
      obtain ⟨n2, e2, _⟩ := DataW.trod_bool Try.underlying4 h2
      cases e2
      obtain ⟨n3, e3, _, w3⟩ := DataW.trod_int Try.underlying3 h3
      cases e3
      obtain ⟨n4, e4, _, w4⟩ := DataW.trod_int Try.underlying3 h4
      cases e4
      obtain ⟨n5, e5, _, w5⟩ := DataW.trod_int Try.underlying3 h5
      cases e5
      obtain ⟨n6, e6, _, w6⟩ := DataW.trod_int Try.underlying3 h6
      cases e6
      exact ⟨n0, n1, n2, n3, n4, n5, n6, rfl, bounds_i64 w5, bounds_i64 w6⟩

set_option maxRecDepth 100000 in
theorem grant_law (K : Int) (ro sub : Bool) (D P O L : Int) (hO : -9223372036854775808 ≤ O ∧ O ≤ 9223372036854775807) (hL : -9223372036854775808 ≤ L ∧ L ≤ 9223372036854775807) (sa : Option Addr) (len cp : Nat) (wrt : Bool) (o : Int) (wo : (Lit.int .u8 o).wf = true) (n : Int) (wn : (Lit.int .u8 n).wf = true) (w : World) (hU : IsU8s w sa len) :
    Calls Try.prog 3 #[.agg #[.int .i64 K, .bool ro, .bool sub, .int .i64 D, .int .i64 P, .int .i64 O, .int .i64 L], .slice sa len cp, .bool wrt, .int .u8 o, .int .u8 n] w fun e w' => e = .returned (.bool true) ∧ Below w.heap.size w w' := by
  have b1 := bounds_u8 wo
  have b2 := bounds_u8 wn
  have h := grant_walk K ro sub D P O L hO.1 hO.2 hL.1 hL.2 sa len cp wrt o.toNat n.toNat (by omega) (by omega) w hU
  rw [show ((o.toNat : Nat) : Int) = o by omega, show ((n.toNat : Nat) : Int) = n by omega] at h
  exact h
end Go.Proofs.Ythakplgehanopaa
