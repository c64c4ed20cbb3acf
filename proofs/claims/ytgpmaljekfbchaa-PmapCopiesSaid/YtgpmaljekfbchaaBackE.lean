/-
  Layer 3: PmapBack: the walk at an empty script; both walks joined.
-/
import Derived.Test.YtgpmaljekfbchaaBackW
namespace Go.Proofs.Ytgpmaljekfbchaa
open Go.RowKit Go.Tn Go.Tn.P3

set_option maxRecDepth 100000 in
set_option maxHeartbeats 1000000 in
theorem back_empty (n : Int) (a : Option Addr) (cap : Nat) (w : World) (hn : 0 ≤ n) (hn' : n ≤ 255) :
    Calls Try.prog 4 #[.int .u8 n, .slice a 0 cap] w fun e w' => e = .returned (.bool true) ∧ Below w.heap.size w w' := by
  obtain ⟨m, hm⟩ : ∃ m : Nat, n % 49 = (m : Int) := ⟨(n % 49).toNat, by omega⟩
  have hm48 : m ≤ 48 := by omega
  go_enter Try.func4, Try.ntmps4
  go_wp2_with (first
      | (go_at_call 8; refine (new_ok m _ hm48).mono ?_; rintro e w1 ⟨rfl, hq, hm1⟩; have HQ := hid hq; have HM1 := hid hm1; have HN := hid hm; clear hq hm1 hm))
  refine wp_loop_rounds 1 ?_
  rw [rounds_succ]
  have hsz := size_f HQ.out
  have hN : ((List.replicate m (-1 : Int)).length : Int) = n % 49 := by have := HN.out; simp; omega
  rw [hN] at hsz
  have HS := hid hsz
  clear hsz hN
  go_wp2_with (first
    | (go_at_call 15; refine HS.out.mono ?_; rintro e w' ⟨rfl, rfl⟩))
  go_ret
  exact ⟨rfl, HM1.out.below (Nat.le_refl _) (by simp)⟩

theorem back_row (n : Int) (hn : (Lit.int .u8 n).wf = true) (a : Option Addr) (len cap : Nat) (w : World) (ho : IsOps w a len) :
    Calls Try.prog 4 #[.int .u8 n, .slice a len cap] w fun e w' => e = .returned (.bool true) ∧ Below w.heap.size w w' := by
  rcases Nat.eq_zero_or_pos len with rfl | h
  · exact back_empty n a cap w (bounds_u8 hn).1 (bounds_u8 hn).2
  · exact back_walk n a len cap w (bounds_u8 hn).1 (bounds_u8 hn).2 ho h

/-- A script that came in, opened. -/
theorem open_script {H : Type} {enc : TypeId × Value → H} {w : World} {base : Nat} {v : Value} {d : DataW H} {ps : List MemPlace} {b0 : Nat}
    (hv : Value.okWide Try.prog w .any b0 34 v) (h : DataW.Trod enc Try.prog w base (fun _ => true) true 34 v d ps) (hs : ∀ n ∈ d.weights Try.prog 34, n ≤ reachBytes) :
    ∃ a len cap, v = .slice a len cap ∧ IsOps w a len :=
  open_ops Try.underlying34 Try.underlying36 Try.underlying3 rfl rfl rfl (by kernel_rfl) (by kernel_rfl) (by kernel_rfl) hv h hs

end Go.Proofs.Ytgpmaljekfbchaa
