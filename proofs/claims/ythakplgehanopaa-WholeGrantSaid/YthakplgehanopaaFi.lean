/-
  Whole: grants: frame, within, the end of a copy that is a grant.
-/
import Derived.Test.YthakplgehanopaaEn
namespace Go.Proofs.Ythakplgehanopaa
open Go.RowKit Go.Tn
open Go.Proofs
attribute [local go_sem] look69 look69b field79_0 field79_1

section
variable {w w' : World} {m fb x mb kb p1 bf bp v db r : Nat} {F F' : Nat → Nat → Int} {f : Int → Option Value} {es : Array MapEntry} {c : Nat}

theorem get23 (P : Int) (h : P = 0 ∨ P = 1) : P3.getV [2, 3] P = 2 + P ∧ P3.getE [2, 3] P = 0 := by rcases h with rfl | rfl <;> decide
theorem get23n (P : Int) (h : 2 ≤ P) : P3.getV [2, 3] P = 0 ∧ P3.getE [2, 3] P = 1 := by
  have hb : P3.inB [2, 3] P = false := by unfold P3.inB; simp; omega
  unfold P3.getV P3.getE
  rw [hb]
  exact ⟨rfl, rfl⟩

set_option maxRecDepth 100000 in
set_option maxHeartbeats 1000000 in
theorem gframe_ok (s : SG w m fb x mb kb p1 bf bp F f es c) (P : Int) (h : P = 0 ∨ P = 1) :
    Calls Try.prog 38 #[.pointer (some ⟨x, 0, none⟩), .int .i64 1, .int .i64 P] w fun e w' => e = .returned (.tuple #[.int .i64 (2 + P), .int .i64 0]) ∧ Tn.Mod [] w w' := by
  have c0 := s.gh.c0
  have c1 := s.gh.c1
  have mm := s.gh.mm
  have mg : _ = some (Value.agg #[Value.int .i64 2, Value.pointer (some ⟨p1, 0, none⟩)]) := (s.gh.mg 1).trans s.fo
  have hG := Pm.get_f s.pm P
  rw [(get23 P h).1, (get23 P h).2] at hG
  have hF : ∃ t k u : Int, Calls Try.prog 47 #[.pointer (some ⟨m, 0, none⟩), .int .i64 (2 + P)] w fun e w' => e = .returned (.tuple #[.agg #[.int .i64 1, .int .i64 t, .int .i64 k, .int .i64 u], .int .i64 0]) ∧ Tn.Mod [] w w' := by
    rcases h with rfl | rfl
    · have := frame_f s.ph 2 (by omega)
      rw [s.o2] at this
      exact ⟨_, _, _, this⟩
    · have := frame_f s.ph 3 (by omega)
      rw [s.o3] at this
      exact ⟨_, _, _, this⟩
  obtain ⟨t, k, u, hF⟩ := hF
  have HG := hid hG
  have HF := hid hF
  have hP : 0 ≤ P ∧ P ≤ 1 := by omega
  obtain ⟨hP0, hP1⟩ := hP
  clear s hG hF h
  go_enter Try.func38, Try.ntmps38
  go_wp2_with (first
    | (go_at_call 51; refine HG.out.mono ?_; rintro e w5 ⟨rfl, rfl⟩)
    | (go_at_call 47; refine HF.out.mono ?_; rintro e w5 ⟨rfl, hm5⟩; have HM5 := hid hm5; clear hm5))
  go_ret2
  exact ⟨rfl, HM5.out.alloc _⟩

set_option maxRecDepth 100000 in
set_option maxHeartbeats 1000000 in
theorem gframe_no (s : SG w m fb x mb kb p1 bf bp F f es c) (P : Int) (h : 2 ≤ P) :
    Calls Try.prog 38 #[.pointer (some ⟨x, 0, none⟩), .int .i64 1, .int .i64 P] w fun e w' => e = .returned (.tuple #[.int .i64 0, .int .i64 60]) ∧ Tn.Mod [] w w' := by
  have c1 := s.gh.c1
  have mm := s.gh.mm
  have mg : _ = some (Value.agg #[Value.int .i64 2, Value.pointer (some ⟨p1, 0, none⟩)]) := (s.gh.mg 1).trans s.fo
  have hG := Pm.get_f s.pm P
  rw [(get23n P h).1, (get23n P h).2] at hG
  have HG := hid hG
  clear s hG h
  go_enter Try.func38, Try.ntmps38
  go_wp2_with (go_at_call 51; refine HG.out.mono ?_; rintro e w5 ⟨rfl, rfl⟩)
  go_ret2
  exact ⟨rfl, Mod.refl _ _⟩

/-- Does a part lie in so many bytes? -/
def wthn (off n : Nat) (L : Int) : Bool := decide ((off : Int) ≤ L ∧ (n : Int) ≤ L - off)
theorem within_y (off n : Nat) (L : Int) (w : World) (h : wthn off n L = true) (hL : L ≤ 256) : Calls Try.prog 72 #[.int .i64 (off : Nat), .int .i64 (n : Nat), .int .i64 L] w fun e w' => e = .returned (.bool true) ∧ w = w' := by
  have h' : (off : Int) ≤ L ∧ (n : Int) ≤ L - off := by simpa [wthn] using h
  obtain ⟨h1, h2⟩ := h'
  clear h
  go_enter Try.func72, Try.ntmps72
  go_wp2
  go_ret
  exact ⟨rfl, rfl⟩
theorem within_n (off n : Nat) (L : Int) (w : World) (h : wthn off n L = false) (hL : L ≤ 256) (h0 : 0 ≤ L) : Calls Try.prog 72 #[.int .i64 (off : Nat), .int .i64 (n : Nat), .int .i64 L] w fun e w' => e = .returned (.bool false) ∧ w = w' := by
  have h' : ¬ ((off : Int) ≤ L ∧ (n : Int) ≤ L - off) := by simpa [wthn] using h
  clear h
  by_cases h1 : (off : Int) ≤ L
  · have h2 : ¬ (n : Int) ≤ L - off := fun h => h' ⟨h1, h⟩
    clear h'
    go_enter Try.func72, Try.ntmps72
    go_wp2
    go_ret
    exact ⟨rfl, rfl⟩
  · clear h'
    go_enter Try.func72, Try.ntmps72
    go_wp2
    go_ret
    exact ⟨rfl, rfl⟩
end
end Go.Proofs.Ythakplgehanopaa
