/-
  Whole: Get and Put of a machine of four frames.
-/
import Derived.Test.YtfolppcadckmaaaGreatPg
import Derived.BigQuiet
namespace Go.Proofs.YtfolppcadckmaaaGreat
open Go.RowKit Go.Tn
open Go.Proofs

section
variable {w w' : World} {m fb : Nat} {F : Nat → Nat → Int}

set_option maxRecDepth 100000 in
set_option maxHeartbeats 2000000 in
theorem get_0 (h : PH w m fb F) (i own : Nat) (hi : i < 14) (ho : F i 0 = (own : Int)) (hT : 0 ≤ F i 3) (hT2 : F i 3 ≤ 1000) :
    Calls Tryz.prog 31 #[.pointer (some ⟨m, 0, none⟩), .int .i64 (i : Nat), .int .i64 (own : Nat), .int .i64 0] w fun e w' => e = .returned (.int .i64 0) ∧ PH w' m fb (upd F i 3 (F i 3 + 1)) ∧ Tn.Mod [fb] w w' := by
  have c0 := h.num i 0 hi (by omega)
  have c3 := h.num i 3 hi (by omega)
  have f3 := h.fr.frozen (i * 260 + 3)
  rw [Nat.add_zero, ho] at c0
  have H := hid h
  have HS := hid (h.store i 3 hi (by omega) (F i 3 + 1))
  have hI := hid hi
  have hob : ((own : Int) == -1) = false := beq_eq_false_iff_ne.2 (by omega)
  generalize F i 3 = v3 at c3 HS hT hT2 ⊢
  clear h hi ho
  go_enter Tryz.func31, Tryz.ntmps31
  go_wp2_with (go_at_call 60; refine (kinds_f H.out i 0 hI.out (by omega)).mono ?_; rintro e w' ⟨rfl, rfl⟩)
  go_ret
  exact ⟨rfl, HS.out, (Mod.refl _ w).setCell (.inl (by simp)) _⟩

theorem upd_oth {F : Nat → Nat → Int} {i c a b : Nat} {v : Int} (h : ¬ (a = i ∧ b = c)) : upd F i c v a b = F a b := by unfold upd; rw [if_neg h]
theorem upd_at {F : Nat → Nat → Int} {i c : Nat} {v : Int} : upd F i c v i c = v := by unfold upd; rw [if_pos ⟨rfl, rfl⟩]

set_option maxRecDepth 100000 in
set_option maxHeartbeats 2000000 in
theorem get_1 (h : PH w m fb F) (i own : Nat) (hi : i < 14) (ho : F i 0 = (own : Int)) (ht : F i 1 = 0 ∨ F i 1 = 1) (hT : 0 ≤ F i 3) (hT2 : F i 3 ≤ 1000) (hC : 0 ≤ F i 2) (hC2 : F i 2 ≤ 1000) :
    Calls Tryz.prog 31 #[.pointer (some ⟨m, 0, none⟩), .int .i64 (i : Nat), .int .i64 (own : Nat), .int .i64 1] w fun e w' => e = .returned (.int .i64 0) ∧ PH w' m fb (upd (upd (upd F i 3 (F i 3 + 1)) i 1 1) i 2 (F i 2 + 1)) ∧ Tn.Mod [fb] w w' := by
  have c0 := h.num i 0 hi (by omega)
  have c1 := h.num i 1 hi (by omega)
  have c3 := h.num i 3 hi (by omega)
  have f3 := h.fr.frozen (i * 260 + 3)
  rw [Nat.add_zero, ho] at c0
  have H := hid h
  have h1 := h.store i 3 hi (by omega) (F i 3 + 1)
  have f1 := h1.fr.frozen (i * 260 + 1)
  have h2 := h1.store i 1 hi (by omega) 1
  have c2 := h2.num i 2 hi (by omega)
  rw [upd_oth (by omega), upd_oth (by omega)] at c2
  have f2 := h2.fr.frozen (i * 260 + 2)
  have h3 := h2.store i 2 hi (by omega) (F i 2 + 1)
  have HS := hid h3
  have hI := hid hi
  have hob : ((own : Int) == -1) = false := beq_eq_false_iff_ne.2 (by omega)
  generalize F i 3 = v3 at c3 HS hT hT2 f1 f2 c2 ⊢
  generalize F i 2 = v2 at c2 HS hC hC2 ⊢
  rcases ht with ht | ht
  · rw [ht] at c1
    clear h hi ho h1 h2 h3 ht
    go_enter Tryz.func31, Tryz.ntmps31
    go_wp2_with (go_at_call 60; refine (kinds_f H.out i 1 hI.out (by omega)).mono ?_; rintro e w' ⟨rfl, rfl⟩)
    go_ret
    exact ⟨rfl, HS.out, (((Mod.refl _ w).setCell (.inl (by simp)) _).setCell (.inl (by simp)) _).setCell (.inl (by simp)) _⟩
  · rw [ht] at c1
    clear h hi ho h1 h2 h3 ht
    go_enter Tryz.func31, Tryz.ntmps31
    go_wp2_with (go_at_call 60; refine (kinds_f H.out i 1 hI.out (by omega)).mono ?_; rintro e w' ⟨rfl, rfl⟩)
    go_ret
    exact ⟨rfl, HS.out, (((Mod.refl _ w).setCell (.inl (by simp)) _).setCell (.inl (by simp)) _).setCell (.inl (by simp)) _⟩

end
end Go.Proofs.YtfolppcadckmaaaGreat
