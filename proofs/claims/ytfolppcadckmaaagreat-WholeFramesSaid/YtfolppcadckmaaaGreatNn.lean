/-
  Frames: Pack of a grant; Leave of nobody; net.New.
-/
import Derived.Test.YtfolppcadckmaaaGreatTd
import Derived.Test.YtfolppcadckmaaaGreatRk
namespace Go.Proofs.YtfolppcadckmaaaGreat
open Go.RowKit Go.Tn
open Go.Proofs
set_option maxRecDepth 100000

set_option maxHeartbeats 4000000 in
theorem pack_g (K D P L : Int) (w : World) (k0 : 0 ≤ K) (k1 : K ≤ 2) (d0 : 0 ≤ D) (d1 : D < 65536) (p0 : 0 ≤ P) (p1 : P < 65536) (l0 : 1 ≤ L) (l1 : 0 + L ≤ 256) : Calls Tryz.prog 11 #[.agg #[.int .i64 K, .bool false, .bool false, .int .i64 D, .int .i64 P, .int .i64 0, .int .i64 L]] w fun e w' =>
    ∃ q, e = .returned (.tuple #[.slice (some ⟨q, 0, none⟩) 8 8, .int .i64 0]) ∧ Bys w' (some ⟨q, 0, none⟩) 8 (gB K false false D P 0 L) ∧ Tn.Mod [] w w' := by
  go_enter Tryz.func11, Tryz.ntmps11
  go_wp2
  go_ret2
  refine ⟨_, rfl, fun _ => ⟨_, 0, rfl, by simp, fun j hj => ?_⟩, ((Mod.refl [] w).alloc _).alloc _⟩
  have e : j = 0 ∨ j = 1 ∨ j = 2 ∨ j = 3 ∨ j = 4 ∨ j = 5 ∨ j = 6 ∨ j = 7 := by omega
  rcases e with rfl | rfl | rfl | rfl | rfl | rfl | rfl | rfl <;> simp [gB, go_sem]
  all_goals omega
/-- 'Pack', of grant P: a page that domain 3 may use. -/
theorem pack_f (P : Nat) (hP : P ≤ 3) (w : World) : Calls Tryz.prog 11 #[.agg #[.int .i64 1, .bool false, .bool false, .int .i64 3, .int .i64 (P : Nat), .int .i64 0, .int .i64 256]] w fun e w' =>
    ∃ q, e = .returned (.tuple #[.slice (some ⟨q, 0, none⟩) 8 8, .int .i64 0]) ∧ Bys w' (some ⟨q, 0, none⟩) 8 (gB 1 false false 3 (P : Nat) 0 256) ∧ Tn.Mod [] w w' :=
  pack_g 1 3 (P : Nat) 256 w (by decide) (by decide) (by decide) (by decide) (by omega) (by omega) (by decide) (by decide)

theorem ndomain_g (x : Int) (h0 : 0 ≤ x) (h8 : x < 8) (w : World) : Calls Tryz.prog 35 #[.int .i64 x] w fun e w' => e = .returned (.bool true) ∧ w = w' := by
  go_enter Tryz.func35, Tryz.ntmps35
  go_wp2
  go_ret
  exact ⟨rfl, rfl⟩

section
variable {w w' : World} {m fb x mb kb s bp bk : Nat} {F : Nat → Nat → Int} {f : Int → Option Value} {es : Array MapEntry} {c : Nat} {FP : List Nat} {C : Nat → Option Addr × Nat} {S : P14.St}

theorem gdomain_neg (w : World) : Calls Tryz.prog 30 #[.int .i64 (-1)] w fun e w' => e = .returned (.bool false) ∧ w = w' := by
  go_enter Tryz.func30, Tryz.ntmps30
  go_wp2
  go_ret
  exact ⟨rfl, rfl⟩
theorem leave_f (g : GH w x m mb kb f es c) : Calls Tryz.prog 33 #[.pointer (some ⟨x, 0, none⟩), .int .i64 (-1)] w fun e w' => e = .returned (.int .i64 1) ∧ w = w' := by
  have G := hid g
  clear g
  go_enter Tryz.func33, Tryz.ntmps33
  go_wp2_with (first
    | (go_at_call 28; refine (gnone_f G.out).mono ?_; rintro e w' ⟨rfl, rfl⟩)
    | (go_at_call 30; refine (gdomain_neg _).mono ?_; rintro e w' ⟨rfl, rfl⟩))
  go_ret
  exact ⟨rfl, rfl⟩

set_option maxHeartbeats 4000000 in
/-- 'New' of a backend. -/
theorem nnew_f (g : GH w x m mb kb f es c) (hb : Br.BM w s bp bk FP C S) (d oo ii : Nat) (hd : d < S.n) (h8 : S.n ≤ 8) (ho : oo < 256) (hi : ii < 256) :
    Calls Tryz.prog 13 #[.pointer (some ⟨x, 0, none⟩), .int .i64 3, .int .i64 (d : Nat), .int .i64 (oo : Nat), .int .i64 (ii : Nat), .pointer (some ⟨s, 0, none⟩), .int .i64 (d : Nat)] w fun e w' =>
      ∃ b o i, w.heap.size ≤ o ∧ o < i ∧ i < b ∧ e = .returned (.tuple #[.pointer (some ⟨b, 0, none⟩), .int .i64 0]) ∧ NB w' b x d o i s ∧ RB w' o oo 0 0 0 ∧ RB w' i ii 0 0 0 ∧ Tn.Mod [] w w' := by
  have G := hid g
  have HB := hid hb
  have hn0 : ((S.n : Int) == 0) = false := by simp; omega
  have hdn : (d : Int) < S.n := by omega
  have hd8 : d < 8 := by omega
  clear g hb hd
  go_enter Tryz.func13, Tryz.ntmps13
  go_wp2_with (first
    | (go_at_call 22; have hq := HI; refine (Br.ports_f (HB.out.newer HI2.out)).mono ?_; rintro e w' ⟨rfl, rfl⟩; clear hq)
    | (go_at_call 22; refine (Br.ports_f HB.out).mono ?_; rintro e w' ⟨rfl, rfl⟩)
    | (go_at_call 33; refine (leave_f G.out).mono ?_; rintro e w' ⟨rfl, rfl⟩)
    | (go_at_call 34; have hq := HO; refine (rnew_f ii hi _).mono ?_; rintro e w2 ⟨rfl, hr2, hm2⟩; have HI := hid hr2; have HO2 := hid (HO.out.mod0 hm2); have HI2 := hid (HM1.out.andThen hm2); have HS2 := hid hm2.size; have HL1 := hid (Blk.lt HO.out); clear hr2 hm2 hq)
    | (go_at_call 34; refine (rnew_f oo ho _).mono ?_; rintro e w1 ⟨rfl, hr1, hm1⟩; have HO := hid hr1; have HM1 := hid hm1; clear hr1 hm1)
    | (go_at_call 35; refine (ndomain_g _ (by omega) (by omega) _).mono ?_; rintro e w' ⟨rfl, rfl⟩))
  go_ret2
  have hm := (Mod.refl [] w2).alloc (.cells #[.pointer (some ⟨x, 0, none⟩), .int .i64 3, .int .i64 (d : Nat), .pointer (some ⟨w.heap.size, 0, none⟩), .pointer (some ⟨w1.heap.size, 0, none⟩), .pointer (some ⟨s, 0, none⟩), .int .i64 (d : Nat)] 101)
  exact ⟨_, _, _, Nat.le_refl _, HL1.out, Blk.lt HI.out, rfl, Blk.new _ _ _, HO2.out.mod0 hm, HI.out.mod0 hm, HI2.out.andThen hm⟩
end
end Go.Proofs.YtfolppcadckmaaaGreat
