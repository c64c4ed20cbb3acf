/-
  Layer 14: the law's helper play: each call of a script on both switches.
-/
import Derived.Test.YtkdhkloabbcipaaTw
import Derived.Deep.RegionHeld3
namespace Go.Proofs.Ytkdhkloabbcipaa
open Go.RowKit Go.Tn Go.Tn.P14

section
variable {w0 w w' : World} {Kp : List (Nat × Obj)} {p bp bk q rp ac : Nat} {A F : Option Addr} {S R S' R' : St} {fr : List Int} {M : Int} {cf : Nat}

set_option maxRecDepth 100000 in
set_option maxHeartbeats 2000000 in
theorem play_1 (h : Two w0 w Kp p bp bk q rp A ac S S) (y z u : Int) (n : Bool) (m : Nat) :
    Calls Try.prog 18 #[.pointer (some ⟨p, 0, none⟩), .pointer (some ⟨q, 0, none⟩), .agg #[.int .i64 1, .int .i64 y, .int .i64 z, .int .i64 u, .bool n, .slice F m cf]] w fun e w' => e = .returned (.bool true) ∧ Two w0 w' Kp p bp bk q rp A ac (rateS S y z u) (rateS S y z u) := by
  have HK := hid (h.add ((Mod.refl [] w).alloc (.cells #[.int .i64 1, .int .i64 y, .int .i64 z, .int .i64 u, .bool n, .slice F m cf] 49)) (heap_alloc_new w _) (Nat.le_refl _))
  clear h
  go_enter Try.func18, Try.ntmps18
  go_wp2_with fail
  generalize w.alloc (.cells #[.int .i64 1, .int .i64 y, .int .i64 z, .int .i64 u, .bool n, .slice F m cf] 49) = w1 at *
  have k1 : w1.cell? ⟨w.heap.size, 1, none⟩ = some (.int .i64 y) := HK.out.cell List.mem_cons_self 1
  have k2 : w1.cell? ⟨w.heap.size, 2, none⟩ = some (.int .i64 z) := HK.out.cell List.mem_cons_self 2
  have k3 : w1.cell? ⟨w.heap.size, 3, none⟩ = some (.int .i64 u) := HK.out.cell List.mem_cons_self 3
  go_region_held3 (fun w' => w'.cell? ⟨w.heap.size, 1, none⟩ = some (.int .i64 y) ∧ w'.cell? ⟨w.heap.size, 2, none⟩ = some (.int .i64 z) ∧ w'.cell? ⟨w.heap.size, 3, none⟩ = some (.int .i64 u)) (first | exact ⟨H1.out.cell List.mem_cons_self 1, H1.out.cell List.mem_cons_self 2, H1.out.cell List.mem_cons_self 3⟩ | exact ⟨HK.out.cell List.mem_cons_self 1, HK.out.cell List.mem_cons_self 2, HK.out.cell List.mem_cons_self 3⟩ | go_keep) (first
    | (go_at_call 10; refine (Two.rate (by first | exact HK.out.drew | exact HK.out | exact H1.out) y z u).mono ?_; rintro e w2 ⟨rfl, h1⟩; have H1 := hid h1; clear h1)
    | (go_at_call 31; refine (Two.rrate (by first | exact HK.out.drew | exact HK.out | exact H1.out) y z u).mono ?_; rintro e w2 ⟨rfl, h1⟩; have H1 := hid h1; clear h1))
  all_goals go_wp2
  all_goals go_ret
  all_goals exact ⟨by simp, H1.out.less⟩

set_option maxRecDepth 100000 in
set_option maxHeartbeats 2000000 in
theorem play_4 (h : Two w0 w Kp p bp bk q rp A ac S S) (G : Ok S M) (hM : M ≤ 1152921504606846000) (y z u : Int) (n : Bool) (m : Nat) :
    Calls Try.prog 18 #[.pointer (some ⟨p, 0, none⟩), .pointer (some ⟨q, 0, none⟩), .agg #[.int .i64 4, .int .i64 y, .int .i64 z, .int .i64 u, .bool n, .slice F m cf]] w fun e w' => e = .returned (.bool true) ∧ Two w0 w' Kp p bp bk q rp A ac (doneS S y n) (doneS S y n) := by
  have HK := hid (h.add ((Mod.refl [] w).alloc (.cells #[.int .i64 4, .int .i64 y, .int .i64 z, .int .i64 u, .bool n, .slice F m cf] 49)) (heap_alloc_new w _) (Nat.le_refl _))
  clear h
  have HG := hid G
  clear G
  go_enter Try.func18, Try.ntmps18
  go_wp2_with fail
  generalize w.alloc (.cells #[.int .i64 4, .int .i64 y, .int .i64 z, .int .i64 u, .bool n, .slice F m cf] 49) = w1 at *
  have k1 : w1.cell? ⟨w.heap.size, 1, none⟩ = some (.int .i64 y) := HK.out.cell List.mem_cons_self 1
  have k4 : w1.cell? ⟨w.heap.size, 4, none⟩ = some (.bool n) := HK.out.cell List.mem_cons_self 4
  go_region_held3 (fun w' => w'.cell? ⟨w.heap.size, 1, none⟩ = some (.int .i64 y) ∧ w'.cell? ⟨w.heap.size, 4, none⟩ = some (.bool n)) (first | exact ⟨H1.out.cell List.mem_cons_self 1, H1.out.cell List.mem_cons_self 4⟩ | exact ⟨HK.out.cell List.mem_cons_self 1, HK.out.cell List.mem_cons_self 4⟩ | go_keep) (first
    | (go_at_call 24; refine (Two.done (by first | exact HK.out.drew | exact HK.out | exact H1.out) HG.out hM y n).mono ?_; rintro e w2 ⟨rfl, h1⟩; have H1 := hid h1; clear h1)
    | (go_at_call 34; refine (Two.rdone (by first | exact HK.out.drew | exact HK.out | exact H1.out) HG.out hM y n).mono ?_; rintro e w2 ⟨rfl, h1⟩; have H1 := hid h1; clear h1))
  all_goals go_wp2
  all_goals go_ret
  all_goals exact ⟨by simp, H1.out.less⟩

set_option maxRecDepth 100000 in
set_option maxHeartbeats 2000000 in
theorem play_6 (h : Two w0 w Kp p bp bk q rp A ac S S) (G : Ok S M) (hM : M ≤ 1152921504606846000) (y z u : Int) (n : Bool) (m : Nat) :
    Calls Try.prog 18 #[.pointer (some ⟨p, 0, none⟩), .pointer (some ⟨q, 0, none⟩), .agg #[.int .i64 6, .int .i64 y, .int .i64 z, .int .i64 u, .bool n, .slice F m cf]] w fun e w' => e = .returned (.bool true) ∧ Two w0 w' Kp p bp bk q rp A ac (downS S y) (downS S y) := by
  have HK := hid (h.add ((Mod.refl [] w).alloc (.cells #[.int .i64 6, .int .i64 y, .int .i64 z, .int .i64 u, .bool n, .slice F m cf] 49)) (heap_alloc_new w _) (Nat.le_refl _))
  clear h
  have HG := hid G
  clear G
  go_enter Try.func18, Try.ntmps18
  go_wp2_with fail
  generalize w.alloc (.cells #[.int .i64 6, .int .i64 y, .int .i64 z, .int .i64 u, .bool n, .slice F m cf] 49) = w1 at *
  have k1 : w1.cell? ⟨w.heap.size, 1, none⟩ = some (.int .i64 y) := HK.out.cell List.mem_cons_self 1
  go_region_held3 (fun w' => w'.cell? ⟨w.heap.size, 1, none⟩ = some (.int .i64 y)) (first | exact H1.out.cell List.mem_cons_self 1 | exact HK.out.cell List.mem_cons_self 1 | go_keep) (first
    | (go_at_call 15; refine (Two.down (by first | exact HK.out.drew | exact HK.out | exact H1.out) HG.out hM y).mono ?_; rintro e w2 ⟨rfl, h1⟩; have H1 := hid h1; clear h1)
    | (go_at_call 19; refine (Two.rdown (by first | exact HK.out.drew | exact HK.out | exact H1.out) HG.out hM y).mono ?_; rintro e w2 ⟨rfl, h1⟩; have H1 := hid h1; clear h1))
  all_goals go_wp2
  all_goals go_ret
  all_goals exact ⟨by simp, H1.out.less⟩

set_option maxRecDepth 100000 in
set_option maxHeartbeats 2000000 in
theorem play_7 (h : Two w0 w Kp p bp bk q rp A ac S S) (x : Int) (G : Ok S M) (hM : M ≤ 1152921504606846000) (h0 : (x == 0) = false) (h1 : (x == 1) = false) (h2 : (x == 2) = false) (h3 : (x == 3) = false) (h4 : (x == 4) = false) (h5 : (x == 5) = false) (h6 : (x == 6) = false) (y z u : Int) (n : Bool) (m : Nat) :
    Calls Try.prog 18 #[.pointer (some ⟨p, 0, none⟩), .pointer (some ⟨q, 0, none⟩), .agg #[.int .i64 x, .int .i64 y, .int .i64 z, .int .i64 u, .bool n, .slice F m cf]] w fun e w' => e = .returned (.bool true) ∧ Two w0 w' Kp p bp bk q rp A ac (badS S y) (badS S y) := by
  have HK := hid (h.add ((Mod.refl [] w).alloc (.cells #[.int .i64 x, .int .i64 y, .int .i64 z, .int .i64 u, .bool n, .slice F m cf] 49)) (heap_alloc_new w _) (Nat.le_refl _))
  clear h
  have HG := hid G
  clear G
  go_enter Try.func18, Try.ntmps18
  go_wp2_with fail
  generalize w.alloc (.cells #[.int .i64 x, .int .i64 y, .int .i64 z, .int .i64 u, .bool n, .slice F m cf] 49) = w1 at *
  have k1 : w1.cell? ⟨w.heap.size, 1, none⟩ = some (.int .i64 y) := HK.out.cell List.mem_cons_self 1
  go_region_held3 (fun w' => w'.cell? ⟨w.heap.size, 1, none⟩ = some (.int .i64 y)) (first | exact H1.out.cell List.mem_cons_self 1 | exact HK.out.cell List.mem_cons_self 1 | go_keep) (first
    | (go_at_call 23; refine (Two.bad (by first | exact HK.out.drew | exact HK.out | exact H1.out) HG.out hM y).mono ?_; rintro e w2 ⟨rfl, h1⟩; have H1 := hid h1; clear h1)
    | (go_at_call 36; refine (Two.rbad (by first | exact HK.out.drew | exact HK.out | exact H1.out) HG.out hM y).mono ?_; rintro e w2 ⟨rfl, h1⟩; have H1 := hid h1; clear h1))
  all_goals go_wp2
  all_goals go_ret
  all_goals exact ⟨by simp, H1.out.less⟩

set_option maxRecDepth 100000 in
set_option maxHeartbeats 2000000 in
theorem play_2 (h : Two w0 w Kp p bp bk q rp A ac S S) (G : Ok S M) (hM : M ≤ 1152921504606846000) (y z u : Int) (n : Bool) (m : Nat) :
    Calls Try.prog 18 #[.pointer (some ⟨p, 0, none⟩), .pointer (some ⟨q, 0, none⟩), .agg #[.int .i64 2, .int .i64 y, .int .i64 z, .int .i64 u, .bool n, .slice F m cf]] w fun e w' => e = .returned (.bool true) ∧ Two w0 w' Kp p bp bk q rp A ac (tickS S) (tickS S) := by
  have HK := hid (h.add ((Mod.refl [] w).alloc (.cells #[.int .i64 2, .int .i64 y, .int .i64 z, .int .i64 u, .bool n, .slice F m cf] 49)) (heap_alloc_new w _) (Nat.le_refl _))
  clear h
  have HG := hid G
  clear G
  go_enter Try.func18, Try.ntmps18
  go_wp2_with (first
    | (go_at_call 32; refine (Two.rtick HK.out HG.out).mono ?_; rintro e w2 ⟨rfl, h1⟩; have H1 := hid h1; clear h1)
    | (go_at_call 12; refine (Two.tick H1.out HG.out).mono ?_; rintro e w3 ⟨rfl, h2⟩; have H2 := hid h2; clear h2))
  go_ret
  exact ⟨rfl, H2.out.less⟩

set_option maxRecDepth 100000 in
set_option maxHeartbeats 2000000 in
theorem play_3 (h : Two w0 w Kp p bp bk q rp A ac S S) (G : Ok S M) (hM : M ≤ 1152921504606846000) (y z u : Int) (n : Bool) (m : Nat) :
    Calls Try.prog 18 #[.pointer (some ⟨p, 0, none⟩), .pointer (some ⟨q, 0, none⟩), .agg #[.int .i64 3, .int .i64 y, .int .i64 z, .int .i64 u, .bool n, .slice F m cf]] w fun e w' => e = .returned (.bool true) ∧ Two w0 w' Kp p bp bk q rp A ac (S) (S) := by
  have HK := hid (h.add ((Mod.refl [] w).alloc (.cells #[.int .i64 3, .int .i64 y, .int .i64 z, .int .i64 u, .bool n, .slice F m cf] 49)) (heap_alloc_new w _) (Nat.le_refl _))
  clear h
  have HG := hid G
  clear G
  go_enter Try.func18, Try.ntmps18
  go_wp2_with fail
  have k1 := HK.out.cell List.mem_cons_self 1
  go_wp2_with (first
    | (go_at_call 22; refine (Two.head HK.out HG.out y).mono ?_; rintro e w2 ⟨⟨A1, c1, rfl, hb1⟩, h1, hm1⟩; have H1 := hid h1; have k1 : w2.cell? ⟨w.heap.size, 1, none⟩ = some (.int .i64 y) := H1.out.cell List.mem_cons_self 1; have HB1 := hid hb1; clear h1 hb1 hm1)
    | (go_at_call 33; refine (Two.rhead H1.out HG.out y).mono ?_; rintro e w3 ⟨⟨A2, c2, rfl, hb2⟩, h2, hm2⟩; have H2 := hid h2; have g1 := bytes_string (HB1.out.mod hm2 (by simp)) c1; have g2 := bytes_string hb2 c2; clear h2 hb2 hm2))
  go_ret
  exact ⟨by simp, H2.out.less⟩

set_option maxRecDepth 100000 in
set_option maxHeartbeats 2000000 in
theorem play_5 (h : Two w0 w Kp p bp bk q rp A ac S S) (y z u : Int) (n : Bool) (m : Nat) :
    Calls Try.prog 18 #[.pointer (some ⟨p, 0, none⟩), .pointer (some ⟨q, 0, none⟩), .agg #[.int .i64 5, .int .i64 y, .int .i64 z, .int .i64 u, .bool n, .slice F m cf]] w fun e w' => e = .returned (.bool true) ∧ Two w0 w' Kp p bp bk q rp A ac (S) (S) := by
  have HK := hid (h.add ((Mod.refl [] w).alloc (.cells #[.int .i64 5, .int .i64 y, .int .i64 z, .int .i64 u, .bool n, .slice F m cf] 49)) (heap_alloc_new w _) (Nat.le_refl _))
  clear h
  go_enter Try.func18, Try.ntmps18
  go_wp2_with (first
    | (go_at_call 16; refine (Two.known HK.out y).mono ?_; rintro e w2 ⟨rfl, rfl⟩)
    | (go_at_call 35; refine (Two.rknown HK.out y).mono ?_; rintro e w3 ⟨rfl, rfl⟩))
  go_ret
  exact ⟨by simp, HK.out.less⟩

end

end Go.Proofs.Ytkdhkloabbcipaa
