/-
  Commit: Begin.
-/
import Derived.Test.YtlhjocgkmeoheaaDoorNe
import Derived.Test.YtlhjocgkmeoheaaDoorRng
import Derived.Deep.RegionHeld3
namespace Go.Proofs.YtlhjocgkmeoheaaDoor
open Go.RowKit Go.Tn Go.MapKept
open Go.Proofs
attribute [local go_sem] look42 look42b

section
variable {w : World} {sb mt mo g : Nat} {A : Tree}
theorem store42 {b : Nat} (h : IsM w b) (n : Int) (v : Value) : (Instr.mapUpdate 42 (.map (some b)) (.int .i64 n) v).run Tryd.prog w = .ok () (mput w b n v) := h.imap.store Tryd.underlying42 Tryd.underlying3 n v

set_option maxRecDepth 100000 in
set_option maxHeartbeats 2000000 in
theorem begin_f {B : Nat} (hB : B ≤ w.heap.size) (h : SH w sb mt mo A g none) : Calls Tryd.prog 5 #[.pointer (some ⟨sb, 0, none⟩), .int .i64 0] w fun e w' => e = .returned (.tuple #[.int .i64 1, .int .i64 0]) ∧ ∃ tb m2, SH w' sb mt mo A g (some tb) ∧ XH B w' tb m2 A g 0 ∧ w.heap.size ≤ tb ∧ w.heap.size ≤ m2 ∧ Tn.Mod [mo] w w' := by
  have c2 := h.c2
  have hi := h.mo.is
  have H := hid h
  have HD := hid (domain_f h)
  clear h
  go_enter Tryd.func5, Tryd.ntmps5
  go_wp2_with (first
    | (go_at_call 10; refine HD.out.mono ?_; rintro e w' ⟨rfl, rfl⟩)
    | (at_range; refine wpList_range_rng _ rfl _ 42 rfl Tryd.underlying42 rfl hi ?_; intro w1 hr1 hm1))
  go_frame
  have HR := hid hr1
  have hS1 := H.out.mod0 hm1
  have d0 := hS1.c0
  have d1 := hS1.c1
  have d2 := hS1.c2
  have hi1 := hS1.mo.is
  have hg1 : mget w1 mo 1 = none := hS1.mo.get 1
  have HS1 := hid hS1
  have HM1 := hid hm1
  have hleft := hid (show ∀ n, mget w mo n = none from fun n => by rw [H.out.mo.get n]; unfold openF; split <;> rfl)
  clear hr1 hm1 hS1
  go_loopw [7] (fun many wr => many = .int .i64 0 ∧ wr = w1) (fun _ _ => 0)
  case atStart => exact ⟨rfl, rfl⟩
  case round =>
    obtain ⟨rfl, rfl⟩ := hrel
    go_wp2_with (at_next; refine wpList_next_rng _ rfl _ rfl rfl HR.out ?_ ?_)
    case refine_2 =>
      intro n v w' cnt' hl
      rw [hleft.out n] at hl
      simp at hl
    intro _
    go_wp2
    go_loopw [10] (fun i wz => i = .int .i64 1 ∧ wz = wr) (fun _ _ => 0)
    case atStart => exact ⟨rfl, rfl⟩
    case round =>
      obtain ⟨rfl, rfl⟩ := hrel
      go_wp2
      have HC0 := hid (show wr.drew.cell? ⟨sb, 0, none⟩ = some (.map (some mt)) ∧ wr.drew.cell? ⟨sb, 1, none⟩ = some (.int .i64 g) ∧ wr.drew.cell? ⟨sb, 2, none⟩ = some (.map (some mo)) from ⟨d0, d1, d2⟩)
      go_region_held3 (fun w' => w'.cell? ⟨sb, 0, none⟩ = some (.map (some mt)) ∧ w'.cell? ⟨sb, 1, none⟩ = some (.int .i64 g) ∧ w'.cell? ⟨sb, 2, none⟩ = some (.map (some mo))) (first | exact HC0.out | exact HC3.out | go_keep)
        (first | (go_at_call 11; refine (copied_f (HS1.out.mod0 ((Mod.refl [] wr).drew)).th).mono ?_; rintro e w3 ⟨u, rfl, hu, hul, hm3⟩
                  have HS3 := hid (HS1.out.mod0 (((Mod.refl [] wr).drew).andThen hm3))
                  have HC3 := hid (show w3.cell? ⟨sb, 0, none⟩ = some (.map (some mt)) ∧ w3.cell? ⟨sb, 1, none⟩ = some (.int .i64 g) ∧ w3.cell? ⟨sb, 2, none⟩ = some (.map (some mo)) from ⟨HS3.out.c0, HS3.out.c1, HS3.out.c2⟩)
                  have hi3 : IsM (w3.alloc (.cells #[.int .i64 0, .int .i64 g, .map (some u), .slice none 0 0] 52)) mo := ((HS3.out.mod0 ((Mod.refl [] w3).alloc _)).mo).is
                  have hst3 := store42 hi3 1 (.pointer (some ⟨w3.heap.size, 0, none⟩))
                  have HU3 := hid hu
                  have HM3 := hid ((HM1.out.andThen ((Mod.refl [] wr).drew)).andThen hm3)
                  have hul3 : wr.heap.size ≤ u := hul
                  clear hu hm3 hi3 hul))
      go_wp2
      go_ret2
      have m4 : Tn.Mod [] w3 (w3.alloc (.cells #[.int .i64 0, .int .i64 g, .map (some u), .slice none 0 0] 52)) := (Mod.refl [] w3).alloc _
      have hb4 := Blk.new w3 52 #[.int .i64 0, .int .i64 g, .map (some u), .slice none 0 0]
      have hS4 := HS3.out.mod0 m4
      have hU4 := HU3.out.mod0 m4
      have hl4 := hS4.mo.lt
      have hlu := HS1.out.mo.lt
      have hrs := HM1.out.size
      have hlo := H.out.mo.lt
      generalize w3.alloc (.cells #[.int .i64 0, .int .i64 g, .map (some u), .slice none 0 0] 52) = w4 at *
      have m5 : Tn.Mod [mo] w4 (Tn.mput w4 mo 1 (.pointer (some ⟨w3.heap.size, 0, none⟩))) := (Mod.refl _ w4).mput (.inl (by simp)) _ _
      have hmap := hS4.mo.mput 1 (.pointer (some ⟨w3.heap.size, 0, none⟩))
      have hcold : Cold [mo] w4 := (Cold.nil _).cons (by obtain ⟨es, c, hb, _⟩ := hS4.mo; exact cold_map hb)
      have hws := HM3.out.size
      refine ⟨rfl, w3.heap.size, u, ⟨hS4.blk.mod m5 (by simpa using hS4.sbmo), hS4.th.mod m5 (by simpa using hS4.ne) hcold, ?_, hS4.gb, hS4.ne⟩, ⟨⟨.slice none 0 0, hb4.mod m5 (by simpa using hb4.ne_map hS4.mo), ⟨[], ⟨rfl, .inl ⟨rfl, rfl⟩⟩, rfl, by omega, fun i hi => by omega⟩, by simp [Value.ownBlock]⟩, hU4.mod m5 (by simp; omega) hcold⟩, by omega, by omega, ((HM3.out.andThen m4).mono (by simp)).andThen m5⟩
      have he : openF (some w3.heap.size) = upd (openF none) 1 (some (.pointer (some ⟨w3.heap.size, 0, none⟩))) := by
        funext n
        unfold openF upd
        by_cases hn : n = 1
        · simp [hn]
        · simp [hn]
      rw [he]
      exact hmap
end
end Go.Proofs.YtlhjocgkmeoheaaDoor
