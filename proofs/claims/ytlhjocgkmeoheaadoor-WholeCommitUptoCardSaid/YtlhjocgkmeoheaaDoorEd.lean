/-
  Commit: End.
-/
import Derived.Test.YtlhjocgkmeoheaaDoorBg
namespace Go.Proofs.YtlhjocgkmeoheaaDoor
open Go.RowKit Go.Tn Go.MapKept
open Go.Proofs

section
variable {B : Nat} {w : World} {sb mt mo g : Nat} {A : Tree}
theorem del42 {b : Nat} (h : IsM w b) (n : Int) (ty : TypeId) : (Builtin.delete_ #[42, 3] ty #[.map (some b), .int .i64 n]).run Tryd.prog w = .ok (.tuple #[]) (mdel w b n) := h.imap.delete Tryd.underlying42 Tryd.underlying3 n ty
attribute [local go_sem] del42

theorem SH.closed {tb : Nat} (h : SH w sb mt mo A g (some tb)) : SH (mdel w mo 1) sb mt mo A g none ∧ Tn.Mod [mo] w (mdel w mo 1) := by
  have hm : Tn.Mod [mo] w (mdel w mo 1) := (Mod.refl _ w).mdel (.inl (by simp)) _
  have hcold : Cold [mo] w := (Cold.nil _).cons (by obtain ⟨es, c, hb, _⟩ := h.mo; exact cold_map hb)
  refine ⟨⟨h.blk.mod hm (by simpa using h.sbmo), h.th.mod hm (by simpa using h.ne) hcold, ?_, h.gb, h.ne⟩, hm⟩
  have := h.mo.mdel 1
  have he : upd (openF (some tb)) 1 none = openF none := by
    funext n
    unfold openF upd
    by_cases hn : n = 1
    · simp [hn]
    · simp [hn]
  rw [he] at this
  exact this

set_option maxRecDepth 100000 in
/-- End, where none is open. -/
theorem end_none (h : SH w sb mt mo A g none) (c : Bool) : Calls Tryd.prog 7 #[.pointer (some ⟨sb, 0, none⟩), .int .i64 0, .int .i64 1, .bool c] w fun e w' => e = .returned (.int .i64 6) ∧ w = w' := by
  have HD := hid (domain_f h)
  have HT := hid (trans_none h)
  clear h
  go_enter Tryd.func7, Tryd.ntmps7
  go_wp2_with (first
    | (go_at_call 10; refine HD.out.mono ?_; rintro e w' ⟨rfl, rfl⟩)
    | (go_at_call 14; refine HT.out.mono ?_; rintro e w' ⟨rfl, rfl⟩))
  go_ret
  exact ⟨rfl, rfl⟩

set_option maxRecDepth 100000 in
/-- End, with nothing to be done: no commit, or nothing was changed. -/
theorem end_idle {tb m2 g2 cnt : Nat} {A2 : Tree} (h : SH w sb mt mo A g (some tb)) (hx : XH B w tb m2 A2 g2 cnt) (c : Bool) (hc : c = false ∨ cnt = 0) :
    Calls Tryd.prog 7 #[.pointer (some ⟨sb, 0, none⟩), .int .i64 0, .int .i64 1, .bool c] w fun e w' => e = .returned (.int .i64 0) ∧ SH w' sb mt mo A g none ∧ Tn.Mod [mo] w w' := by
  obtain ⟨⟨v, hb, hch, _⟩, _⟩ := hx
  have HD := hid (domain_f h)
  have HT := hid (trans_f h (hb.cell 0))
  have c2 := h.c2
  have hi := h.mo.is
  obtain ⟨hS, hM⟩ := h.closed
  have d3 := (hb.mod hM (by simpa using hb.ne_map h.mo)).cell 3
  simp only [List.getElem?_toArray, List.getElem?_cons_zero, List.getElem?_cons_succ] at d3
  obtain ⟨Av, cap, rfl, _⟩ := hch.open_
  have HS := hid hS
  have HM := hid hM
  clear h hb hch hS hM
  rcases hc with rfl | rfl
  · go_enter Tryd.func7, Tryd.ntmps7
    go_wp2_with (first
      | (go_at_call 10; refine HD.out.mono ?_; rintro e w' ⟨rfl, rfl⟩)
      | (go_at_call 14; refine HT.out.mono ?_; rintro e w' ⟨rfl, rfl⟩))
    go_ret
    exact ⟨rfl, HS.out, HM.out⟩
  · cases c
    all_goals
      go_enter Tryd.func7, Tryd.ntmps7
      go_wp2_with (first
        | (go_at_call 10; refine HD.out.mono ?_; rintro e w' ⟨rfl, rfl⟩)
        | (go_at_call 14; refine HT.out.mono ?_; rintro e w' ⟨rfl, rfl⟩))
      go_ret
      exact ⟨rfl, HS.out, HM.out⟩

set_option maxRecDepth 100000 in
/-- End, with a commit that met another one. -/
theorem end_met {tb m2 g2 cnt : Nat} {A2 : Tree} (h : SH w sb mt mo A g (some tb)) (hx : XH B w tb m2 A2 g2 cnt) (hc : cnt ≠ 0) (hg : g2 ≠ g) :
    Calls Tryd.prog 7 #[.pointer (some ⟨sb, 0, none⟩), .int .i64 0, .int .i64 1, .bool true] w fun e w' => e = .returned (.int .i64 101) ∧ SH w' sb mt mo A g none ∧ Tn.Mod [mo] w w' := by
  obtain ⟨⟨v, hb, hch, _⟩, _⟩ := hx
  have HD := hid (domain_f h)
  have HT := hid (trans_f h (hb.cell 0))
  have c2 := h.c2
  have hi := h.mo.is
  obtain ⟨hS, hM⟩ := h.closed
  have hbm := hb.mod hM (by simpa using hb.ne_map h.mo)
  have d3 := hbm.cell 3
  have d1 := hbm.cell 1
  have s1 := hS.c1
  simp only [List.getElem?_toArray, List.getElem?_cons_zero, List.getElem?_cons_succ] at d3 d1
  obtain ⟨Av, cap, rfl, _⟩ := hch.open_
  have hcI : ¬ (cnt : Int) = 0 := by omega
  have hcb : ((cnt : Int) == 0) = false := by simpa using hcI
  have hgI : ¬ (g2 : Int) = g := by omega
  have hgb : ((g2 : Int) == g) = false := by simpa using hgI
  have HS := hid hS
  have HM := hid hM
  have HC := hid (show (mdel w mo 1).drew.cell? ⟨tb, 1, none⟩ = some (.int .i64 g2) ∧ (mdel w mo 1).drew.cell? ⟨sb, 1, none⟩ = some (.int .i64 g) from ⟨d1, s1⟩)
  clear h hb hch hS hM hbm
  go_enter Tryd.func7, Tryd.ntmps7
  go_wp2_with (first
    | (go_at_call 10; refine HD.out.mono ?_; rintro e w' ⟨rfl, rfl⟩)
    | (go_at_call 14; refine HT.out.mono ?_; rintro e w' ⟨rfl, rfl⟩))
  go_region_held3 (fun w' => w'.cell? ⟨tb, 1, none⟩ = some (.int .i64 g2) ∧ w'.cell? ⟨sb, 1, none⟩ = some (.int .i64 g)) (first | exact HC.out | go_keep) (fail)
  go_wp2
  go_ret
  exact ⟨rfl, HS.out.mod0 ((Mod.refl [] _).drew), HM.out.drew⟩

set_option maxRecDepth 100000 in
/-- End, with a commit that comes. -/
theorem end_good {tb m2 cnt : Nat} {A2 : Tree} (h : SH w sb mt mo A g (some tb)) (hx : XH B w tb m2 A2 g cnt) (hc : cnt ≠ 0) (hne : m2 ≠ mo) (hgg : g + 1 < 4611686018427387904) :
    Calls Tryd.prog 7 #[.pointer (some ⟨sb, 0, none⟩), .int .i64 0, .int .i64 1, .bool true] w fun e w' => e = .returned (.int .i64 0) ∧ SH w' sb m2 mo A2 (g + 1) none ∧ Tn.Mod [mo, sb] w w' := by
  obtain ⟨⟨v, hb, hch, _⟩, hT2⟩ := hx
  have HD := hid (domain_f h)
  have HT := hid (trans_f h (hb.cell 0))
  have c2 := h.c2
  have hi := h.mo.is
  obtain ⟨hS, hM⟩ := h.closed
  have hbm := hb.mod hM (by simpa using hb.ne_map h.mo)
  have d3 := hbm.cell 3
  have d1 := hbm.cell 1
  have d2 := hbm.cell 2
  have s1 := hS.c1
  simp only [List.getElem?_toArray, List.getElem?_cons_zero, List.getElem?_cons_succ] at d3 d1 d2
  obtain ⟨Av, cap, rfl, _⟩ := hch.open_
  have hcI : ¬ (cnt : Int) = 0 := by omega
  have hcb : ((cnt : Int) == 0) = false := by simpa using hcI
  have hcold : Cold [mo] w := (Cold.nil _).cons (by obtain ⟨es, c, hb, _⟩ := h.mo; exact cold_map hb)
  have hT3 := (hT2.mod hM (by simpa using hne) hcold).mod0 ((Mod.refl [] _).drew)
  have hC3 := (hch.mod hM (fun b hb' hs => by
    simp at hs
    subst hs
    obtain ⟨cs, hcs⟩ := hch.blk hb'
    exact hcs.ne_map h.mo rfl)).mod ((Mod.refl [] _).drew) (by simp)
  have hS3 := hS.mod0 ((Mod.refl [] _).drew)
  have HBK := hid hbm
  obtain ⟨hS4, hM4⟩ := hS3.setT hT3 hne
  have hC4 := Chg.mod1 hS3 hC3 hM4
  have HCM := hid (commit_f hS4 hC4 hgg)
  have HM4 := hid hM4
  have HC4 := hid hC4
  have s0 := hS.c0
  have f0 := hS.blk.frozen 0
  have hsbtb := hS.blk.ne_ hbm (by decide)
  have d3' : ((mdel w mo 1).drew.setCell ⟨sb, 0, none⟩ (.map (some m2))).cell? ⟨tb, 3, none⟩ = some (.slice Av cnt cap) := by
    rw [hM4.cell (by exact (hbm.mod ((Mod.refl [] _).drew) (by simp)).lt) (by simpa using hsbtb.symm)]
    exact d3
  clear hS4 hM4 hC4 hS3 hC3 hT3 hT2 hcold
  have HS := hid hS
  have HM := hid hM
  have HC := hid (show (mdel w mo 1).drew.cell? ⟨tb, 1, none⟩ = some (.int .i64 g) ∧ (mdel w mo 1).drew.cell? ⟨sb, 1, none⟩ = some (.int .i64 g) from ⟨d1, s1⟩)
  clear h hb hch hS hM hbm
  go_enter Tryd.func7, Tryd.ntmps7
  go_wp2_with (first
    | (go_at_call 10; refine HD.out.mono ?_; rintro e w' ⟨rfl, rfl⟩)
    | (go_at_call 14; refine HT.out.mono ?_; rintro e w' ⟨rfl, rfl⟩))
  go_region_held3 (fun w' => w'.cell? ⟨tb, 1, none⟩ = some (.int .i64 g) ∧ w'.cell? ⟨sb, 1, none⟩ = some (.int .i64 g)) (first | exact HC.out | go_keep) (fail)
  go_wp2_with (go_at_call 15; refine HCM.out.mono ?_; rintro e w9 ⟨rfl, hs9, hm9⟩; replace hs9 := hid hs9; replace hm9 := hid hm9)
  go_ret
  exact ⟨rfl, hs9.out, ((HM.out.mono (T := [mo, sb]) (by simp)).drew).andThen ((HM4.out.mono (T := [mo, sb]) (by simp)).andThen (hm9.out.mono (by simp)))⟩
end
end Go.Proofs.YtlhjocgkmeoheaaDoor
