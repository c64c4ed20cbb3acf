/-
  Whole: a machine of fourteen frames in the heap: none, Size, domain, at, New.
-/
import Derived.Test.YtfolppcadckmaaaGreatBase
import Derived.Test.YtfolppcadckmaaaGreatProg
import Derived.LoopTactic
namespace Go.Proofs.YtfolppcadckmaaaGreat
open Go.RowKit Go.Tn
open Go.Proofs

/-- What stands in cell c of frame i. -/
def cellG (F : Nat → Nat → Int) (i c : Nat) : Value := if c < 4 then .int .i64 (F i c) else .int .u8 (F i c)
/-- The cells of fourteen frames. -/
@[irreducible] def frs (F : Nat → Nat → Int) : Array Value := Array.ofFn fun x : Fin 3640 => cellG F (x.1 / 260) (x.1 % 260)
theorem frs_size (F : Nat → Nat → Int) : (frs F).size = 3640 := by unfold frs; exact Array.size_ofFn
theorem frs_at (F : Nat → Nat → Int) (i c : Nat) (hi : i < 14) (hc : c < 260) : (frs F)[i * 260 + c]? = some (cellG F i c) := by
  unfold frs
  rw [Array.getElem?_ofFn, dif_pos (by omega)]
  simp only [show (i * 260 + c) / 260 = i by omega, show (i * 260 + c) % 260 = c by omega]
def upd (F : Nat → Nat → Int) (i c : Nat) (v : Int) : Nat → Nat → Int := fun a b => if a = i ∧ b = c then v else F a b
theorem frs_set (F : Nat → Nat → Int) (i c : Nat) (hi : i < 14) (hc : c < 260) (v : Int) : (frs F).setIfInBounds (i * 260 + c) (cellG (fun _ _ => v) i c) = frs (upd F i c v) := by
  apply Array.ext_getElem?
  intro t
  by_cases ht : t < 3640
  · have h1 := frs_at F (t / 260) (t % 260) (by omega) (by omega)
    have h2 := frs_at (upd F i c v) (t / 260) (t % 260) (by omega) (by omega)
    rw [show t / 260 * 260 + t % 260 = t by omega] at h1 h2
    rw [h2, Array.getElem?_setIfInBounds]
    by_cases e : i * 260 + c = t
    · rw [if_pos e, if_pos (by rw [frs_size]; omega)]
      unfold cellG upd
      rw [show t / 260 = i by omega, show t % 260 = c by omega]
      simp
    · rw [if_neg e, h1]
      unfold cellG upd
      have : ¬ (t / 260 = i ∧ t % 260 = c) := by omega
      simp [this]
  · rw [Array.getElem?_eq_none (by simp [frs_size]; omega), Array.getElem?_eq_none (by rw [frs_size]; omega)]

/-- At m a machine lies, its frames in block fb. -/
structure PH (w : World) (m fb : Nat) (F : Nat → Nat → Int) : Prop where
  blk : Blk w m 68 #[.bool true, .slice (some ⟨fb, 0, none⟩) 14 14]
  fr : Blk w fb 74 (frs F)

section
variable {w w' : World} {m fb : Nat} {F : Nat → Nat → Int}

theorem PH.mod (h : PH w m fb F) {S : List Nat} (hm : Tn.Mod S w w') (h1 : m ∉ S) (h2 : fb ∉ S) : PH w' m fb F := ⟨h.blk.mod hm h1, h.fr.mod hm h2⟩
theorem PH.mod0 (h : PH w m fb F) (hm : Tn.Mod [] w w') : PH w' m fb F := h.mod hm (by simp) (by simp)
theorem PH.cell (h : PH w m fb F) (i c : Nat) (hi : i < 14) (hc : c < 260) : w.cell? ⟨fb, i * 260 + c, none⟩ = some (cellG F i c) := by rw [h.fr.cell, frs_at F i c hi hc]
theorem PH.num (h : PH w m fb F) (i c : Nat) (hi : i < 14) (hc : c < 4) : w.cell? ⟨fb, i * 260 + c, none⟩ = some (.int .i64 (F i c)) := by
  rw [h.cell i c hi (by omega)]; unfold cellG; rw [if_pos hc]
theorem PH.store (h : PH w m fb F) (i c : Nat) (hi : i < 14) (hc : c < 4) (v : Int) : PH (w.setCell ⟨fb, i * 260 + c, none⟩ (.int .i64 v)) m fb (upd F i c v) := by
  have hm : Tn.Mod [fb] w (w.setCell ⟨fb, i * 260 + c, none⟩ (.int .i64 v)) := (Mod.refl _ w).setCell (.inl (by simp)) _
  refine ⟨h.blk.mod hm (by simp; exact h.blk.ne_ h.fr (by decide)), ?_⟩
  have h1 := h.fr.set_ (i * 260 + c) (.int .i64 v)
  rw [show (Value.int .i64 v) = cellG (fun _ _ => v) i c by unfold cellG; rw [if_pos hc], frs_set F i c hi (by omega) v] at h1
  rw [show (Value.int .i64 v) = cellG (fun _ _ => v) i c by unfold cellG; rw [if_pos hc]]
  exact h1

theorem none_f (h : PH w m fb F) : Calls Tryz.prog 24 #[.pointer (some ⟨m, 0, none⟩)] w fun e w' => e = .returned (.bool false) ∧ w = w' := by
  have c0 := h.blk.cell 0
  simp only [List.getElem?_toArray, List.getElem?_cons_zero] at c0
  clear h
  go_enter Tryz.func24, Tryz.ntmps24
  go_wp2
  go_ret
  exact ⟨rfl, rfl⟩

theorem size_f (h : PH w m fb F) : Calls Tryz.prog 23 #[.pointer (some ⟨m, 0, none⟩)] w fun e w' => e = .returned (.int .i64 14) ∧ w = w' := by
  have c1 := h.blk.cell 1
  simp only [List.getElem?_toArray, List.getElem?_cons_zero, List.getElem?_cons_succ] at c1
  have H := hid h
  clear h
  go_enter Tryz.func23, Tryz.ntmps23
  go_wp2_with (go_at_call 24; refine (none_f H.out).mono ?_; rintro e w' ⟨rfl, rfl⟩)
  go_ret
  exact ⟨rfl, rfl⟩

theorem at_f (h : PH w m fb F) (i : Nat) (hi : i < 14) : Calls Tryz.prog 61 #[.pointer (some ⟨m, 0, none⟩), .int .i64 (i : Nat)] w fun e w' => e = .returned (.tuple #[.pointer (some ⟨fb, i * 260, none⟩), .int .i64 0]) ∧ w = w' := by
  have c1 := h.blk.cell 1
  simp only [List.getElem?_toArray, List.getElem?_cons_zero, List.getElem?_cons_succ] at c1
  have H := hid h
  have hiI : (i : Int) < 14 := by omega
  clear h
  go_enter Tryz.func61, Tryz.ntmps61
  go_wp2_with (go_at_call 24; refine (none_f H.out).mono ?_; rintro e w' ⟨rfl, rfl⟩)
  go_ret2
  exact ⟨rfl, rfl⟩
end

theorem pdomain_f (n : Nat) (hn : n < 8) (w : World) : Calls Tryz.prog 25 #[.int .i64 (n : Nat)] w fun e w' => e = .returned (.bool true) ∧ w = w' := by
  have h : (n : Int) < 8 := by omega
  go_enter Tryz.func25, Tryz.ntmps25
  go_wp2
  go_ret
  exact ⟨rfl, rfl⟩

def fr0 : Array Value := Array.ofFn fun x : Fin 260 => if x.1 < 4 then .int .i64 0 else .int .u8 0
theorem info64 : (Tryz.prog.info? 74).map (fun i => (i.zero.map (·.cells), i.size, i.bytes)) = some (some fr0, 260, 288) := by kernel_rfl
end Go.Proofs.YtfolppcadckmaaaGreat
