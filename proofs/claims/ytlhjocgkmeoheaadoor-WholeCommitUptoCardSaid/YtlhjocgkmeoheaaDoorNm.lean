/-
  Commit: the letters of a name; may, Name.
-/
import Derived.Test.YtlhjocgkmeoheaaDoorBase
import Derived.Test.YtlhjocgkmeoheaaDoorProg
import Derived.LoopTactic
import Derived.Lib.OthersKept
namespace Go.Proofs.YtlhjocgkmeoheaaDoor
open Go.RowKit Go.Tn
open Go.Proofs

/-- May a letter stand in a name? -/
def mayB (c : Int) : Bool := decide ((97 ≤ c ∧ c ≤ 122) ∨ (65 ≤ c ∧ c ≤ 90) ∨ (48 ≤ c ∧ c ≤ 57) ∨ c = 45 ∨ c = 95 ∨ c = 46 ∨ c = 64)
theorem mayB_high {c : Int} (h : 128 ≤ c) : mayB c = false := by unfold mayB; simp; omega

theorem may_f (c : Int) (w : World) : Calls Tryd.prog 43 #[.int .i32 c] w fun e w' => e = .returned (.bool (mayB c)) ∧ w = w' := by
  go_enter Tryd.func43, Tryd.ntmps43
  go_wp2
  all_goals
    go_ret
    refine ⟨?_, rfl⟩
    show Ending.returned (Value.bool _) = Ending.returned (Value.bool (mayB _))
    refine congrArg (fun b => Ending.returned (Value.bool b)) ?_
    unfold mayB
    rw [Bool.eq_iff_iff]
    simp only [Bool.or_eq_true, beq_iff_eq, decide_eq_true_eq, true_iff, iff_true]
    first | omega | decide | simp

/-- Why a text is no name (0: it is one). -/
def nameE : List UInt8 → Nat → Int
  | [], n => if n = 0 then 90 else 0
  | b :: r, n => if mayB b.toNat = false then 90 else if n = 32 then 2 else nameE r (n + 1)

/-- What Name answers. -/
def NmOk (e : Ending) (g : Int) : Prop := ∃ at_ : Int, e = .returned (.tuple #[.int .i64 at_, .int .i64 g])

set_option maxRecDepth 100000 in
set_option maxHeartbeats 2000000 in
theorem name_f (s : ByteArray) (w : World) : Calls Tryd.prog 32 #[.string s] w fun e w' => NmOk e (nameE s.data.toList 0) ∧ Tn.Mod [] w w' := by
  go_enter Tryd.func32, Tryd.ntmps32
  go_wp2
  go_loopw [4] (fun n wr => ∃ pos : Nat, pos ≤ s.size ∧ pos ≤ 32 ∧ n = .int .i64 (pos : Nat) ∧ wr = w.iter s pos ∧ Hid (nameE (s.data.toList.drop pos) pos = nameE s.data.toList 0)) (fun n _ => s.size - (intOf n).toNat)
  case atStart => exact ⟨0, Nat.zero_le _, by omega, rfl, rfl, hid (by simp)⟩
  case round =>
    obtain ⟨pos, hp, h32, rfl, rfl, hN⟩ := hrel
    have hMd : Hid (∀ p, Tn.Mod [] w (w.iter s p)) := hid fun p => (Mod.refl [] w).alloc _
    by_cases hlt : pos < s.size
    · have hdrop : s.data.toList.drop pos = s[pos] :: s.data.toList.drop (pos + 1) := by
        have hl : pos < s.data.toList.length := by simpa using hlt
        rw [List.drop_eq_getElem_cons hl]
        rfl
      by_cases ha : (s[pos]).toNat < 128
      · have hnx : ∀ ty, (Instr.next (.pointer (some ⟨w.heap.size, 0, none⟩)) true ty).run Tryd.prog (w.iter s pos) = .ok (.tuple #[.bool true, .int .i64 pos, .int .i32 (s[pos]).toNat]) (w.iter s (pos + 1)) := fun ty => by rw [run_next_any w s pos ty hlt, decode_ascii s pos hlt ha]
        cases hm : mayB (s[pos]).toNat
        · have HE := hid (show nameE s.data.toList 0 = 90 by rw [← hN.out, hdrop]; unfold nameE; rw [if_pos hm])
          have HM := hid (may_f (s[pos]).toNat (w.iter s (pos + 1)))
          rw [hm] at HM
          clear hdrop hN hm
          go_wp2_with (go_at_call 43; refine HM.out.mono ?_; rintro e w' ⟨rfl, rfl⟩)
          go_ret2
          exact ⟨⟨_, by rw [HE.out]; rfl⟩, hMd.out _⟩
        · have HM := hid (may_f (s[pos]).toNat (w.iter s (pos + 1)))
          rw [hm] at HM
          by_cases h3 : pos = 32
          · have HE := hid (show nameE s.data.toList 0 = 2 by rw [← hN.out, hdrop]; unfold nameE; rw [if_neg (by simp [hm]), if_pos h3])
            have h3b : ((pos : Int) == 32) = true := by simp [h3]
            clear hdrop hN hm h3
            go_wp2_with (go_at_call 43; refine HM.out.mono ?_; rintro e w' ⟨rfl, rfl⟩)
            go_ret2
            exact ⟨⟨_, by rw [HE.out]; rfl⟩, hMd.out _⟩
          · have HE := hid (show nameE (s.data.toList.drop (pos + 1)) (pos + 1) = nameE s.data.toList 0 by rw [← hN.out, hdrop]; conv => rhs; unfold nameE; rw [if_neg (by simp [hm]), if_neg h3])
            have h3b : ((pos : Int) == 32) = false := by simp; omega
            have h31 : pos < 32 := by omega
            clear hdrop hN hm h3
            go_wp2_with (go_at_call 43; refine HM.out.mono ?_; rintro e w' ⟨rfl, rfl⟩)
            go_roundw
            case rel => exact ⟨pos + 1, by omega, by omega, by go_num, rfl, HE⟩
            case measure => simp [intOf]; omega
      · have hd := decode_high s pos hlt (by omega)
        have hd2 := decode_le s pos
        have HE := hid (show nameE s.data.toList 0 = 90 by rw [← hN.out, hdrop]; unfold nameE; rw [if_pos (mayB_high (by omega))])
        have HM := hid (may_f ((Utf8.decode s pos).1 : Nat) (w.iter s (pos + (Utf8.decode s pos).2)))
        rw [mayB_high (by omega)] at HM
        have hnx : ∀ ty, (Instr.next (.pointer (some ⟨w.heap.size, 0, none⟩)) true ty).run Tryd.prog (w.iter s pos) = _ := fun ty => run_next_any w s pos ty hlt
        clear hdrop hN ha
        go_wp2_with (go_at_call 43; refine HM.out.mono ?_; rintro e w' ⟨rfl, rfl⟩)
        go_ret2
        exact ⟨⟨_, by rw [HE.out]; rfl⟩, hMd.out _⟩
    · have hpe : pos = s.size := by omega
      have HE := hid (show nameE s.data.toList 0 = if pos = 0 then 90 else 0 by rw [← hN.out, List.drop_of_length_le (by simp; omega)]; rfl)
      have hnx : ∀ ty, (Instr.next (.pointer (some ⟨w.heap.size, 0, none⟩)) true ty).run Tryd.prog (w.iter s pos) = .ok (.tuple #[.bool false]) (w.iter s pos) := fun ty => Lib.run_next_end_at (w.iter s pos) w.heap.size s pos ty (World.iter_heap w s pos) hlt
      clear hN hpe
      by_cases h0 : pos = 0
      · have h0b : ((pos : Int) == 0) = true := by simp [h0]
        have HE2 := hid (HE.out.trans (if_pos h0))
        clear h0
        go_wp2
        go_ret2
        exact ⟨⟨_, by rw [HE2.out]; rfl⟩, hMd.out _⟩
      · have h0b : ((pos : Int) == 0) = false := by simp [h0]
        have HE2 := hid (HE.out.trans (if_neg h0))
        clear h0
        go_wp2
        go_ret2
        exact ⟨⟨_, by rw [HE2.out]; rfl⟩, hMd.out _⟩
end Go.Proofs.YtlhjocgkmeoheaaDoor
