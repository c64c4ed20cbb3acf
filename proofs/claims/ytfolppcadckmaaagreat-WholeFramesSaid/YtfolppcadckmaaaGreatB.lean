/-
  Layer 14, bridge.Bridge: the program's switch in the heap; its small methods.
-/
import Derived.Test.YtfolppcadckmaaaGreatProg
import Derived.WalkKit
import Derived.WalkLawsBesides
import Derived.WalkSpells
import Derived.Deep.QuietTactic
import Derived.BigQuiet
import Derived.BigRegion
import Derived.Deep.RegionHeld3
import Derived.OpenShut
import Derived.Test.YtfolppcadckmaaaGreatRow
namespace Go.Proofs.YtfolppcadckmaaaGreat.Br
open Go.RowKit Go.Tn Go.Tn.P14

structure BM (w : World) (p bp bk : Nat) (FP : List Nat) (C : Nat → Option Addr × Nat) (S : St) : Prop where
  hd : Blk w p 82 #[.slice (some ⟨bp, 0, none⟩) S.n S.n, .map (some bk)]
  rows : PRows w 117 12 (fun k => k) bp FP C S.n S.L
  isM : IsM w bk
  get : ∀ m, mget w bk m = if 0 ≤ S.K m then some (.int .i64 (S.K m)) else none
  len : mlen w bk = cnt S.K
  pF : p ∈ FP
  kF : bk ∈ FP

section
variable {w w' : World} {p bp bk : Nat} {FP FP' : List Nat} {C : Nat → Option Addr × Nat} {S : St}
theorem BM.c0 (h : BM w p bp bk FP C S) : w.cell? ⟨p, 0, none⟩ = some (.slice (some ⟨bp, 0, none⟩) S.n S.n) := h.hd.cell 0
theorem BM.c1 (h : BM w p bp bk FP C S) : w.cell? ⟨p, 1, none⟩ = some (.map (some bk)) := h.hd.cell 1
theorem BM.num (h : BM w p bp bk FP C S) {i j : Nat} (hi : i < S.n) (hj : j < 12) : w.cell? ⟨bp, i * 13 + j, none⟩ = some (.int .i64 ((S.L i).c j)) := by
  rw [h.rows.cell hi (by omega)]
  simp only [pcell]
  rw [if_neg (by omega)]
theorem BM.que (h : BM w p bp bk FP C S) {i : Nat} (hi : i < S.n) : w.cell? ⟨bp, i * 13 + 12, none⟩ = some (.slice (C i).1 (S.L i).q.length (C i).2) := by
  rw [h.rows.cell hi (by omega)]
  simp [pcell]
theorem BM.same {T : List Nat} (h : BM w p bp bk FP C S) (hm : Mod T w w') (hT : ∀ b, b ∈ FP → b ∉ T) : BM w' p bp bk FP C S :=
  ⟨h.hd.mod hm (hT p h.pF), h.rows.same hm hT, h.isM.of_heap (hm.block bk h.isM.lt (hT bk h.kF)), fun m => (mget_of_heap (hm.block bk h.isM.lt (hT bk h.kF)) m).trans (h.get m), (mlen_of_heap (hm.block bk h.isM.lt (hT bk h.kF))).trans h.len, h.pF, h.kF⟩
theorem BM.newer (h : BM w p bp bk FP C S) (hm : Mod [] w w') : BM w' p bp bk FP C S := h.same hm (by simp)
theorem BM.pp (h : BM w p bp bk FP C S) : p ≠ bp := Blk.ne_ h.hd h.rows.row (by decide)
theorem BM.kb (h : BM w p bp bk FP C S) : bk ≠ bp := fun e => by subst e; exact Blk.ne_map h.rows.row h.isM.imap rfl
theorem BM.kp (h : BM w p bp bk FP C S) : bk ≠ p := fun e => by subst e; exact Blk.ne_map h.hd h.isM.imap rfl
theorem BM.ks {T : List Nat} (h : BM w p bp bk FP C S) (hm : Mod T w w') (hT : bk ∉ T) : IsM w' bk ∧ (∀ m, mget w' bk m = if 0 ≤ S.K m then some (.int .i64 (S.K m)) else none) ∧ mlen w' bk = cnt S.K :=
  ⟨h.isM.of_heap (hm.block bk h.isM.lt hT), fun m => (mget_of_heap (hm.block bk h.isM.lt hT) m).trans (h.get m), (mlen_of_heap (hm.block bk h.isM.lt hT)).trans h.len⟩
/-- A port's number is stored. -/
theorem BM.setc (h : BM w p bp bk FP C S) {i k : Nat} (hi : i < S.n) (hk : k < 12) (x : Int) : BM (w.setCell ⟨bp, i * 13 + k, none⟩ (.int .i64 x)) p bp bk FP C { S with L := upd S.L i ((S.L i).set k x) } := by
  have hm : Mod [bp] w (w.setCell ⟨bp, i * 13 + k, none⟩ (.int .i64 x)) := (Mod.refl _ _).setCell (.inl (by simp)) _
  obtain ⟨h1, h2, h3⟩ := h.ks hm (by simpa using h.kb)
  exact ⟨h.hd.mod hm (by simpa using h.pp), h.rows.setc hi (by omega) (by omega) rfl (fun _ _ _ h => h) x, h1, h2, h3, h.pF, h.kF⟩
theorem BM.onp (h : BM w p bp bk FP C S) {i k : Nat} (hi : i < S.n) (hk : k < 12) (x : Int) (f : Po → Po) (hf : f (S.L i) = (S.L i).set k x) : BM (w.setCell ⟨bp, i * 13 + k, none⟩ (.int .i64 x)) p bp bk FP C (onP S i f) := by
  have := h.setc hi hk x
  rw [← hf] at this
  exact this
theorem BM.lt (h : BM w p bp bk FP C S) : p < w.heap.size ∧ bp < w.heap.size ∧ bk < w.heap.size := ⟨h.hd.lt, h.rows.row.lt, h.isM.lt⟩
end

/-- Behind a call that only the switch's own blocks may have felt: it reads as S'. -/
def Aft (w w' : World) (p bp bk : Nat) (FP : List Nat) (S' : St) : Prop := ∃ FP' C', BM w' p bp bk FP' C' S' ∧ Step w w' FP FP'

theorem zero3 (w : World) : (zeroValue 3).run Tryz.prog w = .ok (.int .i64 0) w := by kernel_rfl
theorem look57 {w : World} {b : Nat} (h : IsM w b) (n : Int) : (Instr.lookup 80 (.map (some b)) (.int .i64 n) true).run Tryz.prog w = .ok (.tuple #[(mget w b n).getD (.int .i64 0), .bool (mget w b n).isSome]) w := by
  rw [h.look Tryz.underlying80 Tryz.underlying3 zero3 n true]; rfl
theorem nilM (w : World) (r : Option Nat) : (binOp .eql 80 (.map r) (.map none)).run Tryz.prog w = .ok (.bool r.isNone) w := run_eql_map_nil w _ _ _ r Tryz.underlying80
attribute [local go_sem] look57 nilM

/-- 'none' of a switch that was made. -/
theorem none_f (p bk : Nat) (w : World) (c1 : w.cell? ⟨p, 1, none⟩ = some (.map (some bk))) :
    Calls Tryz.prog 57 #[.pointer (some ⟨p, 0, none⟩)] w fun e w' => e = .returned (.bool false) ∧ w = w' := by
  go_enter Tryz.func57, Tryz.ntmps57
  go_wp2
  go_ret
  exact ⟨rfl, rfl⟩

theorem ports_f {w : World} {p bp bk : Nat} {FP : List Nat} {C : Nat → Option Addr × Nat} {S : St} (h : BM w p bp bk FP C S) :
    Calls Tryz.prog 22 #[.pointer (some ⟨p, 0, none⟩)] w fun e w' => e = .returned (.int .i64 S.n) ∧ w = w' := by
  have c0 := h.c0
  have H1 := hid h.c1
  clear h
  go_enter Tryz.func22, Tryz.ntmps22
  go_wp2_with (go_at_call 57; refine (none_f _ _ _ H1.out).mono ?_; rintro e w' ⟨rfl, rfl⟩)
  go_ret
  exact ⟨rfl, rfl⟩

theorem credits_f (x : Int) (w : World) : Calls Tryz.prog 38 #[.int .i64 x] w fun e w' => e = .returned (.bool (okC x)) ∧ w = w' := by
  unfold okC
  by_cases h0 : 0 ≤ x
  · by_cases h1 : x ≤ 65536
    · have hd : decide (0 ≤ x ∧ x ≤ 65536) = true := by simp [h0, h1]
      rw [hd]
      clear hd
      go_enter Tryz.func38, Tryz.ntmps38
      go_wp2
      go_ret
      exact ⟨rfl, rfl⟩
    · have hd : decide (0 ≤ x ∧ x ≤ 65536) = false := by simp [h1]
      rw [hd]
      have h2 : 65536 < x := by omega
      have h3 : decide (x ≤ 65536) = false := by simpa using h2
      clear hd h1
      go_enter Tryz.func38, Tryz.ntmps38
      go_wp2
      go_ret
      exact ⟨by simp [h3], rfl⟩
  · have hd : decide (0 ≤ x ∧ x ≤ 65536) = false := by simp [h0]
    rw [hd]
    have h2 : x < 0 := by omega
    clear hd h0
    go_enter Tryz.func38, Tryz.ntmps38
    go_wp2
    go_ret
    exact ⟨rfl, rfl⟩

/-- What 'at' answers. -/
def atV (S : St) (bp : Nat) (x : Int) : Value := if isP S x then .tuple #[.pointer (some ⟨bp, x.toNat * 13, none⟩), .int .i64 0] else .tuple #[.pointer none, .int .i64 1]

theorem at_f {w : World} {p bp bk : Nat} {FP : List Nat} {C : Nat → Option Addr × Nat} {S : St} (h : BM w p bp bk FP C S) (x : Int) :
    Calls Tryz.prog 37 #[.pointer (some ⟨p, 0, none⟩), .int .i64 x] w fun e w' => e = .returned (atV S bp x) ∧ w = w' := by
  have c0 := h.c0
  have H1 := hid h.c1
  clear h
  unfold atV
  by_cases hp : isP S x = true
  · rw [if_pos hp]
    have hp' := isP_iff.1 hp
    obtain ⟨h0, h1⟩ := hp'
    obtain ⟨k, rfl⟩ := Int.eq_ofNat_of_zero_le h0
    have hk : k < S.n := by omega
    clear hp h0 h1
    go_enter Tryz.func37, Tryz.ntmps37
    go_wp2_with (go_at_call 57; refine (none_f _ _ _ H1.out).mono ?_; rintro e w' ⟨rfl, rfl⟩)
    go_ret2
    exact ⟨rfl, rfl⟩
  · rw [if_neg hp]
    rw [isP_iff] at hp
    by_cases h0 : x < 0
    · clear hp
      go_enter Tryz.func37, Tryz.ntmps37
      go_wp2_with (go_at_call 57; refine (none_f _ _ _ H1.out).mono ?_; rintro e w' ⟨rfl, rfl⟩)
      go_ret2
      exact ⟨rfl, rfl⟩
    · have h1 : 0 ≤ x := by omega
      have h2 : (S.n : Int) ≤ x := by omega
      clear hp h0
      go_enter Tryz.func37, Tryz.ntmps37
      go_wp2_with (go_at_call 57; refine (none_f _ _ _ H1.out).mono ?_; rintro e w' ⟨rfl, rfl⟩)
      go_ret2
      exact ⟨rfl, rfl⟩

theorem at_in {w : World} {p bp bk : Nat} {FP : List Nat} {C : Nat → Option Addr × Nat} {S : St} (h : BM w p bp bk FP C S) {k : Nat} (hk : k < S.n) :
    Calls Tryz.prog 37 #[.pointer (some ⟨p, 0, none⟩), .int .i64 k] w fun e w' => e = .returned (.tuple #[.pointer (some ⟨bp, k * 13, none⟩), .int .i64 0]) ∧ w = w' := by
  have := at_f h k
  unfold atV at this
  rw [if_pos (isP_nat.2 hk)] at this
  simpa using this
theorem at_out {w : World} {p bp bk : Nat} {FP : List Nat} {C : Nat → Option Addr × Nat} {S : St} (h : BM w p bp bk FP C S) {x : Int} (hx : isP S x = false) :
    Calls Tryz.prog 37 #[.pointer (some ⟨p, 0, none⟩), .int .i64 x] w fun e w' => e = .returned (.tuple #[.pointer none, .int .i64 1]) ∧ w = w' := by
  have := at_f h x
  unfold atV at this
  rw [if_neg (by simp [hx])] at this
  exact this

end Go.Proofs.YtfolppcadckmaaaGreat.Br
