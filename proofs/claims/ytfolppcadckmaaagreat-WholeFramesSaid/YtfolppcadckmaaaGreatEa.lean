/-
  Layer 14, bridge.Bridge: frames as arguments, frames in rows of their own, an address learnt.
-/
import Derived.Test.YtfolppcadckmaaaGreatD
import Derived.WalkMore
set_option maxRecDepth 100000
namespace Go.Proofs.YtfolppcadckmaaaGreat.Br
open Go.RowKit Go.Tn Go.Tn.P14

/-- A slice of bytes that is not among FP. -/
structure Arg (w : World) (A : Option Addr) (fr : List Int) (FP : List Nat) : Prop where
  by_ : Bytes w A fr
  out : ∀ b, b ∈ blkOf A → b ∉ FP
  len : fr.length * 1 ≤ 140737488351232

section
variable {w w' : World} {p bp bk : Nat} {FP FP' : List Nat} {C : Nat → Option Addr × Nat} {S : St} {A : Option Addr} {cf : Nat} {fr : List Int}

theorem BM.more (h : BM w p bp bk FP C S) (hF : ∀ b, b ∈ FP → b ∈ FP') (hF' : ∀ b, b ∈ FP' → b < w.heap.size) : BM w p bp bk FP' C S :=
  ⟨h.hd, h.rows.mod (Mod.refl [] w) (by simp) hF hF', h.isM, h.get, h.len, hF p h.pF, hF bk h.kF⟩

theorem BM.drewN (h : BM w p bp bk FP C S) (n : Nat) : BM (w.drewN n) p bp bk FP C S := h.newer ((Mod.refl [] w).drewN n)
theorem BM.drew (h : BM w p bp bk FP C S) : BM w.drew p bp bk FP C S := h.newer (Mod.refl [] w).drew
/-- An address is learnt. -/
theorem BM.kput (h : BM w p bp bk FP C S) {y v : Int} (hl : 0 ≤ S.K y ∨ cnt S.K < 64) (h0 : 0 ≤ y) (h1 : y < 256) (hv : 0 ≤ v) : BM (mput w bk y (.int .i64 v)) p bp bk FP C { S with K := learn S.K y v } := by
  have hm : Mod [bk] w (mput w bk y (.int .i64 v)) := (Mod.refl _ _).mput (.inl (by simp)) _ _
  refine ⟨h.hd.mod hm (by simpa using h.kp.symm), h.rows.mapped h.isM hm, h.isM.mput_same _ _, fun m => ?_, ?_, h.pF, h.kF⟩
  · rw [mget_mput_same h.isM]
    simp only [learn_yes hl]
    by_cases hmy : m = y
    · rw [if_pos hmy, if_pos hmy, if_pos hv]
    · rw [if_neg hmy, if_neg hmy, h.get]
  · rw [mlen_mput_same h.isM, h.get, h.len]
    simp only [learn_yes hl]
    rw [cnt_upd S.K hv h0 h1]
    by_cases hK : 0 ≤ S.K y
    · have h2 : ¬ S.K y < 0 := by omega
      simp [hK, h2]
    · have h2 : S.K y < 0 := by omega
      simp [hK, h2]

theorem add_none (b off n : Nat) : (⟨b, off, none⟩ : Addr).add n = ⟨b, off + n, none⟩ := by
  unfold Addr.add
  split
  · rename_i h; subst h; rfl
  · rfl

theorem fAt_get {i : Nat} (hi : i < fr.length) : fr[i]? = some (fAt fr i) := by simp [fAt, hi]
theorem fAt_rng {i : Nat} (h : ∀ y, y ∈ fr → 0 ≤ y ∧ y ≤ 255) (hi : i < fr.length) : 0 ≤ fAt fr i ∧ fAt fr i ≤ 255 := h _ (List.mem_of_getElem? (fAt_get hi))


theorem len57 {w : World} {b : Nat} (h : IsM w b) (ty : TypeId) : (Builtin.len_ #[80] ty #[.map (some b)]).run Tryz.prog w = .ok (.int .i64 (mlen w b)) w := h.runLen Tryz.underlying80 ty
theorem upd57 {w : World} {b : Nat} (h : IsM w b) (n : Int) (v : Value) : (Instr.mapUpdate 80 (.map (some b)) (.int .i64 n) v).run Tryz.prog w = .ok () (mput w b n v) := h.store Tryz.underlying80 Tryz.underlying3 n v
attribute [local go_sem] look57 nilM len57 upd57

def bytesV (fr : List Int) : List Value := fr.map (.int .u8)
theorem bytesV_len (fr : List Int) : (bytesV fr).length = fr.length := by simp [bytesV]
theorem bytesV_one (fr : List Int) : ∀ u, u ∈ bytesV fr → u.oneCell' = true := by
  intro u hu
  simp only [bytesV, List.mem_map] at hu
  obtain ⟨y, _, rfl⟩ := hu
  rfl
theorem bytesV_get {fr : List Int} {j : Nat} {y : Int} (h : fr[j]? = some y) : (bytesV fr)[j]? = some (.int .u8 y) := by simp [bytesV, h]

/-- A frame's own row, made now. -/
theorem new_frame (h : BM w p bp bk FP C S) {g cap n : Nat} (hown : w'.ownsRow 0 5 1 (.slice (some ⟨g, 0, none⟩) n cap) n (bytesV fr)) (hgr : w.grownBy w' (Value.ownBlock (.slice none 0 0))) (hat : Value.ownBlock (.slice none 0 0) = some g ∨ g = w.heap.size) (hlt : g < w'.heap.size) :
    BM w' p bp bk (g :: FP) C S ∧ (∃ cs, Blk w' g 5 cs ∧ ∀ (j : Nat) (y : Int), fr[j]? = some y → cs[j]? = some (.int .u8 y)) ∧ Step w w' FP (g :: FP) := by
  have hg : g = w.heap.size := by
    rcases hat with h | h
    · simp [Value.ownBlock] at h
    · exact h
  have hm : Mod [] w w' := (Mod.refl _ _).grown hgr (by simp [Value.ownBlock])
  refine ⟨(h.newer hm).more (fun b hb => List.mem_cons_of_mem _ hb) fun b hb => ?_, ?_, ⟨hm.mono (by simp), fun b hb => List.mem_cons_of_mem _ hb, fun b hb => ?_⟩⟩
  · rcases List.mem_cons.1 hb with rfl | hb
    · exact hlt
    · exact Nat.lt_of_lt_of_le (h.rows.old b hb) hm.size
  · rcases hown.2 with ⟨h0, _⟩ | ⟨g', cap', cur, hv, _, hgg, _, _, _, ht⟩
    · cases h0
    · injection hv with h1
      injection h1 with h1
      injection h1 with h1
      subst h1
      refine ⟨cur, hgg, fun j y hj => ?_⟩
      have := bytesV_get hj
      rw [← ht, List.getElem?_take] at this
      split at this
      · simpa using this
      · cases this
  · rcases List.mem_cons.1 hb with rfl | hb
    · exact .inr (by omega)
    · exact .inl hb

end

end Go.Proofs.YtfolppcadckmaaaGreat.Br
