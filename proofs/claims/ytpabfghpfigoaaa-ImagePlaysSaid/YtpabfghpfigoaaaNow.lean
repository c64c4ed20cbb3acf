/-
  Layer 12: the law's 'now': what each sector should hold.
-/
import Derived.Test.YtpabfghpfigoaaaTrimsW
import Derived.Test.YtpabfghpfigoaaaArgc
namespace Go.Proofs.Ytpabfghpfigoaaa
open Go.RowKit Go.Tn Go.Shelf
open Go.Proofs

section
variable {w w' : World} {p mb B k m : Nat} {d : Nat → Int} {f : Int → Option (Nat → Int)}

/-- One block of another kind has turned. -/
theorem JM.other (h : JM w p mb B d k m f) {s : Nat} {t : TypeId} {cs : Array Value} (hb : Blk w s t cs) (h1 : t ≠ 40) (h2 : t ≠ 62) (hm : Tn.Mod [s] w w') : JM w' p mb B d k m f := by
  obtain ⟨⟨⟨a, cap, hp, ho⟩, hi, hg, hd⟩, l1, l2, l3, l4, l5, l6, l7⟩ := h
  have np : p ∉ [s] := by
    simp only [List.mem_singleton]
    exact (hb.ne_ hp h1).symm
  have nm : mb ∉ [s] := by
    simp only [List.mem_singleton]
    exact (hb.ne_map hi.imap).symm
  have hh := hm.block mb hi.lt nm
  refine ⟨⟨⟨a, cap, hp.mod hm np, ?_⟩, hi.of_heap hh, fun n => by rw [mget_of_heap hh]; exact hg n, hd⟩, (mlen_of_heap hh).trans l1, l2, l3, l4, Nat.le_trans l5 hm.size, l6, l7⟩
  obtain ⟨hl, h0 | ⟨g, cap', cur', e, h3, h4, h5⟩⟩ := ho
  · exact ⟨hl, .inl h0⟩
  · refine ⟨hl, .inr ⟨g, cap', cur', e, h3, ?_, h5⟩⟩
    rw [hm.block g (Array.getElem?_eq_some_iff.1 h4).1 (by
      simp only [List.mem_singleton]
      rintro rfl
      exact hb.ne_ (g' := g) (t' := 62) (cs' := cur') h4 h2 rfl)]
    exact h4

/-- The law's 'now'. -/
structure NowOk (w : World) (nb mb : Nat) (cs : Array Value) (d : Nat → Int) (f : Int → Option (Nat → Int)) (k : Nat) : Prop where
  blk : Blk w nb 27 cs
  size : cs.size = k
  ne : nb ≠ mb
  at_ : ∀ i, i < k → ∃ q off c, cs[i]? = some (.slice (some ⟨q, off, none⟩) 64 c) ∧ q ≠ nb ∧ q ≠ mb ∧ Bys w (some ⟨q, off, none⟩) 64 (cur d f i)

variable {nb : Nat} {cs : Array Value}
theorem NowOk.mod (h : NowOk w nb mb cs d f k) {S : List Nat} (hm : Tn.Mod S w w') (hS : ∀ s, s ∈ S → s = mb) : NowOk w' nb mb cs d f k := by
  refine ⟨h.blk.mod hm (fun hs => h.ne (hS _ hs)), h.size, h.ne, fun i hi => ?_⟩
  obtain ⟨q, off, c, h1, h2, h3, h4⟩ := h.at_ i hi
  exact ⟨q, off, c, h1, h2, h3, h4.mod hm (fun b o e hb => by cases e; exact h3 (hS _ hb))⟩
theorem NowOk.congr (h : NowOk w nb mb cs d f k) {f' : Int → Option (Nat → Int)} (e : ∀ i, i < k → cur d f' i = cur d f i) : NowOk w nb mb cs d f' k :=
  ⟨h.blk, h.size, h.ne, fun i hi => by rw [e i hi]; exact h.at_ i hi⟩
theorem NowOk.set (h : NowOk w nb mb cs d f k) {f' : Int → Option (Nat → Int)} {A q off c : Nat} {gA : Nat → Int} (hA : A < k) (h1 : q ≠ nb) (h2 : q ≠ mb) (h3 : Bys w (some ⟨q, off, none⟩) 64 gA) (e1 : cur d f' A = gA) (e2 : ∀ i, i < k → i ≠ A → cur d f' i = cur d f i) :
    NowOk (w.setCell ⟨nb, A, none⟩ (.slice (some ⟨q, off, none⟩) 64 c)) nb mb (cs.setIfInBounds A (.slice (some ⟨q, off, none⟩) 64 c)) d f' k := by
  have hm : Tn.Mod [nb] w (w.setCell ⟨nb, A, none⟩ (.slice (some ⟨q, off, none⟩) 64 c)) := (Mod.refl _ w).setCell (.inl (by simp)) _
  refine ⟨h.blk.set_ A _, by simp [h.size], h.ne, fun i hi => ?_⟩
  by_cases hiA : i = A
  · subst hiA
    refine ⟨q, off, c, by simp [h.size, hi], h1, h2, ?_⟩
    rw [e1]
    exact h3.mod hm (fun b o e hb => by cases e; simp at hb; exact h1 hb)
  · obtain ⟨q', off', c', g1, g2, g3, g4⟩ := h.at_ i hi
    refine ⟨q', off', c', by rw [Array.getElem?_setIfInBounds_ne (Ne.symm hiA)]; exact g1, g2, g3, ?_⟩
    rw [e2 i hi hiA]
    exact g4.mod hm (fun b o e hb => by cases e; simp at hb; exact g2 hb)
end

theorem cur_put {d : Nat → Int} {f : Int → Option (Nat → Int)} {A : Nat} {v : Option (Nat → Int)} {i : Nat} (h : i ≠ A) : cur d (put f (A : Int) v) i = cur d f i := by
  unfold cur put
  rw [if_neg (by omega)]
theorem cur_put_out {d : Nat → Int} {f : Int → Option (Nat → Int)} {x : Int} {v : Option (Nat → Int)} {i : Nat} (h : (i : Int) ≠ x) : cur d (put f x v) i = cur d f i := by
  unfold cur put
  rw [if_neg h]

theorem info27 : (Try.prog.info? 27).map (fun i => (i.zero, i.size, i.bytes)) = some (some (.slice none 0 0), 1, 24) := by kernel_rfl
def nils (n : Nat) : Array Value := madeCells #[.slice none 0 0] n
theorem nils_size (n : Nat) : (nils n).size = n := by simp [nils, madeCells]
theorem make_rows (n : Nat) (hn : n ≤ 100000) (w : World) : (Instr.makeSlice 48 (.int .i64 (n : Int)) (.int .i64 (n : Int))).run Try.prog w = .ok (.slice (some ⟨w.heap.size, 0, none⟩) n n) (w.alloc (.cells (nils n) 27)) := by
  obtain ⟨i5, hi5, hz0, hz1, hz2⟩ := info_parts info27
  have hr := run_make (P := Try.prog) w 48 27 i5 _ Try.underlying48 hi5 hz0 .i64 .i64 n n (by omega) (Int.le_refl _) (by rw [hz2]; omega) (by omega)
  rw [hz1] at hr
  simp only [Int.toNat_natCast, Nat.mul_one] at hr
  exact hr
end Go.Proofs.Ytpabfghpfigoaaa
