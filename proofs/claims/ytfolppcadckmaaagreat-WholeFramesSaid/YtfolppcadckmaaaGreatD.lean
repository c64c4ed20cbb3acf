/-
  Layer 14, bridge.Bridge: a queue's put.
-/
import Derived.Test.YtfolppcadckmaaaGreatC
set_option maxRecDepth 100000
namespace Go.Proofs.YtfolppcadckmaaaGreat.Br
open Go.RowKit Go.Tn Go.Tn.P14

theorem info23 : (Tryz.prog.info? 22).map (fun i => (i.zero, i.size, i.bytes)) = some (some (.slice none 0 0), 1, 24) := by kernel_rfl
theorem info5 : (Tryz.prog.info? 5).map (fun i => (i.zero, i.size, i.bytes)) = some (some (.int .u8 0), 1, 1) := by kernel_rfl

section
variable {w w' : World} {p bp bk : Nat} {FP : List Nat} {C : Nat → Option Addr × Nat} {S : St}

theorem BM.putq (h : BM w p bp bk FP C S) {k : Nat} (hk : k < S.n) {T FP' : List Nat} (hm : Mod T w w') (hT : ∀ b, b ∈ T → b ∈ blkOf (C k).1) {A : Option Addr} {cap : Nat} {q : List (List Int)} {xs : List Value}
    (hr : QRow w' 22 A cap xs) (hf : Frs w' FP' xs q) (hA : ∀ b, b ∈ blkOf A → b ∈ blkOf (C k).1 ∨ w.heap.size ≤ b) (hF : ∀ b, b ∈ FP → b ∈ FP') (hF2 : ∀ b, b ∈ blkOf A → b ∈ FP') (hF' : ∀ b, b ∈ FP' → b < w'.heap.size) :
    BM (w'.setCell ⟨bp, k * 13 + 12, none⟩ (.slice A q.length cap)) p bp bk FP' (upd C k (A, cap)) (onP S k fun P => P.setq q) := by
  obtain ⟨xs0, h1, _⟩ := h.rows.que k hk
  have hp : p ∉ T := fun e => h1.ne_blk h.hd (by decide) (hT p e)
  have hkT : bk ∉ T := fun e => by
    rcases h1.2.2 with ⟨e0, _⟩ | ⟨g, off, cur, e0, hg, _⟩
    · have := hT bk e; rw [e0] at this; simp [blkOf] at this
    · have := hT bk e; rw [e0] at this; simp [blkOf] at this
      subst this
      exact Blk.ne_map hg h.isM.imap rfl
  have hm2 : Mod [bp] w' (w'.setCell ⟨bp, k * 13 + 12, none⟩ (.slice A q.length cap)) := (Mod.refl _ _).setCell (.inl (by simp)) _
  obtain ⟨k1, k2, k3⟩ := h.ks hm hkT
  have hkk := h.kb
  have hpp := h.pp
  refine ⟨(h.hd.mod hm hp).mod hm2 (by simpa using hpp), h.rows.putq hk (by decide) hm hT hr hf hA hF hF2 hF', k1.of_heap (hm2.block bk k1.lt (by simpa using hkk)), fun m => ?_, ?_, hF p h.pF, hF bk h.kF⟩
  · exact (mget_of_heap (hm2.block bk k1.lt (by simpa using hkk)) m).trans (k2 m)
  · exact (mlen_of_heap (hm2.block bk k1.lt (by simpa using hkk))).trans k3

theorem blkOf_some (g off : Nat) : blkOf (some ⟨g, off, none⟩) = [g] := rfl

/-- 'put', of a frame in a block of its own. -/
theorem put_f (h : BM w p bp bk FP C S) {k : Nat} (hk : k < S.n) {g cf : Nat} {cs : Array Value} {fr : List Int} (hg : g ∈ FP) (hb : Blk w g 5 cs) (hc : ∀ (j : Nat) (y : Int), fr[j]? = some y → cs[j]? = some (.int .u8 y)) :
    Calls Tryz.prog 81 #[.pointer (some ⟨bp, k * 13 + 12, none⟩), .slice (some ⟨g, 0, none⟩) fr.length cf] w fun e w' => e = .returned (.bool (decide ((S.L k).q.length < 4))) ∧
      Aft w w' p bp bk FP (if 4 ≤ (S.L k).q.length then S else onP S k fun P => P.setq (P.q ++ [fr])) := by
  have hq := h.que hk
  obtain ⟨xs, hr, hf⟩ := h.rows.que k hk
  obtain ⟨n, hn⟩ : ∃ n, (S.L k).q.length = n := ⟨_, rfl⟩
  rw [hn] at hq
  have hxl : xs.length = n := hf.1.trans hn
  obtain ⟨⟨A, cap⟩, hCk⟩ : ∃ c, C k = c := ⟨_, rfl⟩
  rw [hCk] at hq hr
  have hfz := h.rows.free (k * 13 + 12)
  have HR := hid hr
  have HF := hid hf
  have H := hid h
  have HB := hid hb
  have HG := hid hg
  have HC := hid hc
  rw [hn]
  by_cases h4 : 4 ≤ n
  · rw [if_pos h4]
    have hd : decide (n < 4) = false := by simp; omega
    rw [hd]
    clear h hr hf hd hb hg hc hxl hn
    go_enter Tryz.func81, Tryz.ntmps81
    go_wp2
    go_ret
    exact ⟨rfl, FP, C, H.out, Step.refl _ _⟩
  · rw [if_neg h4]
    have hd : decide (n < 4) = true := by simp; omega
    rw [hd]
    have h4' : n < 4 := by omega
    obtain ⟨i0, hi, hz0, hz1, hz2⟩ := info_parts info23
    have HX := hid hxl
    have HN := hid hn
    have hbp := h.rows.row.lt
    have HA := hid (HR.out.mod ((Mod.refl [] w).alloc (.cells #[.slice (some ⟨g, 0, none⟩) fr.length cf] 22)) (by simp))
    clear h hr hf hd hb hg hc h4 hxl hn
    go_enter Tryz.func81, Tryz.ntmps81
    go_wp2_with (at_builtin; refine wpList_append_q rfl _ _ 23 rfl Tryz.underlying23 hi hz0 hz1 hz2 rfl HA.out HX.out.symm rfl (ad := ⟨w.heap.size, 0, none⟩) (u := .slice (some ⟨g, 0, none⟩) fr.length cf) rfl ?c1 rfl ?c2 ?c3 ?_)
    case c2 => rw [HX.out]; unfold maxLen; omega
    case c3 => rw [HX.out]; omega
    intro g2 off2 cap2 w2 hr2 hm2 hg2 hl2
    have hmm : Mod (blkOf A) w w2 := ((Mod.refl (blkOf A) w).alloc (.cells #[.slice (some ⟨g, 0, none⟩) fr.length cf] 22)).andThen hm2
    have hbA : bp ∉ blkOf A := fun e => HR.out.ne_blk H.out.rows.row (by decide) e
    have e1 : w2.cell? ⟨bp, k * 13 + 12, none⟩ = some (.slice A n cap) := (hmm.cell hbp hbA).trans hq
    have e2 : w2.frozen? ⟨bp, k * 13 + 12, none⟩ = false := (hmm.frozen hbp hbA).trans hfz
    have HM := hid hmm
    have HQ := hid hr2
    have hg3 : g2 ∈ blkOf A ∨ w.heap.size ≤ g2 := hg2.imp id (by omega)
    have HG2 := hid hg3
    have HL2 := hid hl2
    clear hmm hbA hr2 hm2 hg2 hl2 hg3 HA hq hfz
    go_wp2
    go_ret
    have hC1 : (C k).1 = A := by rw [hCk]
    have hlen : n + 1 = ((S.L k).q ++ [fr]).length := by rw [List.length_append, HN.out]; rfl
    have hfr : Frs w2 (g2 :: FP) (xs ++ [.slice (some ⟨g, 0, none⟩) fr.length cf]) ((S.L k).q ++ [fr]) := by
      have hnot : ∀ g' cs', Blk w g' 5 cs' → g' ∉ blkOf A := fun g' cs' hb' e => HR.out.ne_blk hb' (by decide) e
      exact (HF.out.mod HM.out (fun g' cs' _ hb' => hnot g' cs' hb') fun b hb' => List.mem_cons_of_mem _ hb').push (List.mem_cons_of_mem _ HG.out) (HB.out.mod HM.out (hnot g cs HB.out)) HC.out
    have h1 := H.out.putq hk HM.out (fun b hb' => by rw [hC1]; exact hb') (FP' := g2 :: FP) HQ.out hfr
      (fun b hb' => by rw [blkOf_some] at hb'; simp at hb'; subst hb'; rw [hC1]; exact HG2.out) (fun b hb' => List.mem_cons_of_mem _ hb') (fun b hb' => by rw [blkOf_some] at hb'; simp at hb'; simp [hb'])
      (fun b hb' => by
        rcases List.mem_cons.1 hb' with rfl | hb'
        · exact HL2.out
        · exact Nat.lt_of_lt_of_le (H.out.rows.old b hb') HM.out.size)
    rw [← hlen] at h1
    refine ⟨by simp, _, _, h1, ⟨?_, fun b hb' => List.mem_cons_of_mem _ hb', fun b hb' => ?_⟩⟩
    · refine (HM.out.mono fun t ht => .inl ?_).setCell (.inl H.out.rows.bpF) _
      exact H.out.rows.own k hk t (by rw [hC1]; exact ht)
    · rcases List.mem_cons.1 hb' with rfl | hb'
      · rcases HG2.out with h | h
        · exact .inl (H.out.rows.own k hk _ (by rw [hC1]; exact h))
        · exact .inr h
      · exact .inl hb'
end

end Go.Proofs.YtfolppcadckmaaaGreat.Br
