/-
  Commit: changed.
-/
import Derived.Test.YtlhjocgkmeoheaaDoorCo
import Derived.OwnWalk
namespace Go.Proofs.YtlhjocgkmeoheaaDoor
open Go.RowKit Go.Tn Go.MapKept
open Go.Proofs

section
variable {B : Nat} {w w' : World} {sb mt mo g : Nat} {A : Tree} {op : Option Nat}

attribute [local go_sem] look42 look42b
theorem TH.ne_blk {m b : Nat} {t : TypeId} {cs : Array Value} (h : TH w m A) (hb : Blk w b t cs) : b ≠ m := fun e => by
  obtain ⟨es, c, hm, _⟩ := h.is.smap
  unfold Blk at hb
  rw [e, hm] at hb
  injection hb with hb
  cases hb

/-- The tree is set. -/
theorem SH.setT {m' : Nat} {A' : Tree} (h : SH w sb mt mo A g op) (ht : TH w m' A') (hne : m' ≠ mo) : SH (w.setCell ⟨sb, 0, none⟩ (.map (some m'))) sb m' mo A' g op ∧ Tn.Mod [sb] w (w.setCell ⟨sb, 0, none⟩ (.map (some m'))) := by
  have hm : Tn.Mod [sb] w (w.setCell ⟨sb, 0, none⟩ (.map (some m'))) := (Mod.refl _ w).setCell (.inl (by simp)) _
  refine ⟨⟨?_, ht.mod hm (by simpa using (ht.ne_blk h.blk).symm) h.cold, h.mo.of_heap (hm.block mo h.mo.lt (by simpa using h.sbmo.symm)), h.gb, hne⟩, hm⟩
  have := h.blk.set_ 0 (.map (some m'))
  simpa [storeCells] using this
theorem Chg.mod1 {v : Value} {cnt : Nat} (h : SH w sb mt mo A g op) (hc : Chg w v cnt) (hm : Tn.Mod [sb] w w') : Chg w' v cnt := hc.mod hm (fun b hb hs => by
    simp at hs
    subst hs
    obtain ⟨cs, hcs⟩ := hc.blk hb
    exact (hcs.ne_ h.blk (by decide)) rfl)

set_option maxRecDepth 100000 in
theorem changed_f0 {v : Value} {cnt m' : Nat} {A' : Tree} (h : SH w sb mt mo A g op) (hc : Chg w v cnt) (hg : g + 1 < 4611686018427387904) (ht : TH w m' A') (hne : m' ≠ mo) :
    Calls Tryd.prog 22 #[.pointer (some ⟨sb, 0, none⟩), .int .i64 0, .map (some m'), v] w fun e w' => e = .returned (.tuple #[]) ∧ SH w' sb m' mo A' (g + 1) op ∧ Tn.Mod [sb] w w' := by
  have c0 := h.c0
  have f0 := h.blk.frozen 0
  obtain ⟨hS, hM⟩ := h.setT ht hne
  have HK := hid (commit_f hS (Chg.mod1 h hc hM) hg)
  have HM := hid hM
  obtain ⟨Av, cap, hv, _⟩ := hc.open_
  subst hv
  clear h hc ht hS hM
  go_enter Tryd.func22, Tryd.ntmps22
  go_wp2_with (go_at_call 15; refine HK.out.mono ?_; rintro e w' ⟨rfl, hs, hm⟩; replace hs := hid hs; replace hm := hid hm)
  refine bodyPost_ret (results_none rfl _ _ _) rfl ?_
  exact ⟨rfl, hs.out, HM.out.andThen hm.out⟩

theorem ownsRow_strong {w : World} {B e size n : Nat} {v : Value} {xs : List Value} (h : w.ownsRow 0 e size v n xs) (hB : ∀ b, v.ownBlock = some b → B ≤ b) : w.ownsRow B e size v n xs := by
  refine ⟨h.1, ?_⟩
  rcases h.2 with h0 | ⟨g, cap, cur, rfl, _, r⟩
  · exact .inl h0
  · exact .inr ⟨g, cap, cur, rfl, hB g rfl, r⟩
theorem ownsRow_weak0 {w : World} {base e size n : Nat} {v : Value} {xs : List Value} (h : w.ownsRow base e size v n xs) : w.ownsRow 0 e size v n xs := by
  refine ⟨h.1, ?_⟩
  rcases h.2 with h0 | ⟨g, cap, cur, hv, _, r⟩
  · exact .inl h0
  · exact .inr ⟨g, cap, cur, hv, Nat.zero_le _, r⟩
theorem info69 : (Tryd.prog.info? 69).map (fun i => (i.zero, i.size, i.bytes)) = some (some (.agg #[.string ⟨#[]⟩, .slice none 0 0]), 2, 40) := by kernel_rfl

set_option maxRecDepth 100000 in
set_option maxHeartbeats 2000000 in
theorem changed_f1 {v : Value} {tb m2 g2 cnt k m' : Nat} {A2 A' : Tree} (h : SH w sb mt mo A g (some tb)) (hx : XH B w tb m2 A2 g2 cnt) (hc : Chg w v k) (hk : 1 ≤ k) (hb : cnt + k ≤ 1073741824) (ht : TH w m' A') (hB : B ≤ w.heap.size) :
    Calls Tryd.prog 22 #[.pointer (some ⟨sb, 0, none⟩), .int .i64 1, .map (some m'), v] w fun e w' => e = .returned (.tuple #[]) ∧ XH B w' tb m' A' g2 (cnt + k) ∧ ∃ S, Tn.Mod (tb :: S) w w' ∧ ∀ s ∈ S, B ≤ s ∧ ∃ cs, Blk w s 69 cs := by
  have c2 := h.c2
  have hi := h.mo.is
  have hg1 : mget w mo 1 = some (.pointer (some ⟨tb, 0, none⟩)) := h.mo.get 1
  obtain ⟨⟨vo, hbk, hco, hob⟩, hT2⟩ := hx
  have d2 := hbk.cell 2
  have d3 := hbk.cell 3
  have f2 := hbk.frozen 2
  have f3 := hbk.frozen 3
  have hlt := hbk.lt
  simp only [List.getElem?_toArray, List.getElem?_cons_zero, List.getElem?_cons_succ] at d2 d3
  obtain ⟨Ao, capo, hvo, _⟩ := hco.open_
  subst hvo
  obtain ⟨Av, cap, hv, hel⟩ := hc.open_
  subst hv
  obtain ⟨b, s0, a0, l0, n0, rfl, _⟩ := hel 0 (by omega)
  obtain ⟨S, hS69, hSrow, hSB⟩ : ∃ S : List Nat, (∀ s ∈ S, ∃ cs, Blk w s 69 cs) ∧ (∀ b, (Value.slice Ao cnt capo).ownBlock = some b → b ∈ S) ∧ ∀ s ∈ S, B ≤ s := by
    cases hr : (Value.slice Ao cnt capo).ownBlock with
    | none => exact ⟨[], by simp, by simp, by simp⟩
    | some r => exact ⟨[r], by intro s hs; simp at hs; subst hs; exact hco.blk hr, by simp, by intro s hs; simp at hs; subst hs; exact hob s hr⟩
  have htS : tb ∉ S := fun hs => by
    obtain ⟨cs, hcs⟩ := hS69 tb hs
    exact hcs.ne_ hbk (by decide) rfl
  have hcold : Cold S w := fun s hs cs t hb => by
    obtain ⟨cs', hcs⟩ := hS69 s hs
    exact cold_blk hcs (by decide) (by decide) cs t hb
  have hmS : m' ∉ S := fun hs => by
    obtain ⟨cs', hcs⟩ := hS69 m' hs
    exact ht.ne_blk hcs rfl
  obtain ⟨xs, hown0, hlx, hcx, hxs⟩ := hco
  have hown := ownsRow_strong hown0 hob
  clear hown0 hob
  obtain ⟨ys, hown2, hly, hcy, hys⟩ := hc
  have hone : ∀ u ∈ ys, u.oneCell' = true := fun u hu => by
    obtain ⟨j, hj, rfl⟩ := List.getElem_of_mem hu
    obtain ⟨s, a, l, c, e1, e2⟩ := hys (j / 2) (by omega)
    rcases Nat.mod_two_eq_zero_or_one j with h0 | h0
    · have : j / 2 * 2 = j := by omega
      rw [this, List.getElem?_eq_getElem hj] at e1
      injection e1 with e1
      rw [e1]; rfl
    · have : j / 2 * 2 + 1 = j := by omega
      rw [this, List.getElem?_eq_getElem hj] at e2
      injection e2 with e2
      rw [e2]; rfl
  have hcell : ∀ j u, ys[j]? = some u → w.cell? (Addr.add ⟨b, 0, none⟩ j) = some u := fun j u hj => by
    have hjl : j < ys.length := (List.getElem?_eq_some_iff.1 hj).1
    have := hown2.cellAt j (by omega)
    have ha : Addr.add ⟨b, 0, none⟩ j = ⟨b, j, none⟩ := by unfold Addr.add; split <;> simp_all
    rw [ha, this, hj]
  have HONE := hid hone
  have HCELL := hid hcell
  have HOWN2 := hid hown2
  have HXS := hid hxs
  have HYS := hid hys
  have HT := hid ht
  have HBK := hid hbk
  have H := hid h
  obtain ⟨i0, hi0, hz0, hz1, hz2⟩ := info_parts info69
  clear h hel hone hcell hown2 hxs hys ht hbk
  go_enter Tryd.func22, Tryd.ntmps22
  go_wp2_with (at_builtin; refine wpList_append_own _ rfl _ _ 50 rfl B 69 i0 _ 2 40 Tryd.underlying50 hi0 hz0 hz1 hz2 rfl (by decide) _ _ _ rfl hown ⟨b, 0, none⟩ k cap ys rfl ?c0 ?c1 ?c2 ?c3 ?c4 ?c5 ?_)
  case c0 => exact hly
  case c1 => exact HCELL.out
  case c2 => exact HONE.out
  case c3 => unfold maxLen; omega
  case c4 => omega
  case c5 => exact hB
  intro v' w1 hown' hgrow _
  obtain ⟨G, cap2, hv'⟩ : ∃ G cap2, v' = .slice G (cnt + k) cap2 := by
    rcases hown'.2 with ⟨_, h0⟩ | ⟨g2, cap2, cur2, h3, _⟩
    · omega
    · exact ⟨_, _, h3⟩
  subst hv'
  have hM1 : Tn.Mod S w w1 := (Mod.refl S w).grown hgrow (fun b hb => .inl (hSrow b hb))
  have hb1 := HBK.out.mod hM1 htS
  have d2 := hb1.cell 2
  have d3 := hb1.cell 3
  have f2 := hb1.frozen 2
  have f3 := hb1.frozen 3
  simp only [List.getElem?_toArray, List.getElem?_cons_zero, List.getElem?_cons_succ] at d2 d3
  have ht1 := HT.out.mod hM1 hmS hcold
  have hne : ∀ b, (Value.slice G (cnt + k) cap2).ownBlock = some b → b ≠ tb := fun b hb e => by
    rcases hown'.2 with ⟨_, h0⟩ | ⟨gg, cap', cur, hv, _, hh, _⟩
    · omega
    · rw [hv] at hb
      simp [Value.ownBlock] at hb
      subst hb
      have hh' : Blk w1 gg 69 cur := hh
      exact hh'.ne_ hb1 (by decide) e
  have HB1 := hid hb1
  have HT1 := hid ht1
  have HO1 := hid hown'
  have HNE := hid hne
  have HM1 := hid hM1
  clear hb1 ht1 hown' hne hM1 hgrow hown
  go_wp2
  go_end0
  have m2 : Tn.Mod [tb] w1 (w1.setCell ⟨tb, 2, none⟩ (.map (some m'))) := (Mod.refl _ w1).setCell (.inl (by simp)) _
  have b2 := HB1.out.set_ 2 (.map (some m'))
  generalize w1.setCell ⟨tb, 2, none⟩ (.map (some m')) = w2 at *
  have m3 : Tn.Mod [tb] w2 (w2.setCell ⟨tb, 3, none⟩ (.slice G (cnt + k) cap2)) := (Mod.refl _ w2).setCell (.inl (by simp)) _
  have b3 := b2.set_ 3 (.slice G (cnt + k) cap2)
  generalize w2.setCell ⟨tb, 3, none⟩ (.slice G (cnt + k) cap2) = w3 at *
  have m4 := m2.andThen m3
  have hct : Cold [tb] w1 := (Cold.nil _).cons (cold_blk HB1.out (by decide) (by decide))
  refine ⟨rfl, ⟨⟨.slice G (cnt + k) cap2, by simpa using b3, ⟨xs ++ ys, ownsRow_weak0 (ownsRow_of_heap' HO1.out fun b hb => m4.block b (HO1.out.lt b hb).2 (by simpa using HNE.out b hb)), by simp; omega, hb, fun i hi => ?_⟩, fun b hb => (HO1.out.lt b hb).1⟩, HT1.out.mod m4 (by simpa using (HT1.out.ne_blk HB1.out).symm) hct⟩,
    S, (HM1.out.mono (T := tb :: S) (by intro t ht; left; simp [ht])).trans m4 (by simp), fun s hs => ⟨hSB s hs, hS69 s hs⟩⟩
  rcases Nat.lt_or_ge i cnt with hlt | hge
  · obtain ⟨s, a, l, c, e1, e2⟩ := HXS.out i hlt
    refine ⟨s, a, l, c, ?_, ?_⟩
    · rw [List.getElem?_append_left (by omega)]; exact e1
    · rw [List.getElem?_append_left (by omega)]; exact e2
  · obtain ⟨s, a, l, c, e1, e2⟩ := HYS.out (i - cnt) (by omega)
    refine ⟨s, a, l, c, ?_, ?_⟩
    · rw [List.getElem?_append_right (by omega), show i * 2 - xs.length = (i - cnt) * 2 by omega]; exact e1
    · rw [List.getElem?_append_right (by omega), show i * 2 + 1 - xs.length = (i - cnt) * 2 + 1 by omega]; exact e2
end
end Go.Proofs.YtlhjocgkmeoheaaDoor
