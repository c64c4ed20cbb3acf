/-
  Commit: fire, commit, changed.
-/
import Derived.Test.YtlhjocgkmeoheaaDoorSt
import Derived.Deep.RegionHeld3
namespace Go.Proofs.YtlhjocgkmeoheaaDoor
open Go.RowKit Go.Tn Go.MapKept
open Go.Proofs

section
variable {w w' : World} {sb mt mo g : Nat} {A : Tree} {op : Option Nat}
set_option maxRecDepth 100000 in
theorem fire_f (h : SH w sb mt mo A g op) (s : ByteArray) (v : Value) : Calls Tryd.prog 26 #[.pointer (some ⟨sb, 0, none⟩), .string s, v] w fun e w' => e = .returned (.tuple #[]) ∧ w = w' := by
  have c3 := h.c3
  clear h
  go_enter Tryd.func26, Tryd.ntmps26
  go_wp2
  go_loopw [14] (fun i wr => i = .int .i64 0 ∧ wr = w) (fun _ _ => 0)
  case atStart => exact ⟨rfl, rfl⟩
  case round =>
    obtain ⟨rfl, rfl⟩ := hrel
    go_wp2
    go_end0
    exact ⟨rfl, rfl⟩

theorem look41 {b : Nat} (h : IsS w b) (n : ByteArray) : (Instr.lookup 41 (.map (some b)) (.string n) true).run Tryd.prog w = .ok (.tuple #[(sget w b n).getD (.agg #[.slice none 0 0, .slice none 0 0]), .bool (sget w b n).isSome]) w := by
  have hz : (zeroValue 39).run Tryd.prog w = .ok (.agg #[.slice none 0 0, .slice none 0 0]) w := by kernel_rfl
  exact h.smap.look Tryd.underlying41 Tryd.underlying9 hz n true
theorem look41b {b : Nat} (h : IsS w b) (n : ByteArray) : (Instr.lookup 41 (.map (some b)) (.string n) false).run Tryd.prog w = .ok ((sget w b n).getD (.agg #[.slice none 0 0, .slice none 0 0])) w := by
  have hz : (zeroValue 39).run Tryd.prog w = .ok (.agg #[.slice none 0 0, .slice none 0 0]) w := by kernel_rfl
  exact h.smap.look Tryd.underlying41 Tryd.underlying9 hz n false
theorem store74 {b : Nat} (h : IsS w b) (n : ByteArray) (v : Value) : (Instr.mapUpdate 74 (.map (some b)) (.string n) v).run Tryd.prog w = .ok () (sput w b n v) := h.smap.store Tryd.underlying74 Tryd.underlying9 n v
theorem look74 {b : Nat} (h : IsS w b) (n : ByteArray) : (Instr.lookup 74 (.map (some b)) (.string n) false).run Tryd.prog w = .ok ((sget w b n).getD (.slice none 0 0)) w := by
  have hz : (zeroValue 37).run Tryd.prog w = .ok (.slice none 0 0) w := by kernel_rfl
  exact h.smap.look Tryd.underlying74 Tryd.underlying9 hz n false

attribute [local go_sem] store74 look74

/-- A slice of changes, read. -/
theorem Chg.open_ {v : Value} {cnt : Nat} (h : Chg w v cnt) : ∃ A cap, v = .slice A cnt cap ∧ ∀ i, i < cnt → ∃ b s a l c, A = some ⟨b, 0, none⟩ ∧ w.cell? ⟨b, i * 2, none⟩ = some (.string s) ∧ w.cell? ⟨b, i * 2 + 1, none⟩ = some (.slice a l c) := by
  obtain ⟨xs, h1, hl, hb, h2⟩ := h
  rcases h1.2 with ⟨rfl, h0⟩ | ⟨gg, cap, cur, rfl, r⟩
  · subst h0
    exact ⟨_, _, rfl, fun i hi => by omega⟩
  · refine ⟨_, _, rfl, fun i hi => ?_⟩
    obtain ⟨s, a, l, c, e1, e2⟩ := h2 i hi
    exact ⟨gg, s, a, l, c, rfl, (h1.cellAt (i * 2) (by omega)).trans e1, (h1.cellAt (i * 2 + 1) (by omega)).trans e2⟩

theorem SH.sbmt (h : SH w sb mt mo A g op) : sb ≠ mt := fun e => by
  obtain ⟨es, c, hb, _⟩ := h.th.is.smap
  have := h.blk
  unfold Blk at this
  rw [e, hb] at this
  injection this with this
  cases this
theorem SH.sbmo (h : SH w sb mt mo A g op) : sb ≠ mo := h.blk.ne_map h.mo
theorem SH.cold (h : SH w sb mt mo A g op) : Cold [sb] w := (Cold.nil w).cons (cold_blk h.blk (by decide) (by decide))
/-- The generation is set. -/
theorem SH.gen (h : SH w sb mt mo A g op) {k : Nat} (hk : k < 4611686018427387904) : SH (w.setCell ⟨sb, 1, none⟩ (.int .i64 (k : Nat))) sb mt mo A k op ∧ Tn.Mod [sb] w (w.setCell ⟨sb, 1, none⟩ (.int .i64 (k : Nat))) := by
  have hm : Tn.Mod [sb] w (w.setCell ⟨sb, 1, none⟩ (.int .i64 (k : Nat))) := (Mod.refl _ w).setCell (.inl (by simp)) _
  refine ⟨⟨?_, h.th.mod hm (by simpa using h.sbmt.symm) h.cold, h.mo.of_heap (hm.block mo h.mo.lt (by simpa using h.sbmo.symm)), hk, h.ne⟩, hm⟩
  have := h.blk.set_ 1 (.int .i64 (k : Nat))
  simpa [storeCells] using this

set_option maxRecDepth 100000 in
set_option maxHeartbeats 4000000 in
theorem commit_f {v : Value} {cnt : Nat} (h : SH w sb mt mo A g op) (hc : Chg w v cnt) (hg : g + 1 < 4611686018427387904) :
    Calls Tryd.prog 15 #[.pointer (some ⟨sb, 0, none⟩), v] w fun e w' => e = .returned (.tuple #[]) ∧ SH w' sb mt mo A (g + 1) op ∧ Tn.Mod [sb] w w' := by
  have c1 := h.c1
  have f1 := h.blk.frozen 1
  obtain ⟨Av, cap, hv, hel⟩ := hc.open_
  have hcb : cnt ≤ 1073741824 := by obtain ⟨_, _, _, hb, _⟩ := hc; exact hb
  subst hv
  have hgI : (g : Int) + 1 < 4611686018427387904 := by omega
  have hg0 : (0 : Int) ≤ g := by omega
  have H := hid h
  have HC := hid hc
  have HEL := hid hel
  have hmm := @run_makeMap Tryd.prog
  clear h hc hel
  go_enter Tryd.func15, Tryd.ntmps15
  go_wp2
  obtain ⟨HS1, hM1⟩ := H.out.gen (k := g + 1) hg
  have hg1 : ((g + 1 : Nat) : Int) = (g : Int) + 1 := by omega
  rw [hg1] at HS1 hM1
  replace HS1 := hid HS1
  have hC1 := hid (HC.out.mod hM1 (fun b hb hs => by
    simp at hs
    subst hs
    obtain ⟨cs, hcs⟩ := HC.out.blk hb
    exact (hcs.ne_ H.out.blk (by decide)) rfl))
  replace hM1 := hid hM1
  have hsz : (w.setCell ⟨sb, 1, none⟩ (.int .i64 ((g : Int) + 1))).heap.size = w.heap.size := by simp
  generalize w.setCell ⟨sb, 1, none⟩ (.int .i64 ((g : Int) + 1)) = W0 at *
  have hm0 := (SMap.made W0).is
  rw [hsz] at hm0
  have hmA : Tn.Mod [] W0 (W0.alloc (.map #[] 0)) := (Mod.refl [] W0).alloc _
  go_loopw [22, 24, 25, 6, 26, 27, 28, 29, 30] (fun i _ _ _ _ _ _ _ _ wr => ∃ k : Nat, k ≤ cnt ∧ i = .int .i64 (k : Nat) ∧ Hid (IsS wr w.heap.size) ∧ Hid (Tn.Mod [] W0 wr)) (fun i _ _ _ _ _ _ _ _ _ => cnt - (intOf i).toNat)
  case atStart => exact ⟨0, Nat.zero_le _, rfl, hid hm0, hid hmA⟩
  case round =>
    obtain ⟨k, hk, rfl, his, hM⟩ := hrel
    by_cases hlt : k < cnt
    · have hltI : (k : Int) < cnt := by omega
      have hkb : (k : Int) < 1073741824 := by omega
      obtain ⟨Av2, cap2, he, hel⟩ := (hC1.out.mod hM.out (by simp)).open_
      injection he with he1 he2 he3
      subst he1 he3
      clear he2
      obtain ⟨b, s, a, l, c, rfl, q0, q1⟩ := hel k hlt
      have hblt := his.out.lt
      have his4 : IsS (wr.alloc (.cells #[.string s, .slice a l c] 69)) w.heap.size := IsS.alloc _ _ his.out _
      have HIS4 := hid his4
      clear hel hm0 hmA
      go_wp2
      have hwr := hM.out.size
      go_roundw
      case rel =>
        refine ⟨k + 1, by omega, by go_num, hid (HIS4.out.sput_same _ _), hid ((hM.out.alloc _).trans (sput_mod _ _ _ _) ?_)⟩
        simp; omega
      case measure => simp [intOf]; omega
    · obtain rfl : cnt = k := by omega
      clear hm0 hmA
      go_wp2
      have HIS := his
      have HMM := hM
      clear his hM
      go_loopw [34, 36, 37, 8, 38, 39, 40, 41, 42, 9] (fun i _ _ _ _ _ _ _ _ _ wr => ∃ k : Nat, k ≤ cnt ∧ i = .int .i64 (k : Nat) ∧ Hid (IsS wr w.heap.size) ∧ Hid (Tn.Mod [] W0 wr)) (fun i _ _ _ _ _ _ _ _ _ _ => cnt - (intOf i).toNat)
      case atStart => exact ⟨0, Nat.zero_le _, rfl, HIS, HMM⟩
      case round =>
        obtain ⟨k, hk, rfl, his, hM⟩ := hrel
        by_cases hlt : k < cnt
        · have hltI : (k : Int) < cnt := by omega
          have hkb : (k : Int) < 1073741824 := by omega
          obtain ⟨Av2, cap2, he, hel⟩ := (hC1.out.mod hM.out (by simp)).open_
          injection he with he1 he2 he3
          subst he1 he3
          clear he2
          obtain ⟨b, s, a, l, c, rfl, q0, q1⟩ := hel k hlt
          have HS2 := hid (HS1.out.mod0 hM.out)
          have hblt := his.out.lt
          have hmt := HS2.out.th.is.lt
          have his4 : IsS (wr.alloc (.cells #[.string s, .slice a l c] 69)) w.heap.size := IsS.alloc _ _ his.out _
          have ht4 : IsS (wr.alloc (.cells #[.string s, .slice a l c] 69)) mt := IsS.alloc _ _ HS2.out.th.is _
          have q2 := HS2.out.c0
          obtain ⟨a1, l1, d1, a2, l2, d2, bb, hlk⟩ : ∃ a1 l1 d1 a2 l2 d2 bb, ∀ W', Tn.Mod [] wr W' → (Instr.lookup 41 (.map (some mt)) (.string s) true).run Tryd.prog W' = .ok (.tuple #[.agg #[.slice a1 l1 d1, .slice a2 l2 d2], .bool bb]) W' := by
            cases hl : LK A s with
            | none =>
              refine ⟨none, 0, 0, none, 0, 0, false, fun W' hm => ?_⟩
              rw [look41 (HS2.out.th.mod0 hm).is s, (HS2.out.th.mod0 hm).no s hl]
              rfl
            | some o =>
              obtain ⟨v, hv, hN⟩ := HS2.out.th.yes s o hl
              obtain ⟨y1, y2, y3, y4, y5, y6, rfl⟩ := hN.agg
              refine ⟨y1, y2, y3, y4, y5, y6, true, fun W' hm => ?_⟩
              rw [look41 (HS2.out.th.mod0 hm).is s, sget_of_heap (hm.block mt hmt (by simp)), hv]
              rfl
          have hlk1 := hlk (wr.alloc (.cells #[.string s, .slice a l c] 69)).drew ((Mod.refl [] wr).alloc _).drew
          have hlk2 := hlk (((wr.alloc (.cells #[.string s, .slice a l c] 69)).alloc (.cells #[.slice none 0 0, .slice none 0 0] 39)).drew) ((((Mod.refl [] wr).alloc _).alloc _).drew)
          clear hlk
          have HM6 := hid ((((Mod.refl [] wr).alloc (.cells #[.string s, .slice a l c] 69)).alloc (.cells #[.slice a1 l1 d1, .slice a2 l2 d2] 39)).drew)
          have HS6 := hid (HS2.out.mod0 HM6.out)
          have HIS4 := hid his4
          clear hel ht4
          go_wp2
          go_region_held3 (fun w' => w'.cell? ⟨sb, 0, none⟩ = some (.map (some mt)) ∧ w'.cell? ⟨wr.heap.size, 0, none⟩ = some (.string s)) (go_keep) (fail)
          all_goals
            cases bb
            all_goals
              go_wp2_with (go_at_call 26; refine (fire_f HS6.out _ _).mono ?_; rintro e w' ⟨rfl, rfl⟩)
              go_roundw
              case rel => exact ⟨k + 1, by omega, by go_num, hid (his.out.of_heap (HM6.out.block _ hblt (by simp))), hid (hM.out.andThen HM6.out)⟩
              case measure => simp [intOf]; omega
        · obtain rfl : cnt = k := by omega
          go_wp2
          go_end0
          exact ⟨rfl, HS1.out.mod0 hM.out, hM1.out.trans hM.out (by simp)⟩
end
end Go.Proofs.YtlhjocgkmeoheaaDoor
