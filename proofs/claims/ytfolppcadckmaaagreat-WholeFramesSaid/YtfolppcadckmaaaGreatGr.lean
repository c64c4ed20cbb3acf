/-
  Whole: grants in the heap: New, none, domain, joined, slot, kind, Join.
-/
import Derived.Test.YtfolppcadckmaaaGreatPh
import Derived.Test.YtfolppcadckmaaaGreatPm
import Derived.LoopTactic
namespace Go.Proofs.YtfolppcadckmaaaGreat
open Go.RowKit Go.Tn
open Go.Proofs

theorem zero79 (w : World) : (zeroValue 92).run Tryz.prog w = .ok (.agg #[.int .i64 0, .pointer none]) w := by kernel_rfl
theorem look69 {w : World} {b : Nat} (h : IsM w b) (n : Int) : (Instr.lookup 75 (.map (some b)) (.int .i64 n) true).run Tryz.prog w = .ok (.tuple #[(mget w b n).getD (.agg #[.int .i64 0, .pointer none]), .bool (mget w b n).isSome]) w := by
  rw [h.look Tryz.underlying75 Tryz.underlying3 zero79 n true]; rfl
theorem look69b {w : World} {b : Nat} (h : IsM w b) (n : Int) : (Instr.lookup 75 (.map (some b)) (.int .i64 n) false).run Tryz.prog w = .ok ((mget w b n).getD (.agg #[.int .i64 0, .pointer none])) w := by
  rw [h.look Tryz.underlying75 Tryz.underlying3 zero79 n false]; rfl
theorem store69 {w : World} {b : Nat} (h : IsM w b) (n : Int) (v : Value) : (Instr.mapUpdate 75 (.map (some b)) (.int .i64 n) v).run Tryz.prog w = .ok () (mput w b n v) := h.imap.store Tryz.underlying75 Tryz.underlying3 n v

attribute [local go_sem] look69 look69b store69

/-- At x grants lie: of the machine at m, their members in map mb, their maps in map kb. -/
structure GH (w : World) (x m mb kb : Nat) (f : Int → Option Value) (es : Array MapEntry) (c : Nat) : Prop where
  blk : Blk w x 78 #[.pointer (some ⟨m, 0, none⟩), .map (some mb), .map (some kb)]
  mm : IsM w mb
  mg : ∀ n, mget w mb n = f n
  km : w.heap[kb]? = some (.map es c)
  ne : mb ≠ kb

def mem (t p : Nat) : Value := .agg #[.int .i64 (t : Nat), .pointer (some ⟨p, 0, none⟩)]

section
variable {w w' : World} {x m mb kb : Nat} {f : Int → Option Value} {es : Array MapEntry} {c : Nat}

theorem GH.mod (h : GH w x m mb kb f es c) {S : List Nat} (hm : Tn.Mod S w w') (h1 : x ∉ S) (h2 : mb ∉ S) (h3 : kb ∉ S) : GH w' x m mb kb f es c :=
  ⟨h.blk.mod hm h1, h.mm.of_heap (hm.block _ h.mm.lt h2), fun n => (mget_of_heap (hm.block _ h.mm.lt h2) n).trans (h.mg n), (hm.block _ (Array.getElem?_eq_some_iff.1 h.km).1 h3).trans h.km, h.ne⟩
theorem GH.mod0 (h : GH w x m mb kb f es c) (hm : Tn.Mod [] w w') : GH w' x m mb kb f es c := h.mod hm (by simp) (by simp) (by simp)
theorem GH.c0 (h : GH w x m mb kb f es c) : w.cell? ⟨x, 0, none⟩ = some (.pointer (some ⟨m, 0, none⟩)) := h.blk.cell 0
theorem GH.c1 (h : GH w x m mb kb f es c) : w.cell? ⟨x, 1, none⟩ = some (.map (some mb)) := h.blk.cell 1
theorem GH.c2 (h : GH w x m mb kb f es c) : w.cell? ⟨x, 2, none⟩ = some (.map (some kb)) := h.blk.cell 2

theorem gnone_f (h : GH w x m mb kb f es c) : Calls Tryz.prog 28 #[.pointer (some ⟨x, 0, none⟩)] w fun e w' => e = .returned (.bool false) ∧ w = w' := by
  have c0 := h.c0
  clear h
  go_enter Tryz.func28, Tryz.ntmps28
  go_wp2
  go_ret
  exact ⟨rfl, rfl⟩


theorem joined_no (h : GH w x m mb kb f es c) (n : Int) (hn : f n = none) : Calls Tryz.prog 111 #[.pointer (some ⟨x, 0, none⟩), .int .i64 n] w fun e w' => e = .returned (.bool false) ∧ Tn.Mod [] w w' := by
  have c1 := h.c1
  have mm := h.mm
  have mg := (h.mg n).trans hn
  clear h hn
  go_enter Tryz.func111, Tryz.ntmps111
  go_wp2
  go_ret
  exact ⟨rfl, (Mod.refl [] w).alloc _⟩
theorem joined_yes (h : GH w x m mb kb f es c) (n : Int) (t p : Nat) (hn : f n = some (mem t p)) : Calls Tryz.prog 111 #[.pointer (some ⟨x, 0, none⟩), .int .i64 n] w fun e w' => e = .returned (.bool true) ∧ Tn.Mod [] w w' := by
  have c1 := h.c1
  have mm := h.mm
  have mg := (h.mg n).trans hn
  unfold mem at mg
  clear h hn
  go_enter Tryz.func111, Tryz.ntmps111
  go_wp2
  go_ret
  exact ⟨rfl, (Mod.refl [] w).alloc _⟩
end

theorem gdomain_f (n : Nat) (hn : n < 8) (w : World) : Calls Tryz.prog 30 #[.int .i64 (n : Nat)] w fun e w' => e = .returned (.bool true) ∧ w = w' := by
  have h : (n : Int) < 8 := by omega
  go_enter Tryz.func30, Tryz.ntmps30
  go_wp2
  go_ret
  exact ⟨rfl, rfl⟩

theorem slot_f (n : Nat) (hn : n < 32) (w : World) : Calls Tryz.prog 115 #[.int .i64 (n : Nat)] w fun e w' => e = .returned (.bool true) ∧ w = w' := by
  have h : (n : Int) < 32 := by omega
  go_enter Tryz.func115, Tryz.ntmps115
  go_wp2
  go_ret
  exact ⟨rfl, rfl⟩

theorem gnew_f {w : World} {m fb : Nat} {F : Nat → Nat → Int} (h : PH w m fb F) : Calls Tryz.prog 5 #[.pointer (some ⟨m, 0, none⟩)] w fun e w' =>
    e = .returned (.pointer (some ⟨w.heap.size + 2, 0, none⟩)) ∧ GH w' (w.heap.size + 2) m w.heap.size (w.heap.size + 1) (fun _ => none) #[] 0 ∧ Tn.Mod [] w w' := by
  have hmm := @run_makeMap Tryz.prog
  have H := hid h
  clear h
  go_enter Tryz.func5, Tryz.ntmps5
  go_wp2_with (go_at_call 23; refine (size_f H.out).mono ?_; rintro e w' ⟨rfl, rfl⟩)
  go_ret
  refine ⟨rfl, ⟨?_, ?_, ?_, ?_, by omega⟩, (((Mod.refl _ w).alloc _).alloc _).alloc _⟩
  · have := Blk.new ((w.alloc (.map #[] 0)).alloc (.map #[] 0)) 78 #[.pointer (some ⟨m, 0, none⟩), .map (some w.heap.size), .map (some (w.heap.size + 1))]
    simpa using this
  · exact (((IMap.made w).is.alloc _ _ _).alloc _ _ _)
  · intro g
    rw [mget_alloc _ _ _ ((IMap.made w).is.alloc _ _ _), mget_alloc _ _ _ (IMap.made w).is, (IMap.made w).get]
  · have h1 := heap_alloc_new (w.alloc (.map #[] 0)) (Obj.map #[] 0)
    have h2 : Tn.Mod [] ((w.alloc (.map #[] 0)).alloc (.map #[] 0)) (((w.alloc (.map #[] 0)).alloc (.map #[] 0)).alloc (.cells #[.pointer (some ⟨m, 0, none⟩), .map (some w.heap.size), .map (some (w.heap.size + 1))] 78)) := (Mod.refl [] _).alloc _
    simp only [World.size_alloc] at h1
    exact (h2.block _ (by simp) (by simp)).trans h1


/-- What Get with kind 1 leaves. -/
def got1 (F : Nat → Nat → Int) (i : Nat) : Nat → Nat → Int := upd (upd (upd F i 3 (F i 3 + 1)) i 1 1) i 2 (F i 2 + 1)

set_option maxRecDepth 100000 in
set_option maxHeartbeats 2000000 in
theorem join_f {w : World} {m fb x mb kb p bf bp dom mfn : Nat} {F : Nat → Nat → Int} {f : Int → Option Value} {es : Array MapEntry} {c : Nat} {L : List Int}
    (h : PH w m fb F) (g : GH w x m mb kb f es c) (q : Pm.PM w p bf bp L) (hd : dom < 8) (hn : f (dom : Nat) = none) (hi : mfn < 14) (ho : F mfn 0 = (dom : Int)) (ht : F mfn 1 = 0 ∨ F mfn 1 = 1) (hT : 0 ≤ F mfn 3) (hT2 : F mfn 3 ≤ 1000) (hC : 0 ≤ F mfn 2) (hC2 : F mfn 2 ≤ 1000) :
    Calls Tryz.prog 10 #[.pointer (some ⟨x, 0, none⟩), .int .i64 (dom : Nat), .int .i64 (mfn : Nat), .pointer (some ⟨p, 0, none⟩)] w fun e w' =>
      e = .returned (.int .i64 0) ∧ PH w' m fb (got1 F mfn) ∧ GH w' x m mb kb (Tn.upd f (dom : Nat) (some (mem mfn p))) es c ∧ Tn.Mod [fb, mb] w w' := by
  have c0 := g.c0
  have c1 := g.c1
  have mm := g.mm
  have mg := (g.mg dom).trans hn
  have hne : fb ≠ mb := h.fr.ne_map g.mm.imap
  have hE : P3.findE L (-1) = 6 := by simp [P3.findE, P3.pAt]
  have hV : P3.findV L (-1) = 0 := by simp [P3.findV, P3.pAt]
  have hq := Pm.find_f q (-1)
  rw [hE, hV] at hq
  have hG := get_1 (h.mod0 ((Mod.refl [] w).alloc (Obj.cells #[Value.int IntKind.i64 0, Value.pointer none] 92))) mfn dom hi ho ht hT hT2 hC hC2
  have hG2 : Calls Tryz.prog 31 #[.pointer (some ⟨m, 0, none⟩), .int .i64 (mfn : Nat), .int .i64 (dom : Nat), .int .i64 1] (w.alloc (Obj.cells #[Value.int IntKind.i64 0, Value.pointer none] 92)) fun e w' => e = .returned (.int .i64 0) ∧ PH w' m fb (got1 F mfn) ∧ GH w' x m mb kb f es c ∧ Tn.Mod [fb] w w' := by
    refine hG.mono ?_
    rintro e w' ⟨he, hp, hm⟩
    have hm' : Tn.Mod [fb] w w' := (((Mod.refl [fb] w).alloc _)).andThen hm
    refine ⟨he, hp, g.mod hm' ?_ ?_ ?_, hm'⟩
    · simpa using g.blk.ne_ h.fr (by decide)
    · simpa using fun e => hne e.symm
    · have : kb ≠ fb := by
        rintro rfl
        have h1 := h.fr
        unfold Blk at h1
        rw [g.km] at h1
        cases h1
      simpa using this
  have c0a := (g.mod0 ((Mod.refl [] w).alloc (Obj.cells #[Value.int IntKind.i64 0, Value.pointer none] 92))).c0
  have G := hid g
  have HP := hid h
  clear h g q hG hn hi ho ht hT hT2 hC hC2 hE hV
  go_enter Tryz.func10, Tryz.ntmps10
  go_wp2_with (first
    | (go_at_call 28; refine (gnone_f G.out).mono ?_; rintro e w' ⟨rfl, rfl⟩)
    | (go_at_call 29; refine hq.mono ?_; rintro e w' ⟨rfl, rfl⟩)
    | (go_at_call 30; refine (gdomain_f dom hd _).mono ?_; rintro e w' ⟨rfl, rfl⟩)
    | (go_at_call 31; refine hG2.mono ?_; rintro e w' ⟨rfl, hp5, hg5, hm5⟩; have c15 := hg5.c1; have mm5 := hg5.mm; have HP5 := hid hp5; have HG5 := hid hg5; clear hp5 hg5))
  go_ret
  have hp := HP5.out
  have hg := HG5.out
  have hmp := fun W v => (Mod.refl [mb] W).mput (b := mb) (.inl (by simp)) (dom : Nat) v
  refine ⟨rfl, ?_, ?_, ?_⟩
  · exact hp.mod (hmp _ _) (by simpa using hp.blk.ne_map hg.mm.imap) (by simpa using hne)
  · refine ⟨hg.blk.mod (hmp _ _) (by simpa using hg.blk.ne_map hg.mm.imap), hg.mm.mput_same _ _, fun n => ?_, (mput_heap_other _ _ _ _ (fun e => hg.ne e.symm)).trans hg.km, hg.ne⟩
    rw [mget_mput_same hg.mm, hg.mg]
    rfl
  · exact (hm5.mono (T := [fb, mb]) (by simp)).mput (.inl (by simp)) _ _
end Go.Proofs.YtfolppcadckmaaaGreat
