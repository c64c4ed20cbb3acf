/-
  Whole: the maps of places (p2m), by the texts of layer 3.
-/
import Derived.Test.YtfolppcadckmaaaGreatProg
import Derived.WalkKit
import Derived.WalkLawsBesides
import Derived.WalkSpells
import Derived.Deep.QuietTactic
import Derived.BigQuiet
import Derived.BigRegion
import Derived.Test.YtfolppcadckmaaaGreatBase
import Derived.Test.YtfolppcadckmaaaGreatAbs
namespace Go.Proofs.YtfolppcadckmaaaGreat.Pm
open Go.RowKit Go.Tn Go.Tn.P3

theorem zero3 (w : World) : (zeroValue 3).run Tryz.prog w = .ok (.int .i64 0) w := by kernel_rfl

theorem look48 {w : World} {b : Nat} (h : IsM w b) (n : Int) : (Instr.lookup 80 (.map (some b)) (.int .i64 n) true).run Tryz.prog w = .ok (.tuple #[(mget w b n).getD (.int .i64 0), .bool (mget w b n).isSome]) w := by
  rw [h.look Tryz.underlying80 Tryz.underlying3 zero3 n true]; rfl
theorem del48 {w : World} {b : Nat} (h : IsM w b) (n : Int) (ty : TypeId) : (Builtin.delete_ #[80, 3] ty #[.map (some b), .int .i64 n]).run Tryz.prog w = .ok (.tuple #[]) (mdel w b n) := h.delete Tryz.underlying80 Tryz.underlying3 n ty
theorem nilM (w : World) (r : Option Nat) : (binOp .eql 80 (.map r) (.map none)).run Tryz.prog w = .ok (.bool r.isNone) w := run_eql_map_nil w _ _ _ r Tryz.underlying80
attribute [local go_sem] look48 del48 nilM

/-- 'none' of a map that was made. -/
theorem none_f (p bf : Nat) (w : World) (c0 : w.cell? ⟨p, 0, none⟩ = some (.map (some bf))) :
    Calls Tryz.prog 59 #[.pointer (some ⟨p, 0, none⟩)] w fun e w' => e = .returned (.bool false) ∧ w = w' := by
  go_enter Tryz.func59, Tryz.ntmps59
  go_wp2
  go_ret
  exact ⟨rfl, rfl⟩

/-- 'place': 0, or ErrArg. -/
theorem place_ok (p bf : Nat) (n g : Int) (w : World) (c0 : w.cell? ⟨p, 0, none⟩ = some (.map (some bf))) (c2 : w.cell? ⟨p, 2, none⟩ = some (.int .i64 n)) (h0 : 0 ≤ g) (h1 : g < n) :
    Calls Tryz.prog 27 #[.pointer (some ⟨p, 0, none⟩), .int .i64 g] w fun e w' => e = .returned (.int .i64 0) ∧ w = w' := by
  go_enter Tryz.func27, Tryz.ntmps27
  go_wp2
  go_ret
  exact ⟨rfl, rfl⟩

theorem get_some (p bf : Nat) (n g m : Int) (w : World) (c0 : w.cell? ⟨p, 0, none⟩ = some (.map (some bf))) (c2 : w.cell? ⟨p, 2, none⟩ = some (.int .i64 n)) (hb : IsM w bf) (h0 : 0 ≤ g) (h1 : g < n)
    (hg : mget w bf g = some (.int .i64 m)) :
    Calls Tryz.prog 112 #[.pointer (some ⟨p, 0, none⟩), .int .i64 g] w fun e w' => e = .returned (.tuple #[.int .i64 m, .int .i64 0]) ∧ w = w' := by
  go_enter Tryz.func112, Tryz.ntmps112
  go_wp2
  go_ret2
  exact ⟨rfl, rfl⟩

attribute [local go_sem] look48 del48 nilM

theorem entry48 {w : World} {b : Nat} (h : IsM w b) (n : Int) : (Instr.mapEntry 80 (.map (some b)) (.int .i64 n)).run Tryz.prog w = .ok (.tuple #[(mget w b n).getD (.int .i64 0), .int .i64 (mstamp w b n)]) (mput w b n ((mget w b n).getD (.int .i64 0))) :=
  h.entry Tryz.underlying80 Tryz.underlying3 zero3 n
theorem entrySt48 {w w0 : World} {b : Nat} {n : Int} (h : IsM w b) (hn : (mget w b n).isSome = true) (hst : mstamp w0 b n = mstamp w b n) (v : Value) :
    (Instr.entryStore 80 (.map (some b)) (.int .i64 (mstamp w0 b n)) v).run Tryz.prog w = .ok () (mput w b n v) := h.entrySt hn hst v
attribute [local go_sem] entry48 entrySt48

/-- Block p is a map of places that reads as L; its two Go maps lie in bf and bp. -/
structure PM (w : World) (p bf bp : Nat) (L : List Int) : Prop where
  blk : Blk w p 88 #[.map (some bf), .map (some bp), .int .i64 L.length]
  mf : IsM w bf
  mp : IsM w bp
  ne : bf ≠ bp
  good : Ok3 L
  ff : ∀ g, mget w bf g = (fAt L g).map (.int .i64)
  pp : ∀ m, mget w bp m = (pAt L m).map (.int .i64)

section
variable {w w' : World} {p bf bp : Nat} {L : List Int}
theorem PM.c0 (h : PM w p bf bp L) : w.cell? ⟨p, 0, none⟩ = some (.map (some bf)) := h.blk.cell 0
theorem PM.c1 (h : PM w p bf bp L) : w.cell? ⟨p, 1, none⟩ = some (.map (some bp)) := h.blk.cell 1
theorem PM.c2 (h : PM w p bf bp L) : w.cell? ⟨p, 2, none⟩ = some (.int .i64 L.length) := h.blk.cell 2
theorem PM.mod {S : List Nat} (h : PM w p bf bp L) (hm : Mod S w w') (h0 : p ∉ S) (h1 : bf ∉ S) (h2 : bp ∉ S) : PM w' p bf bp L :=
  ⟨h.blk.mod hm h0, h.mf.of_heap (hm.block _ h.mf.lt h1), h.mp.of_heap (hm.block _ h.mp.lt h2), h.ne, h.good,
   fun g => (mget_of_heap (hm.block _ h.mf.lt h1) g).trans (h.ff g), fun m => (mget_of_heap (hm.block _ h.mp.lt h2) m).trans (h.pp m)⟩
theorem PM.drew (h : PM w p bf bp L) : PM w.drew p bf bp L := ⟨h.blk, h.mf, h.mp, h.ne, h.good, h.ff, h.pp⟩
theorem PM.drewN (h : PM w p bf bp L) (n : Nat) : PM (w.drewN n) p bf bp L := ⟨h.blk, h.mf.of_heap rfl, h.mp.of_heap rfl, h.ne, h.good, h.ff, h.pp⟩
theorem PM.set (h : PM w p bf bp L) {g m : Int} (he : setE L g m = 0) : PM (mput (mput w bf g (.int .i64 m)) bp m (.int .i64 g)) p bf bp (setL L g m) := by
  obtain ⟨G', h0, h1, h2, h3, hf, hp⟩ := good_set h.good he
  have hpf : p ≠ bf := h.blk.ne_map h.mf.imap
  have hpp : p ≠ bp := h.blk.ne_map h.mp.imap
  have hL : setL L g m = L.set g.toNat m := by simp [setL, he]
  rw [hL]
  refine ⟨?_, (h.mf.mput _ _ _ _).mput _ _ _ _, (h.mp.mput _ _ _ _).mput _ _ _ _, h.ne, G', ?_, ?_⟩
  · have := (h.blk.of_heap (mput_heap_other w bf g (.int .i64 m) hpf)).of_heap (mput_heap_other _ bp m (.int .i64 g) hpp)
    simpa using this
  · intro x
    rw [mget_mput_other _ _ _ _ _ h.ne, mget_mput_same h.mf, fAt_set h0 h1 h2, h.ff]
    split <;> rfl
  · intro x
    rw [mget_mput_same (h.mp.mput _ _ _ _), mget_mput_other _ _ _ _ _ h.ne.symm, pAt_set h.good he, h.pp]
    split <;> rfl
theorem PM.clear (h : PM w p bf bp L) {g : Int} (he : getE L g = 0) : PM (mdel (mdel w bf g) bp (getV L g)) p bf bp (clearL L g) := by
  obtain ⟨G', h0, h1, hf, hv, ha⟩ := good_clear h.good he
  have hpf : p ≠ bf := h.blk.ne_map h.mf.imap
  have hpp : p ≠ bp := h.blk.ne_map h.mp.imap
  have hL : clearL L g = L.set g.toNat (-1) := by simp [clearL, he]
  rw [hL]
  refine ⟨?_, (h.mf.mdel _ _ _).mdel _ _ _, (h.mp.mdel _ _ _).mdel _ _ _, h.ne, G', ?_, ?_⟩
  · have := (h.blk.of_heap (mdel_heap_other w bf g hpf)).of_heap (mdel_heap_other _ bp (getV L g) hpp)
    simpa using this
  · intro x
    rw [mget_mdel_other _ _ _ _ h.ne, mget_mdel_same h.mf, fAt_clear h0 h1, h.ff]
    split <;> rfl
  · intro x
    rw [mget_mdel_same (h.mp.mdel _ _ _), mget_mdel_other _ _ _ _ h.ne.symm, pAt_clear h.good he, h.pp]
    split <;> rfl
end

/-- 'place'. -/
theorem place_f (p bf : Nat) (L : List Int) (g : Int) (w : World) (c0 : w.cell? ⟨p, 0, none⟩ = some (.map (some bf))) (c2 : w.cell? ⟨p, 2, none⟩ = some (.int .i64 L.length)) :
    Calls Tryz.prog 27 #[.pointer (some ⟨p, 0, none⟩), .int .i64 g] w fun e w' => e = .returned (.int .i64 (if inB L g = true then 0 else 1)) ∧ w = w' := by
  by_cases h : 0 ≤ g ∧ g < L.length
  · have hb : inB L g = true := by simp [inB, h]
    rw [hb]
    obtain ⟨h0, h1⟩ := h
    clear hb
    go_enter Tryz.func27, Tryz.ntmps27
    go_wp2
    go_ret
    exact ⟨rfl, rfl⟩
  · have hb : inB L g = false := by simp [inB]; omega
    rw [hb]
    clear hb
    by_cases h0 : g < 0
    · clear h
      go_enter Tryz.func27, Tryz.ntmps27
      go_wp2
      go_ret
      exact ⟨rfl, rfl⟩
    · have h1 : (L.length : Int) ≤ g := by omega
      have h2 : 0 ≤ g := by omega
      clear h h0
      go_enter Tryz.func27, Tryz.ntmps27
      go_wp2
      go_ret
      exact ⟨rfl, rfl⟩

theorem set_ok (p bf bp : Nat) (n g m : Int) (w : World) (c0 : w.cell? ⟨p, 0, none⟩ = some (.map (some bf))) (c1 : w.cell? ⟨p, 1, none⟩ = some (.map (some bp))) (c2 : w.cell? ⟨p, 2, none⟩ = some (.int .i64 n))
    (mf : IsM w bf) (mp : IsM w bp) (ne : bf ≠ bp) (ne' : bp ≠ bf) (h0 : 0 ≤ g) (h1 : g < n) (h2 : 0 ≤ m) (h3 : m < 256) (hf : mget w bf g = none) (hp : mget w bp m = none) :
    Calls Tryz.prog 9 #[.pointer (some ⟨p, 0, none⟩), .int .i64 g, .int .i64 m] w fun e w' => e = .returned (.int .i64 0) ∧ (mput (mput w bf g (.int .i64 m)) bp m (.int .i64 g)).drew = w' := by
  go_enter Tryz.func9, Tryz.ntmps9
  go_wp2
  go_region
  go_wp2
  go_ret
  exact ⟨rfl, rfl⟩

theorem mget_none {w : World} {b : Nat} {o : Option Int} {g : Int} (h : mget w b g = o.map (.int .i64)) (ho : o = none) : mget w b g = none := by rw [h, ho]; rfl
theorem mget_some {w : World} {b : Nat} {o : Option Int} {g x : Int} (h : mget w b g = o.map (.int .i64)) (ho : o = some x) : mget w b g = some (.int .i64 x) := by rw [h, ho]; rfl

/-- 'Set'. -/
theorem set_f {p bf bp : Nat} {L : List Int} {w : World} (h : PM w p bf bp L) (g m : Int) :
    Calls Tryz.prog 9 #[.pointer (some ⟨p, 0, none⟩), .int .i64 g, .int .i64 m] w fun e w' => e = .returned (.int .i64 (setE L g m)) ∧ PM w' p bf bp (setL L g m) ∧ Mod [bf, bp] w w' := by
  have c0 := h.c0
  have c1 := h.c1
  have c2 := h.c2
  have mf := h.mf
  have mp := h.mp
  by_cases hB : inB L g = true
  · have hb' : 0 ≤ g ∧ g < L.length := by simpa [inB] using hB
    obtain ⟨h0, h1⟩ := hb'
    by_cases hm : 0 ≤ m ∧ m < 256
    · obtain ⟨h2, h3⟩ := hm
      cases hf : fAt L g with
      | some x =>
        have hE : setE L g m = 30 := by simp [setE, hB, h2, h3, hf]
        have hL : setL L g m = L := by simp [setL, hE]
        rw [hE, hL]
        have hg := mget_some (h.ff g) hf
        have H := hid h
        clear h hE hL hB hf
        go_enter Tryz.func9, Tryz.ntmps9
        go_wp2
        go_ret
        exact ⟨rfl, H.out, Mod.refl _ _⟩
      | none =>
        have hg := mget_none (h.ff g) hf
        cases hp : pAt L m with
        | some x =>
          have hE : setE L g m = 8 := by simp [setE, hB, h2, h3, hf, hp]
          have hL : setL L g m = L := by simp [setL, hE]
          rw [hE, hL]
          have hm := mget_some (h.pp m) hp
          have H := hid h
          clear h hE hL hB hf hp
          go_enter Tryz.func9, Tryz.ntmps9
          go_wp2
          go_ret
          exact ⟨rfl, H.out, Mod.refl _ _⟩
        | none =>
          have hm := mget_none (h.pp m) hp
          have hE : setE L g m = 0 := by simp [setE, hB, h2, h3, hf, hp]
          have hS := h.set hE
          rw [hE]
          refine (set_ok p bf bp L.length g m w c0 c1 c2 mf mp h.ne h.ne.symm h0 h1 h2 h3 hg hm).mono ?_
          rintro e w' ⟨rfl, rfl⟩
          exact ⟨rfl, hS.drew, (((Mod.refl _ w).mput (by simp) _ _).mput (by simp) _ _).drew⟩
    · have hE : setE L g m = 1 := by simp only [setE, hB, hm]; simp
      have hL : setL L g m = L := by simp [setL, hE]
      rw [hE, hL]
      have H := hid h
      clear h hE hL hB
      by_cases h2 : m < 0
      · clear hm
        go_enter Tryz.func9, Tryz.ntmps9
        go_wp2
        go_ret
        exact ⟨rfl, H.out, Mod.refl _ _⟩
      · have h3 : 256 ≤ m := by omega
        have h4 : 0 ≤ m := by omega
        clear hm h2
        go_enter Tryz.func9, Tryz.ntmps9
        go_wp2
        go_ret
        exact ⟨rfl, H.out, Mod.refl _ _⟩
  · have hB' : inB L g = false := by simpa using hB
    have hE : setE L g m = 1 := by simp [setE, hB']
    have hL : setL L g m = L := by simp [setL, hE]
    rw [hE, hL]
    have H := hid h
    clear h hE hL hB
    go_enter Tryz.func9, Tryz.ntmps9
    go_wp2_with (go_at_call 27; refine (place_f p bf L g _ c0 c2).mono ?_; rintro e w' ⟨rfl, rfl⟩)
    go_ret
    exact ⟨rfl, H.out, Mod.refl _ _⟩

/-- 'Get'. -/
theorem get_f {p bf bp : Nat} {L : List Int} {w : World} (h : PM w p bf bp L) (g : Int) :
    Calls Tryz.prog 112 #[.pointer (some ⟨p, 0, none⟩), .int .i64 g] w fun e w' => e = .returned (.tuple #[.int .i64 (getV L g), .int .i64 (getE L g)]) ∧ w = w' := by
  have c0 := h.c0
  have c2 := h.c2
  have mf := h.mf
  by_cases hB : inB L g = true
  · cases hf : fAt L g with
    | some x =>
      have hV : getV L g = x := by simp [getV, hB, hf]
      have hE : getE L g = 0 := by simp [getE, hB, hf]
      have hg := mget_some (h.ff g) hf
      rw [hV, hE]
      clear h hV hE hf
      go_enter Tryz.func112, Tryz.ntmps112
      go_wp2_with (go_at_call 27; refine (place_f p bf L g _ c0 c2).mono ?_; rintro e w' ⟨rfl, rfl⟩)
      go_ret2
      exact ⟨rfl, rfl⟩
    | none =>
      have hV : getV L g = 0 := by simp [getV, hB, hf]
      have hE : getE L g = 6 := by simp [getE, hB, hf]
      have hg := mget_none (h.ff g) hf
      rw [hV, hE]
      clear h hV hE hf
      go_enter Tryz.func112, Tryz.ntmps112
      go_wp2_with (go_at_call 27; refine (place_f p bf L g _ c0 c2).mono ?_; rintro e w' ⟨rfl, rfl⟩)
      go_ret2
      exact ⟨rfl, rfl⟩
  · have hB' : inB L g = false := by simpa using hB
    have hV : getV L g = 0 := by simp [getV, hB']
    have hE : getE L g = 1 := by simp [getE, hB']
    rw [hV, hE]
    clear h hV hE hB
    go_enter Tryz.func112, Tryz.ntmps112
    go_wp2_with (go_at_call 27; refine (place_f p bf L g _ c0 c2).mono ?_; rintro e w' ⟨rfl, rfl⟩)
    go_ret2
    exact ⟨rfl, rfl⟩

theorem find_f {p bf bp : Nat} {L : List Int} {w : World} (h : PM w p bf bp L) (m : Int) :
    Calls Tryz.prog 29 #[.pointer (some ⟨p, 0, none⟩), .int .i64 m] w fun e w' => e = .returned (.tuple #[.int .i64 (findV L m), .int .i64 (findE L m)]) ∧ w = w' := by
  have c0 := h.c0
  have c1 := h.c1
  have mp := h.mp
  cases hp : pAt L m with
  | some x =>
    have hV : findV L m = x := by simp [findV, hp]
    have hE : findE L m = 0 := by simp [findE, hp]
    have hg := mget_some (h.pp m) hp
    rw [hV, hE]
    clear h hV hE hp
    go_enter Tryz.func29, Tryz.ntmps29
    go_wp2
    go_ret2
    exact ⟨rfl, rfl⟩
  | none =>
    have hV : findV L m = 0 := by simp [findV, hp]
    have hE : findE L m = 6 := by simp [findE, hp]
    have hg := mget_none (h.pp m) hp
    rw [hV, hE]
    clear h hV hE hp
    go_enter Tryz.func29, Tryz.ntmps29
    go_wp2
    go_ret2
    exact ⟨rfl, rfl⟩

theorem new_ok (n : Nat) (w : World) (hn : n ≤ 48) :
    Calls Tryz.prog 8 #[.int .i64 n] w fun e w' => e = .returned (.tuple #[.pointer (some ⟨w.heap.size + 2, 0, none⟩), .int .i64 0]) ∧
      PM w' (w.heap.size + 2) w.heap.size (w.heap.size + 1) (List.replicate n (-1)) ∧ Mod [] w w' := by
  have hmm := @run_makeMap Tryz.prog
  go_enter Tryz.func8, Tryz.ntmps8
  go_wp2
  go_ret2
  refine ⟨rfl, ⟨?_, ?_, ?_, by omega, good_new n hn, ?_, ?_⟩, (((Mod.refl _ w).alloc _).alloc _).alloc _⟩
  · have := Blk.new ((w.alloc (.map #[] 0)).alloc (.map #[] 0)) 88 #[.map (some w.heap.size), .map (some (w.heap.size + 1)), .int .i64 n]
    simpa using this
  · exact (((IMap.made w).is.alloc _ _ _).alloc _ _ _)
  · have := ((IMap.made (w.alloc (.map #[] 0))).is.alloc _ _ (.cells #[.map (some w.heap.size), .map (some (w.heap.size + 1)), .int .i64 n] 88))
    simpa using this
  · intro g
    rw [mget_alloc _ _ _ ((IMap.made w).is.alloc _ _ _), mget_alloc _ _ _ (IMap.made w).is, (IMap.made w).get, fAt_new]
    rfl
  · intro g
    have h1 := (IMap.made (w.alloc (.map #[] 0)))
    have h2 := mget_alloc _ _ g h1.is (.cells #[.map (some w.heap.size), .map (some (w.heap.size + 1)), .int .i64 n] 88)
    rw [h1.get] at h2
    rw [pAt_new]
    simpa using h2
end Go.Proofs.YtfolppcadckmaaaGreat.Pm
