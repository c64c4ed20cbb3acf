/-
  Commit: a tree in the heap; copied.
-/
import Derived.Test.YtlhjocgkmeoheaaDoorNd
namespace Go.Proofs.YtlhjocgkmeoheaaDoor
open Go.RowKit Go.Tn Go.MapKept
open Go.Proofs

theorem RngS_left {w : World} {b r : Nat} {left : ByteArray → Bool} {cnt : Nat} (h : RngS w b r left cnt) : w.rangeLeft b r = cnt := by
  obtain ⟨es, clock, since, seen, c0, hb, _, _, hr, _, hc, _⟩ := h
  simp only [World.rangeLeft, hb, hr]
  exact hc

/-- How many entries a map of so many keys has. -/
theorem slen_keys {w : World} {b : Nat} (h : IsS w b) (ks : List ByteArray) (hn : ks.Nodup) (hk : ∀ n, (sget w b n).isSome = true ↔ n ∈ ks) : slen w b = ks.length := by
  obtain ⟨es, c, hb, hs, hks, hf⟩ := h.smap
  obtain ⟨es2, c2, hb2, hl⟩ := h.len
  rw [hb] at hb2
  injection hb2 with hb2
  injection hb2 with e1 e2
  subst e1
  rw [hl]
  have hst := (stamped_iff es c).1 hs
  let key : MapEntry → ByteArray := fun e => match e.key with | .string s => s | _ => ByteArray.empty
  have hkey : ∀ e ∈ es.toList, e.key = .string (key e) := fun e he => by
    obtain ⟨n, hn⟩ := hks e he
    simp only [key, hn]
  have hnd : (es.toList.map key).Nodup := by
    rw [List.Nodup, List.pairwise_map]
    refine List.Pairwise.imp_of_mem ?_ hst.2.2
    intro a b ha hb' hab hkk
    exact hab (by rw [hkey a ha, hkey b hb', hkk])
  have hmem : ∀ n, n ∈ es.toList.map key ↔ n ∈ ks := fun n => by
    rw [← hk n, List.mem_map]
    constructor
    · rintro ⟨e, he, rfl⟩
      have := (hf (key e) e.val).2 ⟨e, he, hkey e he, rfl⟩
      rw [this]; rfl
    · intro hsome
      obtain ⟨v, hv⟩ := Option.isSome_iff_exists.1 hsome
      obtain ⟨e, he, hek, _⟩ := (hf n v).1 hv
      refine ⟨e, he, ?_⟩
      have := hkey e he
      rw [hek] at this
      injection this with this
      exact this.symm
  have hp : (es.toList.map key).Perm ks := (List.perm_ext_iff_of_nodup hnd hn).2 hmem
  have := hp.length_eq
  simpa using this

/-- A tree: names, each with nothing or a byte. -/
abbrev Tree := List (ByteArray × Option Int)
def LK (A : Tree) (n : ByteArray) : Option (Option Int) := (A.find? (fun p => p.1 == n)).map (·.2)
theorem LK_some {A : Tree} {n : ByteArray} : (LK A n).isSome = true ↔ n ∈ A.map (·.1) := by
  unfold LK
  rw [Option.isSome_map, List.find?_isSome, List.mem_map]
  constructor
  · rintro ⟨p, hp, he⟩
    exact ⟨p, hp, by simpa using he⟩
  · rintro ⟨p, hp, he⟩
    exact ⟨p, hp, by simpa using he⟩

structure TH (w : World) (b : Nat) (A : Tree) : Prop where
  is : IsS w b
  nd : (A.map (·.1)).Nodup
  no : ∀ n, LK A n = none → sget w b n = none
  yes : ∀ n o, LK A n = some o → ∃ v, sget w b n = some v ∧ Node w v o

section
variable {w w' : World} {b : Nat} {A : Tree}
theorem TH.has (h : TH w b A) (n : ByteArray) : (sget w b n).isSome = true ↔ n ∈ A.map (·.1) := by
  rw [← LK_some]
  cases hl : LK A n with
  | none => rw [h.no n hl]; simp
  | some o =>
    obtain ⟨v, hv, _⟩ := h.yes n o hl
    rw [hv]; simp
theorem TH.len (h : TH w b A) : slen w b = A.length := by
  rw [slen_keys h.is _ h.nd h.has, List.length_map]
theorem TH.mod (h : TH w b A) {S : List Nat} (hm : Tn.Mod S w w') (hb : b ∉ S) (hc : Cold S w) : TH w' b A := by
  have hh := hm.block b h.is.lt hb
  refine ⟨h.is.of_heap hh, h.nd, fun n hn => (sget_of_heap hh n).trans (h.no n hn), fun n o hn => ?_⟩
  obtain ⟨v, hv, hN⟩ := h.yes n o hn
  exact ⟨v, (sget_of_heap hh n).trans hv, hN.mod hm hc⟩
theorem TH.mod0 (h : TH w b A) (hm : Tn.Mod [] w w') : TH w' b A := h.mod hm (by simp) (Cold.nil _)

theorem sput_mod (w : World) (b : Nat) (n : ByteArray) (v : Value) : Tn.Mod [b] w (sput w b n v) :=
  ⟨rfl, rfl, rfl, by simp, fun i hi hS => sput_heap_other w b n v (by simpa using hS)⟩
theorem Node.agg {v : Value} {o : Option Int} (h : Node w v o) : ∃ (a : Option Addr) (l c : Nat) (p : Option Addr) (l' c' : Nat), v = .agg #[.slice a l c, .slice p l' c'] := by
  obtain ⟨a, l, c, pb, pc, h1, _⟩ := h
  exact ⟨a, l, c, _, _, _, h1⟩

theorem store41 {w : World} {b : Nat} (h : IsS w b) (n : ByteArray) (v : Value) : (Instr.mapUpdate 41 (.map (some b)) (.string n) v).run Tryd.prog w = .ok () (sput w b n v) := h.smap.store Tryd.underlying41 Tryd.underlying9 n v
attribute [local go_sem] store41

/-- What the copy holds while some are left. -/
def Half (w wr : World) (b u : Nat) (left : ByteArray → Bool) : Prop := IsS wr u ∧ ∀ n, sget wr u n = if left n = true then none else sget w b n

set_option maxRecDepth 100000 in
set_option maxHeartbeats 2000000 in
theorem copied_f (h : TH w b A) : Calls Tryd.prog 11 #[.map (some b)] w fun e w' => ∃ u, e = .returned (.map (some u)) ∧ TH w' u A ∧ w.heap.size ≤ u ∧ Tn.Mod [] w w' := by
  have hmm := @run_makeMap Tryd.prog
  have hm1 : Tn.Mod [] w (w.alloc (.map #[] 0)) := (Mod.refl [] w).alloc _
  have his := (h.mod0 hm1).is
  have HH := hid h
  clear h
  have HM1 := hid hm1
  clear hm1
  go_enter Tryd.func11, Tryd.ntmps11
  go_wp2_with (at_range; refine wpList_range_rngS _ rfl _ 41 rfl Tryd.underlying41 rfl his ?_; intro w1 hr1 hm1)
  go_frame
  generalize hrr : (w.alloc (.map #[] 0)).heap.size = r at hr1 ⊢
  have HRR := hid (show r = w.heap.size + 1 by rw [← hrr, World.size_alloc])
  clear hrr
  have HR1 := hid hr1
  have hmu := hm1.block w.heap.size (by simp) (by simp)
  have HH0 := hid (show Half w w1 b w.heap.size (fun n => (sget (w.alloc (.map #[] 0)) b n).isSome) from by
    have h1 := (SMap.made w).is
    refine ⟨h1.of_heap hmu, fun n => ?_⟩
    rw [sget_of_heap hmu, (SMap.made w).get]
    show none = if (sget (w.alloc (.map #[] 0)) b n).isSome = true then none else sget w b n
    rw [sget_alloc _ _ _ HH.out.is]
    cases sget w b n <;> simp)
  have HM2 := hid (HM1.out.andThen hm1)
  clear hr1 hm1 his hmm hmu
  go_loopw [] (fun wr => ∃ left cnt, Hid (RngS wr b r left cnt) ∧ Hid (Half w wr b w.heap.size left) ∧ Hid (Tn.Mod [] w wr)) (fun wr => wr.rangeLeft b r)
  case atStart => exact ⟨_, _, HR1, HH0, HM2⟩
  case round =>
    clear HR1 HH0 HM2
    obtain ⟨left, cnt, hr, hh, hM⟩ := hrel
    go_wp2_with (at_next; go_loud (refine wpList_next_rngS _ rfl _ rfl rfl hr.out ?_ ?_))
    case refine_1 =>
      intro hl
      go_wp2
      go_ret
      have hM' := hM.out
      have hT := HH.out.mod0 hM'
      refine ⟨_, rfl, ⟨hh.out.1, hT.nd, fun n hn => ?_, fun n o hn => ?_⟩, Nat.le_refl _, hM'⟩
      · rw [hh.out.2 n, hl n]
        simpa using HH.out.no n hn
      · obtain ⟨v, hv, hN⟩ := HH.out.yes n o hn
        exact ⟨v, by rw [hh.out.2 n, hl n]; simpa using hv, hN.mod hM' (Cold.nil _)⟩
    case refine_2 =>
      intro n v w3 cnt' hln hgv hr3 hlt hm3 hen
      have hM3 := hM.out.trans hm3 (by have := HRR.out; simp; omega)
      have hhn := hh.out.2 n
      rw [if_pos hln] at hhn
      have hgw : sget w b n = some v := by
        rw [← hgv]
        exact (sget_of_heap (hM.out.block b HH.out.is.lt (by simp)) n).symm
      obtain ⟨o, ho⟩ : ∃ o, LK A n = some o := by
        cases hl : LK A n with
        | none => rw [HH.out.no n hl] at hgw; cases hgw
        | some o => exact ⟨o, rfl⟩
      obtain ⟨v', hv', hN⟩ := HH.out.yes n o ho
      rw [hgw] at hv'
      injection hv' with hv'
      subst hv'
      obtain ⟨a, l, c, p, l', c', rfl⟩ := hN.agg
      have hru : r ≠ w.heap.size := by have := HRR.out; omega
      have hb3 := hm3.block w.heap.size hh.out.1.lt (by simpa using fun e => hru e.symm)
      have his3 : IsS w3 w.heap.size := hh.out.1.of_heap hb3
      have hbu : b ≠ w.heap.size := fun e => by have := HH.out.is.lt; omega
      have HR3 := hid hr3
      have HRO := hid hr.out
      have HLT := hid hlt
      have HM3 := hid hM3
      have HH3 := hid (show ∀ m, sget w3 w.heap.size m = if left m = true then none else sget w b m from fun m => (sget_of_heap hb3 m).trans (hh.out.2 m))
      have HGW := hid hgw
      have HBU := hid hbu
      have HRU := hid hru
      clear hM3 hM hh hr hr3 hlt hm3 hln hgv hgw hhn ho hN hb3 hbu hru
      have his4 : IsS (w3.alloc (.cells #[.slice a l c, .slice p l' c'] 39)) w.heap.size := IsS.alloc _ _ his3 _
      have HI4 := hid his4
      have HI3 := hid his3
      clear his3
      go_wp2
      go_roundw
      case rel =>
        have hmA : Tn.Mod [] w3 (w3.alloc (.cells #[.slice a l c, .slice p l' c'] 39)) := (Mod.refl [] w3).alloc _
        have hmP := sput_mod (w3.alloc (.cells #[.slice a l c, .slice p l' c'] 39)) w.heap.size n (.agg #[.slice a l c, .slice p l' c'])
        have hrn : r < w3.heap.size := HR3.out.rlt
        have hbn : b < w3.heap.size := HR3.out.isS.lt
        refine ⟨_, _, hid (HR3.out.of_heap ?_ ?_), hid ⟨HI4.out.sput_same _ _, fun m => ?_⟩, hid ((HM3.out.alloc _).trans hmP (by simp))⟩
        · exact (hmP.block b (by simp; omega) (by simpa using HBU.out)).trans (hmA.block b hbn (by simp))
        · exact (hmP.block r (by simp; omega) (by simpa using HRU.out)).trans (hmA.block r hrn (by simp))
        · rw [sget_sput_same HI4.out, sget_alloc _ _ _ HI3.out, HH3.out m]
          by_cases hmn : m = n
          · subst hmn
            rw [if_pos rfl, HGW.out]
            simp
          · rw [if_neg hmn]
            simp [hmn]
      case measure =>
        rw [RngS_left HRO.out]
        rw [RngS_left (left := fun m => left m && !(m == n)) (cnt := cnt') (HR3.out.of_heap ?_ ?_)]
        · exact HLT.out
        · have hmA : Tn.Mod [] w3 (w3.alloc (.cells #[.slice a l c, .slice p l' c'] 39)) := (Mod.refl [] w3).alloc _
          have hmP := sput_mod (w3.alloc (.cells #[.slice a l c, .slice p l' c'] 39)) w.heap.size n (.agg #[.slice a l c, .slice p l' c'])
          exact (hmP.block b (by simp; have := HR3.out.isS.lt; omega) (by simpa using HBU.out)).trans (hmA.block b HR3.out.isS.lt (by simp))
        · have hmA : Tn.Mod [] w3 (w3.alloc (.cells #[.slice a l c, .slice p l' c'] 39)) := (Mod.refl [] w3).alloc _
          have hmP := sput_mod (w3.alloc (.cells #[.slice a l c, .slice p l' c'] 39)) w.heap.size n (.agg #[.slice a l c, .slice p l' c'])
          exact (hmP.block r (by simp; have := HR3.out.rlt; omega) (by simpa using HRU.out)).trans (hmA.block r HR3.out.rlt (by simp))
end
end Go.Proofs.YtlhjocgkmeoheaaDoor
