/-
  Whole: bytes; part, Frame, Read, Write of a machine of fourteen frames; New.
-/
import Derived.Test.YtfolppcadckmaaaGreatFr
import Derived.Laws.ResultCell
import Derived.Laws.CopyRow
import Derived.Laws.Rows
import Derived.Laws.Tables
namespace Go.Tn
theorem Mod.setRow {S : List Nat} {w w' : World} (h : Mod S w w') {g : Nat} (hg : g ∈ S ∨ w.heap.size ≤ g) (cs : Array Value) : Mod S w (w'.setRow g cs) :=
  ⟨h.os, h.tape, h.output, by simp; exact h.size, fun i hi hS => by
    rw [setRow_other w' g i cs (fun e => by subst e; rcases hg with hg | hg; exact hS hg; omega)]
    exact h.block i hi hS⟩
theorem Blk.setRow {w : World} {g : Nat} {t : TypeId} {old cs : Array Value} (h : Blk w g t old) : Blk (w.setRow g cs) g t cs := setRow_heap w g old cs t (0, 0) h
end Go.Tn
namespace Go.Proofs.YtfolppcadckmaaaGreat
open Go.RowKit Go.Tn
open Go.Proofs

/-- A slice of len bytes at a: g 0, g 1, .. -/
def Bys (w : World) (a : Option Addr) (len : Nat) (g : Nat → Int) : Prop :=
  0 < len → ∃ b off, a = some ⟨b, off, none⟩ ∧ b < w.heap.size ∧ ∀ j, j < len → w.cell? ⟨b, off + j, none⟩ = some (.int .u8 (g j))
theorem Bys.mod {S : List Nat} {w w' : World} {a : Option Addr} {len : Nat} {g : Nat → Int} (h : Bys w a len g) (hm : Tn.Mod S w w') (hS : ∀ b off, a = some ⟨b, off, none⟩ → b ∉ S) : Bys w' a len g := by
  intro h0
  obtain ⟨b, off, rfl, hb, hc⟩ := h h0
  exact ⟨b, off, rfl, Nat.lt_of_lt_of_le hb hm.size, fun j hj => (hm.cell (p := ⟨b, _, none⟩) hb (hS b off rfl)).trans (hc j hj)⟩
theorem Bys_zero {w : World} (a : Option Addr) (g : Nat → Int) : Bys w a 0 g := fun h => absurd h (by omega)

/-- n bytes G lie in cur' from off on; the rest is cur's. -/
structure Laid (cur cur' : Array Value) (off n : Nat) (G : Nat → Int) : Prop where
  size : cur'.size = cur.size
  at_ : ∀ j : Nat, cur'[j]? = if off ≤ j ∧ j < off + n then some (.int .u8 (G (j - off))) else cur[j]?
theorem info5s : (Tryz.prog.info? 5).map (·.size) = some 1 := by kernel_rfl
theorem wpList_cp {ops : Array Oper} {rest : List Oper} {o : Oper} {A : Act} {w : World} {Q : Exit → Act → World → Prop} (hgd : o.guard = none) (dd ss : Operand)
    (ho : o.op = .call { callee := .builtin .copy, args := #[dd, ss], argTypes := #[22, 22] }) (g off dLen dCap : Nat) (hd : A.eval dd = .slice (some ⟨g, off, none⟩) dLen dCap) (sa : Option Addr) (sLen sCap : Nat) (hs : A.eval ss = .slice sa sLen sCap)
    (cur : Array Value) (t : TypeId) (hg : Blk w g t cur) (G : Nat → Int) (n : Nat) (hmin : Nat.min sLen dLen = n) (hsrc : Bys w sa n G) (hfit : off + n ≤ cur.size)
    (h : ∀ cur' : Array Value, Laid cur cur' off n G → wpList Tryz.prog ops Q rest (A.put o.dst (goInt (n))) (w.setRow g cur')) :
    wpList Tryz.prog ops Q (o :: rest) A w := by
  refine wpList_plain hgd fun K hK => ?_
  by_cases h0 : 0 < n
  · obtain ⟨b, so, rfl, hb, hc⟩ := hsrc h0
    have hrun := run_copy_row (P := Tryz.prog) w 22 22 o.type 5 g off dLen dCap ⟨b, so, none⟩ sLen sCap cur t ((List.range (n)).map fun j => Value.int .u8 (G j)) Tryz.underlying22 info5s hg (by simp [hmin])
      (fun j v hj => by
        rw [List.getElem?_map] at hj
        obtain ⟨j', hj', rfl⟩ := Option.map_eq_some_iff.1 hj
        obtain ⟨hjl, hje⟩ := List.getElem?_eq_some_iff.1 hj'
        rw [List.length_range] at hjl
        rw [List.getElem_range] at hje
        subst hje
        rw [Addr.add_lit]
        exact hc _ hjl) (by simpa using hfit)
      (fun v hv => by
        obtain ⟨j, _, rfl⟩ := List.mem_map.1 hv
        rfl)
    have hcl : ((List.range n).map fun j => Value.int .u8 (G j)).length = n := by simp
    have hcj : ∀ j, j < n → ((List.range n).map fun j => Value.int .u8 (G j))[j]? = some (.int .u8 (G j)) := fun j hj => by rw [List.getElem?_map, List.getElem?_range hj]; rfl
    generalize ((List.range n).map fun j => Value.int .u8 (G j)) = cs at hrun hcl hcj
    have hl1 : (cur.toList.take off).length = off := by rw [List.length_take, Array.length_toList]; omega
    have h1 := h (cur.toList.take off ++ cs ++ cur.toList.drop (off + cs.length)).toArray ⟨by rw [List.size_toArray, List.length_append, List.length_append, List.length_drop, hl1, hcl, Array.length_toList]; omega, fun j => by
      rw [List.getElem?_toArray]
      by_cases hj1 : j < off
      · rw [List.append_assoc, List.getElem?_append_left (by omega), if_neg (by omega), List.getElem?_take, if_pos hj1, Array.getElem?_toList]
      · by_cases hj2 : j < off + n
        · rw [if_pos ⟨by omega, hj2⟩, List.getElem?_append_left (by rw [List.length_append]; omega), List.getElem?_append_right (by omega), hl1]
          exact hcj _ (by omega)
        · rw [if_neg (by omega), List.getElem?_append_right (by rw [List.length_append]; omega), List.getElem?_drop, Array.getElem?_toList]
          have e : off + cs.length + (j - (cur.toList.take off ++ cs).length) = j := by rw [List.length_append]; omega
          rw [e]⟩
    rw [← hcl] at h1
    unfold Oper.wp execOp
    simp only [ho, resolve, invoke, builtin, Sem.run_bind, Sem.run_pure, Result.andThen_ok, List.map_toArray, List.map_cons, List.map_nil, hd, hs, hrun, Oper.upon]
    refine hK _ _ ?_
    exact h1
  · have hn : n = 0 := by omega
    have hrun := run_copy_none (P := Tryz.prog) w 22 22 o.type 5 (some ⟨g, off, none⟩) sa dLen dCap sLen sCap Tryz.underlying22 info5s (hmin.trans hn)
    unfold Oper.wp execOp
    simp only [ho, resolve, invoke, builtin, Sem.run_bind, Sem.run_pure, Result.andThen_ok, List.map_toArray, List.map_cons, List.map_nil, hd, hs, hrun]
    have h1 := h cur ⟨rfl, fun j => by rw [if_neg (by omega)]⟩
    have e : w.setRow g cur = w := setRow_self w g cur t (0, 0) hg
    rw [e, hn] at h1
    exact hK _ _ h1

/-- Bytes laid into a frame. -/
def wrB (F : Nat → Nat → Int) (i off len : Nat) (G : Nat → Int) : Nat → Nat → Int := fun a c => if a = i ∧ 4 + off ≤ c ∧ c < 4 + off + len then G (c - (4 + off)) else F a c
theorem frs_wr (F : Nat → Nat → Int) (i off len : Nat) (G : Nat → Int) (hi : i < 14) (hl : off + len ≤ 256) {cur : Array Value} (hs : cur.size = 3640) (hc : ∀ j : Nat, cur[j]? = if i * 260 + 4 + off ≤ j ∧ j < i * 260 + 4 + off + len then some (.int .u8 (G (j - (i * 260 + 4 + off)))) else (frs F)[j]?) : cur = frs (wrB F i off len G) := by
  apply Array.ext_getElem?
  intro t
  by_cases ht : t < 3640
  · have h1 := frs_at F (t / 260) (t % 260) (by omega) (by omega)
    have h2 := frs_at (wrB F i off len G) (t / 260) (t % 260) (by omega) (by omega)
    rw [show t / 260 * 260 + t % 260 = t by omega] at h1 h2
    rw [h2, hc t]
    by_cases e : i * 260 + 4 + off ≤ t ∧ t < i * 260 + 4 + off + len
    · rw [if_pos e]
      have e1 : t / 260 = i := by omega
      have e2 : ¬ t % 260 < 4 := by omega
      unfold cellG wrB
      rw [if_neg e2, if_pos ⟨e1, by omega, by omega⟩, show t % 260 - (4 + off) = t - (i * 260 + 4 + off) by omega]
    · rw [if_neg e, h1]
      unfold cellG wrB
      have : ¬ (t / 260 = i ∧ 4 + off ≤ t % 260 ∧ t % 260 < 4 + off + len) := by omega
      rw [if_neg this]
  · rw [Array.getElem?_eq_none (by omega), Array.getElem?_eq_none (by rw [frs_size]; omega)]

section
variable {w w' : World} {m fb : Nat} {F : Nat → Nat → Int}

theorem part_f (h : PH w m fb F) (i off n : Nat) (hi : i < 14) (hn : off + n ≤ 256) : Calls Tryz.prog 32 #[.pointer (some ⟨m, 0, none⟩), .int .i64 (i : Nat), .int .i64 (off : Nat), .int .i64 (n : Nat)] w fun e w' => e = .returned (.tuple #[.pointer (some ⟨fb, i * 260, none⟩), .int .i64 0]) ∧ w = w' := by
  have H := hid h
  have hI := hid hi
  have h1 : (off : Int) ≤ 256 := by omega
  have h2 : (n : Int) ≤ 256 - (off : Int) := by omega
  clear h hi hn
  go_enter Tryz.func32, Tryz.ntmps32
  go_wp2_with (go_at_call 61; refine (at_f H.out i hI.out).mono ?_; rintro e w' ⟨rfl, rfl⟩)
  go_ret2
  exact ⟨rfl, rfl⟩

set_option maxRecDepth 100000 in
set_option maxHeartbeats 1000000 in
theorem write_f (h : PH w m fb F) (i off len cp : Nat) (sa : Option Addr) (G : Nat → Int) (hi : i < 14) (hl : off + len ≤ 256) (hlt : off < 256) (ho : F i 0 ≠ -1) (hB : Bys w sa len G) :
    Calls Tryz.prog 12 #[.pointer (some ⟨m, 0, none⟩), .int .i64 (i : Nat), .int .i64 (off : Nat), .slice sa len cp] w fun e w' => e = .returned (.int .i64 0) ∧ PH w' m fb (wrB F i off len G) ∧ Tn.Mod [fb] w w' := by
  have c0 := h.num i 0 hi (by omega)
  rw [Nat.add_zero] at c0
  have H := hid h
  have hI := hid hi
  have hL := hid hl
  have HB := hid hB
  have hoI : (off : Int) ≤ 256 := by omega
  have hmin : Nat.min len (256 - off) = len := Nat.min_eq_left (by omega)
  have HMIN := hid hmin
  have h256 : (256 = off) = False := by simp; omega
  have hob : (F i 0 == -1) = false := by simpa using ho
  generalize F i 0 = ow at c0 ho hob
  clear h hi hl hB hmin hlt
  go_enter Tryz.func12, Tryz.ntmps12
  go_wp2_with (first
    | (go_at_call 32; refine (part_f H.out i off len hI.out hL.out).mono ?_; rintro e w' ⟨rfl, rfl⟩)
    | (refine wpList_cp rfl _ _ rfl fb (i * 260 + 4 + off) (256 - off) (256 - off) rfl sa len cp rfl (frs F) 74 H.out.fr G len HMIN.out HB.out (by rw [frs_size]; have := hI.out; have := hL.out; omega) ?_))
  intro cur hs
  have he := frs_wr F i off len G hI.out hL.out (hs.size.trans (frs_size F)) hs.at_
  subst he
  have hm : Tn.Mod [fb] w (w.setRow fb (frs (wrB F i off len G))) := (Mod.refl _ w).setRow (.inl (by simp)) _
  have HP := hid (show PH (w.setRow fb (frs (wrB F i off len G))) m fb (wrB F i off len G) from ⟨H.out.blk.mod hm (by simp; exact H.out.blk.ne_ H.out.fr (by decide)), H.out.fr.setRow⟩)
  have HM := hid hm
  clear hs hm
  go_wp2
  go_ret
  exact ⟨rfl, HP.out, HM.out⟩

/-- What Frame answers. -/
theorem results4 {fn : Func} {p u : Tmp} (h : fn.results = #[.cell p 70, .tmp u]) : True := trivial

theorem fr0_size : fr0.size = 260 := by unfold fr0; exact Array.size_ofFn
theorem made4 : madeCells fr0 3640 = frs (fun _ _ => 0) := by
  apply Array.ext_getElem?
  intro t
  unfold madeCells
  rw [fr0_size]
  by_cases ht : t < 3640
  · have h2 := frs_at (fun _ _ => 0) (t / 260) (t % 260) (by omega) (by omega)
    rw [show t / 260 * 260 + t % 260 = t by omega] at h2
    have h3 : fr0[t % 260]? = some (if t % 260 < 4 then .int .i64 0 else .int .u8 0) := by
      unfold fr0
      rw [Array.getElem?_ofFn, dif_pos (by omega)]
    rw [h2, Array.getElem?_map, Array.getElem?_range, if_pos ht]
    simp only [Option.map_some]
    rw [getElem!_def, h3]
    rfl
  · rw [Array.getElem?_eq_none (by simp; omega), Array.getElem?_eq_none (by rw [frs_size]; omega)]
set_option maxRecDepth 100000 in
set_option maxHeartbeats 1000000 in
theorem pnew_f (w : World) : Calls Tryz.prog 4 #[.int .i64 14] w fun e w' => ∃ m fb, e = .returned (.tuple #[.pointer (some ⟨m, 0, none⟩), .int .i64 0]) ∧ (∃ F, PH w' m fb F ∧ ∀ a c, F a c = if c = 0 ∧ a < 14 then -1 else 0) ∧ w.heap.size ≤ m ∧ w.heap.size ≤ fb ∧ Tn.Mod [] w w' := by
  have hmk : (Instr.makeSlice 66 (.int .i64 14) (.int .i64 14)).run Tryz.prog w = .ok (.slice (some ⟨w.heap.size, 0, none⟩) 14 14) (w.alloc (.cells (frs (fun _ _ => 0)) 74)) := by
    obtain ⟨i, hi, hz⟩ := Option.map_eq_some_iff.1 info64
    simp only [Prod.mk.injEq] at hz
    obtain ⟨hz0, hz1, hz2⟩ := hz
    obtain ⟨z, hzz, hzc⟩ := Option.map_eq_some_iff.1 hz0
    have hr := run_make (P := Tryz.prog) w 66 74 i z Tryz.underlying66 hi hzz .i64 .i64 14 14 (by omega) (Int.le_refl _) (by rw [hz2]; omega) (by omega)
    rw [hz1, hzc, show (14 : Int).toNat * 260 = 3640 from rfl, made4] at hr
    exact hr
  go_enter Tryz.func4, Tryz.ntmps4
  go_wp2
  have hP0 : PH ((w.alloc (.cells (frs (fun _ _ => 0)) 74)).alloc (.cells #[.bool true, .slice (some ⟨w.heap.size, 0, none⟩) 14 14] 68)) (w.heap.size + 1) w.heap.size (fun _ _ => 0) := by
    refine ⟨?_, (Blk.new w 74 _).mod ((Mod.refl [] _).alloc _) (by simp)⟩
    have := Blk.new (w.alloc (.cells (frs (fun _ _ => 0)) 74)) 68 #[.bool true, .slice (some ⟨w.heap.size, 0, none⟩) 14 14]
    rwa [World.size_alloc] at this
  have HM0 := hid (((Mod.refl [] w).alloc (.cells (frs (fun _ _ => 0)) 74)).alloc (.cells #[.bool true, .slice (some ⟨w.heap.size, 0, none⟩) 14 14] 68))
  have HP0 := hid hP0
  clear hmk hP0
  go_loopw [21] (fun i wr => ∃ (j : Nat) (F : Nat → Nat → Int), j ≤ 14 ∧ i = .int .i64 (j : Int) ∧ Hid (PH wr (w.heap.size + 1) w.heap.size F) ∧ Hid (∀ a c, F a c = if c = 0 ∧ a < j then -1 else 0) ∧ Hid (Tn.Mod [] w wr)) (fun i _ => 14 - (intOf i).toNat)
  case atStart => exact ⟨0, _, by omega, rfl, HP0, fun a c => by simp, HM0⟩
  case round =>
    clear HP0 HM0
    obtain ⟨j, F, hj, rfl, hP, hF, hM⟩ := hrel
    have c1 := hP.out.blk.cell 1
    simp only [List.getElem?_toArray, List.getElem?_cons_zero, List.getElem?_cons_succ] at c1
    by_cases hlt : j < 14
    · have hjI : (j : Int) < 14 := by omega
      have c0 := hP.out.num j 0 hlt (by omega)
      have f0 := hP.out.fr.frozen (j * 260 + 0)
      rw [Nat.add_zero] at c0 f0
      go_wp2
      go_roundw
      case rel =>
        have hs := hP.out.store j 0 hlt (by omega) (-1)
        rw [Nat.add_zero] at hs
        refine ⟨j + 1, upd F j 0 (-1), by omega, by go_num, hs, fun a c => ?_, hid (hM.out.setCell (.inr (Nat.le_refl _)) _)⟩
        unfold upd
        rw [hF.out]
        by_cases h1 : a = j ∧ c = 0
        · rw [if_pos h1, if_pos ⟨h1.2, by omega⟩]
        · rw [if_neg h1]
          by_cases h2 : c = 0 ∧ a < j
          · rw [if_pos h2, if_pos ⟨h2.1, by omega⟩]
          · rw [if_neg h2, if_neg (by omega)]
      case measure => simp [intOf]; omega
    · obtain rfl : j = 14 := by omega
      clear hlt
      go_wp2
      go_ret2
      exact ⟨_, _, rfl, ⟨F, hP.out, hF.out⟩, Nat.le_succ _, Nat.le_refl _, hM.out⟩
end
end Go.Proofs.YtfolppcadckmaaaGreat
