/-
  Frames: a view without rewrites in the heap: New, none, Machine, Read, Word, Write.
-/
import Derived.Test.YtfolppcadckmaaaGreatGr
import Derived.LoopTactic
import Derived.IntWalk
namespace Go.Proofs.YtfolppcadckmaaaGreat
open Go.RowKit Go.Tn
open Go.Proofs
set_option maxRecDepth 100000

theorem cell_lt {w : World} {b o : Nat} {u : Value} (h : w.cell? ⟨b, o, none⟩ = some u) : b < w.heap.size := by
  by_cases hb : b < w.heap.size
  · exact hb
  · have : w.heap[b]? = none := Array.getElem?_eq_none (by omega)
    simp [World.cell?, this] at h

theorem Bys.at_ {w : World} {q n : Nat} {g : Nat → Int} (h : Bys w (some ⟨q, 0, none⟩) n g) (j : Nat) (hj : j < n) : w.cell? ⟨q, j, none⟩ = some (.int .u8 (g j)) := by
  obtain ⟨q', o', hqe, hql, hcell⟩ := h (by omega)
  injection hqe with hqe
  injection hqe with hqe1 hqe2 hqe3
  subst hqe1 hqe2
  have := hcell j hj
  rwa [Nat.zero_add] at this

theorem zero126 (w : World) : (zeroValue 126).run Tryz.prog w = .ok (.slice none 0 0) w := by kernel_rfl
theorem look121 {w : World} {b : Nat} (h : IsM w b) (n : Int) : (Instr.lookup 121 (.map (some b)) (.int .i64 n) false).run Tryz.prog w = .ok ((mget w b n).getD (.slice none 0 0)) w := by
  rw [h.look Tryz.underlying121 Tryz.underlying3 zero126 n false]; rfl
attribute [local go_sem] look121

/-- At v a view lies: of the machine at m, its rewrites (none) in map db; r reads have been. -/
structure VH (w : World) (v m db : Nat) (r : Nat) : Prop where
  blk : Blk w v 123 #[.pointer (some ⟨m, 0, none⟩), .map (some db), .int .i64 (r : Nat)]
  mm : IsM w db
  no : ∀ n, mget w db n = none

section
variable {w w' : World} {v m db r fb : Nat} {F : Nat → Nat → Int}
theorem VH.mod (h : VH w v m db r) {S : List Nat} (hm : Tn.Mod S w w') (h1 : v ∉ S) (h2 : db ∉ S) : VH w' v m db r :=
  ⟨h.blk.mod hm h1, h.mm.of_heap (hm.block _ h.mm.lt h2), fun n => (mget_of_heap (hm.block _ h.mm.lt h2) n).trans (h.no n)⟩
theorem VH.mod0 (h : VH w v m db r) (hm : Tn.Mod [] w w') : VH w' v m db r := h.mod hm (by simp) (by simp)
theorem VH.c0 (h : VH w v m db r) : w.cell? ⟨v, 0, none⟩ = some (.pointer (some ⟨m, 0, none⟩)) := h.blk.cell 0
theorem VH.c1 (h : VH w v m db r) : w.cell? ⟨v, 1, none⟩ = some (.map (some db)) := h.blk.cell 1
theorem VH.c2 (h : VH w v m db r) : w.cell? ⟨v, 2, none⟩ = some (.int .i64 (r : Nat)) := h.blk.cell 2

theorem vnone_f (h : VH w v m db r) : Calls Tryz.prog 63 #[.pointer (some ⟨v, 0, none⟩)] w fun e w' => e = .returned (.bool false) ∧ w = w' := by
  have c0 := h.c0
  clear h
  go_enter Tryz.func63, Tryz.ntmps63
  go_wp2
  go_ret
  exact ⟨rfl, rfl⟩
theorem vmachine_f (h : VH w v m db r) : Calls Tryz.prog 47 #[.pointer (some ⟨v, 0, none⟩)] w fun e w' => e = .returned (.pointer (some ⟨m, 0, none⟩)) ∧ w = w' := by
  have c0 := h.c0
  have H := hid h
  clear h
  go_enter Tryz.func47, Tryz.ntmps47
  go_wp2_with (go_at_call 63; refine (vnone_f H.out).mono ?_; rintro e w' ⟨rfl, rfl⟩)
  go_ret
  exact ⟨rfl, rfl⟩
theorem unmade_f (h : VH w v m db r) : Calls Tryz.prog 85 #[.pointer (some ⟨v, 0, none⟩)] w fun e w' => e = .returned (.bool false) ∧ w = w' := by
  have H := hid h
  clear h
  go_enter Tryz.func85, Tryz.ntmps85
  go_wp2_with (go_at_call 47; refine (vmachine_f H.out).mono ?_; rintro e w' ⟨rfl, rfl⟩)
  go_ret
  exact ⟨rfl, rfl⟩
theorem runmade_f (h : VH w v m db r) : Calls Tryz.prog 74 #[.pointer (some ⟨v, 0, none⟩)] w fun e w' => e = .returned (.bool false) ∧ w = w' := by
  have H := hid h
  clear h
  go_enter Tryz.func74, Tryz.ntmps74
  go_wp2_with (go_at_call 47; refine (vmachine_f H.out).mono ?_; rintro e w' ⟨rfl, rfl⟩)
  go_ret
  exact ⟨rfl, rfl⟩

theorem VH.ne (h : VH w v m db r) (p : PH w m fb F) : fb ≠ v ∧ m ≠ v ∧ db ≠ v ∧ db ≠ fb ∧ db ≠ m :=
  ⟨p.fr.ne_ h.blk (by decide), p.blk.ne_ h.blk (by decide), fun e => h.blk.ne_map h.mm.imap e.symm, fun e => p.fr.ne_map h.mm.imap e.symm, fun e => p.blk.ne_map h.mm.imap e.symm⟩

set_option maxHeartbeats 4000000 in
/-- 'Read'. -/
theorem vread_f (h : VH w v m db r) (p : PH w m fb F) (hr : r ≤ 100000) (i off n : Nat) (hi : i < 14) (hn : off + n ≤ 256) :
    Calls Tryz.prog 78 #[.pointer (some ⟨v, 0, none⟩), .int .i64 (i : Nat), .int .i64 (off : Nat), .int .i64 (n : Nat)] w fun e w' =>
      ∃ q, w.heap.size ≤ q ∧ e = .returned (.tuple #[.slice (some ⟨q, 0, none⟩) n n, .int .i64 0]) ∧ Bys w' (some ⟨q, 0, none⟩) n (fun j => F i (4 + off + j)) ∧ PH w' m fb F ∧ VH w' v m db (r + 1) ∧ Tn.Mod [v] w w' := by
  obtain ⟨n1, n2, n3, n4, n5⟩ := h.ne p
  have c0 := h.c0
  have c1 := h.c1
  have c2 := h.c2
  have hgs : (mget w db r).getD (.slice none 0 0) = .slice none 0 0 := by rw [h.no]; rfl
  have mm := h.mm
  have HV := hid h
  have HP := hid p
  have HI := hid hi
  have HON := hid hn
  have HX := hid (And.intro n1 (And.intro n2 (And.intro n3 (And.intro n4 n5))))
  have HR := hid hr
  clear h p hi hn n1 n2 n3 n4 n5 hr
  go_enter Tryz.func78, Tryz.ntmps78
  go_wp2_with (go_at_call 63; refine (vnone_f HV.out).mono ?_; rintro e w' ⟨rfl, rfl⟩)
  go_quiet (fail)
  have hm1 : Tn.Mod [] w (w.drewN nq) := (Mod.refl [] w).drewN nq
  have hV1 := hid (HV.out.mod0 hm1)
  have hP1 := hid (HP.out.mod0 hm1)
  have hM1 := hid hm1
  generalize w.drewN nq = W at hV1 hP1 hM1 ⊢
  clear hm1
  go_wp2
  go_loopw [24] (fun t wr => t = .int .i64 0 ∧ wr = W) (fun t _ => 0)
  case atStart => exact ⟨rfl, rfl⟩
  case round =>
    obtain ⟨rfl, rfl⟩ := hrel
    have e0 := hV1.out.c0
    have e1 := hV1.out.c2
    have e2 := hV1.out.blk.frozen 2
    have hrI : ((r : Int) + 1) = ((r + 1 : Nat) : Int) := by omega
    have hr100 := HR.out
    have w1 : wrap64 ((r : Int) + 1) = (r : Int) + 1 := by rw [wrap64]; omega
    have hm2 : Tn.Mod [v] wr (wr.setCell ⟨v, 2, none⟩ (.int .i64 ((r : Int) + 1))) := (Mod.refl _ wr).setCell (.inl (by simp)) _
    have hP2 := hP1.out.mod hm2 (by simpa using HX.out.2.1) (by simpa using HX.out.1)
    have hV2 : VH (wr.setCell ⟨v, 2, none⟩ (.int .i64 ((r : Int) + 1))) v m db (r + 1) :=
      ⟨by have := hV1.out.blk.set_ 2 (.int .i64 ((r : Int) + 1)); rw [hrI] at this ⊢; exact this, hV1.out.mm.of_heap (hm2.block _ hV1.out.mm.lt (by simpa using HX.out.2.2.1)),
       fun n => (mget_of_heap (hm2.block _ hV1.out.mm.lt (by simpa using HX.out.2.2.1)) n).trans (hV1.out.no n)⟩
    have f0 := hV2.c0
    have HRR := hid (read_f hP2 i off n HI.out HON.out)
    have HP2 := hid hP2
    have HV2 := hid hV2
    have HM2 := hid ((hM1.out.mono (T := [v]) (by simp)).andThen hm2)
    clear hP2 hV2 hm2 hrI
    go_wp2_with (go_at_call 52; refine HRR.out.mono ?_; rintro e w7 ⟨q, hq7, rfl, hb7, hm7⟩; have HB7 := hid hb7; have HM7 := hid hm7; have HQ7 := hid hq7; clear hb7 hm7 hq7)
    go_ret2
    exact ⟨q, by have h1 := HQ7.out; have h2 := HM2.out.size; omega, rfl, HB7.out, HP2.out.mod0 HM7.out, HV2.out.mod0 HM7.out, HM2.out.andThen (HM7.out.mono (by simp))⟩

set_option maxHeartbeats 4000000 in
/-- 'Write'. -/
theorem vwrite_f (h : VH w v m db r) (p : PH w m fb F) (i off len cp : Nat) (sa : Option Addr) (G : Nat → Int) (hi : i < 14) (hl : off + len ≤ 256) (hlt : off < 256) (ho : F i 0 ≠ -1) (hB : Bys w sa len G) :
    Calls Tryz.prog 79 #[.pointer (some ⟨v, 0, none⟩), .int .i64 (i : Nat), .int .i64 (off : Nat), .slice sa len cp] w fun e w' => e = .returned (.int .i64 0) ∧ PH w' m fb (wrB F i off len G) ∧ Tn.Mod [fb] w w' := by
  have c0 := h.c0
  have HV := hid h
  have HW := hid (write_f p i off len cp sa G hi hl hlt ho hB)
  clear h p hi hl hlt ho hB
  go_enter Tryz.func79, Tryz.ntmps79
  go_wp2_with (first
    | (go_at_call 63; refine (vnone_f HV.out).mono ?_; rintro e w' ⟨rfl, rfl⟩)
    | (go_at_call 12; refine HW.out.mono ?_; rintro e w' ⟨rfl, hp, hm⟩; have HP := hid hp; have HM := hid hm; clear hp hm))
  go_ret
  exact ⟨rfl, HP.out, HM.out⟩

theorem bits_n16 (n : Nat) (hn : n < 65536) : bits .or .u16 ((n : Int) % 256) (IntKind.u16.wrap (IntKind.u16.wrap ((n : Int) / 256) * 256)) = (n : Int) := by
  have hb2 : IntKind.u16.wrap (IntKind.u16.wrap ((n : Int) / 256) * 256) = ((n / 256 * 256 : Nat) : Int) := by rw [IntKind.wrap_u16, IntKind.wrap_u16]; omega
  have h3 := Nat.two_pow_add_eq_or_of_lt (i := 8) (b := n % 256) (by omega) (n / 256)
  simp only [Nat.reducePow] at h3
  rw [hb2, show (n : Int) % 256 = ((n % 256 : Nat) : Int) by omega]
  have h1 : (BitVec.ofInt 16 ((n % 256 : Nat) : Int)).toNat = n % 256 := by
    rw [BitVec.ofInt_natCast, BitVec.toNat_ofNat]; exact Nat.mod_eq_of_lt (by omega)
  have h2 : (BitVec.ofInt 16 ((n / 256 * 256 : Nat) : Int)).toNat = n / 256 * 256 := by
    rw [BitVec.ofInt_natCast, BitVec.toNat_ofNat]; exact Nat.mod_eq_of_lt (by omega)
  show IntKind.u16.wrap ((BitVec.ofInt 16 ((n % 256 : Nat) : Int) ||| BitVec.ofInt 16 ((n / 256 * 256 : Nat) : Int)).toNat : Int) = _
  rw [BitVec.toNat_or, h1, h2, IntKind.wrap_u16, Nat.or_comm, Nat.mul_comm (n / 256) 256, ← h3]
  omega

set_option maxHeartbeats 4000000 in
/-- 'Word'. -/
theorem vword_f (h : VH w v m db r) (p : PH w m fb F) (hr : r ≤ 100000) (i off n : Nat) (hi : i < 14) (ho : off + 2 ≤ 256) (hn : n < 65536) (h0 : F i (4 + off) = ((n % 256 : Nat) : Int)) (h1 : F i (4 + off + 1) = ((n / 256 : Nat) : Int)) :
    Calls Tryz.prog 75 #[.pointer (some ⟨v, 0, none⟩), .int .i64 (i : Nat), .int .i64 (off : Nat)] w fun e w' => e = .returned (.tuple #[.int .u16 (n : Nat), .int .i64 0]) ∧ PH w' m fb F ∧ VH w' v m db (r + 1) ∧ Tn.Mod [v] w w' := by
  have hR0 : Calls Tryz.prog 78 #[.pointer (some ⟨v, 0, none⟩), .int .i64 (i : Nat), .int .i64 (off : Nat), .int .i64 2] w _ := vread_f h p hr i off 2 hi ho
  have HR := hid hR0
  have H0 := hid h0
  have H1 := hid h1
  have hb := bits_n16 n hn
  clear h p hr hi ho hn h0 h1 hR0
  go_enter Tryz.func75, Tryz.ntmps75
  go_wp2_with (go_at_call 78; refine HR.out.mono ?_; rintro e w5 ⟨q, _, rfl, hb5, hp5, hv5, hm5⟩
               have a0 : w5.cell? ⟨q, 0, none⟩ = some (.int .u8 ((n % 256 : Nat) : Int)) := (hb5.at_ 0 (by omega)).trans (by show some (Value.int .u8 (F i (4 + off))) = _; rw [H0.out])
               have a1 : w5.cell? ⟨q, 1, none⟩ = some (.int .u8 ((n / 256 : Nat) : Int)) := (hb5.at_ 1 (by omega)).trans (by show some (Value.int .u8 (F i (4 + off + 1))) = _; rw [H1.out])
               have HP5 := hid hp5
               have HV5 := hid hv5
               have HM5 := hid hm5
               clear hp5 hv5 hm5 hb5)
  go_quiet (fail)
  go_wp2
  go_ret2
  exact ⟨rfl, HP5.out.mod0 ((Mod.refl [] w5).drewN nq), HV5.out.mod0 ((Mod.refl [] w5).drewN nq), HM5.out.drewN nq⟩

set_option maxHeartbeats 4000000 in
/-- 'New', of no rewrites. -/
theorem vnew_f (p : PH w m fb F) :
    Calls Tryz.prog 17 #[.pointer (some ⟨m, 0, none⟩), .slice none 0 0] w fun e w' => ∃ v db, w.heap.size ≤ v ∧ w.heap.size ≤ db ∧ e = .returned (.tuple #[.pointer (some ⟨v, 0, none⟩), .int .i64 0]) ∧ VH w' v m db 0 ∧ Tn.Mod [] w w' := by
  have hmm := @run_makeMap Tryz.prog
  have HP := hid p
  clear p
  go_enter Tryz.func17, Tryz.ntmps17
  go_wp2_with (go_at_call 23; refine (size_f HP.out).mono ?_; rintro e w' ⟨rfl, rfl⟩)
  clear hmm
  have H0 : VH (((w.alloc (.map #[] 0)).alloc (.cells #[.pointer (some ⟨m, 0, none⟩), .map (some w.heap.size), .int .i64 0] 123)).alloc (.cells #[.pointer (some ⟨w.heap.size + 1, 0, none⟩)] 57)) (w.heap.size + 1) m w.heap.size 0 := by
    have b1 := Blk.new (w.alloc (.map #[] 0)) 123 #[.pointer (some ⟨m, 0, none⟩), .map (some w.heap.size), .int .i64 0]
    simp only [World.size_alloc] at b1
    refine ⟨b1.mod ((Mod.refl [] _).alloc _) (by simp), (((IMap.made w).is.alloc _ _ _).alloc _ _ _), fun j => ?_⟩
    rw [mget_alloc _ _ _ ((IMap.made w).is.alloc _ _ _), mget_alloc _ _ _ (IMap.made w).is, (IMap.made w).get]
  have H0 := hid H0
  have c9 := (Blk.new ((w.alloc (.map #[] 0)).alloc (.cells #[.pointer (some ⟨m, 0, none⟩), .map (some w.heap.size), .int .i64 0] 123)) 57 #[.pointer (some ⟨w.heap.size + 1, 0, none⟩)]).cell 0
  have hM := hid ((((Mod.refl [] w).alloc (.map #[] 0)).alloc (.cells #[.pointer (some ⟨m, 0, none⟩), .map (some w.heap.size), .int .i64 0] 123)).alloc (.cells #[.pointer (some ⟨w.heap.size + 1, 0, none⟩)] 57))
  simp only [World.size_alloc, List.getElem?_toArray, List.getElem?_cons_zero] at c9
  generalize (((w.alloc (.map #[] 0)).alloc (.cells #[.pointer (some ⟨m, 0, none⟩), .map (some w.heap.size), .int .i64 0] 123)).alloc (.cells #[.pointer (some ⟨w.heap.size + 1, 0, none⟩)] 57)) = W at *
  go_loopw [24] (fun t wr => t = .int .i64 0 ∧ wr = W) (fun t _ => 0)
  case atStart => exact ⟨rfl, rfl⟩
  case round =>
    obtain ⟨rfl, rfl⟩ := hrel
    go_wp2
    go_ret2
    exact ⟨_, _, Nat.le_succ _, Nat.le_refl _, rfl, H0.out, hM.out⟩
end
end Go.Proofs.YtfolppcadckmaaaGreat
