/-
  Whole: a view in the heap: none, Machine, Reads, a rewrite, Read.
-/
import Derived.Test.YthakplgehanopaaGr
import Derived.LoopTactic
namespace Go.Proofs.Ythakplgehanopaa
open Go.RowKit Go.Tn
open Go.Proofs

theorem zero90 (w : World) : (zeroValue 90).run Try.prog w = .ok (.slice none 0 0) w := by kernel_rfl
theorem look87b {w : World} {b : Nat} (h : IsM w b) (n : Int) : (Instr.lookup 87 (.map (some b)) (.int .i64 n) false).run Try.prog w = .ok ((mget w b n).getD (.slice none 0 0)) w := by
  rw [h.look Try.underlying87 Try.underlying3 zero90 n false]; rfl
theorem store87 {w : World} {b : Nat} (h : IsM w b) (n : Int) (v : Value) : (Instr.mapUpdate 87 (.map (some b)) (.int .i64 n) v).run Try.prog w = .ok () (mput w b n v) := h.imap.store Try.underlying87 Try.underlying3 n v
attribute [local go_sem] look87b store87

/-- At v a view lies: of the machine at m, its rewrites in map db; r reads have been. -/
structure VH (w : World) (v m db : Nat) (r : Nat) : Prop where
  blk : Blk w v 89 #[.pointer (some ⟨m, 0, none⟩), .map (some db), .int .i64 (r : Nat)]
  mm : IsM w db

section
variable {w w' : World} {v m db r fb : Nat} {F : Nat → Nat → Int}
theorem VH.mod (h : VH w v m db r) {S : List Nat} (hm : Tn.Mod S w w') (h1 : v ∉ S) (h2 : db ∉ S) : VH w' v m db r := ⟨h.blk.mod hm h1, h.mm.of_heap (hm.block _ h.mm.lt h2)⟩
theorem VH.mod0 (h : VH w v m db r) (hm : Tn.Mod [] w w') : VH w' v m db r := h.mod hm (by simp) (by simp)
theorem VH.c0 (h : VH w v m db r) : w.cell? ⟨v, 0, none⟩ = some (.pointer (some ⟨m, 0, none⟩)) := h.blk.cell 0
theorem VH.c1 (h : VH w v m db r) : w.cell? ⟨v, 1, none⟩ = some (.map (some db)) := h.blk.cell 1
theorem VH.c2 (h : VH w v m db r) : w.cell? ⟨v, 2, none⟩ = some (.int .i64 (r : Nat)) := h.blk.cell 2

theorem vnone_f (h : VH w v m db r) : Calls Try.prog 40 #[.pointer (some ⟨v, 0, none⟩)] w fun e w' => e = .returned (.bool false) ∧ w = w' := by
  have c0 := h.c0
  clear h
  go_enter Try.func40, Try.ntmps40
  go_wp2
  go_ret
  exact ⟨rfl, rfl⟩
theorem vmachine_f (h : VH w v m db r) : Calls Try.prog 49 #[.pointer (some ⟨v, 0, none⟩)] w fun e w' => e = .returned (.pointer (some ⟨m, 0, none⟩)) ∧ w = w' := by
  have c0 := h.c0
  have H := hid h
  clear h
  go_enter Try.func49, Try.ntmps49
  go_wp2_with (go_at_call 40; refine (vnone_f H.out).mono ?_; rintro e w' ⟨rfl, rfl⟩)
  go_ret
  exact ⟨rfl, rfl⟩
theorem unmade_f (h : VH w v m db r) : Calls Try.prog 33 #[.pointer (some ⟨v, 0, none⟩)] w fun e w' => e = .returned (.bool false) ∧ w = w' := by
  have H := hid h
  clear h
  go_enter Try.func33, Try.ntmps33
  go_wp2_with (go_at_call 49; refine (vmachine_f H.out).mono ?_; rintro e w' ⟨rfl, rfl⟩)
  go_ret
  exact ⟨rfl, rfl⟩
theorem reads_f (h : VH w v m db r) : Calls Try.prog 16 #[.pointer (some ⟨v, 0, none⟩)] w fun e w' => e = .returned (.int .i64 (r : Nat)) ∧ w = w' := by
  have c2 := h.c2
  have H := hid h
  clear h
  go_enter Try.func16, Try.ntmps16
  go_wp2_with (go_at_call 40; refine (vnone_f H.out).mono ?_; rintro e w' ⟨rfl, rfl⟩)
  go_ret
  exact ⟨rfl, rfl⟩

set_option maxRecDepth 100000 in
set_option maxHeartbeats 2000000 in
theorem rewrite_f (h : VH w v m db r) (p : PH w m fb F) (h0 : F 2 0 = 1) (h1 : F 2 1 = 1) (sa : Option Addr) (len cp : Nat) (G : Nat → Int) (hl : len ≤ 256) (hB : Bys w sa len G) (hdb : fb ≠ v) :
    Calls Try.prog 30 #[.pointer (some ⟨v, 0, none⟩), .int .i64 2, .int .i64 0, .slice sa len cp] w fun e w' => (∃ u, e = .returned u) ∧ PH w' m fb (wrB F 2 0 len G) ∧ Tn.Mod [fb] w w' := by
  have c0 := h.c0
  have hF := frame_f p 2 (by omega)
  rw [h0, h1] at hF
  have HB := hid hB
  have HP := hid p
  have HV := hid h
  have hl' := hid hl
  have ho : F 2 0 ≠ -1 := by omega
  have Ho := hid ho
  clear h p h0 h1 hl hB ho hdb
  go_enter Try.func30, Try.ntmps30
  go_wp2_with (first
    | (go_at_call 47; refine hF.mono ?_; rintro e w5 ⟨rfl, hm5⟩
       have hm6 : Tn.Mod [] w (w5.alloc (.cells #[.int .i64 1, .int .i64 1, .int .i64 (F 2 2), .int .i64 (F 2 3)] 60)) := hm5.alloc _
       have c06 := (HV.out.mod0 hm6).c0
       have HM6 := hid hm6
       clear hm5 hm6)
    | (go_at_call 12; refine (write_f (HP.out.mod0 HM6.out) 2 0 len cp sa G (by omega) (by have := hl'.out; omega) (by omega) Ho.out (HB.out.mod HM6.out (by simp))).mono ?_; rintro e w' ⟨rfl, hp7, hm7⟩; have HP7 := hid hp7; have HM7 := hid hm7; clear hp7 hm7))
  go_end0
  exact ⟨⟨_, rfl⟩, HP7.out, ((HM6.out.mono (T := [fb]) (by simp))).andThen HM7.out⟩

theorem cell_lt {w : World} {b o : Nat} {u : Value} (h : w.cell? ⟨b, o, none⟩ = some u) : b < w.heap.size := by
  by_cases hb : b < w.heap.size
  · exact hb
  · have : w.heap[b]? = none := Array.getElem?_eq_none (by omega)
    simp [World.cell?, this] at h

/-- What a closure of New's calls: its boxes lie beyond v. -/
structure Clo (w : World) (v bv bp bb : Nat) (len : Nat) (G : Nat → Int) : Prop where
  cv : w.cell? ⟨bv, 0, none⟩ = some (.pointer (some ⟨v, 0, none⟩))
  cm : w.cell? ⟨bp, 1, none⟩ = some (.int .i64 2)
  co : w.cell? ⟨bp, 2, none⟩ = some (.int .i64 0)
  cb : ∃ (sa : Option Addr) (cp : Nat), w.cell? ⟨bb, 0, none⟩ = some (.slice sa len cp) ∧ (∀ b off, sa = some ⟨b, off, none⟩ → v < b) ∧ Bys w sa len G
  l1 : v < bv
  l2 : v < bp
  l3 : v < bb
theorem Clo.mod {bv bp bb len : Nat} {G : Nat → Int} (h : Clo w v bv bp bb len G) {S : List Nat} (hm : Tn.Mod S w w') (hS : ∀ s ∈ S, s ≤ v) : Clo w' v bv bp bb len G := by
  have hn : ∀ b, v < b → b ∉ S := fun b hb hS' => by have := hS b hS'; omega
  obtain ⟨sa, cp, h1, h2, h3⟩ := h.cb
  exact ⟨(hm.cell (p := ⟨bv, 0, none⟩) (cell_lt h.cv) (hn _ h.l1)).trans h.cv, (hm.cell (p := ⟨bp, 1, none⟩) (cell_lt h.cm) (hn _ h.l2)).trans h.cm, (hm.cell (p := ⟨bp, 2, none⟩) (cell_lt h.co) (hn _ h.l2)).trans h.co,
    ⟨sa, cp, (hm.cell (p := ⟨bb, 0, none⟩) (cell_lt h1) (hn _ h.l3)).trans h1, h2, h3.mod hm (fun b off e => hn _ (h2 b off e))⟩, h.l1, h.l2, h.l3⟩

set_option maxRecDepth 100000 in
set_option maxHeartbeats 2000000 in
theorem clo_f {bv bp bb len : Nat} {G : Nat → Int} (h : VH w v m db r) (p : PH w m fb F) (h0 : F 2 0 = 1) (h1 : F 2 1 = 1) (c : Clo w v bv bp bb len G) (hl : len ≤ 256) (hdb : fb ≠ v) :
    Calls Try.prog 29 #[.pointer (some ⟨bv, 0, none⟩), .pointer (some ⟨bp, 0, none⟩), .pointer (some ⟨bb, 0, none⟩)] w fun e w' => (∃ u, e = .returned u) ∧ PH w' m fb (wrB F 2 0 len G) ∧ Tn.Mod [fb] w w' := by
  obtain ⟨cv, cm, co, ⟨sa, cp, cb, hv, hB⟩, l1, l2, l3⟩ := c
  have HR := hid (rewrite_f h p h0 h1 sa len cp G hl hB hdb)
  clear h p h0 h1 hB hv l1 l2 l3 hl
  go_enter Try.func29, Try.ntmps29
  go_wp2_with (go_at_call 30; refine HR.out.mono ?_; rintro e w' ⟨⟨u, rfl⟩, hp7, hm7⟩; have HP7 := hid hp7; have HM7 := hid hm7; clear hp7 hm7)
  go_end0
  exact ⟨⟨_, rfl⟩, HP7.out, HM7.out⟩

/-- What is due ahead of read k: nothing, or one rewrite. -/
inductive Due (w : World) (v db : Nat) (k : Nat) (len : Nat) (G : Nat → Int) : Nat → Prop
  | no (h : mget w db k = none) : Due w v db k len G 0
  | one (s cap bv bp bb : Nat) (hg : mget w db k = some (.slice (some ⟨s, 0, none⟩) 1 cap)) (hs : w.cell? ⟨s, 0, none⟩ = some (.func (.func 29) #[] #[.pointer (some ⟨bv, 0, none⟩), .pointer (some ⟨bp, 0, none⟩), .pointer (some ⟨bb, 0, none⟩)])) (hc : Clo w v bv bp bb len G) (hl : v < s) : Due w v db k len G 1
theorem Due.mod {k len N : Nat} {G : Nat → Int} (h : Due w v db k len G N) {S : List Nat} (hm : Tn.Mod S w w') (hS : ∀ s ∈ S, s ≤ v) (hdb : db ∉ S) (hd : IsM w db) : Due w' v db k len G N := by
  have hg := hm.block _ hd.lt hdb
  cases h with
  | no h => exact .no ((mget_of_heap hg _).trans h)
  | one s cap bv bp bb h1 h2 h3 h4 => exact .one s cap bv bp bb ((mget_of_heap hg _).trans h1) ((hm.cell (p := ⟨s, 0, none⟩) (cell_lt h2) (fun e => by have := hS _ e; simp at this; omega)).trans h2) (h3.mod hm hS) h4

/-- The frames behind N rewrites. -/
def rw2 (F : Nat → Nat → Int) (N len : Nat) (G : Nat → Int) : Nat → Nat → Int := if N = 0 then F else wrB F 2 0 len G

set_option maxRecDepth 100000 in
set_option maxHeartbeats 4000000 in
theorem vread_f {len N : Nat} {G : Nat → Int} (h : VH w v m db r) (p : PH w m fb F) (h0 : F 2 0 = 1) (h1 : F 2 1 = 1) (d : Due w v db r len G N) (hl : len ≤ 256) (hfv : fb < v) (hr : r ≤ 100) (i off n : Nat) (hi : i < 4) (hn : off + n ≤ 256) :
    Calls Try.prog 32 #[.pointer (some ⟨v, 0, none⟩), .int .i64 (i : Nat), .int .i64 (off : Nat), .int .i64 (n : Nat)] w fun e w' =>
      ∃ q, e = .returned (.tuple #[.slice (some ⟨q, 0, none⟩) n n, .int .i64 0]) ∧ Bys w' (some ⟨q, 0, none⟩) n (fun j => rw2 F N len G i (4 + off + j)) ∧ PH w' m fb (rw2 F N len G) ∧ VH w' v m db (r + 1) ∧ Tn.Mod [fb, v] w w' := by
  have hdbf : db ≠ fb := fun e => p.fr.ne_map h.mm.imap e.symm
  have hmv : m ≠ v := p.blk.ne_ h.blk (by decide)
  have hdv : v ≠ db := h.blk.ne_map h.mm.imap
  obtain ⟨so, cap, hgs, hN, hone⟩ : ∃ so cap, (mget w db r).getD (.slice none 0 0) = .slice so N cap ∧ N ≤ 1 ∧ (0 < N → ∃ s bv bp bb, so = some ⟨s, 0, none⟩ ∧ w.cell? ⟨s, 0, none⟩ = some (.func (.func 29) #[] #[.pointer (some ⟨bv, 0, none⟩), .pointer (some ⟨bp, 0, none⟩), .pointer (some ⟨bb, 0, none⟩)]) ∧ Clo w v bv bp bb len G ∧ v < s) := by
    cases d with
    | no h => exact ⟨none, 0, by rw [h]; rfl, by omega, fun h => by omega⟩
    | one s cap bv bp bb h1 h2 h3 h4 => exact ⟨_, cap, by rw [h1]; rfl, by omega, fun _ => ⟨s, bv, bp, bb, rfl, h2, h3, h4⟩⟩
  have c0 := h.c0
  have c1 := h.c1
  have c2 := h.c2
  have mm := h.mm
  have HV := hid h
  have HP := hid p
  have HD := hid hone
  have HN := hid hN
  have HI := hid hi
  have HON := hid hn
  have H0 := hid h0
  have H1 := hid h1
  have HL := hid hl
  have HX := hid (And.intro hdbf (And.intro hmv (And.intro hdv hfv)))
  have HR := hid hr
  clear h p d hone hN hi hn h0 h1 hl hdbf hmv hdv hfv hr
  go_enter Try.func32, Try.ntmps32
  go_wp2_with (go_at_call 40; refine (vnone_f HV.out).mono ?_; rintro e w' ⟨rfl, rfl⟩)
  go_quiet (fail)
  go_wp2
  go_loopw [24] (fun t wr => ∃ k : Nat, t = .int .i64 (k : Nat) ∧ k ≤ N ∧ PH wr m fb (rw2 F k len G) ∧ Tn.Mod [fb] w wr)
    (fun t _ => N - (intOf t).toNat)
  case atStart => exact ⟨0, rfl, Nat.zero_le _, HP.out.mod0 ((Mod.refl [] w).drewN nq), (Mod.refl [fb] w).drewN nq⟩
  case round =>
    obtain ⟨k, rfl, hk, hP, hM⟩ := hrel
    have hx := HX.out
    have hV := HV.out.mod hM (by simp; omega) (by simpa using hx.1)
    by_cases hlt : k < N
    · obtain ⟨s, bv, bp, bb, rfl, hs, hc, hvs⟩ := HD.out (by omega)
      have hN1 := HN.out
      have hk0 : k = 0 := by omega
      subst hk0
      have hNe : N = 1 := by omega
      subst hNe
      have hs' := (hM.cell (p := ⟨s, 0, none⟩) (cell_lt hs) (by simp; omega)).trans hs
      have HC := hid (clo_f hV hP H0.out H1.out (hc.mod hM (by simp; omega)) HL.out (by omega))
      have HM := hid hM
      clear hM hP hV hc hs hvs hx hN1
      go_wp2_with (go_at_call 29; refine HC.out.mono ?_; rintro e w7 ⟨⟨u, rfl⟩, hp7, hm7⟩; have HP7 := hid hp7; have HM7 := hid hm7; clear hp7 hm7)
      refine ⟨⟨_, _, _, _, _, _, _, _, ⟨1, rfl, by omega, HP7.out, HM.out.andThen HM7.out⟩, rfl⟩, ?_⟩
      simp [intOf]
    · obtain rfl : k = N := by omega
      have e0 := hV.c0
      have e1 := hV.c2
      have e2 := hV.blk.frozen 2
      have hrI : ((r : Int) + 1) = ((r + 1 : Nat) : Int) := by omega
      have hm2 : Tn.Mod [v] wr (wr.setCell ⟨v, 2, none⟩ (.int .i64 ((r : Int) + 1))) := (Mod.refl _ wr).setCell (.inl (by simp)) _
      have hP2 := hP.mod hm2 (by simpa using hx.2.1) (by simp; omega)
      have hV2 : VH (wr.setCell ⟨v, 2, none⟩ (.int .i64 ((r : Int) + 1))) v m db (r + 1) := ⟨by have := hV.blk.set_ 2 (.int .i64 ((r : Int) + 1)); rw [hrI] at this ⊢; exact this, hV.mm.of_heap (hm2.block _ hV.mm.lt (by simpa using fun e => hx.2.2.1 e.symm))⟩
      have f0 := hV2.c0
      have hR := read_f hP2 i off n HI.out HON.out
      have hMM : Tn.Mod [fb, v] w (wr.setCell ⟨v, 2, none⟩ (.int .i64 ((r : Int) + 1))) := (hM.mono (T := [fb, v]) (by simp)).andThen (hm2.mono (by simp))
      have hr100 := HR.out
      have w1 : wrap64 ((r : Int) + 1) = (r : Int) + 1 := by rw [wrap64]; omega
      have HRR := hid hR
      have HP2 := hid hP2
      have HV2 := hid hV2
      have HMM := hid hMM
      clear hR hP2 hV2 hMM hP hM hV hm2 hx hrI
      go_wp2_with (go_at_call 48; refine HRR.out.mono ?_; rintro e w7 ⟨q, rfl, hb7, hm7⟩; have HB7 := hid hb7; have HM7 := hid hm7; clear hb7 hm7)
      go_ret2
      exact ⟨q, rfl, HB7.out, HP2.out.mod0 HM7.out, HV2.out.mod0 HM7.out, HMM.out.andThen (HM7.out.mono (by simp))⟩
end
end Go.Proofs.Ythakplgehanopaa
