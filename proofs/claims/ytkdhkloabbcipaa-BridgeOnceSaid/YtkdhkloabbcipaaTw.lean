/-
  Layer 14: the program's switch and the reference's beside each other: each call on either, and what stays.
-/
import Derived.Test.YtkdhkloabbcipaaRn
import Derived.Test.YtkdhkloabbcipaaE
import Derived.Test.YtkdhkloabbcipaaOps
namespace Go.Proofs.Ytkdhkloabbcipaa
open Go.RowKit Go.Tn Go.Tn.P14

/-- Both switches, made since w0; the blocks of Kp are as they are told, and no part of either. -/
structure TwoF (w0 w : World) (Kp : List (Nat × Obj)) (p bp bk q rp : Nat) (A : Option Addr) (ac : Nat) (FP FQ : List Nat) (C D : Nat → Option Addr × Nat) (S R : St) : Prop where
  bm : BM w p bp bk FP C S
  rc : RC w q rp A ac FQ D R
  sep : ∀ b, b ∈ FP → b ∉ FQ
  newP : ∀ b, b ∈ FP → w0.heap.size ≤ b
  newQ : ∀ b, b ∈ FQ → w0.heap.size ≤ b
  hm : Mod [] w0 w
  kp : ∀ b o, (b, o) ∈ Kp → w.heap[b]? = some o ∧ b ∉ FP ∧ b ∉ FQ

def Two (w0 w : World) (Kp : List (Nat × Obj)) (p bp bk q rp : Nat) (A : Option Addr) (ac : Nat) (S R : St) : Prop := ∃ FP FQ C D, TwoF w0 w Kp p bp bk q rp A ac FP FQ C D S R

section
variable {w0 w w' : World} {Kp : List (Nat × Obj)} {p bp bk q rp ac : Nat} {A F : Option Addr} {FP FQ : List Nat} {C D : Nat → Option Addr × Nat} {S R S' R' : St} {fr : List Int} {M : Int}

theorem TwoF.afterB (h : TwoF w0 w Kp p bp bk q rp A ac FP FQ C D S R) (ha : Aft w w' p bp bk FP S') : Two w0 w' Kp p bp bk q rp A ac S' R := by
  obtain ⟨FP', C', hb, hs⟩ := ha
  have hsz := h.hm.size
  refine ⟨FP', FQ, C', D, hb, h.rc.same hs.mod (fun b hb hb' => h.sep b hb' hb), fun b hb hb' => ?_, fun b hb => ?_, h.newQ, h.hm.trans hs.mod fun t ht => .inr (h.newP t ht), fun b o hk => ?_⟩
  · rcases hs.new b hb with h1 | h1
    · exact h.sep b h1 hb'
    · have := h.rc.rows.old b hb'; omega
  · rcases hs.new b hb with h1 | h1
    · exact h.newP b h1
    · omega
  · obtain ⟨k1, k2, k3⟩ := h.kp b o hk
    have hlt := (Array.getElem?_eq_some_iff.1 k1).1
    exact ⟨(hs.mod.block b hlt k2).trans k1, hs.out hlt k2, k3⟩

theorem TwoF.afterQ (h : TwoF w0 w Kp p bp bk q rp A ac FP FQ C D S R) (ha : AftR w w' q rp A ac FQ R') : Two w0 w' Kp p bp bk q rp A ac S R' := by
  obtain ⟨FQ', D', hb, hs⟩ := ha
  have hsz := h.hm.size
  refine ⟨FP, FQ', C, D', h.bm.same hs.mod (fun b hb hb' => h.sep b hb hb'), hb, fun b hb hb' => ?_, h.newP, fun b hb => ?_, h.hm.trans hs.mod fun t ht => .inr (h.newQ t ht), fun b o hk => ?_⟩
  · rcases hs.new b hb' with h1 | h1
    · exact h.sep b hb h1
    · have := h.bm.rows.old b hb; omega
  · rcases hs.new b hb with h1 | h1
    · exact h.newQ b h1
    · omega
  · obtain ⟨k1, k2, k3⟩ := h.kp b o hk
    have hlt := (Array.getElem?_eq_some_iff.1 k1).1
    exact ⟨(hs.mod.block b hlt k3).trans k1, k2, hs.out hlt k3⟩

theorem Two.newer (h : Two w0 w Kp p bp bk q rp A ac S R) (hm : Mod [] w w') : Two w0 w' Kp p bp bk q rp A ac S R := by
  obtain ⟨FP, FQ, C, D, h⟩ := h
  refine ⟨FP, FQ, C, D, h.bm.newer hm, h.rc.newer hm, h.sep, h.newP, h.newQ, h.hm.trans hm (by simp), fun b o hk => ?_⟩
  obtain ⟨k1, k2, k3⟩ := h.kp b o hk
  exact ⟨(hm.block b (Array.getElem?_eq_some_iff.1 k1).1 (by simp)).trans k1, k2, k3⟩
theorem Two.drew (h : Two w0 w Kp p bp bk q rp A ac S R) : Two w0 w.drew Kp p bp bk q rp A ac S R := h.newer (Mod.refl [] w).drew
theorem Two.drewN (h : Two w0 w Kp p bp bk q rp A ac S R) (n : Nat) : Two w0 (w.drewN n) Kp p bp bk q rp A ac S R := h.newer ((Mod.refl [] w).drewN n)
/-- A new block is told. -/
theorem Two.add (h : Two w0 w Kp p bp bk q rp A ac S R) (hm : Mod [] w w') {b : Nat} {o : Obj} (hb : w'.heap[b]? = some o) (hn : w.heap.size ≤ b) : Two w0 w' ((b, o) :: Kp) p bp bk q rp A ac S R := by
  have h' := h.newer hm
  obtain ⟨FP, FQ, C, D, h⟩ := h
  refine ⟨FP, FQ, C, D, h.bm.newer hm, h.rc.newer hm, h.sep, h.newP, h.newQ, h.hm.trans hm (by simp), fun b' o' hk => ?_⟩
  rcases List.mem_cons.1 hk with e | hk
  · injection e with e1 e2
    subst e1 e2
    exact ⟨hb, fun hf => by have := h.bm.rows.old _ hf; omega, fun hf => by have := h.rc.rows.old _ hf; omega⟩
  · obtain ⟨k1, k2, k3⟩ := h.kp b' o' hk
    exact ⟨(hm.block b' (Array.getElem?_eq_some_iff.1 k1).1 (by simp)).trans k1, k2, k3⟩
/-- A told block turns. -/
theorem Two.turn {b : Nat} {o o' : Obj} (h : Two w0 w ((b, o) :: Kp) p bp bk q rp A ac S R) (hm : Mod [b] w w') (hb : w'.heap[b]? = some o') (hn : ∀ x, x ∈ Kp → x.1 ≠ b) (h0 : w0.heap.size ≤ b) : Two w0 w' ((b, o') :: Kp) p bp bk q rp A ac S R := by
  obtain ⟨FP, FQ, C, D, h⟩ := h
  obtain ⟨k1, k2, k3⟩ := h.kp b o List.mem_cons_self
  refine ⟨FP, FQ, C, D, h.bm.same hm (fun b' hb' e => by simp at e; subst e; exact k2 hb'), h.rc.same hm (fun b' hb' e => by simp at e; subst e; exact k3 hb'), h.sep, h.newP, h.newQ, h.hm.trans hm (fun t ht => by simp at ht; subst ht; exact .inr h0), fun b' o2 hk => ?_⟩
  rcases List.mem_cons.1 hk with e | hk
  · injection e with e1 e2
    subst e1 e2
    exact ⟨hb, k2, k3⟩
  · obtain ⟨m1, m2, m3⟩ := h.kp b' o2 (List.mem_cons_of_mem _ hk)
    exact ⟨(hm.block b' (Array.getElem?_eq_some_iff.1 m1).1 (by simpa using hn _ hk)).trans m1, m2, m3⟩
theorem Two.less {x : Nat × Obj} (h : Two w0 w (x :: Kp) p bp bk q rp A ac S R) : Two w0 w Kp p bp bk q rp A ac S R := by
  obtain ⟨FP, FQ, C, D, h⟩ := h
  exact ⟨FP, FQ, C, D, h.bm, h.rc, h.sep, h.newP, h.newQ, h.hm, fun b o hk => h.kp b o (List.mem_cons_of_mem _ hk)⟩
theorem Two.blk {b : Nat} {o : Obj} (h : Two w0 w Kp p bp bk q rp A ac S R) (hk : (b, o) ∈ Kp) : w.heap[b]? = some o := by
  obtain ⟨FP, FQ, C, D, h⟩ := h
  exact (h.kp b o hk).1
theorem Two.mod (h : Two w0 w Kp p bp bk q rp A ac S R) : Mod [] w0 w := by
  obtain ⟨FP, FQ, C, D, h⟩ := h
  exact h.hm
/-- A cell of a told block. -/
theorem Two.cell {b : Nat} {cs : Array Value} {t : TypeId} (h : Two w0 w Kp p bp bk q rp A ac S R) (hk : (b, .cells cs t (0, 0)) ∈ Kp) (i : Nat) : w.cell? ⟨b, i, none⟩ = cs[i]? := cell_of_row w b i cs t (0, 0) (h.blk hk)
theorem Two.c0 (h : Two w0 w Kp p bp bk q rp A ac S R) : w.cell? ⟨q, 0, none⟩ = some (.slice (some ⟨rp, 0, none⟩) R.n R.n) := by
  obtain ⟨FP, FQ, C, D, h⟩ := h
  exact h.rc.c0
theorem Two.credit (h : Two w0 w Kp p bp bk q rp A ac S R) {k : Nat} (hk : k < R.n) : w.cell? ⟨rp, k * 13, none⟩ = some (.int .i64 ((R.L k).c 9)) := by
  obtain ⟨FP, FQ, C, D, h⟩ := h
  have := h.rc.num hk (show 0 < 13 by decide) (by decide)
  rw [show rr 0 = 9 from rfl] at this
  simpa only [Nat.add_zero] using this

/-- A frame of the caller's own. -/
theorem Two.argP (h : TwoF w0 w Kp p bp bk q rp A ac FP FQ C D S R) (hF : Bytes w0 F fr) (hl : fr.length ≤ 140737488351232) (hp : 0 < fr.length) : Arg w F fr FP :=
  ⟨hF.mod h.hm (by simp), fun b hb' hf => by obtain ⟨b2, off, rfl, hlt, _⟩ := hF.2 hp; simp [blkOf] at hb'; have := h.newP b hf; omega, by omega⟩
theorem Two.argQ (h : TwoF w0 w Kp p bp bk q rp A ac FP FQ C D S R) (hF : Bytes w0 F fr) (hl : fr.length ≤ 140737488351232) (hp : 0 < fr.length) : Arg w F fr FQ :=
  ⟨hF.mod h.hm (by simp), fun b hb' hf => by obtain ⟨b2, off, rfl, hlt, _⟩ := hF.2 hp; simp [blkOf] at hb'; have := h.newQ b hf; omega, by omega⟩

/-! ### the program's calls -/
theorem modB (h : TwoF w0 w Kp p bp bk q rp A ac FP FQ C D S R) (hb : BM w' p bp bk FP C S') (hm : Mod [bp] w w') : Aft w w' p bp bk FP S' :=
  ⟨FP, C, hb, Step.of_mod (hm.mono fun t ht => .inl (by simp at ht; subst ht; exact h.bm.rows.bpF))⟩
theorem modQ (h : TwoF w0 w Kp p bp bk q rp A ac FP FQ C D S R) (hb : RC w' q rp A ac FQ D R') (hm : Mod [rp] w w') : AftR w w' q rp A ac FQ R' :=
  ⟨FQ, D, hb, Step.of_mod (hm.mono fun t ht => .inl (by simp at ht; subst ht; exact h.rc.rows.bpF))⟩

theorem Two.send {b cf : Nat} {o : Obj} (h : Two w0 w ((b, o) :: Kp) p bp bk q rp A ac S R) (G : Ok S M) (hM : M ≤ 1152921504606846000) (hB : Bytes w (some ⟨b, 0, none⟩) fr) (hl : fr.length ≤ 140737488351232) (x : Int) :
    Calls Try.prog 11 #[.pointer (some ⟨p, 0, none⟩), .int .i64 x, .slice (some ⟨b, 0, none⟩) fr.length cf] w fun e w' => e = .returned (.int .i64 (sendE S x fr)) ∧ Two w0 w' ((b, o) :: Kp) p bp bk q rp A ac (sendS S x fr) R := by
  obtain ⟨FP, FQ, C, D, h⟩ := h
  refine (send_f h.bm G (by omega) (A := some ⟨b, 0, none⟩) ⟨hB, fun b' hb' => ?_, by omega⟩ x).mono ?_
  · simp [blkOf] at hb'; subst hb'; exact (h.kp _ _ List.mem_cons_self).2.1
  · rintro e w' ⟨rfl, ha⟩
    exact ⟨rfl, h.afterB ha⟩
/-- A frame of the caller's own comes in. -/
theorem Two.sendo {cf : Nat} (h : Two w0 w Kp p bp bk q rp A ac S R) (G : Ok S M) (hM : M ≤ 1152921504606846000) (hF : Bytes w0 F fr) (hl : fr.length ≤ 140737488351232) (x : Int) :
    Calls Try.prog 11 #[.pointer (some ⟨p, 0, none⟩), .int .i64 x, .slice F fr.length cf] w fun e w' => e = .returned (.int .i64 (sendE S x fr)) ∧ Two w0 w' Kp p bp bk q rp A ac (sendS S x fr) R := by
  obtain ⟨FP, FQ, C, D, h⟩ := h
  refine (send_g h.bm G (by omega) (Two.argP h hF hl) x).mono ?_
  rintro e w' ⟨rfl, ha⟩
  exact ⟨rfl, h.afterB ha⟩
theorem Two.rate (h : Two w0 w Kp p bp bk q rp A ac S R) (x bu ra : Int) :
    Calls Try.prog 10 #[.pointer (some ⟨p, 0, none⟩), .int .i64 x, .int .i64 bu, .int .i64 ra] w fun e w' => e = .returned (.int .i64 (rateE S x bu ra)) ∧ Two w0 w' Kp p bp bk q rp A ac (rateS S x bu ra) R := by
  obtain ⟨FP, FQ, C, D, h⟩ := h
  refine (rate_f h.bm x bu ra).mono ?_
  rintro e w' ⟨rfl, hb, hm⟩
  exact ⟨rfl, h.afterB (modB h hb hm)⟩
theorem Two.tick (h : Two w0 w Kp p bp bk q rp A ac S R) (G : Ok S M) :
    Calls Try.prog 12 #[.pointer (some ⟨p, 0, none⟩)] w fun e w' => e = .returned (.int .i64 0) ∧ Two w0 w' Kp p bp bk q rp A ac (tickS S) R := by
  obtain ⟨FP, FQ, C, D, h⟩ := h
  refine (tick_f h.bm G.cr G.lo G.n8).mono ?_
  rintro e w' ⟨rfl, hb, hm⟩
  exact ⟨rfl, h.afterB (modB h hb hm)⟩
theorem Two.head (h : Two w0 w Kp p bp bk q rp A ac S R) (G : Ok S M) (x : Int) :
    Calls Try.prog 22 #[.pointer (some ⟨p, 0, none⟩), .int .i64 x] w fun e w' => (∃ A cap, e = .returned (.tuple #[.slice A (headV S x).length cap, .int .i64 (headE S x)]) ∧ Bytes w' A (headV S x)) ∧ Two w0 w' Kp p bp bk q rp A ac S R ∧ Mod [] w w' := by
  have h2 := h
  obtain ⟨FP, FQ, C, D, h⟩ := h
  refine (head_f h.bm G x).mono ?_
  rintro e w' ⟨he, hm⟩
  exact ⟨he, h2.newer hm, hm⟩
theorem Two.done (h : Two w0 w Kp p bp bk q rp A ac S R) (G : Ok S M) (hM : M ≤ 1152921504606846000) (x : Int) (on : Bool) :
    Calls Try.prog 24 #[.pointer (some ⟨p, 0, none⟩), .int .i64 x, .bool on] w fun e w' => e = .returned (.int .i64 (headE S x)) ∧ Two w0 w' Kp p bp bk q rp A ac (doneS S x on) R := by
  obtain ⟨FP, FQ, C, D, h⟩ := h
  refine (done_f h.bm G (by omega) x on).mono ?_
  rintro e w' ⟨rfl, ha⟩
  exact ⟨rfl, h.afterB ha⟩
theorem Two.known (h : Two w0 w Kp p bp bk q rp A ac S R) (x : Int) :
    Calls Try.prog 16 #[.pointer (some ⟨p, 0, none⟩), .int .i64 x] w fun e w' => e = .returned (.tuple #[.int .i64 (knownV S x), .int .i64 (knownE S x)]) ∧ w = w' := by
  obtain ⟨FP, FQ, C, D, h⟩ := h
  exact known_f h.bm x
theorem Two.down (h : Two w0 w Kp p bp bk q rp A ac S R) (G : Ok S M) (hM : M ≤ 1152921504606846000) (x : Int) :
    Calls Try.prog 15 #[.pointer (some ⟨p, 0, none⟩), .int .i64 x] w fun e w' => e = .returned (.int .i64 (isE S x)) ∧ Two w0 w' Kp p bp bk q rp A ac (downS S x) R := by
  obtain ⟨FP, FQ, C, D, h⟩ := h
  refine (down_f h.bm G hM x).mono ?_
  rintro e w' ⟨rfl, ha⟩
  exact ⟨rfl, h.afterB ha⟩
theorem Two.bad (h : Two w0 w Kp p bp bk q rp A ac S R) (G : Ok S M) (hM : M ≤ 1152921504606846000) (x : Int) :
    Calls Try.prog 23 #[.pointer (some ⟨p, 0, none⟩), .int .i64 x] w fun e w' => e = .returned (.int .i64 (isE S x)) ∧ Two w0 w' Kp p bp bk q rp A ac (badS S x) R := by
  obtain ⟨FP, FQ, C, D, h⟩ := h
  refine (bad_f h.bm G (by omega) x).mono ?_
  rintro e w' ⟨rfl, hb, hm⟩
  exact ⟨rfl, h.afterB (modB h hb hm)⟩
theorem Two.counts (h : Two w0 w Kp p bp bk q rp A ac S R) (x : Int) :
    Calls Try.prog 14 #[.pointer (some ⟨p, 0, none⟩), .int .i64 x] w fun e w' => e = .returned (.tuple #[cntA S x, .int .i64 (isE S x)]) ∧ Mod [] w w' := by
  obtain ⟨FP, FQ, C, D, h⟩ := h
  exact counts_f h.bm x
theorem Two.creditB (h : Two w0 w Kp p bp bk q rp A ac S R) (x : Int) :
    Calls Try.prog 13 #[.pointer (some ⟨p, 0, none⟩), .int .i64 x] w fun e w' => e = .returned (.int .i64 (creditV S x)) ∧ w = w' := by
  obtain ⟨FP, FQ, C, D, h⟩ := h
  exact credit_f h.bm x
theorem Two.ports (h : Two w0 w Kp p bp bk q rp A ac S R) :
    Calls Try.prog 25 #[.pointer (some ⟨p, 0, none⟩)] w fun e w' => e = .returned (.int .i64 S.n) ∧ w = w' := by
  obtain ⟨FP, FQ, C, D, h⟩ := h
  exact ports_f h.bm

/-! ### the reference's calls -/
theorem Two.rsend {cf : Nat} (h : Two w0 w Kp p bp bk q rp A ac S R) (G : Ok R M) (hM : M ≤ 1152921504606846000) (hF : Bytes w0 F fr) (hl : fr.length ≤ 140737488351232) (x : Int) :
    Calls Try.prog 20 #[.pointer (some ⟨q, 0, none⟩), .int .i64 x, .slice F fr.length cf] w fun e w' => e = .returned (.int .i64 (sendE R x fr)) ∧ Two w0 w' Kp p bp bk q rp A ac S (sendS R x fr) := by
  obtain ⟨FP, FQ, C, D, h⟩ := h
  refine (rsend_f h.rc G (by omega) (Two.argQ h hF hl) x).mono ?_
  rintro e w' ⟨rfl, ha⟩
  exact ⟨rfl, h.afterQ ha⟩
theorem Two.rrate (h : Two w0 w Kp p bp bk q rp A ac S R) (x bu ra : Int) :
    Calls Try.prog 31 #[.pointer (some ⟨q, 0, none⟩), .int .i64 x, .int .i64 bu, .int .i64 ra] w fun e w' => e = .returned (.int .i64 (rateE R x bu ra)) ∧ Two w0 w' Kp p bp bk q rp A ac S (rateS R x bu ra) := by
  obtain ⟨FP, FQ, C, D, h⟩ := h
  refine (rrate_f h.rc x bu ra).mono ?_
  rintro e w' ⟨rfl, hb, hm⟩
  exact ⟨rfl, h.afterQ (modQ h hb hm)⟩
theorem Two.rtick (h : Two w0 w Kp p bp bk q rp A ac S R) (G : Ok R M) :
    Calls Try.prog 32 #[.pointer (some ⟨q, 0, none⟩)] w fun e w' => e = .returned (.tuple #[]) ∧ Two w0 w' Kp p bp bk q rp A ac S (tickS R) := by
  obtain ⟨FP, FQ, C, D, h⟩ := h
  refine (rtick_f h.rc G.cr G.lo G.n8).mono ?_
  rintro e w' ⟨rfl, hb, hm⟩
  exact ⟨rfl, h.afterQ (modQ h hb hm)⟩
theorem Two.rhead (h : Two w0 w Kp p bp bk q rp A ac S R) (G : Ok R M) (x : Int) :
    Calls Try.prog 33 #[.pointer (some ⟨q, 0, none⟩), .int .i64 x] w fun e w' => (∃ A cap, e = .returned (.tuple #[.slice A (headV R x).length cap, .int .i64 (headE R x)]) ∧ Bytes w' A (headV R x)) ∧ Two w0 w' Kp p bp bk q rp A ac S R ∧ Mod [] w w' := by
  have h2 := h
  obtain ⟨FP, FQ, C, D, h⟩ := h
  refine (rhead_f h.rc G x).mono ?_
  rintro e w' ⟨he, hm⟩
  exact ⟨he, h2.newer hm, hm⟩
theorem Two.rdone (h : Two w0 w Kp p bp bk q rp A ac S R) (G : Ok R M) (hM : M ≤ 1152921504606846000) (x : Int) (on : Bool) :
    Calls Try.prog 34 #[.pointer (some ⟨q, 0, none⟩), .int .i64 x, .bool on] w fun e w' => e = .returned (.int .i64 (headE R x)) ∧ Two w0 w' Kp p bp bk q rp A ac S (doneS R x on) := by
  obtain ⟨FP, FQ, C, D, h⟩ := h
  refine (rdone_f h.rc G (by omega) x on).mono ?_
  rintro e w' ⟨rfl, ha⟩
  exact ⟨rfl, h.afterQ ha⟩
theorem Two.rknown (h : Two w0 w Kp p bp bk q rp A ac S R) (x : Int) :
    Calls Try.prog 35 #[.pointer (some ⟨q, 0, none⟩), .int .i64 x] w fun e w' => e = .returned (.tuple #[.int .i64 (knownV R x), .int .i64 (knownE R x)]) ∧ w = w' := by
  obtain ⟨FP, FQ, C, D, h⟩ := h
  exact rknown_f h.rc x
theorem Two.rdown (h : Two w0 w Kp p bp bk q rp A ac S R) (G : Ok R M) (hM : M ≤ 1152921504606846000) (x : Int) :
    Calls Try.prog 19 #[.pointer (some ⟨q, 0, none⟩), .int .i64 x] w fun e w' => e = .returned (.int .i64 (isE R x)) ∧ Two w0 w' Kp p bp bk q rp A ac S (downS R x) := by
  obtain ⟨FP, FQ, C, D, h⟩ := h
  refine (rdown_f h.rc G hM x).mono ?_
  rintro e w' ⟨rfl, ha⟩
  exact ⟨rfl, h.afterQ ha⟩
theorem Two.rbad (h : Two w0 w Kp p bp bk q rp A ac S R) (G : Ok R M) (hM : M ≤ 1152921504606846000) (x : Int) :
    Calls Try.prog 36 #[.pointer (some ⟨q, 0, none⟩), .int .i64 x] w fun e w' => e = .returned (.int .i64 (isE R x)) ∧ Two w0 w' Kp p bp bk q rp A ac S (badS R x) := by
  obtain ⟨FP, FQ, C, D, h⟩ := h
  refine (rbad_f h.rc G (by omega) x).mono ?_
  rintro e w' ⟨rfl, hb, hm⟩
  exact ⟨rfl, h.afterQ (modQ h hb hm)⟩
theorem Two.rcounts (h : Two w0 w Kp p bp bk q rp A ac S R) (x : Int) :
    Calls Try.prog 42 #[.pointer (some ⟨q, 0, none⟩), .int .i64 x] w fun e w' => e = .returned (.tuple #[cntA R x, .int .i64 (isE R x)]) ∧ Mod [] w w' := by
  obtain ⟨FP, FQ, C, D, h⟩ := h
  exact rcounts_f h.rc x
theorem Two.ris (h : Two w0 w Kp p bp bk q rp A ac S R) (x : Int) :
    Calls Try.prog 37 #[.pointer (some ⟨q, 0, none⟩), .int .i64 x] w fun e w' => e = .returned (.bool (isP R x)) ∧ w = w' := by
  obtain ⟨FP, FQ, C, D, h⟩ := h
  exact is_f h.rc x
end

/-- What a call of a script leaves. -/
def playS (S : St) (o : OpV) : St :=
  if o.x = 0 then sendS S o.y o.fr else if o.x = 1 then rateS S o.y o.z o.u else if o.x = 2 then tickS S else if o.x = 3 then S else if o.x = 4 then doneS S o.y o.n else if o.x = 5 then S else if o.x = 6 then downS S o.y else badS S o.y
theorem ok_play {S : St} {M : Int} (G : Ok S M) (hM : 65536 ≤ M) (o : OpV) (hb : ∀ y, y ∈ o.fr → 0 ≤ y ∧ y ≤ 255) : Ok (playS S o) (M + 4) := by
  unfold playS
  split
  · exact (ok_send G o.y hb).mono (by omega)
  split
  · exact (ok_rate G hM o.y o.z o.u).mono (by omega)
  split
  · exact (ok_tick G hM).mono (by omega)
  split
  · exact G.mono (by omega)
  split
  · exact (ok_done G o.y o.n).mono (by omega)
  split
  · exact G.mono (by omega)
  split
  · exact ok_down G o.y
  · exact (ok_bad G o.y).mono (by omega)

/-- The string of a slice of bytes. -/
theorem bytes_string {w : World} {A : Option Addr} {fr : List Int} (h : Bytes w A fr) (cap : Nat) : (convert 23 9 (.slice A fr.length cap)).run Try.prog w = .ok (.string (strOfNums fr)) w := by
  by_cases hl : 0 < fr.length
  · obtain ⟨b, off, rfl, _, hc⟩ := h.2 hl
    exact run_convert_bytes_arg w 23 5 Try.underlying23 Try.underlying5 b off fr.length cap fr rfl (fun i hi => by
      have := hc i fr[i] (List.getElem?_eq_getElem hi)
      rw [this]; simp [List.getD, List.getElem?_eq_getElem hi]) 9 Try.underlying9
  · have : fr = [] := List.eq_nil_of_length_eq_zero (by omega)
    subst this
    have hr := run_convert_bytes_string (P := Try.prog) w 23 9 5 A 0 cap Try.underlying23 Try.underlying5 Try.underlying9
    simp only [List.length_nil]
    rw [hr]
    cases A <;> simp [Conv.bytesToString, loadCells]
    all_goals rfl

end Go.Proofs.Ytkdhkloabbcipaa
