/-
  Frames: the law's main loop: what stands between its calls.
-/
import Derived.Test.YtfolppcadckmaaaGreatSu
namespace Go.Tn.P14
theorem onP_q {S : St} (hq : ∀ d, (S.L d).q = []) (p : Nat) (f : Po → Po) (hf : (f (S.L p)).q = []) (d : Nat) : ((onP S p f).L d).q = [] := by
  simp only [onP, upd, Int.toNat_natCast]
  split
  · exact hf
  · exact hq d
/-- What a send leaves of empty queues. -/
theorem send_q {S : St} (hq : ∀ d, (S.L d).q = []) (p : Nat) (fr : List Int) : (sendS S p fr).n = S.n ∧ ∀ d, ((sendS S p fr).L d).q = [] ∨ (d < S.n ∧ d ≠ p ∧ ((sendS S p fr).L d).q = [fr]) := by
  unfold sendS
  split
  · exact ⟨rfl, fun d => .inl (hq d)⟩
  split
  · exact ⟨rfl, fun d => .inl (onP_q hq p _ (by simp [inc_q, hq]) d)⟩
  split
  · exact ⟨rfl, fun d => .inl (onP_q hq p _ (by simp [inc_q, hq]) d)⟩
  · refine ⟨rfl, fun d => ?_⟩
    have ht : ((takeS S p fr).L d).q = [] := onP_q hq p (fun P => ((P.inc 0).set 9 (P.c 9 - fr.length)).inc 1) (by simp [inc_q, set_q, hq]) d
    by_cases h : d < S.n ∧ isTo (takeS S p fr).K p fr d = true
    · refine .inr ⟨h.1, fun e => ?_, ?_⟩
      · subst e
        have h2 := h.2
        simp [isTo] at h2
      · show ((if d < S.n ∧ isTo (takeS S p fr).K p fr d = true then dirP ((takeS S p fr).L d) fr else (takeS S p fr).L d)).q = [fr]
        rw [if_pos h]
        unfold dirP
        rw [if_neg (by rw [ht]; simp), setq_q, ht]
        rfl
    · refine .inl ?_
      show ((if d < S.n ∧ isTo (takeS S p fr).K p fr d = true then dirP ((takeS S p fr).L d) fr else (takeS S p fr).L d)).q = []
      rw [if_neg h]
      exact ht
theorem sendS_n (S : St) (p : Int) (fr : List Int) : (sendS S p fr).n = S.n := by
  unfold sendS
  split <;> (try rfl)
  split <;> (try rfl)
  split <;> rfl
theorem done_ne {S : St} {d d' : Nat} (h : d' ≠ d) (on : Bool) : (doneS S (d : Nat) on).L d' = S.L d' := by
  unfold doneS
  split
  · simp [onP, upd, h]
  · rfl
/-- From front t on a frame may wait, but not for front e. -/
def Wait (S : St) (t e : Nat) (fr : List Int) : Prop := ∀ d, (S.L d).q = [] ∨ (t ≤ d ∧ d < 3 ∧ d ≠ e ∧ (S.L d).q = [fr])
end Go.Tn.P14

namespace Go.Proofs.YtfolppcadckmaaaGreat
open Go.RowKit Go.Tn
open Go.Proofs
set_option maxRecDepth 100000

/-- The blocks that last and that the main loop turns. -/
def dyn (fb s bp bk : Nat) (A : Nat → Dm) : List Nat := [fb, s, bp, bk] ++ (List.range 3).flatMap fun d => [(A d).o, (A d).i, (A d).fo, (A d).fi]
theorem mem_dyn {fb s bp bk t : Nat} {A : Nat → Dm} : t ∈ dyn fb s bp bk A ↔ (t = fb ∨ t = s ∨ t = bp ∨ t = bk) ∨ ∃ d, d < 3 ∧ (t = (A d).o ∨ t = (A d).i ∨ t = (A d).fo ∨ t = (A d).fi) := by
  simp [dyn, or_assoc]

/-- What stands at the main loop's start. -/
structure Stat (w0 W0 : World) (m fb x mb kb s bp bk L0 : Nat) (F0 : Nat → Nat → Int) (f : Int → Option Value) (A : Nat → Dm) : Prop where
  m0 : Tn.Mod [] w0 W0
  wl : w0.heap.size ≤ L0 ∧ w0.heap.size ≤ fb ∧ w0.heap.size ≤ s ∧ w0.heap.size ≤ bp ∧ w0.heap.size ≤ bk
  lo : m < L0 ∧ fb < L0 ∧ x < L0 ∧ mb < L0 ∧ kb < L0 ∧ s < L0 ∧ bp < L0 ∧ bk < L0
  l0 : L0 ≤ W0.heap.size
  nf : fb ≠ m ∧ fb ≠ x ∧ fb ≠ mb ∧ fb ≠ kb ∧ fb ≠ s ∧ fb ≠ bp ∧ fb ≠ bk
  ns : ∀ t, t = s ∨ t = bp ∨ t = bk → t ≠ m ∧ t ≠ x ∧ t ≠ mb ∧ t ≠ kb
  gh : GH W0 x m mb kb f #[] 0
  dm : ∀ d, d < 3 → Pm.PM W0 (A d).p (A d).bf (A d).bpl (Lk d 4) ∧ NB W0 (A d).b x d (A d).o (A d).i s ∧ f (d : Nat) = some (mem (pg d 0) (A d).p)
  ord : ∀ d, d < 3 → (A d).Ord L0 W0.heap.size
  sep : ∀ d d', d < d' → d' < 3 → (A d).fi < (A d').p ∧ (A d).fi < (A d').bf ∧ (A d).fi < (A d').bpl
  fok : FOk F0 3

section
variable {w0 W0 w w' : World} {m fb x mb kb s bp bk L0 : Nat} {F0 F F' : Nat → Nat → Int} {f : Int → Option Value} {A : Nat → Dm} {T FP : List Nat} {C : Nat → Option Addr × Nat} {S : P14.St} {M : Int}

theorem Stat.two (st : Stat w0 W0 m fb x mb kb s bp bk L0 F0 f A) {d d' : Nat} (hd : d < 3) (hd' : d' < 3) (hne : d ≠ d') :
    ((A d).fi < (A d').p ∧ (A d).fi < (A d').bf ∧ (A d).fi < (A d').bpl) ∨ ((A d').fi < (A d).p ∧ (A d').fi < (A d).bf ∧ (A d').fi < (A d).bpl) := by
  rcases Nat.lt_or_gt_of_ne hne with h | h
  · exact .inl (st.sep d d' h hd')
  · exact .inr (st.sep d' d h hd)
theorem Stat.low (st : Stat w0 W0 m fb x mb kb s bp bk L0 F0 f A) {t : Nat} (ht : t = m ∨ t = x ∨ t = mb ∨ t = kb) : t ∉ dyn fb s bp bk A := fun h => by
  obtain ⟨l1, l2, l3, l4, l5, l6, l7, l8⟩ := st.lo
  obtain ⟨f1, f2, f3, f4, f5, f6, f7⟩ := st.nf
  have k : t < L0 := by rcases ht with rfl | rfl | rfl | rfl <;> assumption
  rcases mem_dyn.1 h with h | ⟨d, hd, h⟩
  · rcases h with rfl | h
    · rcases ht with e | e | e | e <;> omega
    · obtain ⟨n1, n2, n3, n4⟩ := st.ns t h
      rcases ht with e | e | e | e <;> contradiction
  · obtain ⟨p0, p1, p2, p3, p4, p5, oi, ib, bo, ff, fh⟩ := st.ord d hd
    clear ht
    rcases h with rfl | rfl | rfl | rfl <;> omega
theorem Stat.own (st : Stat w0 W0 m fb x mb kb s bp bk L0 F0 f A) {d t : Nat} (hd : d < 3) (ht : t = (A d).p ∨ t = (A d).bf ∨ t = (A d).bpl ∨ t = (A d).b) : t ∉ dyn fb s bp bk A := fun h => by
  obtain ⟨l1, l2, l3, l4, l5, l6, l7, l8⟩ := st.lo
  obtain ⟨p0, p1, p2, p3, p4, p5, oi, ib, bo, ff, fh⟩ := st.ord d hd
  have k2 : t ≤ (A d).b ∧ ((A d).p ≤ t ∨ (A d).bf ≤ t ∨ (A d).bpl ≤ t) := by rcases ht with rfl | rfl | rfl | rfl <;> constructor <;> omega
  have k3 : L0 ≤ t := by omega
  rcases mem_dyn.1 h with h | ⟨d', hd', h⟩
  · rcases h with rfl | rfl | rfl | rfl <;> omega
  · by_cases e : d = d'
    · subst e
      rcases h with rfl | rfl | rfl | rfl <;> rcases ht with ht | ht | ht | ht <;> omega
    · have h2 := st.two hd hd' e
      obtain ⟨p0', p1', p2', p3', p4', p5', oi', ib', bo', ff', fh'⟩ := st.ord d' hd'
      have k1 : (A d').o ≤ t ∧ t ≤ (A d').fi := by rcases h with rfl | rfl | rfl | rfl <;> constructor <;> omega
      clear h ht
      rcases h2 with h2 | h2 <;> omega

/-- The fronts' and the backs' rings of what is sent; front D is left out. -/
def Outs (w : World) (m : Nat) (A : Nat → Dm) (D : Nat) : Prop := ∀ d, d < 3 → d ≠ D → ∃ n0 s0, n0 < 65536 ∧ RB w (A d).o (pg d 1) n0 n0 s0 ∧ RF w (A d).fo m (pg d 1) n0 n0
/-- The rings of what comes; front D is left out. -/
def Ins (w : World) (m : Nat) (F : Nat → Nat → Int) (A : Nat → Dm) (D : Nat) : Prop := ∀ d, d < 3 → d ≠ D → ∃ ic oc s0, InR F (pg d 2) ic oc ∧ RB w (A d).i (pg d 2) oc oc s0 ∧ RF w (A d).fi m (pg d 2) ic oc
theorem Outs.mod {D : Nat} (h : Outs w m A D) (hm : Tn.Mod T w w') (hT : ∀ d, d < 3 → d ≠ D → (A d).o ∉ T ∧ (A d).fo ∉ T) : Outs w' m A D := fun d hd he => by
  obtain ⟨n0, s0, hn, h1, h2⟩ := h d hd he
  exact ⟨n0, s0, hn, h1.mod hm (hT d hd he).1, h2.mod hm (hT d hd he).2⟩
theorem InR.congr {mfn i o : Nat} (h : InR F mfn i o) (he : ∀ c, F' mfn c = F mfn c) : InR F' mfn i o := ⟨h.i6, h.o6, h.d8, (he _).trans h.x0, (he _).trans h.x1, fun t ht => (he _).trans (h.pe t ht)⟩
theorem Ins.mod {D : Nat} (h : Ins w m F A D) (hm : Tn.Mod T w w') (hT : ∀ d, d < 3 → d ≠ D → (A d).i ∉ T ∧ (A d).fi ∉ T) (hF : ∀ d, d < 3 → d ≠ D → ∀ c, F' (pg d 2) c = F (pg d 2) c) : Ins w' m F' A D := fun d hd he => by
  obtain ⟨ic, oc, s0, h0, h1, h2⟩ := h d hd he
  exact ⟨ic, oc, s0, h0.congr (hF d hd he), h1.mod hm (hT d hd he).1, h2.mod hm (hT d hd he).2⟩
theorem Outs.put {d : Nat} (h : Outs w m A d) {n0 s0 : Nat} (hn : n0 < 65536) (h1 : RB w (A d).o (pg d 1) n0 n0 s0) (h2 : RF w (A d).fo m (pg d 1) n0 n0) : Outs w m A 3 := fun d' hd _ => by
  by_cases e : d' = d
  · subst e; exact ⟨n0, s0, hn, h1, h2⟩
  · exact h d' hd e
theorem Ins.put {d : Nat} (h : Ins w m F A d) {ic oc s0 : Nat} (h0 : InR F (pg d 2) ic oc) (h1 : RB w (A d).i (pg d 2) oc oc s0) (h2 : RF w (A d).fi m (pg d 2) ic oc) : Ins w m F A 3 := fun d' hd _ => by
  by_cases e : d' = d
  · subst e; exact ⟨ic, oc, s0, h0, h1, h2⟩
  · exact h d' hd e
theorem Outs.but {D : Nat} (h : Outs w m A 3) : Outs w m A D := fun d hd _ => h d hd (by omega)
theorem Ins.but {D : Nat} (h : Ins w m F A 3) : Ins w m F A D := fun d hd _ => h d hd (by omega)

/-- What stands in the main loop, but for the rings. -/
structure MI (W0 w : World) (m fb s bp bk : Nat) (A : Nat → Dm) (F0 F : Nat → Nat → Int) (FP : List Nat) (C : Nat → Option Addr × Nat) (S : P14.St) (M : Int) : Prop where
  md : Tn.Mod (dyn fb s bp bk A) W0 w
  ph : PH w m fb F
  ke : ∀ a c, c < 4 ∨ a % 4 = 0 → F a c = F0 a c
  bm : Br.BM w s bp bk FP C S
  sn : S.n = 3
  sg : P14.Ok S M
  fp : ∀ t, t ∈ FP → t = s ∨ t = bp ∨ t = bk ∨ W0.heap.size ≤ t

theorem MI.sg_ (st : Stat w0 W0 m fb x mb kb s bp bk L0 F0 f A) (h : MI W0 w m fb s bp bk A F0 F FP C S M) {d : Nat} (hd : d < 3) : SG w m fb x mb kb (A d).p (A d).bf (A d).bpl d (pg d 0) (pg d 3) (Lk d 4) F f #[] 0 := by
  obtain ⟨hp, hn, hf⟩ := st.dm d hd
  have le := Lk_end d hd
  refine ⟨h.ph, st.gh.mod h.md (st.low (by simp)) (st.low (by simp)) (st.low (by simp)), hp.mod h.md (st.own hd (by simp)) (st.own hd (by simp)) (st.own hd (by simp)), hf, le.1, le.2, by omega, by unfold pg; omega, by unfold pg; omega, ?_, ?_, fun j hj => ?_⟩
  · rw [h.ke _ _ (.inl (by omega)), st.fok.own _ (by unfold pg; omega)]; unfold pg; omega
  · rw [h.ke _ _ (.inl (by omega)), st.fok.ty _ (by unfold pg; omega)]
  · rw [h.ke _ _ (.inr (by unfold pg; omega))]; exact st.fok.ent d hd j hj
theorem MI.nb_ (st : Stat w0 W0 m fb x mb kb s bp bk L0 F0 f A) (h : MI W0 w m fb s bp bk A F0 F FP C S M) {d : Nat} (hd : d < 3) : NB w (A d).b x d (A d).o (A d).i s := (st.dm d hd).2.1.mod h.md (st.own hd (by simp))
theorem MI.owner (st : Stat w0 W0 m fb x mb kb s bp bk L0 F0 f A) (h : MI W0 w m fb s bp bk A F0 F FP C S M) {a : Nat} (ha : a < 14) : F a 0 ≠ -1 := by
  rw [h.ke _ _ (.inl (by omega)), st.fok.own a ha]; omega
/-- A block between the old ones and the new ones lies in no footprint. -/
theorem MI.mid (st : Stat w0 W0 m fb x mb kb s bp bk L0 F0 f A) (h : MI W0 w m fb s bp bk A F0 F FP C S M) {t : Nat} (h1 : L0 ≤ t) (h2 : t < W0.heap.size) : t ∉ FP := fun e => by
  have := h.fp t e
  have := st.lo
  omega
theorem MI.lowF (st : Stat w0 W0 m fb x mb kb s bp bk L0 F0 f A) (h : MI W0 w m fb s bp bk A F0 F FP C S M) {t : Nat} (ht : t = m ∨ t = fb ∨ t = x ∨ t = mb ∨ t = kb) : t ∉ FP := fun e => by
  have h1 := h.fp t e
  have h2 := st.lo
  have h3 := st.l0
  have h4 := st.nf
  rcases h1 with h1 | h1 | h1 | h1
  · have := st.ns t (by omega); omega
  · have := st.ns t (by omega); omega
  · have := st.ns t (by omega); omega
  · omega
theorem MI.md0 (st : Stat w0 W0 m fb x mb kb s bp bk L0 F0 f A) (h : MI W0 w m fb s bp bk A F0 F FP C S M) : Tn.Mod [] w0 w := st.m0.trans h.md (fun t ht => .inr (by
  have hl := st.wl
  rcases mem_dyn.1 ht with h | ⟨d, hd, h⟩
  · omega
  · obtain ⟨p0, p1, p2, p3, p4, p5, oi, ib, bo, ff, fh⟩ := st.ord d hd
    omega))
/-- Nothing of this is turned. -/
theorem MI.new (h : MI W0 w m fb s bp bk A F0 F FP C S M) (hm : Tn.Mod [] w w') : MI W0 w' m fb s bp bk A F0 F FP C S M :=
  ⟨h.md.andThen (hm.mono (by simp)), h.ph.mod0 hm, h.ke, h.bm.newer hm, h.sn, h.sg, h.fp⟩
/-- Frames are written, and a ring's end. -/
theorem MI.wr (st : Stat w0 W0 m fb x mb kb s bp bk L0 F0 f A) (h : MI W0 w m fb s bp bk A F0 F FP C S M) {d : Nat} (hd : d < 3) (hm : Tn.Mod [fb, (A d).fo] w w') (hp : PH w' m fb F') (hk : ∀ a c, c < 4 ∨ a % 4 = 0 → F' a c = F a c) : MI W0 w' m fb s bp bk A F0 F' FP C S M := by
  refine ⟨h.md.andThen (hm.mono fun t ht => .inl ?_), hp, fun a c hc => (hk a c hc).trans (h.ke a c hc), h.bm.same hm (fun t ht e => ?_), h.sn, h.sg, h.fp⟩
  · simp at ht
    exact mem_dyn.2 (by rcases ht with rfl | rfl; exact .inl (.inl rfl); exact .inr ⟨d, hd, by simp⟩)
  · obtain ⟨p0, p1, p2, p3, p4, p5, oi, ib, bo, ff, fh⟩ := st.ord d hd
    simp at e
    rcases e with rfl | rfl
    · exact h.lowF st (by simp) ht
    · exact h.mid st (by omega) (by omega) ht
end
end Go.Proofs.YtfolppcadckmaaaGreat
