/-
  Frames: the law's set-up: pages, places, what a domain has.
-/
import Derived.Test.YtfolppcadckmaaaGreatCo
import Derived.Test.YtfolppcadckmaaaGreatAl
namespace Go.Proofs.YtfolppcadckmaaaGreat
open Go.RowKit Go.Tn
open Go.Proofs
set_option maxRecDepth 100000

/-- Page j of domain d. -/
def pg (d j : Nat) : Nat := 4 * d + j
theorem pg_lt {d j : Nat} (hd : d < 3) (hj : j < 4) : pg d j < 12 := by unfold pg; omega
def o8 (j : Nat) : Nat := 8 * j
/-- Domain d's places when j are set. -/
def Lk (d j : Nat) : List Int := (List.range 4).map fun i => if i < j then ((4 * d + i : Nat) : Int) else -1
theorem Lk_step : ∀ d, d < 3 → ∀ j, j < 4 → P3.setL (Lk d j) (j : Nat) (((4 * d : Nat) : Int) + (j : Nat)) = Lk d (j + 1) := by decide
theorem Lk_end : ∀ d, d < 3 → P3.getV (Lk d 4) 3 = ((4 * d + 3 : Nat) : Int) ∧ P3.getE (Lk d 4) 3 = 0 := by decide
theorem Lk_zero (d : Nat) : Lk d 0 = List.replicate 4 (-1) := by simp [Lk]; rfl

/-- A domain's blocks. -/
structure Dm where
  p : Nat
  bf : Nat
  bpl : Nat
  o : Nat
  i : Nat
  b : Nat
  fo : Nat
  fi : Nat

/-- They lie in this order, from lo on, below hi. -/
structure Dm.Ord (a : Dm) (lo hi : Nat) : Prop where
  p0 : lo ≤ a.p
  p1 : lo ≤ a.bf
  p2 : lo ≤ a.bpl
  p3 : a.p < a.o
  p4 : a.bf < a.o
  p5 : a.bpl < a.o
  oi : a.o < a.i
  ib : a.i < a.b
  bo : a.b < a.fo
  ff : a.fo < a.fi
  fh : a.fi < hi

/-- What stands of domain d at the set-up's end of it. -/
structure DmOk (w : World) (m x s : Nat) (f : Int → Option Value) (d : Nat) (a : Dm) : Prop where
  pm : Pm.PM w a.p a.bf a.bpl (Lk d 4)
  nb : NB w a.b x d a.o a.i s
  fo : f (d : Nat) = some (mem (pg d 0) a.p)
  ro : RB w a.o (pg d 1) 0 0 0
  ri : RB w a.i (pg d 2) 0 0 0
  rfo : RF w a.fo m (pg d 1) 0 0
  rfi : RF w a.fi m (pg d 2) 0 0
theorem DmOk.mod {w w' : World} {m x s d lo hi : Nat} {f : Int → Option Value} {a : Dm} (h : DmOk w m x s f d a) (ho : a.Ord lo hi) {T : List Nat} (hm : Tn.Mod T w w') (hT : ∀ t ∈ T, t < lo ∨ hi ≤ t) : DmOk w' m x s f d a := by
  have n : ∀ {b}, lo ≤ b → b < hi → b ∉ T := fun h1 h2 e => by rcases hT _ e with h | h <;> omega
  obtain ⟨p0, p1, p2, p3, p4, p5, oi, ib, bo, ff, fh⟩ := ho
  exact ⟨h.pm.mod hm (n p0 (by omega)) (n p1 (by omega)) (n p2 (by omega)), h.nb.mod hm (n (by omega) (by omega)), h.fo, h.ro.mod hm (n (by omega) (by omega)), h.ri.mod hm (n (by omega) (by omega)), h.rfo.mod hm (n (by omega) (by omega)), h.rfi.mod hm (n (by omega) (by omega))⟩

/-- What the frames hold when k domains are set up. -/
structure FOk (F : Nat → Nat → Int) (k : Nat) : Prop where
  own : ∀ a, a < 14 → F a 0 = ((a / 4 : Nat) : Int)
  ty : ∀ a, a % 4 ≠ 0 → F a 1 = 0
  zero : ∀ a c, 1 ≤ c → (a % 4 ≠ 0 ∨ 4 * k ≤ a) → F a c = 0
  ent : ∀ d, d < k → ∀ j, j < 8 → F (pg d 0) (4 + 24 + j) = gB 1 false false 3 3 0 256 j

/-- Blocks that are none of a row of pointers. -/
structure TQ (w : World) (T : List Nat) : Prop where
  blk : ∀ g t cs, Blk w g t cs → t ≠ 47 → t ≠ 50 → g ∉ T
  map : ∀ g, IsM w g → g ∉ T
  mapC : ∀ g es c, w.heap[g]? = some (.map es c) → g ∉ T
theorem TQ.of_q {w : World} {e : Nat} {A : Option Addr} {cap : Nat} {xs : List Value} (h : QRow w e A cap xs) (he : e = 47 ∨ e = 50) : TQ w (blkOf A) := by
  rcases h.2.2 with ⟨e0, _⟩ | ⟨g, off, cur, e0, hg, _⟩
  · subst e0
    exact ⟨fun _ _ _ _ _ _ h => by simp [blkOf] at h, fun _ _ h => by simp [blkOf] at h, fun _ _ _ _ h => by simp [blkOf] at h⟩
  · subst e0
    refine ⟨fun g' t cs hb h1 h2 hm => ?_, fun g' hi hm => ?_, fun g' es c hk hm => ?_⟩
    · simp [blkOf] at hm
      subst hm
      have : t ≠ e := by rcases he with rfl | rfl <;> assumption
      exact Blk.ne_ hb hg this rfl
    · simp [blkOf] at hm
      subst hm
      exact Blk.ne_map (t := e) (cs := cur) hg hi.imap rfl
    · simp [blkOf] at hm
      subst hm
      exact ne_mapC hg hk rfl

section
variable {w w' : World} {m fb x mb kb s bp bk : Nat} {F : Nat → Nat → Int} {f : Int → Option Value} {es : Array MapEntry} {c : Nat} {C : Nat → Option Addr × Nat} {S : P14.St} {T : List Nat}
theorem DmOk.modq {d : Nat} {a : Dm} (h : DmOk w m x s f d a) (hm : Tn.Mod T w w') (hT : TQ w T) : DmOk w' m x s f d a :=
  ⟨h.pm.mod hm (hT.blk _ _ _ h.pm.blk (by decide) (by decide)) (hT.map _ h.pm.mf) (hT.map _ h.pm.mp), h.nb.mod hm (hT.blk _ _ _ h.nb (by decide) (by decide)), h.fo, h.ro.mod hm (hT.blk _ _ _ h.ro (by decide) (by decide)), h.ri.mod hm (hT.blk _ _ _ h.ri (by decide) (by decide)), h.rfo.mod hm (hT.blk _ _ _ h.rfo (by decide) (by decide)), h.rfi.mod hm (hT.blk _ _ _ h.rfi (by decide) (by decide))⟩

/-- The law's set-up when k domains are there, but for its rows. -/
structure Core (w0 w : World) (m fb x mb kb s bp bk L0 k : Nat) (F : Nat → Nat → Int) (f : Int → Option Value) (C : Nat → Option Addr × Nat) (S : P14.St) (A : Nat → Dm) : Prop where
  md : Tn.Mod [] w0 w
  ph : PH w m fb F
  gh : GH w x m mb kb f #[] 0
  fn : ∀ d : Nat, k ≤ d → f (d : Nat) = none
  bm : Br.BM w s bp bk [s, bp, bk] C S
  sn : S.n = 3
  sq : ∀ d, (S.L d).q = []
  sg : P14.Ok S 65536
  fok : FOk F k
  l0 : L0 ≤ w.heap.size
  dm : ∀ d, d < k → DmOk w m x s f d (A d) ∧ (A d).Ord L0 w.heap.size
  sep : ∀ d d', d < d' → d' < k → (A d).fi < (A d').p ∧ (A d).fi < (A d').bf ∧ (A d).fi < (A d').bpl
theorem Core.modq {w0 : World} {L0 k : Nat} {A : Nat → Dm} (h : Core w0 w m fb x mb kb s bp bk L0 k F f C S A) (hm : Tn.Mod T w w') (hT : TQ w T) (h0 : ∀ t ∈ T, w0.heap.size ≤ t) : Core w0 w' m fb x mb kb s bp bk L0 k F f C S A := by
  have hs := hm.size
  refine ⟨h.md.trans hm (fun t ht => .inr (h0 t ht)), h.ph.mod hm (hT.blk _ _ _ h.ph.blk (by decide) (by decide)) (hT.blk _ _ _ h.ph.fr (by decide) (by decide)), h.gh.mod hm (hT.blk _ _ _ h.gh.blk (by decide) (by decide)) (hT.map _ h.gh.mm) (hT.mapC _ _ _ h.gh.km), h.fn, h.bm.same hm (fun t ht => ?_), h.sn, h.sq, h.sg, h.fok, by have := h.l0; omega, fun d hd => ⟨(h.dm d hd).1.modq hm hT, ?_⟩, h.sep⟩
  · rcases List.mem_cons.1 ht with rfl | ht
    · exact hT.blk _ _ _ h.bm.hd (by decide) (by decide)
    rcases List.mem_cons.1 ht with rfl | ht
    · exact hT.blk _ _ _ h.bm.rows.row (by decide) (by decide)
    · obtain rfl := List.mem_singleton.1 ht
      exact hT.map _ h.bm.isM
  · have o := (h.dm d hd).2
    exact ⟨o.p0, o.p1, o.p2, o.p3, o.p4, o.p5, o.oi, o.ib, o.bo, o.ff, by have := o.fh; omega⟩

theorem Core.next {w0 : World} {L0 k : Nat} {A : Nat → Dm} (h : Core w0 w m fb x mb kb s bp bk L0 k F f C S A) (hl : fb < L0 ∧ mb < L0 ∧ m < L0 ∧ x < L0 ∧ kb < L0 ∧ s < L0 ∧ bp < L0 ∧ bk < L0) (hne : fb ≠ bp ∧ fb ≠ bk ∧ fb ≠ s ∧ mb ≠ bp ∧ mb ≠ bk ∧ mb ≠ s) (h0 : w0.heap.size ≤ fb ∧ w0.heap.size ≤ mb)
    {F' : Nat → Nat → Int} {a : Dm} (hm : Tn.Mod [fb, mb] w w') (hp : PH w' m fb F') (hg : GH w' x m mb kb (Tn.upd f (k : Nat) (some (mem (pg k 0) a.p))) #[] 0)
    (hd : DmOk w' m x s (Tn.upd f (k : Nat) (some (mem (pg k 0) a.p))) k a) (ho : a.Ord w.heap.size w'.heap.size) (hF : FOk F' (k + 1)) :
    Core w0 w' m fb x mb kb s bp bk L0 (k + 1) F' (Tn.upd f (k : Nat) (some (mem (pg k 0) a.p))) C S (fun d => if d = k then a else A d) := by
  have hs := hm.size
  have hl0 := h.l0
  have fne : ∀ d : Nat, d ≠ k → Tn.upd f (k : Nat) (some (mem (pg k 0) a.p)) (d : Nat) = f (d : Nat) := fun d hd => by
    unfold Tn.upd
    rw [if_neg (by omega)]
  refine ⟨h.md.trans hm (fun t ht => .inr ?_), hp, hg, fun d hd => (fne d (by omega)).trans (h.fn d (by omega)), h.bm.same hm (fun t ht e => ?_), h.sn, h.sq, h.sg, hF, by omega, fun d hd' => ?_, fun d d' h1 h2 => ?_⟩
  · simp at ht
    rcases ht with rfl | rfl
    · exact h0.1
    · exact h0.2
  · simp at ht e
    rcases e with rfl | rfl <;> rcases ht with ht | ht | ht <;> omega
  · by_cases e : d = k
    · subst e
      rw [if_pos rfl]
      exact ⟨hd, ⟨by have := ho.p0; omega, by have := ho.p1; omega, by have := ho.p2; omega, ho.p3, ho.p4, ho.p5, ho.oi, ho.ib, ho.bo, ho.ff, ho.fh⟩⟩
    · rw [if_neg e]
      have hd2 := (h.dm d (by omega))
      have o := hd2.2
      have k1 := hd2.1.mod o hm (fun t ht => .inl (by simp at ht; rcases ht with rfl | rfl <;> omega))
      exact ⟨⟨k1.pm, k1.nb, (fne d e).trans k1.fo, k1.ro, k1.ri, k1.rfo, k1.rfi⟩, ⟨o.p0, o.p1, o.p2, o.p3, o.p4, o.p5, o.oi, o.ib, o.bo, o.ff, by have := o.fh; omega⟩⟩
  · by_cases e : d' = k
    · have e2 : d ≠ k := by omega
      simp only [if_pos e, if_neg e2]
      have o := (h.dm d (by omega)).2
      have := o.fh
      have := ho.p0
      have := ho.p1
      have := ho.p2
      omega
    · have e2 : d ≠ k := by omega
      simp only [if_neg e, if_neg e2]
      exact h.sep d d' h1 (by omega)

theorem Core.rate {w0 : World} {L0 k : Nat} {A : Nat → Dm} (h : Core w0 w m fb x mb kb s bp bk L0 k F f C S A) (hl : bp < L0) (h0 : w0.heap.size ≤ bp) (hne : bp ≠ m ∧ bp ≠ fb ∧ bp ≠ x ∧ bp ≠ mb ∧ bp ≠ kb) (hm : Tn.Mod [bp] w w') (q : Nat) (hq : q < 3)
    (hb : Br.BM w' s bp bk [s, bp, bk] C (P14.rateS S (q : Nat) 4096 0)) : Core w0 w' m fb x mb kb s bp bk L0 k F f C (P14.rateS S (q : Nat) 4096 0) A := by
  have hs := hm.size
  have hl0 := h.l0
  have hR : (P14.rateS S (q : Nat) 4096 0).n = 3 ∧ ∀ d, ((P14.rateS S (q : Nat) 4096 0).L d).q = [] := by
    unfold P14.rateS
    split
    · refine ⟨h.sn, fun d => ?_⟩
      simp only [P14.onP, P14.upd]
      split
      · rename_i e
        simp only [P14.set_q]
        exact h.sq _
      · exact h.sq d
    · exact ⟨h.sn, h.sq⟩
  refine ⟨h.md.trans hm (fun t ht => .inr (by simp at ht; omega)), h.ph.mod hm (by simpa using hne.1.symm) (by simpa using hne.2.1.symm), h.gh.mod hm (by simpa using hne.2.2.1.symm) (by simpa using hne.2.2.2.1.symm) (by simpa using hne.2.2.2.2.symm), h.fn, hb, hR.1, hR.2, P14.ok_rate h.sg (by omega) _ _ _, h.fok, by omega, fun d hd => ?_, h.sep⟩
  have o := (h.dm d hd).2
  exact ⟨(h.dm d hd).1.mod o hm (fun t ht => .inl (by simp at ht; omega)), ⟨o.p0, o.p1, o.p2, o.p3, o.p4, o.p5, o.oi, o.ib, o.bo, o.ff, by have := o.fh; omega⟩⟩

/-- The law's three rows. -/
structure Rws (w0 w : World) (A : Nat → Dm) (k : Nat) (Ab Ao Ai : Option Addr) (cb co ci : Nat) : Prop where
  qb : QRow w 47 Ab cb ((List.range k).map fun d => .pointer (some ⟨(A d).b, 0, none⟩))
  qo : QRow w 50 Ao co ((List.range k).map fun d => .pointer (some ⟨(A d).fo, 0, none⟩))
  qi : QRow w 50 Ai ci ((List.range k).map fun d => .pointer (some ⟨(A d).fi, 0, none⟩))
  nb : ∀ t ∈ blkOf Ab, w0.heap.size ≤ t
  no : ∀ t ∈ blkOf Ao, w0.heap.size ≤ t
  ni : ∀ t ∈ blkOf Ai, w0.heap.size ≤ t
  oi : ∀ t ∈ blkOf Ao, t ∉ blkOf Ai

theorem q_out {e cap : Nat} {Ax : Option Addr} {xs : List Value} (h : QRow w e Ax cap xs) (he : e = 47 ∨ e = 50) (hT : ∀ t ∈ T, (∃ ty cs, Blk w t ty cs ∧ ty ≠ 47 ∧ ty ≠ 50) ∨ IsM w t) : ∀ b ∈ blkOf Ax, b ∉ T := fun b hb ht => by
  have tq := TQ.of_q h he
  rcases hT b ht with ⟨ty, cs, h1, h2, h3⟩ | h1
  · exact tq.blk b ty cs h1 h2 h3 hb
  · exact tq.map b h1 hb
theorem Rws.modT {w0 : World} {A : Nat → Dm} {k : Nat} {Ab Ao Ai : Option Addr} {cb co ci : Nat} (h : Rws w0 w A k Ab Ao Ai cb co ci) (hm : Tn.Mod T w w') (hT : ∀ t ∈ T, (∃ ty cs, Blk w t ty cs ∧ ty ≠ 47 ∧ ty ≠ 50) ∨ IsM w t) : Rws w0 w' A k Ab Ao Ai cb co ci :=
  ⟨h.qb.mod hm (q_out h.qb (.inl rfl) hT), h.qo.mod hm (q_out h.qo (.inr rfl) hT), h.qi.mod hm (q_out h.qi (.inr rfl) hT), h.nb, h.no, h.ni, h.oi⟩
theorem q_disj {e e' cap cap' : Nat} {Ax Ay : Option Addr} {xs ys : List Value} (h : QRow w e Ax cap xs) (h' : QRow w e' Ay cap' ys) (hne : e ≠ e') : ∀ b ∈ blkOf Ax, b ∉ blkOf Ay := fun b hb => by
  rcases h.2.2 with ⟨e0, _⟩ | ⟨g, off, cur, e0, hg, _⟩
  · subst e0; simp [blkOf] at hb
  · subst e0
    simp [blkOf] at hb
    subst hb
    exact h'.ne_blk (t := e) (cs := cur) hg hne
theorem row_next (A : Nat → Dm) (a : Dm) (j : Nat) (φ : Dm → Nat) : (List.range (j + 1)).map (fun d => Value.pointer (some ⟨φ (if d = j then a else A d), 0, none⟩)) = (List.range j).map (fun d => Value.pointer (some ⟨φ (A d), 0, none⟩)) ++ [Value.pointer (some ⟨φ a, 0, none⟩)] := by
  rw [List.range_succ, List.map_append]
  congr 1
  · apply List.map_congr_left
    intro d hd
    have := List.mem_range.1 hd
    rw [if_neg (by omega)]
  · simp
theorem info47 : (Tryz.prog.info? 47).map (fun i => (i.zero, i.size, i.bytes)) = some (some (.pointer none), 1, 8) := by kernel_rfl
theorem info50 : (Tryz.prog.info? 50).map (fun i => (i.zero, i.size, i.bytes)) = some (some (.pointer none), 1, 8) := by kernel_rfl
end
end Go.Proofs.YtfolppcadckmaaaGreat
