/-
  Frames: the law's main loop: what comes to each front; the two rows of what was sent.
-/
import Derived.Test.YtfolppcadckmaaaGreatMr
namespace Go.Proofs.YtfolppcadckmaaaGreat
open Go.RowKit Go.Tn
open Go.Proofs
set_option maxRecDepth 100000

section
variable {w0 W0 w w' : World} {m fb x mb kb s bp bk L0 : Nat} {F0 F F' : Nat → Nat → Int} {f : Int → Option Value} {A : Nat → Dm} {T FP FP' : List Nat} {C : Nat → Option Addr × Nat} {S : P14.St} {M : Int}
variable {SA BA : Option Addr} {cs cb : Nat} {xs ys : List Value}

/-- The rows of what was sent and by whom. -/
structure Two (W0 w : World) (FP : List Nat) (SA BA : Option Addr) (cs cb : Nat) (xs ys : List Value) : Prop where
  qs : QRow w 22 SA cs xs
  qy : QRow w 3 BA cb ys
  ns : ∀ t, t ∈ blkOf SA → W0.heap.size ≤ t ∧ t ∉ FP
  ny : ∀ t, t ∈ blkOf BA → W0.heap.size ≤ t ∧ t ∉ FP
theorem Two.step (h : Two W0 w FP SA BA cs cb xs ys) (hm : Tn.Mod T w w') (hT : ∀ t, t ∈ T → t < W0.heap.size ∨ t ∈ FP ∨ w.heap.size ≤ t) (hF : ∀ t, t ∈ FP' → t ∈ FP ∨ w.heap.size ≤ t) : Two W0 w' FP' SA BA cs cb xs ys := by
  have k : ∀ t, W0.heap.size ≤ t ∧ t ∉ FP → t < w.heap.size → t ∉ T := fun t h1 h2 h3 => by
    rcases hT t h3 with h | h | h
    · omega
    · exact h1.2 h
    · omega
  have kf : ∀ t, W0.heap.size ≤ t ∧ t ∉ FP → t < w.heap.size → t ∉ FP' := fun t h1 h2 h3 => by
    rcases hF t h3 with h | h
    · exact h1.2 h
    · omega
  exact ⟨h.qs.mod hm fun b hb => k b (h.ns b hb) (h.qs.lt hb), h.qy.mod hm fun b hb => k b (h.ny b hb) (h.qy.lt hb),
    fun t ht => ⟨(h.ns t ht).1, kf t (h.ns t ht) (h.qs.lt ht)⟩, fun t ht => ⟨(h.ny t ht).1, kf t (h.ny t ht) (h.qy.lt ht)⟩⟩

theorem Bys.congr {a : Option Addr} {n : Nat} {g g' : Nat → Int} (h : Bys w a n g) (he : ∀ j, j < n → g' j = g j) : Bys w a n g' := fun h0 => by
  obtain ⟨b, off, e, hb, hc⟩ := h h0
  exact ⟨b, off, e, hb, fun j hj => by rw [he j hj]; exact hc j hj⟩

theorem come_c (st : Stat w0 W0 m fb x mb kb s bp bk L0 F0 f A) (h : Lp W0 w m fb s bp bk A F0 F FP C S M 3) (hM : M ≤ 1152921504606846000) {d d0 len cA k l sb so yb yo : Nat} {fa : Option Addr} {g : Nat → Int} (hd : d < 3)
    (hW : P14.Wait S d d0 ((List.range len).map g)) (two : Two W0 w FP (some ⟨sb, so, none⟩) (some ⟨yb, yo, none⟩) cs cb xs ys) (hx : xs[k]? = some (.slice fa len cA)) (hy : ys[k]? = some (.int .i64 (d0 : Nat)))
    (hby : ∀ W, Tn.Mod [] w0 W → Bys W fa len g) (hl : l = k + 1) (hk : k < 4611686018427387904) :
    Calls Tryz.prog 21 #[.pointer (some ⟨m, 0, none⟩), .pointer (some ⟨(A d).b, 0, none⟩), .pointer (some ⟨(A d).fi, 0, none⟩), .int .i64 (pg d 3 : Nat), .int .i64 (d : Nat), .slice (some ⟨sb, so, none⟩) l cs, .slice (some ⟨yb, yo, none⟩) l cb] w fun e w' => e = .returned (.bool true) ∧
      ∃ F' FP' C' S', Lp W0 w' m fb s bp bk A F0 F' FP' C' S' (M + 1) 3 ∧ P14.Wait S' (d + 1) d0 ((List.range len).map g) ∧ Two W0 w' FP' (some ⟨sb, so, none⟩) (some ⟨yb, yo, none⟩) cs cb xs ys := by
  obtain ⟨ic, oc, s0, hI, ro, rf⟩ := h.ins d hd (by omega)
  obtain ⟨l1, l2, l3, l4, l5, l6, l7, l8⟩ := st.lo
  have l0 := st.l0
  obtain ⟨p0, p1, p2, p3, p4, p5, oi, ib, bo, ff, fh⟩ := st.ord d hd
  have hiF := h.mi.mid st (t := (A d).i) (by omega) (by omega)
  have hfiF := h.mi.mid st (t := (A d).fi) (by omega) (by omega)
  have hbF := h.mi.mid st (t := (A d).b) (by omega) (by omega)
  have hmF := h.mi.lowF st (t := m) (by simp)
  have hfF := h.mi.lowF st (t := fb) (by simp)
  obtain ⟨f1, f2, f3, f4, f5, f6, f7⟩ := st.nf
  have ot : Out [fb, (A d).fi] m x mb kb (A d).p (A d).bf (A d).bpl (A d).b := by constructor <;> (simp; omega)
  have hdn : d < S.n := by rw [h.mi.sn]; exact hd
  have kO : ∀ d', d' < 3 → d' ≠ 3 → (A d').o ∉ fb :: (A d).i :: (A d).fi :: FP ∧ (A d').fo ∉ fb :: (A d).i :: (A d).fi :: FP := fun d' hd' _ => by
    obtain ⟨p0', p1', p2', p3', p4', p5', oi', ib', bo', ff', fh'⟩ := st.ord d' hd'
    have e1 := h.mi.mid st (t := (A d').o) (by omega) (by omega)
    have e2 := h.mi.mid st (t := (A d').fo) (by omega) (by omega)
    simp [e1, e2]
    by_cases e : d' = d
    · subst e; omega
    · have t := st.two hd' hd e
      refine ⟨⟨by omega, ?_, ?_⟩, by omega, ?_, ?_⟩ <;> rcases t with t | t <;> omega
  have kI : ∀ d', d' < 3 → d' ≠ d → (A d').i ∉ fb :: (A d).i :: (A d).fi :: FP ∧ (A d').fi ∉ fb :: (A d).i :: (A d).fi :: FP := fun d' hd' he => by
    obtain ⟨p0', p1', p2', p3', p4', p5', oi', ib', bo', ff', fh'⟩ := st.ord d' hd'
    have e1 := h.mi.mid st (t := (A d').i) (by omega) (by omega)
    have e2 := h.mi.mid st (t := (A d').fi) (by omega) (by omega)
    simp [e1, e2]
    have t := st.two hd' hd he
    refine ⟨⟨by omega, ?_, ?_⟩, by omega, ?_, ?_⟩ <;> rcases t with t | t <;> omega
  have kD : ∀ t, t ∈ fb :: (A d).i :: (A d).fi :: FP → t ∈ dyn fb s bp bk A ∨ W0.heap.size ≤ t := fun t ht => by
    rcases List.mem_cons.1 ht with rfl | ht
    · exact .inl (mem_dyn.2 (.inl (.inl rfl)))
    rcases List.mem_cons.1 ht with rfl | ht
    · exact .inl (mem_dyn.2 (.inr ⟨d, hd, .inr (.inl rfl)⟩))
    rcases List.mem_cons.1 ht with rfl | ht
    · exact .inl (mem_dyn.2 (.inr ⟨d, hd, .inr (.inr (.inr rfl))⟩))
    · rcases h.mi.fp t ht with h | h | h | h
      · exact .inl (mem_dyn.2 (.inl (.inr (.inl h))))
      · exact .inl (mem_dyn.2 (.inl (.inr (.inr (.inl h)))))
      · exact .inl (mem_dyn.2 (.inl (.inr (.inr (.inr h)))))
      · exact .inr h
  have kT : ∀ t, t ∈ fb :: (A d).i :: (A d).fi :: FP → t < W0.heap.size ∨ t ∈ FP ∨ w.heap.size ≤ t := fun t ht => by
    rcases List.mem_cons.1 ht with rfl | ht
    · exact .inl (by omega)
    rcases List.mem_cons.1 ht with rfl | ht
    · exact .inl (by omega)
    rcases List.mem_cons.1 ht with rfl | ht
    · exact .inl (by omega)
    · exact .inr (.inl ht)
  have kF : ∀ {F'}, OnlyP F F' (pg d 2) (pg d 3) → ∀ a c, c < 4 ∨ a % 4 = 0 → F' a c = F0 a c := fun ho a c hc => (ho a c (by unfold pg; omega)).trans (h.mi.ke a c hc)
  have kG : ∀ {F'}, OnlyP F F' (pg d 2) (pg d 3) → ∀ d', d' < 3 → d' ≠ d → ∀ c, F' (pg d' 2) c = F (pg d' 2) c := fun ho d' _ he c => ho _ c (by unfold pg; omega)
  by_cases hq : (S.L d).q = []
  · refine (come_no (A := some ⟨sb, so, none⟩) (B := some ⟨yb, yo, none⟩) (k := l) (cS := cs) (cB := cb) (h.mi.nb_ st hd) (h.mi.sg_ st hd) h.mi.bm h.mi.sg ro rf hI (by unfold pg; omega) (h.mi.owner st (by unfold pg; omega)) (by unfold pg; omega) (by unfold pg; omega) ot (by omega) hiF (by simp; omega) hfF hfiF (by omega) (by omega) (by omega) hdn hq).mono ?_
    rintro e w' ⟨rfl, F', i', o', s', hI', ho, hp, hrf, hri, hm⟩
    have hm2 : Tn.Mod (fb :: (A d).i :: (A d).fi :: FP) w w' := hm.mono (by simp)
    refine ⟨rfl, F', FP, C, S, ⟨⟨h.mi.md.trans hm2 kD, hp, kF ho, h.mi.bm.same hm (fun t ht e => ?_), h.mi.sn, h.mi.sg.mono (by omega), h.mi.fp⟩, h.outs.mod hm2 kO, (h.ins.but.mod hm2 kI (kG ho)).put hI' hri hrf⟩, fun d' => ?_, two.step hm2 kT (fun t ht => .inl ht)⟩
    · simp at e
      rcases e with rfl | rfl | rfl
      · exact hfF ht
      · exact hiF ht
      · exact hfiF ht
    · rcases hW d' with h | ⟨h1, h2, h3, h4⟩
      · exact .inl h
      · refine .inr ⟨?_, h2, h3, h4⟩
        have : d' ≠ d := fun e => by subst e; rw [hq] at h4; cases h4
        omega
  · obtain ⟨_, _, hne, hq1⟩ := (hW d).resolve_left hq
    have HK : ∀ W, Tn.Mod (fb :: (A d).i :: (A d).fi :: FP) w W → W.cell? ⟨sb, so + k, none⟩ = some (.slice fa ((List.range len).map g).length cA) ∧ W.cell? ⟨yb, yo + k, none⟩ = some (.int .i64 ((d0 : Nat) : Int)) ∧ Bys W fa ((List.range len).map g).length (P14.fAt ((List.range len).map g)) := fun W hW => by
      have t2 := two.step (FP' := FP) hW kT (fun t ht => .inl ht)
      rw [List.length_map, List.length_range]
      refine ⟨t2.qs.cell hx, t2.qy.cell hy, ?_⟩
      have hm0 : Tn.Mod [] w0 W := st.m0.trans (h.mi.md.trans hW kD) (fun t ht => .inr (by
        have hl := st.wl
        rcases mem_dyn.1 ht with h | ⟨d, hd, h⟩
        · rcases h with h | h | h | h <;> omega
        · obtain ⟨p0, p1, p2, p3, p4, p5, oi, ib, bo, ff, fh⟩ := st.ord d hd
          rcases h with h | h | h | h <;> omega))
      refine (hby W hm0).congr fun j hj => ?_
      unfold P14.fAt
      simp [List.getD_eq_getElem?_getD, hj]
    refine (come_one (cS := cs) (cB := cb) (h.mi.nb_ st hd) (h.mi.sg_ st hd) h.mi.bm h.mi.sg (by omega) ro rf hI (by unfold pg; omega) (h.mi.owner st (by unfold pg; omega)) (by unfold pg; omega) (by unfold pg; omega) (by unfold pg; omega) ot hiF (by simp; omega) hfF hfiF hmF hbF (by omega) (by omega) hdn hq1 l hl hk (by omega) HK).mono ?_
    rintro e w' ⟨rfl, F', i', o', s', hI', ho, hp, hrf, hri, ⟨FP', C', hb', hup, hnew⟩, hm2⟩
    have dq := done_q hdn hq1 true
    refine ⟨rfl, F', FP', C', _, ⟨⟨h.mi.md.trans hm2 kD, hp, kF ho, hb', dq.2.trans h.mi.sn, P14.ok_done h.mi.sg _ _, fun t ht => ?_⟩, h.outs.mod hm2 kO, (h.ins.but.mod hm2 kI (kG ho)).put hI' hri hrf⟩, fun d' => ?_, two.step hm2 kT hnew⟩
    · rcases hnew t ht with h' | h'
      · exact h.mi.fp t h'
      · have := h.mi.md.size
        exact .inr (.inr (.inr (by omega)))
    · by_cases e : d' = d
      · subst e; exact .inl dq.1
      · rw [P14.done_ne e]
        rcases hW d' with h | ⟨h1, h2, h3, h4⟩
        · exact .inl h
        · exact .inr ⟨by omega, h2, h3, h4⟩

theorem Lp.far (st : Stat w0 W0 m fb x mb kb s bp bk L0 F0 f A) {D : Nat} (h : Lp W0 w m fb s bp bk A F0 F FP C S M D) (hm : Tn.Mod T w w') (hT : ∀ t, t ∈ T → W0.heap.size ≤ t ∧ t ∉ FP) : Lp W0 w' m fb s bp bk A F0 F FP C S M D := by
  obtain ⟨l1, l2, l3, l4, l5, l6, l7, l8⟩ := st.lo
  have l0 := st.l0
  have k : ∀ t, t < W0.heap.size → t ∉ T := fun t h1 h2 => by have := (hT t h2).1; omega
  refine ⟨⟨h.mi.md.trans hm (fun t ht => .inr (hT t ht).1), h.mi.ph.mod hm (k _ (by omega)) (k _ (by omega)), h.mi.ke, h.mi.bm.same hm (fun t ht e => (hT t e).2 ht), h.mi.sn, h.mi.sg, h.mi.fp⟩, h.outs.mod hm (fun d hd _ => ?_), h.ins.mod hm (fun d hd _ => ?_) (fun _ _ _ _ => rfl)⟩
  · obtain ⟨p0, p1, p2, p3, p4, p5, oi, ib, bo, ff, fh⟩ := st.ord d hd
    exact ⟨k _ (by omega), k _ (by omega)⟩
  · obtain ⟨p0, p1, p2, p3, p4, p5, oi, ib, bo, ff, fh⟩ := st.ord d hd
    exact ⟨k _ (by omega), k _ (by omega)⟩
theorem Two.app1 (h : Two W0 w FP SA BA cs cb xs ys) (hb : W0.heap.size ≤ w.heap.size) (hF : ∀ t, t ∈ FP → t < w.heap.size) {g off cap : Nat} {v : Value} (hr : QRow w' 22 (some ⟨g, off, none⟩) cap (xs ++ [v])) (hm : Tn.Mod (blkOf SA) w w') (hg : g ∈ blkOf SA ∨ w.heap.size ≤ g) : Two W0 w' FP (some ⟨g, off, none⟩) BA cap cb (xs ++ [v]) ys := by
  refine ⟨hr, h.qy.mod hm (q_disj h.qy h.qs (by decide)), fun t ht => ?_, h.ny⟩
  simp [blkOf] at ht
  subst ht
  rcases hg with hg | hg
  · exact h.ns _ hg
  · exact ⟨by omega, fun e => by have := hF _ e; omega⟩
theorem Two.app2 (h : Two W0 w FP SA BA cs cb xs ys) (hb : W0.heap.size ≤ w.heap.size) (hF : ∀ t, t ∈ FP → t < w.heap.size) {g off cap : Nat} {v : Value} (hr : QRow w' 3 (some ⟨g, off, none⟩) cap (ys ++ [v])) (hm : Tn.Mod (blkOf BA) w w') (hg : g ∈ blkOf BA ∨ w.heap.size ≤ g) : Two W0 w' FP SA (some ⟨g, off, none⟩) cs cap xs (ys ++ [v]) := by
  refine ⟨h.qs.mod hm (q_disj h.qs h.qy (by decide)), hr, h.ns, fun t ht => ?_⟩
  simp [blkOf] at ht
  subst ht
  rcases hg with hg | hg
  · exact h.ny _ hg
  · exact ⟨by omega, fun e => by have := hF _ e; omega⟩
theorem Two.new (h : Two W0 w FP SA BA cs cb xs ys) (hm : Tn.Mod [] w w') : Two W0 w' FP SA BA cs cb xs ys := h.step hm (by simp) (fun _ h => .inl h)

theorem Two.round (st : Stat w0 W0 m fb x mb kb s bp bk L0 F0 f A) (h : Two W0 w FP SA BA cs cb xs ys) (hs : W0.heap.size ≤ w.heap.size) {d v : Nat} {w1 w3 w4 w6 : World} (hd : d < 3) (h1 : Tn.Mod [fb] w w1) (h3 : Tn.Mod [] w1 w3) (h4 : Tn.Mod [fb, (A d).fo] w3 w4) (h6 : Tn.Mod (fb :: v :: (A d).o :: (A d).fo :: FP) w4 w6) (hv : w1.heap.size ≤ v) (hn : ∀ t, t ∈ FP' → t ∈ FP ∨ w4.heap.size ≤ t) : Two W0 w6 FP' SA BA cs cb xs ys := by
  obtain ⟨l1, l2, l3, l4, l5, l6, l7, l8⟩ := st.lo
  have l0 := st.l0
  obtain ⟨p0, p1, p2, p3, p4, p5, oi, ib, bo, ff, fh⟩ := st.ord d hd
  have s1 := h1.size
  have s3 := h3.size
  have s4 := h4.size
  have m4 : Tn.Mod [fb, (A d).fo] w w4 := ((h1.mono (T := [fb, (A d).fo]) (by simp)).andThen (h3.mono (by simp))).andThen h4
  have m6 : Tn.Mod (fb :: (A d).o :: (A d).fo :: FP) w w6 := (m4.mono (T := fb :: (A d).o :: (A d).fo :: FP) (by simp)).trans h6 (fun t ht => by
    rcases List.mem_cons.1 ht with rfl | ht
    · simp
    rcases List.mem_cons.1 ht with rfl | ht
    · exact .inr (by omega)
    · exact .inl (List.mem_cons_of_mem _ ht))
  refine h.step m6 (fun t ht => ?_) (fun t ht => ?_)
  · rcases List.mem_cons.1 ht with rfl | ht
    · exact .inl (by omega)
    rcases List.mem_cons.1 ht with rfl | ht
    · exact .inl (by omega)
    rcases List.mem_cons.1 ht with rfl | ht
    · exact .inl (by omega)
    · exact .inr (.inl ht)
  · rcases hn t ht with h | h
    · exact .inl h
    · exact .inr (by omega)

/-- The set-up's end is the main loop's start. -/
theorem Core.stat (h : Core w0 w m fb x mb kb s bp bk L0 3 F f C S A) (ho : w0.heap.size ≤ m ∧ w0.heap.size ≤ fb ∧ m < mb ∧ fb < mb ∧ mb < kb ∧ kb < x ∧ x < bp ∧ bp < bk ∧ bk < s ∧ s < L0) :
    Stat w0 w m fb x mb kb s bp bk L0 F f A ∧ Lp w w m fb s bp bk A F F [s, bp, bk] C S 65536 3 := by
  have hmf : m ≠ fb := h.ph.blk.ne_ h.ph.fr (by decide)
  refine ⟨⟨h.md, by omega, by omega, h.l0, by omega, fun t ht => by rcases ht with rfl | rfl | rfl <;> omega, h.gh, fun d hd => ⟨(h.dm d hd).1.pm, (h.dm d hd).1.nb, (h.dm d hd).1.fo⟩, fun d hd => (h.dm d hd).2, h.sep, h.fok⟩,
    ⟨⟨Mod.refl _ _, h.ph, fun _ _ _ => rfl, h.bm, h.sn, h.sg, fun t ht => by simp at ht; omega⟩, fun d hd _ => ⟨0, 0, by omega, (h.dm d hd).1.ro, (h.dm d hd).1.rfo⟩, fun d hd _ => ⟨0, 0, 0, ?_, (h.dm d hd).1.ri, (h.dm d hd).1.rfi⟩⟩⟩
  have z : ∀ c, 1 ≤ c → F (pg d 2) c = 0 := fun c hc => h.fok.zero _ _ hc (.inl (by unfold pg; omega))
  exact ⟨by omega, by omega, by unfold df; omega, by rw [z _ (by omega)]; rfl, by rw [z _ (by omega)]; rfl, fun t ht => absurd ht (by unfold df; omega)⟩
end
theorem info22 : (Tryz.prog.info? 22).map (fun i => (i.zero, i.size, i.bytes)) = some (some (.slice none 0 0), 1, 24) := by kernel_rfl
theorem info3 : (Tryz.prog.info? 3).map (fun i => (i.zero, i.size, i.bytes)) = some (some (.int .i64 0), 1, 8) := by kernel_rfl
end Go.Proofs.YtfolppcadckmaaaGreat
