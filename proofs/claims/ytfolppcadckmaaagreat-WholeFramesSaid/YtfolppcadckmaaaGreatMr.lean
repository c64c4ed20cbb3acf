/-
  Frames: the law's main loop: a frame is posted, sent and its answer fetched.
-/
import Derived.Test.YtfolppcadckmaaaGreatMn
namespace Go.Proofs.YtfolppcadckmaaaGreat
open Go.RowKit Go.Tn
open Go.Proofs
set_option maxRecDepth 100000

theorem wrB_keep {F : Nat → Nat → Int} {i off n a c : Nat} {G : Nat → Int} (h : c < 4 ∨ a ≠ i) : wrB F i off n G a c = F a c := by
  unfold wrB
  rw [if_neg (by omega)]
theorem wrB_at {F : Nat → Nat → Int} {i off n c : Nat} {G : Nat → Int} (h : 4 + off ≤ c) (h2 : c < 4 + off + n) : wrB F i off n G i c = G (c - (4 + off)) := by
  unfold wrB
  rw [if_pos ⟨rfl, h, h2⟩]
theorem wrB_off {F : Nat → Nat → Int} {i off n c : Nat} {G : Nat → Int} (h : c < 4 + off ∨ 4 + off + n ≤ c) : wrB F i off n G i c = F i c := by
  unfold wrB
  rw [if_neg (by omega)]

section
variable {w0 W0 w w' : World} {m fb x mb kb s bp bk L0 : Nat} {F0 F F' : Nat → Nat → Int} {f : Int → Option Value} {A : Nat → Dm} {T FP : List Nat} {C : Nat → Option Addr × Nat} {S : P14.St} {M : Int}

/-- What stands in the main loop; front D's ring of what is sent is left out. -/
structure Lp (W0 w : World) (m fb s bp bk : Nat) (A : Nat → Dm) (F0 F : Nat → Nat → Int) (FP : List Nat) (C : Nat → Option Addr × Nat) (S : P14.St) (M : Int) (D : Nat) : Prop where
  mi : MI W0 w m fb s bp bk A F0 F FP C S M
  outs : Outs w m A D
  ins : Ins w m F A 3
/-- A fresh view. -/
structure Vw (W0 w : World) (m v db : Nat) (FP : List Nat) : Prop where
  vh : VH w v m db 0
  vF : v ∉ FP
  dF : db ∉ FP
  vl : W0.heap.size ≤ v
  dl : W0.heap.size ≤ db

theorem Outs.mod0 {D : Nat} (h : Outs w m A D) (hm : Tn.Mod [] w w') : Outs w' m A D := h.mod hm (by simp)
theorem Ins.mod0 {D : Nat} (h : Ins w m F A D) (hm : Tn.Mod [] w w') : Ins w' m F A D := h.mod hm (by simp) (fun _ _ _ _ => rfl)
theorem Lp.new {D : Nat} (h : Lp W0 w m fb s bp bk A F0 F FP C S M D) (hm : Tn.Mod [] w w') : Lp W0 w' m fb s bp bk A F0 F FP C S M D := ⟨h.mi.new hm, h.outs.mod0 hm, h.ins.mod0 hm⟩
theorem Lp.view {D v db : Nat} (h : Lp W0 w m fb s bp bk A F0 F FP C S M D) (hv : w.heap.size ≤ v) (hd : w.heap.size ≤ db) (hh : VH w' v m db 0) : Vw W0 w' m v db FP := by
  have h1 := h.mi.md.size
  exact ⟨hh, fun e => by have := h.mi.bm.rows.old _ e; omega, fun e => by have := h.mi.bm.rows.old _ e; omega, by omega, by omega⟩

/-- A frame of front d's page is written. -/
theorem wr_c (st : Stat w0 W0 m fb x mb kb s bp bk L0 F0 f A) (h : Lp W0 w m fb s bp bk A F0 F FP C S M 3) {d : Nat} (hd : d < 3) (len cp : Nat) (hl : len ≤ 120) (sa : Option Addr) (g : Nat → Int) (hB : Bys w sa len g) :
    Calls Tryz.prog 12 #[.pointer (some ⟨m, 0, none⟩), .int .i64 (pg d 3 : Nat), .int .i64 0, .slice sa len cp] w fun e w' => e = .returned (.int .i64 0) ∧ Lp W0 w' m fb s bp bk A F0 (wrB F (pg d 3) 0 len g) FP C S M 3 ∧ Tn.Mod [fb] w w' := by
  refine (write_f h.mi.ph (pg d 3) 0 len cp sa g (by unfold pg; omega) (by omega) (by omega) (h.mi.owner st (by unfold pg; omega)) hB).mono ?_
  rintro e w' ⟨rfl, hp, hm⟩
  obtain ⟨l1, l2, l3, l4, l5, l6, l7, l8⟩ := st.lo
  refine ⟨rfl, ⟨h.mi.wr st hd (hm.mono (by simp)) hp (fun a c hc => wrB_keep (by unfold pg; omega)), h.outs.mod hm (fun d' hd' _ => ?_), h.ins.mod hm (fun d' hd' _ => ?_) (fun d' hd' _ c => wrB_keep (by unfold pg; omega))⟩, hm⟩
  · obtain ⟨p0, p1, p2, p3, p4, p5, oi, ib, bo, ff, fh⟩ := st.ord d' hd'
    simp; omega
  · obtain ⟨p0, p1, p2, p3, p4, p5, oi, ib, bo, ff, fh⟩ := st.ord d' hd'
    simp; omega

/-- Behind the posting. -/
def Posted (w0 W0 : World) (m fb s bp bk : Nat) (A : Nat → Dm) (F0 : Nat → Nat → Int) (FP : List Nat) (C : Nat → Option Addr × Nat) (S : P14.St) (M : Int) (d len v db : Nat) (g : Nat → Int) (w w' : World) : Prop :=
  ∃ F n0 s0, Lp W0 w' m fb s bp bk A F0 F FP C S M d ∧ n0 < 65536 ∧ RB w' (A d).o (pg d 1) n0 n0 s0 ∧ RF w' (A d).fo m (pg d 1) (sc n0) n0 ∧
    (F (pg d 1) 4 = ((sc n0 % 256 : Nat) : Int) ∧ F (pg d 1) 5 = ((sc n0 / 256 : Nat) : Int)) ∧ (F (pg d 1) (4 + qs n0) = 3 ∧ F (pg d 1) (4 + qs n0 + 1) = 0 ∧ F (pg d 1) (4 + qs n0 + 2) = (len : Nat)) ∧
    (∀ j, j < len → F (pg d 3) (4 + j) = g j) ∧ Vw W0 w' m v db FP ∧ Tn.Mod [fb, (A d).fo] w w'

theorem put_c (st : Stat w0 W0 m fb x mb kb s bp bk L0 F0 f A) (h : Lp W0 w m fb s bp bk A F0 F FP C S M 3) {d : Nat} (hd : d < 3) {len id v db q cp : Nat} {g : Nat → Int} (hg : ∀ j, j < len → F (pg d 3) (4 + j) = g j) (hv : Vw W0 w m v db FP)
    (hB : Bys w (some ⟨q, 0, none⟩) 16 (rq len id)) (hq : W0.heap.size ≤ q) :
    Calls Tryz.prog 18 #[.pointer (some ⟨(A d).fo, 0, none⟩), .slice (some ⟨q, 0, none⟩) 16 cp] w fun e w' => e = .returned (.int .i64 0) ∧ Posted w0 W0 m fb s bp bk A F0 FP C S M d len v db g w w' := by
  obtain ⟨n0, s0, hn, ro, rf⟩ := h.outs d hd (by omega)
  obtain ⟨l1, l2, l3, l4, l5, l6, l7, l8⟩ := st.lo
  have l0 := st.l0
  have or := st.ord d hd
  have hqs : qs n0 = 16 + 16 * (n0 % 8) := rfl
  obtain ⟨p0, p1, p2, p3, p4, p5, oi, ib, bo, ff, fh⟩ := or
  refine (rput_f rf h.mi.ph hn hn (by unfold pg; omega) (h.mi.owner st (by unfold pg; omega)) (by rw [df_self hn]; omega) (some ⟨q, 0, none⟩) cp (rq len id) hB (fun q' off e => by
    injection e with e; injection e with e1 e2 e3; subst e1
    exact ⟨by omega, by omega⟩)).mono ?_
  rintro e w' ⟨rfl, hp, hf, hm⟩
  have kp : ∀ a c, c < 4 ∨ a ≠ pg d 1 → wrB (wrB F (pg d 1) (qs n0) 16 (rq len id)) (pg d 1) 0 2 (tb (sc n0)) a c = F a c := fun a c hc => by rw [wrB_keep hc, wrB_keep hc]
  have kq : ∀ j, j < 16 → wrB (wrB F (pg d 1) (qs n0) 16 (rq len id)) (pg d 1) 0 2 (tb (sc n0)) (pg d 1) (4 + qs n0 + j) = rq len id j := fun j hj => by
    rw [wrB_off (by omega), wrB_at (by omega) (by omega)]
    congr 1
    omega
  have nin : ∀ d', d' < 3 → d' ≠ d → (A d').o ∉ [fb, (A d).fo] ∧ (A d').fo ∉ [fb, (A d).fo] := fun d' hd' he => by
    have t := st.two hd' hd he
    obtain ⟨p0', p1', p2', p3', p4', p5', oi', ib', bo', ff', fh'⟩ := st.ord d' hd'
    simp
    refine ⟨⟨by omega, ?_⟩, by omega, ?_⟩ <;> rcases t with t | t <;> omega
  have nii : ∀ d', d' < 3 → d' ≠ 3 → (A d').i ∉ [fb, (A d).fo] ∧ (A d').fi ∉ [fb, (A d).fo] := fun d' hd' _ => by
    obtain ⟨p0', p1', p2', p3', p4', p5', oi', ib', bo', ff', fh'⟩ := st.ord d' hd'
    simp
    by_cases e : d' = d
    · subst e; omega
    · have t := st.two hd' hd e
      refine ⟨⟨by omega, ?_⟩, by omega, ?_⟩ <;> rcases t with t | t <;> omega
  refine ⟨rfl, _, n0, s0, ⟨h.mi.wr st hd hm hp (fun a c hc => kp a c (by unfold pg; omega)), h.outs.but.mod hm nin, h.ins.mod hm nii (fun d' _ _ c => kp _ c (by unfold pg; omega))⟩, hn, ro.mod hm (by simp; omega), hf, ⟨?_, ?_⟩, ⟨?_, ?_, ?_⟩, fun j hj => ?_, ⟨hv.vh.mod hm ?_ ?_, hv.vF, hv.dF, hv.vl, hv.dl⟩, hm⟩
  · rw [wrB_at (by omega) (by omega)]; simp [tb]
  · rw [wrB_at (by omega) (by omega)]; simp [tb]
  · exact (kq 0 (by omega)).trans (by simp [rq])
  · exact (kq 1 (by omega)).trans (by simp [rq])
  · exact (kq 2 (by omega)).trans (by simp [rq])
  · rw [kp _ _ (by unfold pg; omega)]; exact hg j hj
  · have := hv.vl; simp; omega
  · have := hv.dl; simp; omega

/-- Behind the sending. -/
def Sent (W0 : World) (m fb s bp bk : Nat) (A : Nat → Dm) (F0 : Nat → Nat → Int) (FP : List Nat) (S' : P14.St) (M : Int) (d v : Nat) (w w' : World) : Prop :=
  ∃ F n0 FP' C', Lp W0 w' m fb s bp bk A F0 F FP' C' S' M d ∧ n0 < 65536 ∧ RB w' (A d).o (pg d 1) (sc n0) (sc n0) (sc n0) ∧ RF w' (A d).fo m (pg d 1) (sc n0) n0 ∧
    (F (pg d 1) 6 = ((sc n0 % 256 : Nat) : Int) ∧ F (pg d 1) 7 = ((sc n0 / 256 : Nat) : Int)) ∧ (∀ b, b ∈ FP' → b ∈ FP ∨ w.heap.size ≤ b) ∧ Tn.Mod (fb :: v :: (A d).o :: FP) w w'

theorem send_c (st : Stat w0 W0 m fb x mb kb s bp bk L0 F0 f A) {d : Nat} (hd : d < 3) {len v db : Nat} {g : Nat → Int} {u : World} (h : Posted w0 W0 m fb s bp bk A F0 FP C S M d len v db g u w) (hM : M ≤ 1152921504606846000) (hl : len ≤ 120) (hg : ∀ j, j < len → 0 ≤ g j ∧ g j ≤ 255) :
    Calls Tryz.prog 19 #[.pointer (some ⟨(A d).b, 0, none⟩), .pointer (some ⟨v, 0, none⟩), .int .i64 8] w fun e w' => e = .returned (.tuple #[.int .i64 1, .int .i64 0]) ∧ Sent W0 m fb s bp bk A F0 FP (P14.sendS S (d : Nat) ((List.range len).map g)) (M + 1) d v w w' := by
  obtain ⟨F, n0, s0, L, hn, ro, rf, ⟨hp0, hp1⟩, ⟨hq0, hq1, hq2⟩, hfr, hv, _⟩ := h
  obtain ⟨l1, l2, l3, l4, l5, l6, l7, l8⟩ := st.lo
  have l0 := st.l0
  have vl := hv.vl
  have hrs : rs n0 = 144 + 8 * (n0 % 8) := rfl
  have or := st.ord d hd
  obtain ⟨p0, p1, p2, p3, p4, p5, oi, ib, bo, ff, fh⟩ := or
  have hfo : frOf F (pg d 3) len = (List.range len).map g := by
    unfold frOf
    exact List.map_congr_left fun j hj => hfr j (List.mem_range.1 hj)
  refine (send_f (L.mi.nb_ st hd) (L.mi.sg_ st hd) hv.vh (by omega) L.mi.bm L.mi.sg (by omega) ro hn (by unfold pg; omega) (L.mi.owner st (by unfold pg; omega)) (by omega) hp0 hp1 hq0 hq1 hq2
    ⟨L.mi.lowF st (by simp), L.mi.lowF st (by simp), hv.vF, hv.dF, L.mi.mid st (by omega) (by omega), L.mi.mid st (by omega) (by omega)⟩ (fun j hj => by rw [hfr j hj]; exact hg j hj)).mono ?_
  rintro e w' ⟨rfl, ⟨R, hp⟩, hro, ⟨FP', C', hb', hup, hnew⟩, hm⟩
  rw [hfo] at hb'
  have kp : ∀ a c, c < 4 ∨ a ≠ pg d 1 → wrB (wrB F (pg d 1) (rs n0) 8 R) (pg d 1) 2 2 (tb (sc n0)) a c = F a c := fun a c hc => by rw [wrB_keep hc, wrB_keep hc]
  have nin : ∀ d', d' < 3 → d' ≠ d → (A d').o ∉ fb :: v :: (A d).o :: FP ∧ (A d').fo ∉ fb :: v :: (A d).o :: FP := fun d' hd' he => by
    have t := st.two hd' hd he
    obtain ⟨p0', p1', p2', p3', p4', p5', oi', ib', bo', ff', fh'⟩ := st.ord d' hd'
    have e1 := L.mi.mid st (t := (A d').o) (by omega) (by omega)
    have e2 := L.mi.mid st (t := (A d').fo) (by omega) (by omega)
    simp [e1, e2]
    refine ⟨⟨by omega, by omega, ?_⟩, by omega, by omega, ?_⟩ <;> rcases t with t | t <;> omega
  have nii : ∀ d', d' < 3 → d' ≠ 3 → (A d').i ∉ fb :: v :: (A d).o :: FP ∧ (A d').fi ∉ fb :: v :: (A d).o :: FP := fun d' hd' _ => by
    obtain ⟨p0', p1', p2', p3', p4', p5', oi', ib', bo', ff', fh'⟩ := st.ord d' hd'
    have e1 := L.mi.mid st (t := (A d').i) (by omega) (by omega)
    have e2 := L.mi.mid st (t := (A d').fi) (by omega) (by omega)
    simp [e1, e2]
    by_cases e : d' = d
    · subst e; omega
    · have t := st.two hd' hd e
      refine ⟨⟨by omega, by omega, ?_⟩, by omega, by omega, ?_⟩ <;> rcases t with t | t <;> omega
  have hfF := L.mi.mid st (t := (A d).fo) (by omega) (by omega)
  have hsz := L.mi.md.size
  refine ⟨rfl, _, n0, FP', C', ⟨⟨L.mi.md.trans hm (fun t ht => ?_), hp, fun a c hc => (kp a c (by unfold pg; omega)).trans (L.mi.ke a c hc), hb', ?_, P14.ok_send L.mi.sg _ (fun y hy => ?_), fun t ht => ?_⟩, L.outs.mod hm nin, L.ins.mod hm nii (fun d' _ _ c => kp _ c (by unfold pg; omega))⟩, hn, hro, rf.mod hm (by simp [hfF]; omega), ⟨?_, ?_⟩, hnew, hm⟩
  · rcases List.mem_cons.1 ht with rfl | ht
    · exact .inl (mem_dyn.2 (.inl (.inl rfl)))
    rcases List.mem_cons.1 ht with rfl | ht
    · exact .inr vl
    rcases List.mem_cons.1 ht with rfl | ht
    · exact .inl (mem_dyn.2 (.inr ⟨d, hd, .inl rfl⟩))
    · rcases L.mi.fp t ht with h | h | h | h
      · exact .inl (mem_dyn.2 (.inl (.inr (.inl h))))
      · exact .inl (mem_dyn.2 (.inl (.inr (.inr (.inl h)))))
      · exact .inl (mem_dyn.2 (.inl (.inr (.inr (.inr h)))))
      · exact .inr h
  · rw [P14.sendS_n]; exact L.mi.sn
  · obtain ⟨j, hj, rfl⟩ := List.mem_map.1 hy
    exact hg j (List.mem_range.1 hj)
  · rcases hnew t ht with h | h
    · exact L.mi.fp t h
    · exact .inr (.inr (.inr (by omega)))
  · rw [wrB_at (by omega) (by omega)]; simp [tb]
  · rw [wrB_at (by omega) (by omega)]; simp [tb]

theorem get_c (st : Stat w0 W0 m fb x mb kb s bp bk L0 F0 f A) {d : Nat} (hd : d < 3) {v : Nat} {u : World} (h : Sent W0 m fb s bp bk A F0 FP S M d v u w) :
    Calls Tryz.prog 20 #[.pointer (some ⟨(A d).fo, 0, none⟩)] w fun e w' => (∃ q, e = .returned (.tuple #[.slice (some ⟨q, 0, none⟩) 8 8, .int .i64 0])) ∧ ∃ F' FP' C', Lp W0 w' m fb s bp bk A F0 F' FP' C' S M 3 ∧ (∀ b, b ∈ FP' → b ∈ FP ∨ u.heap.size ≤ b) ∧ Tn.Mod (fb :: v :: (A d).o :: (A d).fo :: FP) u w' := by
  obtain ⟨F, n0, FP', C', L, hn, ro, rf, ⟨hp0, hp1⟩, hnew, hmd⟩ := h
  obtain ⟨l1, l2, l3, l4, l5, l6, l7, l8⟩ := st.lo
  have l0 := st.l0
  obtain ⟨p0, p1, p2, p3, p4, p5, oi, ib, bo, ff, fh⟩ := st.ord d hd
  refine (rget_f rf L.mi.ph (sc_lt n0) hn (by unfold pg; omega) (by unfold df sc; omega) (sc n0) (sc_lt n0) (by unfold sc; omega) hp0 hp1).mono ?_
  rintro e w' ⟨q, _, rfl, _, hrf, hp, hm⟩
  have nin : ∀ d', d' < 3 → d' ≠ d → (A d').o ∉ [(A d).fo] ∧ (A d').fo ∉ [(A d).fo] := fun d' hd' he => by
    have t := st.two hd' hd he
    obtain ⟨p0', p1', p2', p3', p4', p5', oi', ib', bo', ff', fh'⟩ := st.ord d' hd'
    simp
    refine ⟨?_, ?_⟩ <;> rcases t with t | t <;> omega
  have nii : ∀ d', d' < 3 → d' ≠ 3 → (A d').i ∉ [(A d).fo] ∧ (A d').fi ∉ [(A d).fo] := fun d' hd' _ => by
    obtain ⟨p0', p1', p2', p3', p4', p5', oi', ib', bo', ff', fh'⟩ := st.ord d' hd'
    simp
    by_cases e : d' = d
    · subst e; omega
    · have t := st.two hd' hd e
      refine ⟨?_, ?_⟩ <;> rcases t with t | t <;> omega
  have o2 := (L.outs.mod hm nin).put (sc_lt n0) (ro.mod hm (by simp; omega)) hrf
  refine ⟨⟨q, rfl⟩, F, FP', C', ⟨L.mi.wr st hd (hm.mono (by simp)) hp (fun _ _ _ => rfl), o2, L.ins.mod hm nii (fun _ _ _ _ => rfl)⟩, hnew, ?_⟩
  exact (hmd.mono (T := fb :: v :: (A d).o :: (A d).fo :: FP) (by simp; intro a ha; simp [ha])).andThen (hm.mono (by simp))
end
end Go.Proofs.YtfolppcadckmaaaGreat
