/-
  Layer 14: BridgeCounts: the walk.
-/
import Derived.Test.YtkdhkloabbcipaaPlaysW
import Derived.Test.YtkdhkloabbcipaaBal
namespace Go.Proofs.Ytkdhkloabbcipaa
open Go.RowKit Go.Tn Go.Tn.P14

def flatC (n : Nat) (f : Nat → Nat → Int) : Array Value := Array.ofFn fun k : Fin (n * 9) => .int .i64 (f (k.1 / 9) (k.1 % 9))
theorem flatC_size {n : Nat} {f : Nat → Nat → Int} : (flatC n f).size = n * 9 := by simp [flatC]
theorem flatC_get {n : Nat} {f : Nat → Nat → Int} {i j : Nat} (hi : i < n) (hj : j < 9) : (flatC n f)[i * 9 + j]? = some (.int .i64 (f i j)) := by
  have h : i * 9 + j < n * 9 := by omega
  have h1 : (i * 9 + j) / 9 = i := by omega
  have h2 : (i * 9 + j) % 9 = j := by omega
  simp only [flatC, Array.getElem?_ofFn, h, dif_pos, h1, h2]
theorem flatC_ext {n : Nat} {f : Nat → Nat → Int} {X : Array Value} (hs : X.size = n * 9) (h : ∀ i j, i < n → j < 9 → X[i * 9 + j]? = some (.int .i64 (f i j))) : X = flatC n f := by
  apply Array.ext_getElem?
  intro k
  by_cases hk : k < n * 9
  · have := h (k / 9) (k % 9) (by omega) (by omega)
    have h2 := flatC_get (f := f) (i := k / 9) (j := k % 9) (n := n) (by omega) (by omega)
    rw [show k / 9 * 9 + k % 9 = k by omega] at this h2
    rw [this, h2]
  · rw [Array.getElem?_eq_none (by omega), Array.getElem?_eq_none (by rw [flatC_size]; omega)]
/-- A row is stored. -/
theorem flatC_row {n k : Nat} {f : Nat → Nat → Int} (hk : k < n) (g : Nat → Int) :
    (((((((((flatC n f).setIfInBounds (k * 9) (.int .i64 (g 0))).setIfInBounds (k * 9 + 1) (.int .i64 (g 1))).setIfInBounds (k * 9 + 2) (.int .i64 (g 2))).setIfInBounds (k * 9 + 3) (.int .i64 (g 3))).setIfInBounds (k * 9 + 4) (.int .i64 (g 4))).setIfInBounds (k * 9 + 5) (.int .i64 (g 5))).setIfInBounds (k * 9 + 6) (.int .i64 (g 6))).setIfInBounds (k * 9 + 7) (.int .i64 (g 7))).setIfInBounds (k * 9 + 8) (.int .i64 (g 8)) =
      flatC n fun i j => if i = k then g j else f i j := by
  refine flatC_ext (by simp [flatC_size]) fun i j hi hj => ?_
  simp only [Array.getElem?_setIfInBounds, Array.size_setIfInBounds, flatC_size]
  by_cases hik : i = k
  · subst hik
    have hb : ∀ m, m < 9 → i * 9 + m < n * 9 := fun m hm => by omega
    match j, hj with
    | 0, _ => simp [hb, hi]
    | 1, _ => simp [hb]
    | 2, _ => simp [hb]
    | 3, _ => simp [hb]
    | 4, _ => simp [hb]
    | 5, _ => simp [hb]
    | 6, _ => simp [hb]
    | 7, _ => simp [hb]
    | 8, _ => simp [hb]
  · have h0 : ∀ m, m < 9 → ¬ (k * 9 + m = i * 9 + j) := fun m hm => by omega
    have h00 : ¬ (k * 9 = i * 9 + j) := h0 0 (by omega)
    rw [if_neg (h0 8 (by omega)), if_neg (h0 7 (by omega)), if_neg (h0 6 (by omega)), if_neg (h0 5 (by omega)), if_neg (h0 4 (by omega)), if_neg (h0 3 (by omega)), if_neg (h0 2 (by omega)), if_neg (h0 1 (by omega)), if_neg h00, flatC_get hi hj, if_neg hik]

def z36 : Array Value := #[.int .i64 0, .int .i64 0, .int .i64 0, .int .i64 0, .int .i64 0, .int .i64 0, .int .i64 0, .int .i64 0, .int .i64 0]
theorem info36 : (Try.prog.info? 36).map (fun i => (i.zero.map Value.cells, i.size, i.bytes)) = some (some z36, 9, 72) := by kernel_rfl
theorem made_flatC (n : Nat) : madeCells z36 (n * 9) = flatC n fun _ _ => 0 := by
  refine flatC_ext (size_madeCells _ _) fun i j hi hj => ?_
  have h : i * 9 + j < n * 9 := by omega
  have h1 : (i * 9 + j) % 9 = j := by omega
  have h2 : z36.size = 9 := rfl
  simp only [madeCells, Array.getElem?_map, Array.getElem?_range, h, if_true, Option.map_some, h2, h1]
  match j, hj with
  | 0, _ | 1, _ | 2, _ | 3, _ | 4, _ | 5, _ | 6, _ | 7, _ | 8, _ => rfl
theorem make_counts (n : Nat) (h8 : n ≤ 8) (w : World) : (Instr.makeSlice 50 (.int .i64 n) (.int .i64 n)).run Try.prog w = .ok (.slice (some ⟨w.heap.size, 0, none⟩) n n) (w.alloc (.cells (flatC n fun _ _ => 0) 36)) := by
  have hI := info36
  cases hi : Try.prog.info? 36 with
  | none => rw [hi] at hI; cases hI
  | some i =>
    rw [hi] at hI
    simp only [Option.map_some, Option.some.injEq, Prod.mk.injEq] at hI
    obtain ⟨hz, hs, hb⟩ := hI
    cases hzz : i.zero with
    | none => rw [hzz] at hz; cases hz
    | some z =>
      rw [hzz] at hz
      simp only [Option.map_some, Option.some.injEq] at hz
      have hr := run_make (P := Try.prog) w 50 36 i z Try.underlying50 hi hzz .i64 .i64 n n (by omega) (Int.le_refl _) (by rw [hb]; omega) (by omega)
      rw [hz, hs] at hr
      simp only [Int.toNat_natCast] at hr
      rw [made_flatC] at hr
      exact hr

/-- All ports' numbers. -/
def cnts (S : St) : Nat → Nat → Int := fun i j => count (S.L i) j
def mixC (k : Nat) (S' S : St) : Nat → Nat → Int := fun i j => if i < k then count (S'.L i) j else count (S.L i) j
theorem cnts_new (n : Nat) : cnts (newS n) = fun _ _ => 0 := by
  funext i j
  simp [cnts, count, newS]
theorem mix_zero (S' S : St) : mixC 0 S' S = cnts S := by funext i j; simp [mixC, cnts]
theorem mix_all {n : Nat} (S' S : St) : flatC n (mixC n S' S) = flatC n (cnts S') := by
  refine flatC_ext flatC_size fun i j hi hj => ?_
  rw [flatC_get hi hj]
  simp [mixC, hi, cnts]
theorem mix_succ (k : Nat) (S' S : St) : (fun i j => if i = k then count (S'.L k) j else mixC k S' S i j) = mixC (k + 1) S' S := by
  funext i j
  simp only [mixC]
  by_cases h : i = k
  · subst h; simp
  · rw [if_neg h]
    by_cases h2 : i < k
    · simp [h2, show i < k + 1 by omega]
    · simp [h2, show ¬ i < k + 1 by omega]
theorem cntA_in {S : St} {k : Nat} (hk : k < S.n) : cntA S (k : Int) = .agg #[.int .i64 (count (S.L k) 0), .int .i64 (count (S.L k) 1), .int .i64 (count (S.L k) 2), .int .i64 (count (S.L k) 3), .int .i64 (count (S.L k) 4), .int .i64 (count (S.L k) 5), .int .i64 (count (S.L k) 6), .int .i64 (count (S.L k) 7), .int .i64 (count (S.L k) 8)] := by
  unfold cntA countV
  simp only [isP_nat.2 hk, if_true, Int.toNat_natCast]

theorem play_n (S : St) (o : OpV) : (playS S o).n = S.n := by
  unfold playS
  split
  · exact send_n S _ _
  split
  · unfold rateS; split <;> rfl
  split
  · rfl
  split
  · rfl
  split
  · unfold doneS; split <;> rfl
  split
  · rfl
  split
  · unfold downS; split <;> rfl
  · unfold badS; split <;> rfl
theorem fine_playS (S : St) (o : OpV) (i : Nat) : Fine (S.L i) ((playS S o).L i) := by
  refine fine_play S o i _ ?_
  unfold playS
  split
  · exact .inl rfl
  split
  · exact .inr (.inl rfl)
  split
  · exact .inr (.inr (.inl rfl))
  split
  · exact .inr (.inr (.inr (.inl rfl)))
  split
  · exact .inr (.inr (.inr (.inr (.inl rfl))))
  split
  · exact .inr (.inr (.inr (.inl rfl)))
  split
  · exact .inr (.inr (.inr (.inr (.inr (.inl rfl)))))
  · exact .inr (.inr (.inr (.inr (.inr (.inr rfl)))))

set_option maxRecDepth 100000 in
set_option maxHeartbeats 1200000 in
/-- A round over a port: its numbers are told, held against what was told of it before, and kept. -/
theorem counts_walk (n : Int) (wn : (Lit.int .u8 n).wf = true) (a : Option Addr) (len cap : Nat) (w : World) (ho : IsScr w a len) :
    Calls Try.prog 8 #[.int .u8 n, .slice a len cap] w fun e w' => e = .returned (.bool true) ∧ Below w.heap.size w w' := by
  have hn := bounds_u8 wn
  obtain ⟨n0, n1⟩ := hn
  obtain ⟨m, hm⟩ : ∃ m : Nat, 1 + n % 8 = (m : Int) := ⟨(1 + n % 8).toNat, by omega⟩
  have h1 : 1 ≤ m := by omega
  have h8 : m ≤ 8 := by omega
  have hlen := ho.1
  have HO := hid ho
  have hmk := make_counts m h8
  clear ho wn
  go_enter Try.func8, Try.ntmps8
  go_wp2_with (first
    | (go_at_call 9; refine (new_ok m w h1 h8).mono ?_; rintro e w1 ⟨rfl, hb1, hm1⟩; have HB1 := hid hb1; have HM1 := hid hm1; clear hb1 hm1)
    | (go_at_call 17; refine (rnew_ok m _ h1 h8).mono ?_; rintro e w2 ⟨rfl, ⟨A, ac, FQ, hr2, hq2⟩, hm2⟩; have H2 := hid (two_new HB1.out HM1.out (fun b hb => by simp at hb; omega) hr2 hm2 hq2); clear hr2 hq2 hm2))
  have HW0 := hid H2.out.mod.size
  have H3 := hid (H2.out.add ((Mod.refl [] w2).alloc (.cells (flatC m (cnts (newS m))) 36)) (heap_alloc_new w2 _) (Nat.le_refl _))
  have HC := cnts_new m
  rw [HC] at H3
  clear hmk HC n0 n1 hm
  go_loopw [11] (fun i wr => ∃ (k : Nat) (S : St), k ≤ len ∧ i = .int .i64 k ∧ Hid (Two w wr [(w2.heap.size, .cells (flatC m (cnts S)) 36 (0, 0))] (w.heap.size + 2) w.heap.size (w.heap.size + 1) (w1.heap.size + 1) w1.heap.size A ac S S) ∧ Hid (Ok S (65536 + 4 * k)) ∧ Hid (S.n = m ∧ ∀ i, Bal (S.L i))) (fun i _ => len - (intOf i).toNat)
  case atStart => exact ⟨0, newS m, Nat.zero_le _, rfl, by rw [cnts_new]; exact H3.out, (ok_new h1 h8).mono (by omega), rfl, bal_new m⟩
  case round =>
    obtain ⟨k, S, hk, rfl, hT, hG, hB⟩ := hrel
    by_cases hlt : k < len
    case neg =>
      have hke : k = len := by omega
      clear hlt
      go_wp2_with (go_at_call 21; refine (awake_f _).mono ?_; rintro e w5 ⟨rfl, hm5⟩; have HM5 := hid hm5; clear hm5)
      go_ret
      exact ⟨rfl, (hT.out.mod.trans HM5.out (by simp)).below (Nat.le_refl _) (by simp)⟩
    case pos =>
      obtain ⟨b, off, rfl, hbB, o, x0, x1, x2, x3, x4, x5, hF, hl⟩ := scr_at HO.out hlt
      have y0 : wr.cell? ⟨b, off + k * 6, none⟩ = some (.int .i64 o.x) := (hT.out.mod.cell hbB (by simp)).trans x0
      have y1 : wr.cell? ⟨b, off + k * 6 + 1, none⟩ = some (.int .i64 o.y) := (hT.out.mod.cell hbB (by simp)).trans x1
      have y2 : wr.cell? ⟨b, off + k * 6 + 2, none⟩ = some (.int .i64 o.z) := (hT.out.mod.cell hbB (by simp)).trans x2
      have y3 : wr.cell? ⟨b, off + k * 6 + 3, none⟩ = some (.int .i64 o.u) := (hT.out.mod.cell hbB (by simp)).trans x3
      have y4 : wr.cell? ⟨b, off + k * 6 + 4, none⟩ = some (.bool o.n) := (hT.out.mod.cell hbB (by simp)).trans x4
      have y5 : wr.cell? ⟨b, off + k * 6 + 5, none⟩ = some (.slice o.F o.fr.length o.cf) := (hT.out.mod.cell hbB (by simp)).trans x5
      clear x0 x1 x2 x3 x4 x5 hbB
      have HG2 := hid (ok_play hG.out (by omega) o hF.out.1)
      have HN2 := hid (play_n S o)
      have HB2 := hid (fun i => fine_playS S o i)
      go_wp2_with (go_at_call 18; refine (play_f hT.out hG.out (by omega) o hF.out hl.out).mono ?_; rintro e w3 ⟨rfl, h3⟩; have H3 := hid h3; clear h3)
      clear y0 y1 y2 y3 y4 y5
      obtain ⟨S', hS'⟩ : ∃ S', playS S o = S' := ⟨_, rfl⟩
      rw [hS'] at H3 HG2 HN2 HB2
      have HS' := hid hS'
      clear hS'
      go_loopw [12] (fun i wz => ∃ k2 : Nat, k2 ≤ m ∧ i = .int .i64 k2 ∧ Hid (Two w wz [(w2.heap.size, .cells (flatC m (mixC k2 S' S)) 36 (0, 0))] (w.heap.size + 2) w.heap.size (w.heap.size + 1) (w1.heap.size + 1) w1.heap.size A ac S' S')) (fun i _ => m - (intOf i).toNat)
      case atStart => exact ⟨0, Nat.zero_le _, rfl, by rw [mix_zero]; exact H3.out⟩
      case round =>
        clear hT H3
        obtain ⟨wz, rfl⟩ : ∃ wz : World, wz = wr := ⟨_, rfl⟩
        obtain ⟨k2, hk2, rfl, hI⟩ := hrel
        by_cases hlt2 : k2 < m
        case neg =>
          have hke : k2 = m := by omega
          subst hke
          clear hlt2
          go_wp2
          go_roundw
          case rel => exact ⟨k + 1, S', by omega, by go_num, by rw [← mix_all]; exact hI.out, HG2.out.mono (by omega), by rw [HN2.out]; exact hB.out.1, fun i => (HB2.out i (hB.out.2 i)).1⟩
          case measure => simp [intOf]; omega
        case pos =>
          obtain ⟨x1, e1⟩ : ∃ x, (S'.L k2).c 1 = x := ⟨_, rfl⟩
          obtain ⟨x2, e2⟩ : ∃ x, (S'.L k2).c 2 = x := ⟨_, rfl⟩
          obtain ⟨x3, e3⟩ : ∃ x, (S'.L k2).c 3 = x := ⟨_, rfl⟩
          obtain ⟨x5, e5⟩ : ∃ x, (S'.L k2).c 5 = x := ⟨_, rfl⟩
          obtain ⟨x7, e7⟩ : ∃ x, (S'.L k2).c 7 = x := ⟨_, rfl⟩
          obtain ⟨x8, e8⟩ : ∃ x, (S'.L k2).c 8 = x := ⟨_, rfl⟩
          obtain ⟨x9, e9⟩ : ∃ x, (S'.L k2).c 9 = x := ⟨_, rfl⟩
          obtain ⟨qn, eq⟩ : ∃ x, (S'.L k2).q.length = x := ⟨_, rfl⟩
          obtain ⟨y0, f0⟩ : ∃ x, count (S.L k2) 0 = x := ⟨_, rfl⟩
          obtain ⟨y1, f1⟩ : ∃ x, count (S.L k2) 1 = x := ⟨_, rfl⟩
          obtain ⟨y2, f2⟩ : ∃ x, count (S.L k2) 2 = x := ⟨_, rfl⟩
          obtain ⟨y3, f3⟩ : ∃ x, count (S.L k2) 3 = x := ⟨_, rfl⟩
          obtain ⟨y4, f4⟩ : ∃ x, count (S.L k2) 4 = x := ⟨_, rfl⟩
          obtain ⟨y5, f5⟩ : ∃ x, count (S.L k2) 5 = x := ⟨_, rfl⟩
          obtain ⟨y6, f6⟩ : ∃ x, count (S.L k2) 6 = x := ⟨_, rfl⟩
          obtain ⟨y7, f7⟩ : ∃ x, count (S.L k2) 7 = x := ⟨_, rfl⟩
          obtain ⟨y8, f8⟩ : ∃ x, count (S.L k2) 8 = x := ⟨_, rfl⟩
          have hkS : k2 < S'.n := by rw [HN2.out, hB.out.1]; exact hlt2
          obtain ⟨⟨hb0, hb4⟩, hu1, hu2, hu3, hu4, hu5, hu7, hu8⟩ := HB2.out k2 (hB.out.2 k2)
          rw [e1, e2, e3] at hb0
          rw [e5, eq, e7, e8] at hb4
          rw [show (S.L k2).c 1 = y1 from f1, e1] at hu1
          rw [show (S.L k2).c 2 = y2 from f2, e2] at hu2
          rw [show (S.L k2).c 3 = y3 from f3, e3] at hu3
          rw [show (S.L k2).c 5 = y5 from f5, e5] at hu5
          rw [show (S.L k2).c 7 = y7 from f7, e7] at hu7
          rw [show (S.L k2).c 8 = y8 from f8, e8] at hu8
          rw [show (S.L k2).c 4 = y4 from f4, hb4] at hu4
          have l1 := HG2.out.lo k2 1 hkS
          have m1 := HG2.out.hi k2 1 hkS
          rw [e1] at l1 m1
          replace m1 : x1 ≤ 10000000000000 := by omega
          have l2 := HG2.out.lo k2 2 hkS
          have m2 := HG2.out.hi k2 2 hkS
          rw [e2] at l2 m2
          replace m2 : x2 ≤ 10000000000000 := by omega
          have l3 := HG2.out.lo k2 3 hkS
          have m3 := HG2.out.hi k2 3 hkS
          rw [e3] at l3 m3
          replace m3 : x3 ≤ 10000000000000 := by omega
          have l5 := HG2.out.lo k2 5 hkS
          have m5 := HG2.out.hi k2 5 hkS
          rw [e5] at l5 m5
          replace m5 : x5 ≤ 10000000000000 := by omega
          have l7 := HG2.out.lo k2 7 hkS
          have m7 := HG2.out.hi k2 7 hkS
          rw [e7] at l7 m7
          replace m7 : x7 ≤ 10000000000000 := by omega
          have l8 := HG2.out.lo k2 8 hkS
          have m8 := HG2.out.hi k2 8 hkS
          rw [e8] at l8 m8
          replace m8 : x8 ≤ 10000000000000 := by omega
          have l9 := HG2.out.lo k2 9 hkS
          have m9 := HG2.out.hi k2 9 hkS
          rw [e9] at l9 m9
          replace m9 : x9 ≤ 10000000000000 := by omega
          have mq := HG2.out.q4 k2 hkS
          rw [eq] at mq
          have HV := hid (show cntA S' (k2 : Int) = .agg #[.int .i64 (x1 + x2 + x3), .int .i64 x1, .int .i64 x2, .int .i64 x3, .int .i64 (x5 + qn + x7 + x8), .int .i64 x5, .int .i64 qn, .int .i64 x7, .int .i64 x8] by rw [cntA_in hkS]; simp only [count]; simp [hb0, hb4, e1, e2, e3, e5, e7, e8, eq])
          have HE := hid (show isE S' (k2 : Int) = 0 by unfold isE; rw [if_pos (isP_nat.2 hkS)])
          have HCr := hid (show creditV S' (k2 : Int) = x9 by unfold creditV; rw [if_pos (isP_nat.2 hkS)]; exact e9)
          have hrow := flatC_row (n := m) (f := mixC k2 S' S) hlt2 (fun j => count (S'.L k2) j)
          rw [mix_succ] at hrow
          simp only [count] at hrow
          simp only [show ((0 : Nat) = 6) = False by simp, show ((1 : Nat) = 6) = False by simp, show ((2 : Nat) = 6) = False by simp, show ((3 : Nat) = 6) = False by simp, show ((4 : Nat) = 6) = False by simp, show ((5 : Nat) = 6) = False by simp, show ((7 : Nat) = 6) = False by simp, show ((8 : Nat) = 6) = False by simp, if_true, if_false, hb0, hb4, e1, e2, e3, e5, e7, e8, eq] at hrow
          have HROW := hid hrow
          have z0 := hid (show mixC k2 S' S k2 0 = y0 by unfold mixC; rw [if_neg (Nat.lt_irrefl _)]; exact f0)
          have z1 := hid (show mixC k2 S' S k2 1 = y1 by unfold mixC; rw [if_neg (Nat.lt_irrefl _)]; exact f1)
          have z2 := hid (show mixC k2 S' S k2 2 = y2 by unfold mixC; rw [if_neg (Nat.lt_irrefl _)]; exact f2)
          have z3 := hid (show mixC k2 S' S k2 3 = y3 by unfold mixC; rw [if_neg (Nat.lt_irrefl _)]; exact f3)
          have z4 := hid (show mixC k2 S' S k2 4 = y4 by unfold mixC; rw [if_neg (Nat.lt_irrefl _)]; exact f4)
          have z5 := hid (show mixC k2 S' S k2 5 = y5 by unfold mixC; rw [if_neg (Nat.lt_irrefl _)]; exact f5)
          have z6 := hid (show mixC k2 S' S k2 6 = y6 by unfold mixC; rw [if_neg (Nat.lt_irrefl _)]; exact f6)
          have z7 := hid (show mixC k2 S' S k2 7 = y7 by unfold mixC; rw [if_neg (Nat.lt_irrefl _)]; exact f7)
          have z8 := hid (show mixC k2 S' S k2 8 = y8 by unfold mixC; rw [if_neg (Nat.lt_irrefl _)]; exact f8)
          have HW := hid HW0.out
          clear e1 e2 e3 e5 e7 e8 e9 eq hb0 hb4 hrow f0 f1 f2 f3 f4 f5 f6 f7 f8
          clear hlt hk hlen hkS
          go_upto_region 15 with (go_at_call 14; refine (Two.counts hI.out (k2 : Int)).mono ?_; rintro e w4 ⟨rfl, hm4⟩; rw [HV.out, HE.out]; have HM4 := hid hm4; clear hm4)
          obtain ⟨w5, hw5, I5, B5⟩ : ∃ w5, w5 = w4.alloc (.cells #[.int .i64 (x1 + x2 + x3), .int .i64 x1, .int .i64 x2, .int .i64 x3, .int .i64 (x5 + qn + x7 + x8), .int .i64 x5, .int .i64 qn, .int .i64 x7, .int .i64 x8] 36) ∧ Hid (Two w w5 [(w2.heap.size, .cells (flatC m (mixC k2 S' S)) 36 (0, 0))] (w.heap.size + 2) w.heap.size (w.heap.size + 1) (w1.heap.size + 1) w1.heap.size A ac S' S') ∧ Hid (Blk w5 w4.heap.size 36 #[.int .i64 (x1 + x2 + x3), .int .i64 x1, .int .i64 x2, .int .i64 x3, .int .i64 (x5 + qn + x7 + x8), .int .i64 x5, .int .i64 qn, .int .i64 x7, .int .i64 x8]) := ⟨_, rfl, ((hI.out.newer HM4.out).newer ((Mod.refl [] w4).alloc _)), Blk.new w4 36 #[.int .i64 (x1 + x2 + x3), .int .i64 x1, .int .i64 x2, .int .i64 x3, .int .i64 (x5 + qn + x7 + x8), .int .i64 x5, .int .i64 qn, .int .i64 x7, .int .i64 x8]⟩
          rw [← hw5]
          clear hw5
          have ho5 : Blk w5 w2.heap.size 36 (flatC m (mixC k2 S' S)) := I5.out.blk List.mem_cons_self
          have c0 : w5.cell? ⟨w4.heap.size, 0, none⟩ = some (.int .i64 (x1 + x2 + x3)) := B5.out.cell 0
          have c1 : w5.cell? ⟨w4.heap.size, 1, none⟩ = some (.int .i64 x1) := B5.out.cell 1
          have c2 : w5.cell? ⟨w4.heap.size, 2, none⟩ = some (.int .i64 x2) := B5.out.cell 2
          have c3 : w5.cell? ⟨w4.heap.size, 3, none⟩ = some (.int .i64 x3) := B5.out.cell 3
          have c4 : w5.cell? ⟨w4.heap.size, 4, none⟩ = some (.int .i64 (x5 + qn + x7 + x8)) := B5.out.cell 4
          have c5 : w5.cell? ⟨w4.heap.size, 5, none⟩ = some (.int .i64 x5) := B5.out.cell 5
          have c6 : w5.cell? ⟨w4.heap.size, 6, none⟩ = some (.int .i64 qn) := B5.out.cell 6
          have c7 : w5.cell? ⟨w4.heap.size, 7, none⟩ = some (.int .i64 x7) := B5.out.cell 7
          have c8 : w5.cell? ⟨w4.heap.size, 8, none⟩ = some (.int .i64 x8) := B5.out.cell 8
          have HO5 := hid ho5
          clear ho5
          have HU := hid (show y1 ≤ x1 ∧ y2 ≤ x2 ∧ y3 ≤ x3 ∧ y4 ≤ x5 + qn + x7 + x8 ∧ y5 ≤ x5 ∧ y7 ≤ x7 ∧ y8 ≤ x8 from ⟨hu1, hu2, hu3, hu4, hu5, hu7, hu8⟩)
          have t3 : decide (4 < (qn : Int)) = false := by simp; omega
          have t4 : decide ((qn : Int) < 0) = false := by simp
          clear hu1 hu2 hu3 hu4 hu5 hu7 hu8
          have HT5 := hid (show decide (x9 < 0) = false by simpa using l9)
          clear l9 m9
          go_upto_region 17 with (go_at_call 13; refine (Two.creditB I5.out (k2 : Int)).mono ?_; rintro e w' ⟨rfl, rfl⟩; rw [HCr.out]; have t5 := HT5.out; clear t3 t4 l1 l2 l3 l5 l7 l8 m1 m2 m3 m5 m7 m8 mq)
          clear t5
          have ho5 := HO5.out
          have o0 : w5.cell? ⟨w2.heap.size, k2 * 9, none⟩ = some (.int .i64 y0) := by
            have h := (ho5.cell (k2 * 9 + 0)).trans (flatC_get (j := 0) hlt2 (by decide))
            rw [z0.out] at h
            exact h
          have o1 : w5.cell? ⟨w2.heap.size, k2 * 9 + 1, none⟩ = some (.int .i64 y1) := by
            have h := (ho5.cell (k2 * 9 + 1)).trans (flatC_get (j := 1) hlt2 (by decide))
            rw [z1.out] at h
            exact h
          have o2 : w5.cell? ⟨w2.heap.size, k2 * 9 + 2, none⟩ = some (.int .i64 y2) := by
            have h := (ho5.cell (k2 * 9 + 2)).trans (flatC_get (j := 2) hlt2 (by decide))
            rw [z2.out] at h
            exact h
          have o3 : w5.cell? ⟨w2.heap.size, k2 * 9 + 3, none⟩ = some (.int .i64 y3) := by
            have h := (ho5.cell (k2 * 9 + 3)).trans (flatC_get (j := 3) hlt2 (by decide))
            rw [z3.out] at h
            exact h
          have o4 : w5.cell? ⟨w2.heap.size, k2 * 9 + 4, none⟩ = some (.int .i64 y4) := by
            have h := (ho5.cell (k2 * 9 + 4)).trans (flatC_get (j := 4) hlt2 (by decide))
            rw [z4.out] at h
            exact h
          have o5 : w5.cell? ⟨w2.heap.size, k2 * 9 + 5, none⟩ = some (.int .i64 y5) := by
            have h := (ho5.cell (k2 * 9 + 5)).trans (flatC_get (j := 5) hlt2 (by decide))
            rw [z5.out] at h
            exact h
          have o6 : w5.cell? ⟨w2.heap.size, k2 * 9 + 6, none⟩ = some (.int .i64 y6) := by
            have h := (ho5.cell (k2 * 9 + 6)).trans (flatC_get (j := 6) hlt2 (by decide))
            rw [z6.out] at h
            exact h
          have o7 : w5.cell? ⟨w2.heap.size, k2 * 9 + 7, none⟩ = some (.int .i64 y7) := by
            have h := (ho5.cell (k2 * 9 + 7)).trans (flatC_get (j := 7) hlt2 (by decide))
            rw [z7.out] at h
            exact h
          have o8 : w5.cell? ⟨w2.heap.size, k2 * 9 + 8, none⟩ = some (.int .i64 y8) := by
            have h := (ho5.cell (k2 * 9 + 8)).trans (flatC_get (j := 8) hlt2 (by decide))
            rw [z8.out] at h
            exact h
          clear ho5
          go_upto_region 18 with fail
          obtain ⟨w6, hw6, I6, D6, B6, O6⟩ : ∃ w6, w6 = w5.alloc (.cells #[.int .i64 y0, .int .i64 y1, .int .i64 y2, .int .i64 y3, .int .i64 y4, .int .i64 y5, .int .i64 y6, .int .i64 y7, .int .i64 y8] 36) ∧ Hid (Two w w6 [(w2.heap.size, .cells (flatC m (mixC k2 S' S)) 36 (0, 0))] (w.heap.size + 2) w.heap.size (w.heap.size + 1) (w1.heap.size + 1) w1.heap.size A ac S' S') ∧ Hid (Blk w6 w5.heap.size 36 #[.int .i64 y0, .int .i64 y1, .int .i64 y2, .int .i64 y3, .int .i64 y4, .int .i64 y5, .int .i64 y6, .int .i64 y7, .int .i64 y8]) ∧ Hid (Blk w6 w4.heap.size 36 #[.int .i64 (x1 + x2 + x3), .int .i64 x1, .int .i64 x2, .int .i64 x3, .int .i64 (x5 + qn + x7 + x8), .int .i64 x5, .int .i64 qn, .int .i64 x7, .int .i64 x8]) ∧ Hid (Blk w6 w2.heap.size 36 (flatC m (mixC k2 S' S))) := ⟨_, rfl, (I5.out.newer ((Mod.refl [] w5).alloc _)), Blk.new w5 36 #[.int .i64 y0, .int .i64 y1, .int .i64 y2, .int .i64 y3, .int .i64 y4, .int .i64 y5, .int .i64 y6, .int .i64 y7, .int .i64 y8], B5.out.mod ((Mod.refl [] w5).alloc _) (by simp), HO5.out.mod ((Mod.refl [] w5).alloc _) (by simp)⟩
          rw [← hw6]
          clear hw6 c0 o0 c1 o1 c2 o2 c3 o3 c4 o4 c5 o5 c6 o6 c7 o7 c8 o8
          have c0 : w6.cell? ⟨w4.heap.size, 0, none⟩ = some (.int .i64 (x1 + x2 + x3)) := B6.out.cell 0
          have c1 : w6.cell? ⟨w4.heap.size, 1, none⟩ = some (.int .i64 x1) := B6.out.cell 1
          have c2 : w6.cell? ⟨w4.heap.size, 2, none⟩ = some (.int .i64 x2) := B6.out.cell 2
          have c3 : w6.cell? ⟨w4.heap.size, 3, none⟩ = some (.int .i64 x3) := B6.out.cell 3
          have c4 : w6.cell? ⟨w4.heap.size, 4, none⟩ = some (.int .i64 (x5 + qn + x7 + x8)) := B6.out.cell 4
          have c5 : w6.cell? ⟨w4.heap.size, 5, none⟩ = some (.int .i64 x5) := B6.out.cell 5
          have c6 : w6.cell? ⟨w4.heap.size, 6, none⟩ = some (.int .i64 qn) := B6.out.cell 6
          have c7 : w6.cell? ⟨w4.heap.size, 7, none⟩ = some (.int .i64 x7) := B6.out.cell 7
          have c8 : w6.cell? ⟨w4.heap.size, 8, none⟩ = some (.int .i64 x8) := B6.out.cell 8
          have d0 : w6.cell? ⟨w5.heap.size, 0, none⟩ = some (.int .i64 y0) := D6.out.cell 0
          have d1 : w6.cell? ⟨w5.heap.size, 1, none⟩ = some (.int .i64 y1) := D6.out.cell 1
          have d2 : w6.cell? ⟨w5.heap.size, 2, none⟩ = some (.int .i64 y2) := D6.out.cell 2
          have d3 : w6.cell? ⟨w5.heap.size, 3, none⟩ = some (.int .i64 y3) := D6.out.cell 3
          have d4 : w6.cell? ⟨w5.heap.size, 4, none⟩ = some (.int .i64 y4) := D6.out.cell 4
          have d5 : w6.cell? ⟨w5.heap.size, 5, none⟩ = some (.int .i64 y5) := D6.out.cell 5
          have d6 : w6.cell? ⟨w5.heap.size, 6, none⟩ = some (.int .i64 y6) := D6.out.cell 6
          have d7 : w6.cell? ⟨w5.heap.size, 7, none⟩ = some (.int .i64 y7) := D6.out.cell 7
          have d8 : w6.cell? ⟨w5.heap.size, 8, none⟩ = some (.int .i64 y8) := D6.out.cell 8
          have o0 : w6.cell? ⟨w2.heap.size, k2 * 9, none⟩ = some (.int .i64 y0) := by
            have h := (O6.out.cell (k2 * 9 + 0)).trans (flatC_get (j := 0) hlt2 (by decide))
            rw [z0.out] at h
            exact h
          have o1 : w6.cell? ⟨w2.heap.size, k2 * 9 + 1, none⟩ = some (.int .i64 y1) := by
            have h := (O6.out.cell (k2 * 9 + 1)).trans (flatC_get (j := 1) hlt2 (by decide))
            rw [z1.out] at h
            exact h
          have o2 : w6.cell? ⟨w2.heap.size, k2 * 9 + 2, none⟩ = some (.int .i64 y2) := by
            have h := (O6.out.cell (k2 * 9 + 2)).trans (flatC_get (j := 2) hlt2 (by decide))
            rw [z2.out] at h
            exact h
          have o3 : w6.cell? ⟨w2.heap.size, k2 * 9 + 3, none⟩ = some (.int .i64 y3) := by
            have h := (O6.out.cell (k2 * 9 + 3)).trans (flatC_get (j := 3) hlt2 (by decide))
            rw [z3.out] at h
            exact h
          have o4 : w6.cell? ⟨w2.heap.size, k2 * 9 + 4, none⟩ = some (.int .i64 y4) := by
            have h := (O6.out.cell (k2 * 9 + 4)).trans (flatC_get (j := 4) hlt2 (by decide))
            rw [z4.out] at h
            exact h
          have o5 : w6.cell? ⟨w2.heap.size, k2 * 9 + 5, none⟩ = some (.int .i64 y5) := by
            have h := (O6.out.cell (k2 * 9 + 5)).trans (flatC_get (j := 5) hlt2 (by decide))
            rw [z5.out] at h
            exact h
          have o6 : w6.cell? ⟨w2.heap.size, k2 * 9 + 6, none⟩ = some (.int .i64 y6) := by
            have h := (O6.out.cell (k2 * 9 + 6)).trans (flatC_get (j := 6) hlt2 (by decide))
            rw [z6.out] at h
            exact h
          have o7 : w6.cell? ⟨w2.heap.size, k2 * 9 + 7, none⟩ = some (.int .i64 y7) := by
            have h := (O6.out.cell (k2 * 9 + 7)).trans (flatC_get (j := 7) hlt2 (by decide))
            rw [z7.out] at h
            exact h
          have o8 : w6.cell? ⟨w2.heap.size, k2 * 9 + 8, none⟩ = some (.int .i64 y8) := by
            have h := (O6.out.cell (k2 * 9 + 8)).trans (flatC_get (j := 8) hlt2 (by decide))
            rw [z8.out] at h
            exact h
          have g0 : w6.frozen? ⟨w2.heap.size, k2 * 9, none⟩ = false := O6.out.frozen _
          have g1 : w6.frozen? ⟨w2.heap.size, k2 * 9 + 1, none⟩ = false := O6.out.frozen _
          have g2 : w6.frozen? ⟨w2.heap.size, k2 * 9 + 2, none⟩ = false := O6.out.frozen _
          have g3 : w6.frozen? ⟨w2.heap.size, k2 * 9 + 3, none⟩ = false := O6.out.frozen _
          have g4 : w6.frozen? ⟨w2.heap.size, k2 * 9 + 4, none⟩ = false := O6.out.frozen _
          have g5 : w6.frozen? ⟨w2.heap.size, k2 * 9 + 5, none⟩ = false := O6.out.frozen _
          have g6 : w6.frozen? ⟨w2.heap.size, k2 * 9 + 6, none⟩ = false := O6.out.frozen _
          have g7 : w6.frozen? ⟨w2.heap.size, k2 * 9 + 7, none⟩ = false := O6.out.frozen _
          have g8 : w6.frozen? ⟨w2.heap.size, k2 * 9 + 8, none⟩ = false := O6.out.frozen _
          obtain ⟨hu1, hu2, hu3, hu4, hu5, hu7, hu8⟩ := HU.out
          have t1 : decide (x1 < y1) = false := by simpa using hu1
          have t2 : decide (x2 < y2) = false := by simpa using hu2
          have t3 : decide (x3 < y3) = false := by simpa using hu3
          have t4 : decide (x5 + qn + x7 + x8 < y4) = false := by simpa using hu4
          have t5 : decide (x5 < y5) = false := by simpa using hu5
          have t7 : decide (x7 < y7) = false := by simpa using hu7
          have t8 : decide (x8 < y8) = false := by simpa using hu8
          clear hu1 hu2 hu3 hu4 hu5 hu7 hu8
          go_upto_region 20 with fail
          clear t1 t2 t3 t4 t5 t7 t8 d0 d1 d2 d3 d4 d5 d6 d7 d8
          go_wp2
          go_roundw
          case rel =>
            have hbk := (Blk.set_ (Blk.set_ (Blk.set_ (Blk.set_ (Blk.set_ (Blk.set_ (Blk.set_ (Blk.set_ (Blk.set_ O6.out (k2 * 9) (.int .i64 (x1 + x2 + x3))) (k2 * 9 + 1) (.int .i64 x1)) (k2 * 9 + 2) (.int .i64 x2)) (k2 * 9 + 3) (.int .i64 x3)) (k2 * 9 + 4) (.int .i64 (x5 + qn + x7 + x8))) (k2 * 9 + 5) (.int .i64 x5)) (k2 * 9 + 6) (.int .i64 qn)) (k2 * 9 + 7) (.int .i64 x7)) (k2 * 9 + 8) (.int .i64 x8))
            rw [HROW.out] at hbk
            exact ⟨k2 + 1, by omega, by go_num, I6.out.turn ((((((((((Mod.refl [w2.heap.size] w6).setCell (.inl (by simp)) _).setCell (.inl (by simp)) _).setCell (.inl (by simp)) _).setCell (.inl (by simp)) _).setCell (.inl (by simp)) _).setCell (.inl (by simp)) _).setCell (.inl (by simp)) _).setCell (.inl (by simp)) _).setCell (.inl (by simp)) _) hbk (by simp) HW.out⟩
          case measure => simp [intOf]; omega

end Go.Proofs.Ytkdhkloabbcipaa
