/-
  Layer 14: BridgeCredits: the walk.
-/
import Derived.Test.YtkdhkloabbcipaaE
import Derived.Test.YtkdhkloabbcipaaOk
import Derived.Test.YtkdhkloabbcipaaArgs
namespace Go.Proofs.Ytkdhkloabbcipaa
open Go.RowKit Go.Tn Go.Tn.P14

/-- Two ports: the first one's credit, burst, rate; the other has none. -/
structure V2 (S : St) (cr bu ra : Int) : Prop where
  n2 : S.n = 2
  c9 : (S.L 0).c 9 = cr
  c10 : (S.L 0).c 10 = bu
  c11 : (S.L 0).c 11 = ra
  o9 : (S.L 1).c 9 = 0
  o10 : (S.L 1).c 10 = 0
  o11 : (S.L 1).c 11 = 0

theorem V2.send {S : St} {cr bu ra : Int} (h : V2 S cr bu ra) (fr : List Int) : V2 (sendS S 0 fr) (if sendE S 0 fr = 0 then cr - fr.length else cr) bu ra := by
  have hk : 0 < S.n := by rw [h.n2]; decide
  have hn : (sendS S 0 fr).n = S.n := by
    unfold sendS; split
    · rfl
    · split
      · rfl
      · split <;> rfl
  have s := fun i j hj => send_hi S hk fr i (j := j) hj
  simp only [Int.natCast_zero, show ((0 : Nat) : Int) = 0 from rfl] at s
  refine ⟨by rw [hn, h.n2], ?_, ?_, ?_, ?_, ?_, ?_⟩
  · rw [s 0 9 (by decide), h.c9]; simp
  · rw [s 0 10 (by decide), h.c10]; simp
  · rw [s 0 11 (by decide), h.c11]; simp
  · rw [s 1 9 (by decide), h.o9]; simp
  · rw [s 1 10 (by decide), h.o10]; simp
  · rw [s 1 11 (by decide), h.o11]; simp
theorem V2.tick {S : St} {cr bu ra : Int} (h : V2 S cr bu ra) : V2 (tickS S) (if cr + ra < bu then cr + ra else bu) bu ra := by
  have h0 : (tickS S).L 0 = tickP (S.L 0) := by simp [tickS, tickTo, h.n2]
  have h1 : (tickS S).L 1 = tickP (S.L 1) := by simp [tickS, tickTo, h.n2]
  refine ⟨h.n2, ?_, ?_, ?_, ?_, ?_, ?_⟩
  · rw [h0]; simp only [tickP, set_c, if_true, h.c9, h.c10, h.c11]; split <;> omega
  · rw [h0]; simp [tickP, set_c, h.c10]
  · rw [h0]; simp [tickP, set_c, h.c11]
  · rw [h1]; simp [tickP, set_c, h.o9, h.o10, h.o11]
  · rw [h1]; simp [tickP, set_c, h.o10]
  · rw [h1]; simp [tickP, set_c, h.o11]
theorem V2.credit0 {S : St} {cr bu ra : Int} (h : V2 S cr bu ra) : creditV S 0 = cr := by
  simp [creditV, isP, h.n2, h.c9]
theorem V2.credit1 {S : St} {cr bu ra : Int} (h : V2 S cr bu ra) : creditV S 1 = 0 := by
  simp [creditV, isP, h.n2, h.o9]
theorem V2.rate1 {S : St} : rateE S 0 65536 65537 = 1 := by simp [rateE, okC]
theorem v2_start {bu ra : Int} (hb : okC bu = true) (hr : okC ra = true) : rateE (newS 2) 0 bu ra = 0 ∧ V2 (rateS (newS 2) 0 bu ra) bu bu ra := by
  have hp : isP (newS 2) 0 = true := by simp [isP, newS]
  constructor
  · simp [rateE, hp, hb, hr]
  · simp only [rateS, hp, hb, hr, Bool.and_self, if_true]
    refine ⟨rfl, ?_, ?_, ?_, ?_, ?_, ?_⟩ <;> simp [onP, P14.upd, set_c, newS]

theorem zeros_ok {n : Nat} (h2 : 2 ≤ n) (h128 : n ≤ 128) : badF (List.replicate n (0 : Int)) = false := by
  have h1 : 1 < n := by omega
  simp [badF, fAt, h1]
  omega
theorem send_zeros {S : St} {cr bu ra : Int} (h : V2 S cr bu ra) {n : Nat} (h2 : 2 ≤ n) (h128 : n ≤ 128) : sendE S 0 (List.replicate n 0) = if cr < n then 71 else 0 := by
  have hp : isP S 0 = true := by simp [isP, h.n2]
  simp [sendE, hp, zeros_ok h2 h128, h.c9]

def zeros (n : Nat) : Array Value := madeCells #[.int .u8 0] n
theorem zeros_get {n j : Nat} (h : j < n) : (zeros n)[j]? = some (.int .u8 0) := by
  have h2 : (madeCells #[.int .u8 0] n).toList = List.replicate n (.int .u8 0) := toList_madeCells_one _ _
  rw [← Array.getElem?_toList, zeros, h2]
  simp [h]
theorem make_bytes (n : Nat) (x : Int) (hx : x = n) (hn : n ≤ 140737488355328) (w : World) : (Instr.makeSlice 23 (.int .i64 x) (.int .i64 x)).run Try.prog w = .ok (.slice (some ⟨w.heap.size, 0, none⟩) n n) (w.alloc (.cells (zeros n) 5)) := by
  obtain ⟨i5, hi5, hz0, hz1, hz2⟩ := info_parts info5
  subst hx
  have hr := run_make (P := Try.prog) w 23 5 i5 _ Try.underlying23 hi5 hz0 .i64 .i64 n n (by omega) (Int.le_refl _) (by rw [hz2]; omega) (by omega)
  rw [hz1] at hr
  simp only [Int.toNat_natCast, Nat.mul_one] at hr
  exact hr

/-- A frame of zeros is sent from the first port. -/
theorem send_zeros_f {w : World} {p bp bk g n : Nat} {FP : List Nat} {C : Nat → Option Addr × Nat} {S : St} (h : BM w p bp bk FP C S) {M cr bu ra : Int} (G : Ok S M) (hM : M ≤ 1152921504606846976) (V : V2 S cr bu ra) (hb : Blk w g 5 (zeros n)) (hg : g ∉ FP) (h2 : 2 ≤ n) (h128 : n ≤ 128) :
    Calls Try.prog 11 #[.pointer (some ⟨p, 0, none⟩), .int .i64 0, .slice (some ⟨g, 0, none⟩) n n] w fun e w' => e = .returned (.int .i64 (if cr < n then 71 else 0)) ∧
      ∃ S', Aft w w' p bp bk FP S' ∧ Ok S' (M + 1) ∧ V2 S' (if cr < n then cr else cr - n) bu ra := by
  have hby : ∀ y, y ∈ List.replicate n (0 : Int) → 0 ≤ y ∧ y ≤ 255 := fun y hy => by
    have := List.eq_of_mem_replicate hy
    omega
  have hA : Arg w (some ⟨g, 0, none⟩) (List.replicate n 0) FP := by
    refine ⟨⟨hby, fun _ => ⟨g, 0, rfl, hb.lt, fun j y hj => ?_⟩⟩, fun b hb' => by simp [blkOf] at hb'; rw [hb']; exact hg, by simp; omega⟩
    have hjl := (List.getElem?_eq_some_iff.1 hj).1
    simp at hjl
    have : y = 0 := by simpa [hjl] using hj.symm
    rw [this, Nat.zero_add, hb.cell, zeros_get hjl]
  have hs := send_f (cf := n) h G hM hA 0
  rw [List.length_replicate, send_zeros V h2 h128] at hs
  refine hs.mono ?_
  rintro e w' ⟨rfl, ha⟩
  have hv := V.send (List.replicate n 0)
  rw [send_zeros V h2 h128, List.length_replicate] at hv
  refine ⟨rfl, _, ha, ok_send G 0 hby, ?_⟩
  by_cases hc : cr < n
  · simpa [hc] using hv
  · simpa [hc] using hv

set_option maxRecDepth 100000 in
set_option maxHeartbeats 4000000 in
theorem credits_walk (bu : Int) (wbu : (Lit.int .u16 bu).wf = true) (ra : Int) (wra : (Lit.int .u16 ra).wf = true) (a2 : Option Addr) (len2 cap2 : Nat) (a3 : Option Addr) (len3 cap3 : Nat) (w : World) (o2 : IsU8s w a2 len2) (o3 : IsBools w a3 len3) :
    Calls Try.prog 3 #[.int .u16 bu, .int .u16 ra, .slice a2 len2 cap2, .slice a3 len3 cap3] w fun e w' => e = .returned (.bool true) ∧ Below w.heap.size w w' := by
  have hbu : 0 ≤ bu ∧ bu ≤ 65535 := bounds_u16 wbu
  have hra : 0 ≤ ra ∧ ra ≤ 65535 := bounds_u16 wra
  obtain ⟨b0, b1⟩ := hbu
  obtain ⟨r0, r1⟩ := hra
  have hl2 := o2.1
  have hl3 := o3.1
  have O2 := hid o2.2
  have O3 := hid o3.2
  have hst := v2_start (bu := bu) (ra := ra) (by simp [okC]; omega) (by simp [okC]; omega)
  have HST := hid hst
  clear o2 o3 hst wbu wra
  go_enter Try.func3, Try.ntmps3
  go_wp2_with (first
    | (go_at_call 9; refine (new_ok 2 w (by decide) (by decide)).mono ?_; rintro e w1 ⟨rfl, h1, hm1⟩; have H1 := hid h1; have HM1 := hid hm1; clear h1 hm1)
    | (go_at_call 10; refine (rate_f H1.out 0 bu ra).mono ?_; rintro e w2 ⟨rfl, h2, hm2⟩; rw [HST.out.1]; have H2 := hid h2; have HM2 := hid (HM1.out.trans (hm2) (by simp)); clear h2 hm2))
  have c0 := H2.out.c0
  have hw2 : w.heap.size ≤ w2.heap.size := HM2.out.size
  go_loopw [11, 12] (fun cr i wr => ∃ (k : Nat) (c : Int) (S : St) (FP : List Nat) (C : Nat → Option Addr × Nat), k ≤ len2 ∧ i = .int .i64 k ∧ cr = .int .i64 c ∧ 0 ≤ c ∧ c ≤ 65536 ∧
      Hid (BM wr (w.heap.size + 2) w.heap.size (w.heap.size + 1) FP C S) ∧ Hid (Ok S (65536 + k)) ∧ Hid (V2 S c bu ra) ∧ Hid (∀ b, b ∈ FP → w.heap.size ≤ b) ∧ Hid (Mod [] w wr)) (fun _ i _ => len2 - (intOf i).toNat)
  case atStart =>
    refine ⟨0, bu, _, _, _, Nat.zero_le _, rfl, rfl, by omega, by omega, H2.out, ?_, HST.out.2, fun b hb => ?_, HM2.out⟩
    · exact ok_rate ((ok_new (by decide) (by decide)).mono (by omega)) (by omega) _ _ _
    · simp at hb; omega
  case round =>
    obtain ⟨k, c, S, FP, C, hk, rfl, rfl, hc0, hc1, hb, hG, hV, hF, hm⟩ := hrel
    by_cases hlt : k < len2
    case neg =>
      have hke : k = len2 := by omega
      clear hlt
      go_wp2_with fail
      refine (credit_f hb.out 0).mono ?_
      rintro e w5 ⟨rfl, rfl⟩
      rw [hV.out.credit0]
      go_wp2_with fail
      refine (credit_f hb.out 1).mono ?_
      rintro e w5 ⟨rfl, rfl⟩
      rw [hV.out.credit1]
      go_wp2_with fail
      refine (rate_f hb.out 0 65536 65537).mono ?_
      rintro e w6 ⟨rfl, h6, m6⟩
      rw [V2.rate1]
      have M6 := hid m6
      clear h6 m6
      go_wp2
      go_ret
      exact ⟨rfl, (hm.out.trans M6.out (fun t ht => .inr (by simp at ht; omega))).below (Nat.le_refl _) (by simp)⟩
    case pos =>
      obtain ⟨b2, off2, rfl, hb2, Y, hY⟩ := O2.out (by omega)
      obtain ⟨hy, hy0, hy1⟩ := hY k hlt
      have y0 : wr.cell? ⟨b2, off2 + k, none⟩ = some (.int .u8 (Y k)) := (hm.out.cell hb2 (by simp)).trans hy
      obtain ⟨n, hn⟩ : ∃ n : Nat, 2 + Y k % 127 = (n : Int) := ⟨(2 + Y k % 127).toNat, by omega⟩
      have hn2 : 2 ≤ n := by omega
      have hn128 : n ≤ 128 := by omega
      have hmk := make_bytes n n rfl (by omega)
      clear hy hY
      have HGF := hid (show wr.heap.size ∉ FP from fun h => by have := hb.out.rows.old _ h; omega)
      have hcase : (len3 ≤ k) ∨ (k < len3 ∧ ∃ b3 off3 B, a3 = some ⟨b3, off3, none⟩ ∧ Hid (∀ w', Mod FP (wr.alloc (.cells (zeros n) 5)) w' → w'.cell? ⟨b3, off3 + k, none⟩ = some (.bool B))) := by
        by_cases h3 : k < len3
        · obtain ⟨b3, off3, e3, hb3, Z, hZ⟩ := O3.out (by omega)
          refine .inr ⟨h3, b3, off3, Z k, e3, fun w' m => ?_⟩
          have hsz := hm.out.size
          have e1 := m.cell (p := ⟨b3, off3 + k, none⟩) (by simp; omega) (fun h => by have := hF.out b3 h; omega)
          have e2 := ((Mod.refl [] wr).alloc (.cells (zeros n) 5)).cell (p := ⟨b3, off3 + k, none⟩) (show b3 < wr.heap.size by omega) (by simp)
          exact e1.trans (e2.trans ((hm.out.cell hb3 (by simp)).trans (hZ k h3)))
        · exact .inl (by omega)
      rcases hcase with h3 | ⟨h3, b3, off3, B, rfl, HZ⟩
      case' inr => rcases (show B = true ∨ B = false by cases B <;> simp) with hB | hB
      case' inr.inl => subst hB
      case' inr.inr => subst hB
      all_goals (rcases (show c < (n : Int) ∨ ¬ c < (n : Int) by omega) with hc | hc)
      case inl.inl =>
        go_wp2_with (first
                  | (go_at_call 11; refine (send_zeros_f (n := n) (hb.out.newer ((Mod.refl [] wr).alloc (.cells (zeros n) 5))) hG.out (by omega) hV.out (Blk.new wr 5 (zeros n)) HGF.out hn2 hn128).mono ?_; rintro e w3 ⟨rfl, S1, ⟨FP1, C1, h1, s1⟩, g1, v1⟩; rw [if_pos hc]; rw [if_pos hc] at v1; have H1' := hid h1; have S1' := hid s1; have G1' := hid g1; have V1' := hid v1; clear h1 s1 g1 v1)
                  | (go_at_call 12; refine (tick_f H1'.out G1'.out.cr G1'.out.lo G1'.out.n8).mono ?_; rintro e w4 ⟨rfl, h4, m4⟩; have H4 := hid h4; have M4 := hid m4; clear h4 m4)
                  | (go_at_call 13; refine (credit_f H1'.out 0).mono ?_; rintro e w5 ⟨rfl, rfl⟩; rw [V1'.out.credit0]))
        go_roundw
        case rel =>
          refine ⟨k + 1, c, S1, FP1, C1, by omega, by go_num, by first | rfl | go_num, ?_, ?_, H1'.out, ?_, V1'.out, ?_, ?_⟩
          · omega
          · omega
          · exact G1'.out.mono (by omega)
          · exact fun b hb' => by
              rcases S1'.out.new b hb' with h | h
              · exact hF.out b h
              · have := hm.out.size; simp at h; omega
          · exact ((hm.out.alloc (.cells (zeros n) 5)).trans S1'.out.mod (fun t ht => .inr (hF.out t ht)))
        case measure => simp [intOf]; omega
      case inl.inr =>
        go_wp2_with (first
                  | (go_at_call 11; refine (send_zeros_f (n := n) (hb.out.newer ((Mod.refl [] wr).alloc (.cells (zeros n) 5))) hG.out (by omega) hV.out (Blk.new wr 5 (zeros n)) HGF.out hn2 hn128).mono ?_; rintro e w3 ⟨rfl, S1, ⟨FP1, C1, h1, s1⟩, g1, v1⟩; rw [if_neg hc]; rw [if_neg hc] at v1; have H1' := hid h1; have S1' := hid s1; have G1' := hid g1; have V1' := hid v1; clear h1 s1 g1 v1)
                  | (go_at_call 12; refine (tick_f H1'.out G1'.out.cr G1'.out.lo G1'.out.n8).mono ?_; rintro e w4 ⟨rfl, h4, m4⟩; have H4 := hid h4; have M4 := hid m4; clear h4 m4)
                  | (go_at_call 13; refine (credit_f H1'.out 0).mono ?_; rintro e w5 ⟨rfl, rfl⟩; rw [V1'.out.credit0]))
        go_roundw
        case rel =>
          refine ⟨k + 1, c - (n : Int), S1, FP1, C1, by omega, by go_num, by first | rfl | go_num, ?_, ?_, H1'.out, ?_, V1'.out, ?_, ?_⟩
          · omega
          · omega
          · exact G1'.out.mono (by omega)
          · exact fun b hb' => by
              rcases S1'.out.new b hb' with h | h
              · exact hF.out b h
              · have := hm.out.size; simp at h; omega
          · exact ((hm.out.alloc (.cells (zeros n) 5)).trans S1'.out.mod (fun t ht => .inr (hF.out t ht)))
        case measure => simp [intOf]; omega
      case inr.inl.inl =>
        go_wp2_with (first
                  | (go_at_call 11; refine (send_zeros_f (n := n) (hb.out.newer ((Mod.refl [] wr).alloc (.cells (zeros n) 5))) hG.out (by omega) hV.out (Blk.new wr 5 (zeros n)) HGF.out hn2 hn128).mono ?_; rintro e w3 ⟨rfl, S1, ⟨FP1, C1, h1, s1⟩, g1, v1⟩; rw [if_pos hc]; rw [if_pos hc] at v1; have z3 := HZ.out w3 s1.mod; have H1' := hid h1; have S1' := hid s1; have G1' := hid g1; have V1' := hid v1; clear h1 s1 g1 v1)
                  | (go_at_call 12; refine (tick_f H1'.out G1'.out.cr G1'.out.lo G1'.out.n8).mono ?_; rintro e w4 ⟨rfl, h4, m4⟩; have H4 := hid h4; have M4 := hid m4; clear h4 m4)
                  | (go_at_call 13; refine (credit_f H4.out 0).mono ?_; rintro e w5 ⟨rfl, rfl⟩; rw [V1'.out.tick.credit0]))
        go_roundw
        case rel =>
          refine ⟨k + 1, (if c + ra < bu then c + ra else bu), tickS S1, FP1, C1, by omega, by go_num, by first | rfl | go_num, ?_, ?_, H4.out, ?_, V1'.out.tick, ?_, ?_⟩
          · split <;> omega
          · split <;> omega
          · exact (ok_tick G1'.out (by omega)).mono (by omega)
          · exact fun b hb' => by
              rcases S1'.out.new b hb' with h | h
              · exact hF.out b h
              · have := hm.out.size; simp at h; omega
          · exact ((hm.out.alloc (.cells (zeros n) 5)).trans S1'.out.mod (fun t ht => .inr (hF.out t ht))).trans M4.out (fun t ht => .inr (by simp at ht; omega))
        case measure => simp [intOf]; omega
      case inr.inl.inr =>
        go_wp2_with (first
                  | (go_at_call 11; refine (send_zeros_f (n := n) (hb.out.newer ((Mod.refl [] wr).alloc (.cells (zeros n) 5))) hG.out (by omega) hV.out (Blk.new wr 5 (zeros n)) HGF.out hn2 hn128).mono ?_; rintro e w3 ⟨rfl, S1, ⟨FP1, C1, h1, s1⟩, g1, v1⟩; rw [if_neg hc]; rw [if_neg hc] at v1; have z3 := HZ.out w3 s1.mod; have H1' := hid h1; have S1' := hid s1; have G1' := hid g1; have V1' := hid v1; clear h1 s1 g1 v1)
                  | (go_at_call 12; refine (tick_f H1'.out G1'.out.cr G1'.out.lo G1'.out.n8).mono ?_; rintro e w4 ⟨rfl, h4, m4⟩; have H4 := hid h4; have M4 := hid m4; clear h4 m4)
                  | (go_at_call 13; refine (credit_f H4.out 0).mono ?_; rintro e w5 ⟨rfl, rfl⟩; rw [V1'.out.tick.credit0]))
        go_roundw
        case rel =>
          refine ⟨k + 1, (if c - (n : Int) + ra < bu then c - (n : Int) + ra else bu), tickS S1, FP1, C1, by omega, by go_num, by first | rfl | go_num, ?_, ?_, H4.out, ?_, V1'.out.tick, ?_, ?_⟩
          · split <;> omega
          · split <;> omega
          · exact (ok_tick G1'.out (by omega)).mono (by omega)
          · exact fun b hb' => by
              rcases S1'.out.new b hb' with h | h
              · exact hF.out b h
              · have := hm.out.size; simp at h; omega
          · exact ((hm.out.alloc (.cells (zeros n) 5)).trans S1'.out.mod (fun t ht => .inr (hF.out t ht))).trans M4.out (fun t ht => .inr (by simp at ht; omega))
        case measure => simp [intOf]; omega
      case inr.inr.inl =>
        go_wp2_with (first
                  | (go_at_call 11; refine (send_zeros_f (n := n) (hb.out.newer ((Mod.refl [] wr).alloc (.cells (zeros n) 5))) hG.out (by omega) hV.out (Blk.new wr 5 (zeros n)) HGF.out hn2 hn128).mono ?_; rintro e w3 ⟨rfl, S1, ⟨FP1, C1, h1, s1⟩, g1, v1⟩; rw [if_pos hc]; rw [if_pos hc] at v1; have z3 := HZ.out w3 s1.mod; have H1' := hid h1; have S1' := hid s1; have G1' := hid g1; have V1' := hid v1; clear h1 s1 g1 v1)
                  | (go_at_call 12; refine (tick_f H1'.out G1'.out.cr G1'.out.lo G1'.out.n8).mono ?_; rintro e w4 ⟨rfl, h4, m4⟩; have H4 := hid h4; have M4 := hid m4; clear h4 m4)
                  | (go_at_call 13; refine (credit_f H1'.out 0).mono ?_; rintro e w5 ⟨rfl, rfl⟩; rw [V1'.out.credit0]))
        go_roundw
        case rel =>
          refine ⟨k + 1, c, S1, FP1, C1, by omega, by go_num, by first | rfl | go_num, ?_, ?_, H1'.out, ?_, V1'.out, ?_, ?_⟩
          · omega
          · omega
          · exact G1'.out.mono (by omega)
          · exact fun b hb' => by
              rcases S1'.out.new b hb' with h | h
              · exact hF.out b h
              · have := hm.out.size; simp at h; omega
          · exact ((hm.out.alloc (.cells (zeros n) 5)).trans S1'.out.mod (fun t ht => .inr (hF.out t ht)))
        case measure => simp [intOf]; omega
      case inr.inr.inr =>
        go_wp2_with (first
                  | (go_at_call 11; refine (send_zeros_f (n := n) (hb.out.newer ((Mod.refl [] wr).alloc (.cells (zeros n) 5))) hG.out (by omega) hV.out (Blk.new wr 5 (zeros n)) HGF.out hn2 hn128).mono ?_; rintro e w3 ⟨rfl, S1, ⟨FP1, C1, h1, s1⟩, g1, v1⟩; rw [if_neg hc]; rw [if_neg hc] at v1; have z3 := HZ.out w3 s1.mod; have H1' := hid h1; have S1' := hid s1; have G1' := hid g1; have V1' := hid v1; clear h1 s1 g1 v1)
                  | (go_at_call 12; refine (tick_f H1'.out G1'.out.cr G1'.out.lo G1'.out.n8).mono ?_; rintro e w4 ⟨rfl, h4, m4⟩; have H4 := hid h4; have M4 := hid m4; clear h4 m4)
                  | (go_at_call 13; refine (credit_f H1'.out 0).mono ?_; rintro e w5 ⟨rfl, rfl⟩; rw [V1'.out.credit0]))
        go_roundw
        case rel =>
          refine ⟨k + 1, c - (n : Int), S1, FP1, C1, by omega, by go_num, by first | rfl | go_num, ?_, ?_, H1'.out, ?_, V1'.out, ?_, ?_⟩
          · omega
          · omega
          · exact G1'.out.mono (by omega)
          · exact fun b hb' => by
              rcases S1'.out.new b hb' with h | h
              · exact hF.out b h
              · have := hm.out.size; simp at h; omega
          · exact ((hm.out.alloc (.cells (zeros n) 5)).trans S1'.out.mod (fun t ht => .inr (hF.out t ht)))
        case measure => simp [intOf]; omega


end Go.Proofs.Ytkdhkloabbcipaa
