/-
  Layer 12: ImagePlays: the walk.
-/
import Derived.Test.YtpabfghpfigoaaaPy
import Derived.Deep.RegionHeld3
namespace Go.Proofs.Ytpabfghpfigoaaa
open Go.RowKit Go.Tn Go.Shelf
open Go.Proofs

/-- The bytes of 'mine': some bytes. -/
def U8s (cs : Array Value) (len : Nat) : Prop := ∀ t, t < len → ∃ n, cs[t]? = some (.int .u8 n)
theorem U8s.set {cs : Array Value} {len j : Nat} (h : U8s cs len) (hj : j < len) (n : Int) : U8s (cs.setIfInBounds j (.int .u8 n)) len := fun t ht => by
  rw [Array.getElem?_setIfInBounds]
  by_cases e : j = t
  · subst e
    obtain ⟨n0, h0⟩ := h j ht
    have := (Array.getElem?_eq_some_iff.1 h0).1
    rw [if_pos rfl, if_pos this]
    exact ⟨n, rfl⟩
  · rw [if_neg e]
    exact h t ht

set_option maxRecDepth 100000 in
set_option maxHeartbeats 4000000 in
theorem plays_long (a : Option Addr) (len cap : Nat) (g : Nat → Int) (m : Int) (v : Value) (w : World) (hb : Bys w a len g) (hl : len ≤ 140737488351232) (h : 16384 < len) :
    Calls Try.prog 7 #[.slice a len cap, .int .i64 m, v] w fun e w' => e = .returned (.bool true) ∧ Below w.heap.size w w' := by
  have HB := hid hb
  have HL := hid hl
  have hlI : (len : Int) ≤ 140737488351232 := by omega
  have HQ := hid (Blk.new w 5 #[])
  have hm0 := hid ((Mod.refl [] w).alloc (.cells #[] 5))
  have HX := hid h
  clear h
  clear hb hl
  go_enter Try.func7, Try.ntmps7
  go_wp2_with (at_builtin; refine wpList_app5 rfl _ _ rfl w.heap.size rfl a len cap rfl g HQ.out (HB.out.mod hm0.out (by simp)) (by have := HL.out; omega) ?_)
  intro q' c' w1 h1 h2 h3 cs0 h4 h5 h6
  have HM1 := hid (hm0.out.trans h5 (by simp))
  have HQ' := hid (show w.heap.size ≤ q' from h1)
  have HM4 := hid h4
  have HU := hid (show U8s cs0 len from fun t ht => ⟨g t, by rw [← h4.cell]; exact h3 t ht⟩)
  have H2 := hid h2
  have H3 := hid h3
  have H6 := hid h6
  clear h1 h2 h3 h4 h5 h6
  go_wp2_with (first
    | (go_at_call 8; refine (new_long _ len c' m w1 HX.out).mono ?_; rintro e w2 ⟨rfl, rfl⟩)
    | (go_at_call 20; refine (rnew_long a len cap m w1 HX.out).mono ?_; rintro e w2 ⟨rfl, rfl⟩))
  go_loopw [12] (fun i wr => ∃ (j : Nat) (cs : Array Value), j ≤ len ∧ i = .int .i64 (j : Int) ∧ Hid (Blk wr q' 5 cs) ∧ Hid (U8s cs len) ∧ Hid (Tn.Mod [] w wr)) (fun i _ => len - (intOf i).toNat)
  case atStart => exact ⟨0, cs0, Nat.zero_le _, rfl, HM4, HU, HM1⟩
  case round =>
    clear HM4 HU HM1
    obtain ⟨j, cs, hj, rfl, hB, hU, hM⟩ := hrel
    by_cases hlt : j < len
    · obtain ⟨n0, hn0⟩ := hU.out j hlt
      have c0 := (hB.out.cell j).trans hn0
      have f0 := hB.out.frozen j
      have hjI : (j : Int) < (len : Int) := by omega
      clear hn0
      go_wp2
      go_roundw
      case rel => exact ⟨j + 1, _, by omega, by go_num, hid (hB.out.set_ j _), hid (hU.out.set hlt _), hid (hM.out.setCell (.inr HQ'.out) _)⟩
      case measure => simp [intOf]; omega
    · obtain rfl : len = j := by omega
      clear hlt
      go_wp2_with fail
      refine wp_loop_rounds 1 ?_
      rw [rounds_succ]
      go_wp2_with (go_at_call 19; refine (awake_f _).mono ?_; rintro e w9 ⟨rfl, hm9⟩; have HM9 := hid (hM.out.andThen hm9); clear hm9)
      go_ret
      exact ⟨rfl, HM9.out.below (Nat.le_refl _) (by simp)⟩

set_option maxRecDepth 100000 in
set_option maxHeartbeats 4000000 in
theorem plays_arg (a : Option Addr) (len cap : Nat) (g : Nat → Int) (m : Int) (v : Value) (w : World) (hb : Bys w a len g) (hl : len ≤ 140737488351232) (h : len ≤ 16384) (hbad : ¬ (len % 64 = 0 ∧ 0 ≤ m ∧ m ≤ 256)) :
    Calls Try.prog 7 #[.slice a len cap, .int .i64 m, v] w fun e w' => e = .returned (.bool true) ∧ Below w.heap.size w w' := by
  have HB := hid hb
  have HL := hid hl
  have hlI : (len : Int) ≤ 140737488351232 := by omega
  have HQ := hid (Blk.new w 5 #[])
  have hm0 := hid ((Mod.refl [] w).alloc (.cells #[] 5))
  have HX := hid h
  have HB2 := hid hbad
  clear h hbad
  clear hb hl
  go_enter Try.func7, Try.ntmps7
  go_wp2_with (at_builtin; refine wpList_app5 rfl _ _ rfl w.heap.size rfl a len cap rfl g HQ.out (HB.out.mod hm0.out (by simp)) (by have := HL.out; omega) ?_)
  intro q' c' w1 h1 h2 h3 cs0 h4 h5 h6
  have HM1 := hid (hm0.out.trans h5 (by simp))
  have HQ' := hid (show w.heap.size ≤ q' from h1)
  have HM4 := hid h4
  have HU := hid (show U8s cs0 len from fun t ht => ⟨g t, by rw [← h4.cell]; exact h3 t ht⟩)
  have H2 := hid h2
  have H3 := hid h3
  have H6 := hid h6
  clear h1 h2 h3 h4 h5 h6
  go_wp2_with (first
    | (go_at_call 8; refine (new_arg _ len c' m w1 HX.out HB2.out).mono ?_; rintro e w2 ⟨rfl, rfl⟩)
    | (go_at_call 20; refine (rnew_arg a len cap m w1 HX.out HB2.out).mono ?_; rintro e w2 ⟨rfl, rfl⟩))
  go_loopw [12] (fun i wr => ∃ (j : Nat) (cs : Array Value), j ≤ len ∧ i = .int .i64 (j : Int) ∧ Hid (Blk wr q' 5 cs) ∧ Hid (U8s cs len) ∧ Hid (Tn.Mod [] w wr)) (fun i _ => len - (intOf i).toNat)
  case atStart => exact ⟨0, cs0, Nat.zero_le _, rfl, HM4, HU, HM1⟩
  case round =>
    clear HM4 HU HM1
    obtain ⟨j, cs, hj, rfl, hB, hU, hM⟩ := hrel
    by_cases hlt : j < len
    · obtain ⟨n0, hn0⟩ := hU.out j hlt
      have c0 := (hB.out.cell j).trans hn0
      have f0 := hB.out.frozen j
      have hjI : (j : Int) < (len : Int) := by omega
      clear hn0
      go_wp2
      go_roundw
      case rel => exact ⟨j + 1, _, by omega, by go_num, hid (hB.out.set_ j _), hid (hU.out.set hlt _), hid (hM.out.setCell (.inr HQ'.out) _)⟩
      case measure => simp [intOf]; omega
    · obtain rfl : len = j := by omega
      clear hlt
      go_wp2_with fail
      refine wp_loop_rounds 1 ?_
      rw [rounds_succ]
      go_wp2_with (go_at_call 19; refine (awake_f _).mono ?_; rintro e w9 ⟨rfl, hm9⟩; have HM9 := hid (hM.out.andThen hm9); clear hm9)
      go_ret
      exact ⟨rfl, HM9.out.below (Nat.le_refl _) (by simp)⟩

set_option maxRecDepth 100000 in
set_option maxHeartbeats 40000000 in
theorem plays_ok (a : Option Addr) (k cap M : Nat) (g : Nat → Int) (a2 : Option Addr) (len2 cap2 : Nat) (O : Nat → OpV) (w : World) (hb : Bys w a (64 * k) g) (hk : k ≤ 256) (hM : M ≤ 256) (ho : IsScr w a2 len2 O) :
    Calls Try.prog 7 #[.slice a (64 * k : Nat) cap, .int .i64 (M : Nat), .slice a2 len2 cap2] w fun e w' => e = .returned (.bool true) ∧ Below w.heap.size w w' := by
  have HB := hid hb
  have HQ := hid (Blk.new w 5 #[])
  have hm0 := hid ((Mod.refl [] w).alloc (.cells #[] 5))
  have hlen2 := ho.1
  have HO := hid ho
  have HK := hid hk
  have HM0 := hid hM
  have hkI : (k : Int) ≤ 256 := by omega
  have hMI : (M : Int) ≤ 256 := by omega
  have hlI : ((64 * k : Nat) : Int) ≤ 16384 := by omega
  clear hb hk hM ho
  go_enter Try.func7, Try.ntmps7
  go_wp2_with (at_builtin; refine wpList_app5 rfl _ _ rfl w.heap.size rfl a (64 * k) cap rfl g HQ.out (HB.out.mod hm0.out (by simp)) (by have := HK.out; omega) ?_)
  intro q' c' w1 h1 h2 h3 cs0 h4 h5 h6
  have HM1 := hid (hm0.out.trans h5 (by simp))
  have HQ' := hid (show w.heap.size ≤ q' from h1)
  have HM4 := hid h4
  have HU := hid (show U8s cs0 (64 * k) from fun t ht => ⟨g t, by rw [← h4.cell]; exact h3 t ht⟩)
  have H2 := hid h2
  have H3 := hid h3
  have H6 := hid h6
  clear h1 h2 h3 h4 h5 h6
  go_wp2_with (first
    | (go_at_call 8; refine (new_j q' 0 k c' M g w1 HK.out HM0.out H6.out H2.out (fun j hj => by rw [Nat.zero_add]; exact H3.out j hj)).mono ?_
       rintro e w2 ⟨p, mb, B, rfl, hJ, hmb, _, hm2⟩
       have HJ := hid (show JM w2 p mb B g k M f00 from hJ)
       have HMB := hid (show w.heap.size ≤ mb from Nat.le_trans HM1.out.size hmb)
       have HMM := hid (HM1.out.andThen hm2)
       have HMQ := hid (HM4.out.mod hm2 (by simp))
       clear hJ hmb hm2)
    | (go_at_call 20; refine (rnew_j a k cap M g w2 (HB.out.mod HMM.out (by simp)) HK.out HM0.out).mono ?_
       rintro e w3 ⟨r, la, lc, bb, bc, rfl, hR, hrg, hbg, hlg, hm3⟩
       have HR := hid hR
       have HJ := hid (HJ.out.mod0 hm3)
       have HRG := hid (show w.heap.size ≤ r from Nat.le_trans HMM.out.size hrg)
       have HQL := hid (show q' < w2.heap.size from HMQ.out.lt)
       have HRB := hid (And.intro hrg hbg)
       have HMQ := hid (HMQ.out.mod hm3 (by simp))
       have HLG := hid (show ∀ lb, la = some ⟨lb, 0, none⟩ → w.heap.size ≤ lb from fun lb e => Nat.le_trans HMM.out.size (hlg lb e))
       have HMM := hid (HMM.out.andThen hm3)
       clear hR hrg hbg hlg hm3))
  go_loopw [12] (fun i wr => ∃ (j : Nat) (cs : Array Value), j ≤ 64 * k ∧ i = .int .i64 (j : Int) ∧ Hid (Blk wr q' 5 cs) ∧ Hid (U8s cs (64 * k)) ∧ Hid (JM wr p mb B g k M f00) ∧ Hid (RJ wr r la lc bb bc g k M f00) ∧ Hid (Tn.Mod [] w wr)) (fun i _ => 64 * k - (intOf i).toNat)
  case atStart => exact ⟨0, cs0, Nat.zero_le _, rfl, HMQ, HU, HJ, HR, HMM⟩
  case round =>
    clear HM4 HU HM1 HMQ HJ HR HMM
    obtain ⟨j, cs, hj, rfl, hB, hU, hJ, hR, hM⟩ := hrel
    by_cases hlt : j < 64 * k
    · obtain ⟨n0, hn0⟩ := hU.out j hlt
      have c0 := (hB.out.cell j).trans hn0
      have f0 := hB.out.frozen j
      have hjI : (j : Int) < ((64 * k : Nat) : Int) := by omega
      clear hn0
      go_wp2
      go_roundw
      case rel => 
        have hmS : ∀ n : Int, Tn.Mod [q'] wr (wr.setCell ⟨q', j, none⟩ (.int .u8 n)) := fun n => (Mod.refl _ wr).setCell (.inl (by simp)) _
        exact ⟨j + 1, _, by omega, by go_num, hid (hB.out.set_ j _), hid (hU.out.set hlt _), hid (hJ.out.other hB.out (by decide) (by decide) (hmS _)), hid (hR.out.mod00 (hmS _) (by have := HRB.out.1; have := HQL.out; simp; omega) (by have := HRB.out.2; have := HQL.out; simp; omega) (fun lb cs2 hlb => by simp; exact hlb.ne_ hB.out (by decide))), hid (hM.out.setCell (.inr HQ'.out) _)⟩
      case measure => simp [intOf]; omega
    · obtain rfl : 64 * k = j := by omega
      have HT0 := hid (show TW w wr p mb B r la lc bb bc g k M f00 from ⟨hJ.out, hR.out, hM.out, HMB.out, HRG.out, HLG.out⟩)
      clear hlt hB hU hJ hR hM
      go_wp2_with fail
      go_loopw [8, 13] (fun px i wr => ∃ (j p mb B : Nat) (F0 : Int → Option (Nat → Int)), j ≤ len2 ∧ px = .pointer (some ⟨p, 0, none⟩) ∧ i = .int .i64 (j : Int) ∧ Hid (TW w wr p mb B r la lc bb bc g k M F0)) (fun _ i _ => len2 - (intOf i).toNat)
      case atStart => exact ⟨0, p, mb, B, f00, Nat.zero_le _, rfl, rfl, HT0⟩
      case round =>
        clear HT0 HMB
        obtain ⟨j, p, mb, B, F0, hj, rfl, rfl, HT⟩ := hrel
        by_cases hlt : j < len2
        case neg =>
          obtain rfl : len2 = j := by omega
          clear hlt
          go_wp2_with (go_at_call 19; refine (awake_f _).mono ?_; rintro e w9 ⟨rfl, hm9⟩; have HM9 := hid (HT.out.mod.andThen hm9); clear hm9)
          go_ret
          exact ⟨rfl, HM9.out.below (Nat.le_refl _) (by simp)⟩
        case pos =>
          obtain ⟨sb, so, rfl, hbB, hop⟩ := scr_at HO.out hlt
          have hop2 := OpAt_mod hop hbB HT.out.mod
          generalize O j = o at hop2 hop
          obtain ⟨x, y, z, u, F, cf, fr⟩ := o
          have HC0 := hid hop.1
          have HC1 := hid hop.2.1
          have HC2 := hid hop.2.2.1
          have HC3 := hid hop.2.2.2.1
          have HC4 := hid hop.2.2.2.2.1
          have HSB := hid hbB
          have HBY0 := hid hop.2.2.2.2.2.1
          have HLB := hid hop.2.2.2.2.2.2.1
          obtain ⟨c0, c1, c2, c3, c4, _⟩ := hop2
          clear hop hbB
          by_cases hx5 : x = 5
          case pos =>
            subst hx5
            go_wp2_with (go_at_call 18; refine (copy_j HT.out.x).mono ?_
                         rintro e w4 ⟨py, mm, B2, rfl, hY, hX, hmm, hpy, hm4⟩
                         have HY := hid hY
                         have HTX := hid (HT.out.mod0 hm4)
                         have HMB4 := hid (show mb < mm from Nat.lt_of_lt_of_le HT.out.x.im.is.lt hmm)
                         have HMG := hid (show w.heap.size ≤ mm from Nat.le_trans HT.out.mod.size hmm)
                         clear hY hX hmm hpy hm4)
            clear c0 c1 c2 c3 c4
            have c0 := (HTX.out.mod.cell (p := ⟨sb, _, none⟩) HSB.out (by simp)).trans HC0.out
            have c1 := (HTX.out.mod.cell (p := ⟨sb, _, none⟩) HSB.out (by simp)).trans HC1.out
            have c2 := (HTX.out.mod.cell (p := ⟨sb, _, none⟩) HSB.out (by simp)).trans HC2.out
            have c3 := (HTX.out.mod.cell (p := ⟨sb, _, none⟩) HSB.out (by simp)).trans HC3.out
            have c4 := (HTX.out.mod.cell (p := ⟨sb, _, none⟩) HSB.out (by simp)).trans HC4.out
            go_region_held3 (fun w' => w'.cell? ⟨sb, so + j * 5, none⟩ = some (.int .i64 5) ∧ w'.cell? ⟨sb, so + j * 5 + 1, none⟩ = some (.int .i64 y) ∧ w'.cell? ⟨sb, so + j * 5 + 2, none⟩ = some (.int .i64 z) ∧ w'.cell? ⟨sb, so + j * 5 + 3, none⟩ = some (.int .u8 u) ∧ w'.cell? ⟨sb, so + j * 5 + 4, none⟩ = some (.slice F fr.length cf))
              (first | exact ⟨(HM6.out.cell HSB.out (by simp)).trans HC0.out, (HM6.out.cell HSB.out (by simp)).trans HC1.out, (HM6.out.cell HSB.out (by simp)).trans HC2.out, (HM6.out.cell HSB.out (by simp)).trans HC3.out, (HM6.out.cell HSB.out (by simp)).trans HC4.out⟩ | exact ⟨(HM5.out.cell HSB.out (by simp)).trans HC0.out, (HM5.out.cell HSB.out (by simp)).trans HC1.out, (HM5.out.cell HSB.out (by simp)).trans HC2.out, (HM5.out.cell HSB.out (by simp)).trans HC3.out, (HM5.out.cell HSB.out (by simp)).trans HC4.out⟩ | go_keep) (first
              | (go_at_call 11; refine (bytes_f 5 y z u F fr.length cf (fun j => fr.getD j 0) _ ((Bytes_bys HBY0.out).mod HTX.out.mod.drew (by simp)) HLB.out).mono ?_
                 rintro e w5 ⟨q, cq, rfl, hc3, hq1, hq2, _, hm3⟩
                 have HTX := hid (HTX.out.mod0 (((Mod.refl [] w4).drew).andThen hm3))
                 have HY := hid (HY.out.mod0 (((Mod.refl [] w4).drew).andThen hm3))
                 have HM5 := hid HTX.out.mod
                 have HQ3 := hid (And.intro hq2 hc3)
                 clear hc3 hq1 hq2 hm3)
              | (go_at_call 10; refine (write_j HTX.out.x y q 0 (opLen fr.length) cq _ HQ3.out.1 (fun j hj => by rw [Nat.zero_add]; exact HQ3.out.2 j hj)).mono ?_
                 rintro e w6 ⟨rfl, hJ4, hm4⟩
                 have HY := hid (HY.out.mod hm4 (by simp; obtain ⟨a0, cp0, hb0, _⟩ := HY.out.im.blk; exact hb0.ne_map HTX.out.x.im.is.imap) (by have := HMB4.out; simp; omega) (fun s hs cs hc => by simp at hs; subst hs; exact hc.ne_map HTX.out.x.im.is.imap rfl))
                 have HRJ := hid (HTX.out.after_x hJ4 hm4)
                 have HM6 := hid HRJ.out.2
                 clear hJ4 hm4))
            all_goals go_wp2_with fail
            have HT := hid (show TW w w6 py mm B2 r la lc bb bc g k M F0 from ⟨HY.out, HRJ.out.1, HRJ.out.2, HMG.out, HRG.out, HLG.out⟩)
            obtain ⟨Nn, R, hN9, hR9, hR8⟩ := JM.parts HT.out.x
            have HN9 := hid hN9
            have HR9 := hid hR9
            have HR8 := hid hR8
            have hRI : (R : Int) ≤ 256 := by have := HM0.out; omega
            have hblk := HT.out.y.blk
            rw [hR8] at hblk
            have HX := hid (show Blk (w6).drew r 56 #[.slice (some ⟨bb, 0, none⟩) (64 * k) bc, .slice la k lc, .int .i64 (R : Int)] from hblk)
            have HT := hid (HT.out.mod0 (show Tn.Mod [] (w6) (w6).drew from (Mod.refl [] _).drew))
            clear hN9 hR9 hR8 hblk
            refine wp_region_held_drew (S := fun w' => Blk w' r 56 #[.slice (some ⟨bb, 0, none⟩) (64 * k) bc, .slice la k lc, .int .i64 (R : Int)]) (by kernel_rfl) HX.out (fun hHeld => ?_)
            refine wpAnyH_take (i := 0) (v := ?_) (drop_get rfl) (by kernel_rfl) (by kernel_rfl) (by kernel_rfl) (fun _ _ _ h => h) (Or.inl ⟨by rfl, ?_⟩) HX.out ?_
            rotate_left
            · intro w9 hS9
              have k1 := Blk.cell hS9 1
              have k2 := Blk.cell hS9 2
              simp only [List.getElem?_toArray, List.getElem?_cons_zero, List.getElem?_cons_succ] at k1 k2
              go_simp
              try with_reducible rfl
            simp only [Act.put, List.setIfInBounds_toArray, List.set_cons_zero, List.set_cons_succ]
            refine wpAnyH_take (i := 2) (v := ?_) (drop_get rfl) (by kernel_rfl) (by kernel_rfl) (by kernel_rfl) (fun _ _ _ h => h) (Or.inl ⟨by rfl, ?_⟩) HX.out ?_
            rotate_left
            · intro w9 hS9
              have k1 := Blk.cell hS9 1
              have k2 := Blk.cell hS9 2
              simp only [List.getElem?_toArray, List.getElem?_cons_zero, List.getElem?_cons_succ] at k1 k2
              go_simp
              try with_reducible rfl
            simp only [Act.put, List.setIfInBounds_toArray, List.set_cons_zero, List.set_cons_succ]
            refine wpAnyH_take (i := 3) (v := ?_) (drop_get rfl) (by kernel_rfl) (by kernel_rfl) (by kernel_rfl) (fun _ _ _ h => h) (Or.inl ⟨by rfl, ?_⟩) HX.out ?_
            rotate_left
            · intro w9 hS9
              have k1 := Blk.cell hS9 1
              have k2 := Blk.cell hS9 2
              simp only [List.getElem?_toArray, List.getElem?_cons_zero, List.getElem?_cons_succ] at k1 k2
              go_simp
              try with_reducible rfl
            simp only [Act.put, List.setIfInBounds_toArray, List.set_cons_zero, List.set_cons_succ]
            refine wpAnyH_take (i := 4) (v := ?_) (drop_get rfl) (by kernel_rfl) (by kernel_rfl) (by kernel_rfl) (fun _ _ _ h => h) (Or.inl ⟨by rfl, ?_⟩) HX.out ?_
            rotate_left
            · intro w9 hS9
              have k1 := Blk.cell hS9 1
              have k2 := Blk.cell hS9 2
              simp only [List.getElem?_toArray, List.getElem?_cons_zero, List.getElem?_cons_succ] at k1 k2
              go_simp
              try with_reducible rfl
            simp only [Act.put, List.setIfInBounds_toArray, List.set_cons_zero, List.set_cons_succ]
            refine wpAnyH_take (i := 5) (v := ?_) (drop_get rfl) (by kernel_rfl) (by kernel_rfl) (by kernel_rfl) (fun _ _ _ h => h) (Or.inl ⟨by rfl, ?_⟩) HX.out ?_
            rotate_left
            · intro w9 hS9
              have k1 := Blk.cell hS9 1
              have k2 := Blk.cell hS9 2
              simp only [List.getElem?_toArray, List.getElem?_cons_zero, List.getElem?_cons_succ] at k1 k2
              go_simp
              try with_reducible rfl
            simp only [Act.put, List.setIfInBounds_toArray, List.set_cons_zero, List.set_cons_succ]
            refine wpAnyH_ready (rs := [1]) (by kernel_rfl) (by simp) ?_
            refine AllReadyH.cons (drop_get rfl) (fun K hK => ?_) AllReadyH.nil
            go_simp
            go_at_call 13
            refine (free_j HT.out.x).mono ?_
            rw [HR8.out]
            rintro e wa ⟨rfl, hm5⟩
            have HX := hid (HX.out.mod hm5 (by simp))
            have HT := hid (HT.out.mod0 hm5)
            clear hm5
            refine hK _ _ HX.out ?_
            clear hK K
            intro _
            refine wpAnyH_take (i := 6) (v := ?_) (drop_get rfl) (by kernel_rfl) (by kernel_rfl) (by kernel_rfl) (fun _ _ _ h => h) (Or.inl ⟨by rfl, ?_⟩) HX.out ?_
            rotate_left
            · intro w9 hS9
              have k1 := Blk.cell hS9 1
              have k2 := Blk.cell hS9 2
              simp only [List.getElem?_toArray, List.getElem?_cons_zero, List.getElem?_cons_succ] at k1 k2
              go_simp
              try with_reducible rfl
            simp only [Act.put, List.setIfInBounds_toArray, List.set_cons_zero, List.set_cons_succ]
            refine wpAnyH_take (i := 7) (v := ?_) (drop_get rfl) (by kernel_rfl) (by kernel_rfl) (by kernel_rfl) (fun _ _ _ h => h) (Or.inl ⟨by rfl, ?_⟩) HX.out ?_
            rotate_left
            · intro w9 hS9
              have k1 := Blk.cell hS9 1
              have k2 := Blk.cell hS9 2
              simp only [List.getElem?_toArray, List.getElem?_cons_zero, List.getElem?_cons_succ] at k1 k2
              go_simp
              try with_reducible rfl
            simp only [Act.put, List.setIfInBounds_toArray, List.set_cons_zero, List.set_cons_succ]
            refine wpAnyH_take (i := 8) (v := ?_) (drop_get rfl) (by kernel_rfl) (by kernel_rfl) (by kernel_rfl) (fun _ _ _ h => h) (Or.inl ⟨by rfl, ?_⟩) HX.out ?_
            rotate_left
            · intro w9 hS9
              have k1 := Blk.cell hS9 1
              have k2 := Blk.cell hS9 2
              simp only [List.getElem?_toArray, List.getElem?_cons_zero, List.getElem?_cons_succ] at k1 k2
              go_simp
              try with_reducible rfl
            simp only [Act.put, List.setIfInBounds_toArray, List.set_cons_zero, List.set_cons_succ]
            refine wpAnyH_take (i := 10) (v := ?_) (drop_get rfl) (by kernel_rfl) (by kernel_rfl) (by kernel_rfl) (fun _ _ _ h => h) (Or.inl ⟨by rfl, ?_⟩) HX.out ?_
            rotate_left
            · intro w9 hS9
              have k1 := Blk.cell hS9 1
              have k2 := Blk.cell hS9 2
              simp only [List.getElem?_toArray, List.getElem?_cons_zero, List.getElem?_cons_succ] at k1 k2
              go_simp
              try with_reducible rfl
            simp only [Act.put, List.setIfInBounds_toArray, List.set_cons_zero, List.set_cons_succ]
            refine wpAnyH_take (i := 11) (v := ?_) (drop_get rfl) (by kernel_rfl) (by kernel_rfl) (by kernel_rfl) (fun _ _ _ h => h) (Or.inl ⟨by rfl, ?_⟩) HX.out ?_
            rotate_left
            · intro w9 hS9
              have k1 := Blk.cell hS9 1
              have k2 := Blk.cell hS9 2
              simp only [List.getElem?_toArray, List.getElem?_cons_zero, List.getElem?_cons_succ] at k1 k2
              go_simp
              try with_reducible rfl
            simp only [Act.put, List.setIfInBounds_toArray, List.set_cons_zero, List.set_cons_succ]
            refine wpAnyH_take (i := 12) (v := ?_) (drop_get rfl) (by kernel_rfl) (by kernel_rfl) (by kernel_rfl) (fun _ _ _ h => h) (Or.inl ⟨by rfl, ?_⟩) HX.out ?_
            rotate_left
            · intro w9 hS9
              have k1 := Blk.cell hS9 1
              have k2 := Blk.cell hS9 2
              simp only [List.getElem?_toArray, List.getElem?_cons_zero, List.getElem?_cons_succ] at k1 k2
              go_simp
              try with_reducible rfl
            simp only [Act.put, List.setIfInBounds_toArray, List.set_cons_zero, List.set_cons_succ]
            refine wpAnyH_take (i := 13) (v := ?_) (drop_get rfl) (by kernel_rfl) (by kernel_rfl) (by kernel_rfl) (fun _ _ _ h => h) (Or.inl ⟨by rfl, ?_⟩) HX.out ?_
            rotate_left
            · intro w9 hS9
              have k1 := Blk.cell hS9 1
              have k2 := Blk.cell hS9 2
              simp only [List.getElem?_toArray, List.getElem?_cons_zero, List.getElem?_cons_succ] at k1 k2
              go_simp
              try with_reducible rfl
            simp only [Act.put, List.setIfInBounds_toArray, List.set_cons_zero, List.set_cons_succ]
            refine wpAnyH_take (i := 14) (v := ?_) (drop_get rfl) (by kernel_rfl) (by kernel_rfl) (by kernel_rfl) (fun _ _ _ h => h) (Or.inl ⟨by rfl, ?_⟩) HX.out ?_
            rotate_left
            · intro w9 hS9
              have k1 := Blk.cell hS9 1
              have k2 := Blk.cell hS9 2
              simp only [List.getElem?_toArray, List.getElem?_cons_zero, List.getElem?_cons_succ] at k1 k2
              go_simp
              try with_reducible rfl
            simp only [Act.put, List.setIfInBounds_toArray, List.set_cons_zero, List.set_cons_succ]
            refine wpAnyH_ready (rs := [9]) (by kernel_rfl) (by simp) ?_
            refine AllReadyH.cons (drop_get rfl) (fun K hK => ?_) AllReadyH.nil
            go_simp
            go_at_call 16
            refine (sectors_j HT.out.x).mono ?_
            rintro e wb ⟨rfl, rfl⟩
            refine hK _ _ HX.out ?_
            clear hK K
            intro _
            refine wpAnyH_take (i := 15) (v := ?_) (drop_get rfl) (by kernel_rfl) (by kernel_rfl) (by kernel_rfl) (fun _ _ _ h => h) (Or.inl ⟨by rfl, ?_⟩) HX.out ?_
            rotate_left
            · intro w9 hS9
              have k1 := Blk.cell hS9 1
              have k2 := Blk.cell hS9 2
              simp only [List.getElem?_toArray, List.getElem?_cons_zero, List.getElem?_cons_succ] at k1 k2
              go_simp
              try with_reducible rfl
            simp only [Act.put, List.setIfInBounds_toArray, List.set_cons_zero, List.set_cons_succ]
            refine wpAnyH_take (i := 16) (v := ?_) (drop_get rfl) (by kernel_rfl) (by kernel_rfl) (by kernel_rfl) (fun _ _ _ h => h) (Or.inl ⟨by rfl, ?_⟩) HX.out ?_
            rotate_left
            · intro w9 hS9
              have k1 := Blk.cell hS9 1
              have k2 := Blk.cell hS9 2
              simp only [List.getElem?_toArray, List.getElem?_cons_zero, List.getElem?_cons_succ] at k1 k2
              go_simp
              try with_reducible rfl
            simp only [Act.put, List.setIfInBounds_toArray, List.set_cons_zero, List.set_cons_succ]
            refine wpAnyH_take (i := 17) (v := ?_) (drop_get rfl) (by kernel_rfl) (by kernel_rfl) (by kernel_rfl) (fun _ _ _ h => h) (Or.inl ⟨by rfl, ?_⟩) HX.out ?_
            rotate_left
            · intro w9 hS9
              have k1 := Blk.cell hS9 1
              have k2 := Blk.cell hS9 2
              simp only [List.getElem?_toArray, List.getElem?_cons_zero, List.getElem?_cons_succ] at k1 k2
              go_simp
              try with_reducible rfl
            simp only [Act.put, List.setIfInBounds_toArray, List.set_cons_zero, List.set_cons_succ]
            refine wpAnyH_take (i := 18) (v := ?_) (drop_get rfl) (by kernel_rfl) (by kernel_rfl) (by kernel_rfl) (fun _ _ _ h => h) (Or.inl ⟨by rfl, ?_⟩) HX.out ?_
            rotate_left
            · intro w9 hS9
              have k1 := Blk.cell hS9 1
              have k2 := Blk.cell hS9 2
              simp only [List.getElem?_toArray, List.getElem?_cons_zero, List.getElem?_cons_succ] at k1 k2
              go_simp
              try with_reducible rfl
            simp only [Act.put, List.setIfInBounds_toArray, List.set_cons_zero, List.set_cons_succ]
            refine wpAnyH_take (i := 20) (v := ?_) (drop_get rfl) (by kernel_rfl) (by kernel_rfl) (by kernel_rfl) (fun _ _ _ h => h) (Or.inl ⟨by rfl, ?_⟩) HX.out ?_
            rotate_left
            · intro w9 hS9
              have k1 := Blk.cell hS9 1
              have k2 := Blk.cell hS9 2
              simp only [List.getElem?_toArray, List.getElem?_cons_zero, List.getElem?_cons_succ] at k1 k2
              go_simp
              try with_reducible rfl
            simp only [Act.put, List.setIfInBounds_toArray, List.set_cons_zero, List.set_cons_succ]
            refine wpAnyH_ready (rs := [19]) (by kernel_rfl) (by simp) ?_
            refine AllReadyH.cons (drop_get rfl) (fun K hK => ?_) AllReadyH.nil
            go_simp
            go_at_call 17
            refine (dirty_j HT.out.x).mono ?_
            rw [HN9.out]
            rintro e wc ⟨A1, q1, rfl, ho1, hm5⟩
            have HO1 := hid ho1
            have HX := hid (HX.out.mod hm5 (by simp))
            have HT := hid (HT.out.mod0 hm5)
            clear hm5 ho1
            refine hK _ _ HX.out ?_
            clear hK K
            intro _
            refine wpAnyH_ready (rs := [21]) (by kernel_rfl) (by simp) ?_
            refine AllReadyH.cons (drop_get rfl) (fun K hK => ?_) AllReadyH.nil
            go_simp
            go_at_call 23
            refine (rdirty_j HT.out.y).mono ?_
            rw [HN9.out]
            rintro e wd ⟨A2, q2, rfl, ho2, hm5⟩
            have HO1 := hid (ownsRow_other HO1.out (fun g _ hl => hm5.block g hl (by simp)))
            have HO2 := hid ho2
            have HX := hid (HX.out.mod hm5 (by simp))
            have HT := hid (HT.out.mod0 hm5)
            clear hm5 ho2
            refine hK _ _ HX.out ?_
            clear hK K
            intro _
            refine wpAnyH_ready (rs := [22]) (by kernel_rfl) (by simp) ?_
            refine AllReadyH.cons (drop_get rfl) (fun K hK => ?_) AllReadyH.nil
            go_simp
            go_at_call 22
            refine (ints_f A1 A2 Nn q1 q2 _ _ (dirtyL F0 k) (by rw [dirtyL_length]; exact HN9.out) (by have := HR9.out; have := HM0.out; omega) HO1.out HO2.out).mono ?_
            rintro e we ⟨rfl, hm5⟩
            have HX := hid (HX.out.mod hm5 (by simp))
            have HT := hid (HT.out.mod0 hm5)
            clear hm5
            refine hK _ _ HX.out ?_
            clear hK K
            intro _
            refine wpAnyH_take (i := 23) (v := ?_) (drop_get rfl) (by kernel_rfl) (by kernel_rfl) (by kernel_rfl) (fun _ _ _ h => h) (Or.inl ⟨by rfl, ?_⟩) HX.out ?_
            rotate_left
            · intro w9 hS9
              have k1 := Blk.cell hS9 1
              have k2 := Blk.cell hS9 2
              simp only [List.getElem?_toArray, List.getElem?_cons_zero, List.getElem?_cons_succ] at k1 k2
              go_simp
              try with_reducible rfl
            simp only [Act.put, List.setIfInBounds_toArray, List.set_cons_zero, List.set_cons_succ]
            refine wpAnyH_take (i := 24) (v := ?_) (drop_get rfl) (by kernel_rfl) (by kernel_rfl) (by kernel_rfl) (fun _ _ _ h => h) (Or.inl ⟨by rfl, ?_⟩) HX.out ?_
            rotate_left
            · intro w9 hS9
              have k1 := Blk.cell hS9 1
              have k2 := Blk.cell hS9 2
              simp only [List.getElem?_toArray, List.getElem?_cons_zero, List.getElem?_cons_succ] at k1 k2
              go_simp
              try with_reducible rfl
            simp only [Act.put, List.setIfInBounds_toArray, List.set_cons_zero, List.set_cons_succ]
            refine wpAnyH_done (by kernel_rfl) ?_ _
            go_wp2_with fail
            refine ⟨?_, ?_⟩
            · refine ⟨_, _, _, _, _, _, _, _, _, _, _, _, _, _, _, _, _, _, _, _, _, _, _, _, _, _, _, _, _, _, _, _, _, _, _, _, _, _, _, _, _, _, _, _, _, _, _, _, _, _, _, _, _, _, _, _, _, _, _, _, _, _, _, _, _, _, _, _, _, _, ?_, rfl⟩
              exact ⟨j + 1, py, mm, B2, F0, by omega, rfl, by go_num, HT⟩
            · simp [intOf]; omega
          case neg =>
            have hx5' : decide (x = 5) = false := decide_eq_false hx5
            have HFM := hid (show 0 < fr.length → ∀ b o, F = some ⟨b, o, none⟩ → b < w.heap.size from fun h0 b o e => by
              obtain ⟨b', o', e', hb', _⟩ := HBY0.out.2 h0
              have e3 : F = some ⟨b', o', none⟩ := e'
              rw [e3] at e
              cases e
              exact hb')
            have HBYr := hid (show Bytes wr F fr from ⟨HBY0.out.1, fun h0 => by
              obtain ⟨b', o', e', hb', hc'⟩ := HBY0.out.2 h0
              exact ⟨b', o', e', Nat.lt_of_lt_of_le hb' HT.out.mod.size, fun j y hj => (HT.out.mod.cell (p := ⟨b', _, none⟩) hb' (by simp)).trans (hc' j y hj)⟩⟩)
            go_wp2_with (go_at_call 21; refine (play_f HT.out x y z u F cf fr HBYr.out HFM.out HLB.out).mono ?_
                         rintro e w6 ⟨rfl, f9, hT9⟩
                         have HT9 := hid hT9
                         clear hT9)
            obtain ⟨F0, hF0⟩ : ∃ F0, F0 = f9 := ⟨_, rfl⟩
            subst hF0
            have HT := HT9
            clear c0 c1 c2 c3 c4
            obtain ⟨Nn, R, hN9, hR9, hR8⟩ := JM.parts HT.out.x
            have HN9 := hid hN9
            have HR9 := hid hR9
            have HR8 := hid hR8
            have hRI : (R : Int) ≤ 256 := by have := HM0.out; omega
            have hblk := HT.out.y.blk
            rw [hR8] at hblk
            have HX := hid (show Blk (w6).drew r 56 #[.slice (some ⟨bb, 0, none⟩) (64 * k) bc, .slice la k lc, .int .i64 (R : Int)] from hblk)
            have HT := hid (HT.out.mod0 (show Tn.Mod [] (w6) (w6).drew from (Mod.refl [] _).drew))
            clear hN9 hR9 hR8 hblk
            refine wp_region_held_drew (S := fun w' => Blk w' r 56 #[.slice (some ⟨bb, 0, none⟩) (64 * k) bc, .slice la k lc, .int .i64 (R : Int)]) (by kernel_rfl) HX.out (fun hHeld => ?_)
            refine wpAnyH_take (i := 0) (v := ?_) (drop_get rfl) (by kernel_rfl) (by kernel_rfl) (by kernel_rfl) (fun _ _ _ h => h) (Or.inl ⟨by rfl, ?_⟩) HX.out ?_
            rotate_left
            · intro w9 hS9
              have k1 := Blk.cell hS9 1
              have k2 := Blk.cell hS9 2
              simp only [List.getElem?_toArray, List.getElem?_cons_zero, List.getElem?_cons_succ] at k1 k2
              go_simp
              try with_reducible rfl
            simp only [Act.put, List.setIfInBounds_toArray, List.set_cons_zero, List.set_cons_succ]
            refine wpAnyH_take (i := 2) (v := ?_) (drop_get rfl) (by kernel_rfl) (by kernel_rfl) (by kernel_rfl) (fun _ _ _ h => h) (Or.inl ⟨by rfl, ?_⟩) HX.out ?_
            rotate_left
            · intro w9 hS9
              have k1 := Blk.cell hS9 1
              have k2 := Blk.cell hS9 2
              simp only [List.getElem?_toArray, List.getElem?_cons_zero, List.getElem?_cons_succ] at k1 k2
              go_simp
              try with_reducible rfl
            simp only [Act.put, List.setIfInBounds_toArray, List.set_cons_zero, List.set_cons_succ]
            refine wpAnyH_take (i := 3) (v := ?_) (drop_get rfl) (by kernel_rfl) (by kernel_rfl) (by kernel_rfl) (fun _ _ _ h => h) (Or.inl ⟨by rfl, ?_⟩) HX.out ?_
            rotate_left
            · intro w9 hS9
              have k1 := Blk.cell hS9 1
              have k2 := Blk.cell hS9 2
              simp only [List.getElem?_toArray, List.getElem?_cons_zero, List.getElem?_cons_succ] at k1 k2
              go_simp
              try with_reducible rfl
            simp only [Act.put, List.setIfInBounds_toArray, List.set_cons_zero, List.set_cons_succ]
            refine wpAnyH_take (i := 4) (v := ?_) (drop_get rfl) (by kernel_rfl) (by kernel_rfl) (by kernel_rfl) (fun _ _ _ h => h) (Or.inl ⟨by rfl, ?_⟩) HX.out ?_
            rotate_left
            · intro w9 hS9
              have k1 := Blk.cell hS9 1
              have k2 := Blk.cell hS9 2
              simp only [List.getElem?_toArray, List.getElem?_cons_zero, List.getElem?_cons_succ] at k1 k2
              go_simp
              try with_reducible rfl
            simp only [Act.put, List.setIfInBounds_toArray, List.set_cons_zero, List.set_cons_succ]
            refine wpAnyH_take (i := 5) (v := ?_) (drop_get rfl) (by kernel_rfl) (by kernel_rfl) (by kernel_rfl) (fun _ _ _ h => h) (Or.inl ⟨by rfl, ?_⟩) HX.out ?_
            rotate_left
            · intro w9 hS9
              have k1 := Blk.cell hS9 1
              have k2 := Blk.cell hS9 2
              simp only [List.getElem?_toArray, List.getElem?_cons_zero, List.getElem?_cons_succ] at k1 k2
              go_simp
              try with_reducible rfl
            simp only [Act.put, List.setIfInBounds_toArray, List.set_cons_zero, List.set_cons_succ]
            refine wpAnyH_ready (rs := [1]) (by kernel_rfl) (by simp) ?_
            refine AllReadyH.cons (drop_get rfl) (fun K hK => ?_) AllReadyH.nil
            go_simp
            go_at_call 13
            refine (free_j HT.out.x).mono ?_
            rw [HR8.out]
            rintro e wa ⟨rfl, hm5⟩
            have HX := hid (HX.out.mod hm5 (by simp))
            have HT := hid (HT.out.mod0 hm5)
            clear hm5
            refine hK _ _ HX.out ?_
            clear hK K
            intro _
            refine wpAnyH_take (i := 6) (v := ?_) (drop_get rfl) (by kernel_rfl) (by kernel_rfl) (by kernel_rfl) (fun _ _ _ h => h) (Or.inl ⟨by rfl, ?_⟩) HX.out ?_
            rotate_left
            · intro w9 hS9
              have k1 := Blk.cell hS9 1
              have k2 := Blk.cell hS9 2
              simp only [List.getElem?_toArray, List.getElem?_cons_zero, List.getElem?_cons_succ] at k1 k2
              go_simp
              try with_reducible rfl
            simp only [Act.put, List.setIfInBounds_toArray, List.set_cons_zero, List.set_cons_succ]
            refine wpAnyH_take (i := 7) (v := ?_) (drop_get rfl) (by kernel_rfl) (by kernel_rfl) (by kernel_rfl) (fun _ _ _ h => h) (Or.inl ⟨by rfl, ?_⟩) HX.out ?_
            rotate_left
            · intro w9 hS9
              have k1 := Blk.cell hS9 1
              have k2 := Blk.cell hS9 2
              simp only [List.getElem?_toArray, List.getElem?_cons_zero, List.getElem?_cons_succ] at k1 k2
              go_simp
              try with_reducible rfl
            simp only [Act.put, List.setIfInBounds_toArray, List.set_cons_zero, List.set_cons_succ]
            refine wpAnyH_take (i := 8) (v := ?_) (drop_get rfl) (by kernel_rfl) (by kernel_rfl) (by kernel_rfl) (fun _ _ _ h => h) (Or.inl ⟨by rfl, ?_⟩) HX.out ?_
            rotate_left
            · intro w9 hS9
              have k1 := Blk.cell hS9 1
              have k2 := Blk.cell hS9 2
              simp only [List.getElem?_toArray, List.getElem?_cons_zero, List.getElem?_cons_succ] at k1 k2
              go_simp
              try with_reducible rfl
            simp only [Act.put, List.setIfInBounds_toArray, List.set_cons_zero, List.set_cons_succ]
            refine wpAnyH_take (i := 10) (v := ?_) (drop_get rfl) (by kernel_rfl) (by kernel_rfl) (by kernel_rfl) (fun _ _ _ h => h) (Or.inl ⟨by rfl, ?_⟩) HX.out ?_
            rotate_left
            · intro w9 hS9
              have k1 := Blk.cell hS9 1
              have k2 := Blk.cell hS9 2
              simp only [List.getElem?_toArray, List.getElem?_cons_zero, List.getElem?_cons_succ] at k1 k2
              go_simp
              try with_reducible rfl
            simp only [Act.put, List.setIfInBounds_toArray, List.set_cons_zero, List.set_cons_succ]
            refine wpAnyH_take (i := 11) (v := ?_) (drop_get rfl) (by kernel_rfl) (by kernel_rfl) (by kernel_rfl) (fun _ _ _ h => h) (Or.inl ⟨by rfl, ?_⟩) HX.out ?_
            rotate_left
            · intro w9 hS9
              have k1 := Blk.cell hS9 1
              have k2 := Blk.cell hS9 2
              simp only [List.getElem?_toArray, List.getElem?_cons_zero, List.getElem?_cons_succ] at k1 k2
              go_simp
              try with_reducible rfl
            simp only [Act.put, List.setIfInBounds_toArray, List.set_cons_zero, List.set_cons_succ]
            refine wpAnyH_take (i := 12) (v := ?_) (drop_get rfl) (by kernel_rfl) (by kernel_rfl) (by kernel_rfl) (fun _ _ _ h => h) (Or.inl ⟨by rfl, ?_⟩) HX.out ?_
            rotate_left
            · intro w9 hS9
              have k1 := Blk.cell hS9 1
              have k2 := Blk.cell hS9 2
              simp only [List.getElem?_toArray, List.getElem?_cons_zero, List.getElem?_cons_succ] at k1 k2
              go_simp
              try with_reducible rfl
            simp only [Act.put, List.setIfInBounds_toArray, List.set_cons_zero, List.set_cons_succ]
            refine wpAnyH_take (i := 13) (v := ?_) (drop_get rfl) (by kernel_rfl) (by kernel_rfl) (by kernel_rfl) (fun _ _ _ h => h) (Or.inl ⟨by rfl, ?_⟩) HX.out ?_
            rotate_left
            · intro w9 hS9
              have k1 := Blk.cell hS9 1
              have k2 := Blk.cell hS9 2
              simp only [List.getElem?_toArray, List.getElem?_cons_zero, List.getElem?_cons_succ] at k1 k2
              go_simp
              try with_reducible rfl
            simp only [Act.put, List.setIfInBounds_toArray, List.set_cons_zero, List.set_cons_succ]
            refine wpAnyH_take (i := 14) (v := ?_) (drop_get rfl) (by kernel_rfl) (by kernel_rfl) (by kernel_rfl) (fun _ _ _ h => h) (Or.inl ⟨by rfl, ?_⟩) HX.out ?_
            rotate_left
            · intro w9 hS9
              have k1 := Blk.cell hS9 1
              have k2 := Blk.cell hS9 2
              simp only [List.getElem?_toArray, List.getElem?_cons_zero, List.getElem?_cons_succ] at k1 k2
              go_simp
              try with_reducible rfl
            simp only [Act.put, List.setIfInBounds_toArray, List.set_cons_zero, List.set_cons_succ]
            refine wpAnyH_ready (rs := [9]) (by kernel_rfl) (by simp) ?_
            refine AllReadyH.cons (drop_get rfl) (fun K hK => ?_) AllReadyH.nil
            go_simp
            go_at_call 16
            refine (sectors_j HT.out.x).mono ?_
            rintro e wb ⟨rfl, rfl⟩
            refine hK _ _ HX.out ?_
            clear hK K
            intro _
            refine wpAnyH_take (i := 15) (v := ?_) (drop_get rfl) (by kernel_rfl) (by kernel_rfl) (by kernel_rfl) (fun _ _ _ h => h) (Or.inl ⟨by rfl, ?_⟩) HX.out ?_
            rotate_left
            · intro w9 hS9
              have k1 := Blk.cell hS9 1
              have k2 := Blk.cell hS9 2
              simp only [List.getElem?_toArray, List.getElem?_cons_zero, List.getElem?_cons_succ] at k1 k2
              go_simp
              try with_reducible rfl
            simp only [Act.put, List.setIfInBounds_toArray, List.set_cons_zero, List.set_cons_succ]
            refine wpAnyH_take (i := 16) (v := ?_) (drop_get rfl) (by kernel_rfl) (by kernel_rfl) (by kernel_rfl) (fun _ _ _ h => h) (Or.inl ⟨by rfl, ?_⟩) HX.out ?_
            rotate_left
            · intro w9 hS9
              have k1 := Blk.cell hS9 1
              have k2 := Blk.cell hS9 2
              simp only [List.getElem?_toArray, List.getElem?_cons_zero, List.getElem?_cons_succ] at k1 k2
              go_simp
              try with_reducible rfl
            simp only [Act.put, List.setIfInBounds_toArray, List.set_cons_zero, List.set_cons_succ]
            refine wpAnyH_take (i := 17) (v := ?_) (drop_get rfl) (by kernel_rfl) (by kernel_rfl) (by kernel_rfl) (fun _ _ _ h => h) (Or.inl ⟨by rfl, ?_⟩) HX.out ?_
            rotate_left
            · intro w9 hS9
              have k1 := Blk.cell hS9 1
              have k2 := Blk.cell hS9 2
              simp only [List.getElem?_toArray, List.getElem?_cons_zero, List.getElem?_cons_succ] at k1 k2
              go_simp
              try with_reducible rfl
            simp only [Act.put, List.setIfInBounds_toArray, List.set_cons_zero, List.set_cons_succ]
            refine wpAnyH_take (i := 18) (v := ?_) (drop_get rfl) (by kernel_rfl) (by kernel_rfl) (by kernel_rfl) (fun _ _ _ h => h) (Or.inl ⟨by rfl, ?_⟩) HX.out ?_
            rotate_left
            · intro w9 hS9
              have k1 := Blk.cell hS9 1
              have k2 := Blk.cell hS9 2
              simp only [List.getElem?_toArray, List.getElem?_cons_zero, List.getElem?_cons_succ] at k1 k2
              go_simp
              try with_reducible rfl
            simp only [Act.put, List.setIfInBounds_toArray, List.set_cons_zero, List.set_cons_succ]
            refine wpAnyH_take (i := 20) (v := ?_) (drop_get rfl) (by kernel_rfl) (by kernel_rfl) (by kernel_rfl) (fun _ _ _ h => h) (Or.inl ⟨by rfl, ?_⟩) HX.out ?_
            rotate_left
            · intro w9 hS9
              have k1 := Blk.cell hS9 1
              have k2 := Blk.cell hS9 2
              simp only [List.getElem?_toArray, List.getElem?_cons_zero, List.getElem?_cons_succ] at k1 k2
              go_simp
              try with_reducible rfl
            simp only [Act.put, List.setIfInBounds_toArray, List.set_cons_zero, List.set_cons_succ]
            refine wpAnyH_ready (rs := [19]) (by kernel_rfl) (by simp) ?_
            refine AllReadyH.cons (drop_get rfl) (fun K hK => ?_) AllReadyH.nil
            go_simp
            go_at_call 17
            refine (dirty_j HT.out.x).mono ?_
            rw [HN9.out]
            rintro e wc ⟨A1, q1, rfl, ho1, hm5⟩
            have HO1 := hid ho1
            have HX := hid (HX.out.mod hm5 (by simp))
            have HT := hid (HT.out.mod0 hm5)
            clear hm5 ho1
            refine hK _ _ HX.out ?_
            clear hK K
            intro _
            refine wpAnyH_ready (rs := [21]) (by kernel_rfl) (by simp) ?_
            refine AllReadyH.cons (drop_get rfl) (fun K hK => ?_) AllReadyH.nil
            go_simp
            go_at_call 23
            refine (rdirty_j HT.out.y).mono ?_
            rw [HN9.out]
            rintro e wd ⟨A2, q2, rfl, ho2, hm5⟩
            have HO1 := hid (ownsRow_other HO1.out (fun g _ hl => hm5.block g hl (by simp)))
            have HO2 := hid ho2
            have HX := hid (HX.out.mod hm5 (by simp))
            have HT := hid (HT.out.mod0 hm5)
            clear hm5 ho2
            refine hK _ _ HX.out ?_
            clear hK K
            intro _
            refine wpAnyH_ready (rs := [22]) (by kernel_rfl) (by simp) ?_
            refine AllReadyH.cons (drop_get rfl) (fun K hK => ?_) AllReadyH.nil
            go_simp
            go_at_call 22
            refine (ints_f A1 A2 Nn q1 q2 _ _ (dirtyL F0 k) (by rw [dirtyL_length]; exact HN9.out) (by have := HR9.out; have := HM0.out; omega) HO1.out HO2.out).mono ?_
            rintro e we ⟨rfl, hm5⟩
            have HX := hid (HX.out.mod hm5 (by simp))
            have HT := hid (HT.out.mod0 hm5)
            clear hm5
            refine hK _ _ HX.out ?_
            clear hK K
            intro _
            refine wpAnyH_take (i := 23) (v := ?_) (drop_get rfl) (by kernel_rfl) (by kernel_rfl) (by kernel_rfl) (fun _ _ _ h => h) (Or.inl ⟨by rfl, ?_⟩) HX.out ?_
            rotate_left
            · intro w9 hS9
              have k1 := Blk.cell hS9 1
              have k2 := Blk.cell hS9 2
              simp only [List.getElem?_toArray, List.getElem?_cons_zero, List.getElem?_cons_succ] at k1 k2
              go_simp
              try with_reducible rfl
            simp only [Act.put, List.setIfInBounds_toArray, List.set_cons_zero, List.set_cons_succ]
            refine wpAnyH_take (i := 24) (v := ?_) (drop_get rfl) (by kernel_rfl) (by kernel_rfl) (by kernel_rfl) (fun _ _ _ h => h) (Or.inl ⟨by rfl, ?_⟩) HX.out ?_
            rotate_left
            · intro w9 hS9
              have k1 := Blk.cell hS9 1
              have k2 := Blk.cell hS9 2
              simp only [List.getElem?_toArray, List.getElem?_cons_zero, List.getElem?_cons_succ] at k1 k2
              go_simp
              try with_reducible rfl
            simp only [Act.put, List.setIfInBounds_toArray, List.set_cons_zero, List.set_cons_succ]
            refine wpAnyH_done (by kernel_rfl) ?_ _
            go_wp2_with fail
            refine ⟨?_, ?_⟩
            · refine ⟨_, _, _, _, _, _, _, _, _, _, _, _, _, _, _, _, _, _, _, _, _, _, _, _, _, _, _, _, _, _, _, _, _, _, _, _, _, _, _, _, _, _, _, _, _, _, _, _, _, _, _, _, _, _, _, _, _, _, _, _, _, _, _, _, _, _, _, _, _, _, ?_, rfl⟩
              exact ⟨j + 1, p, mb, B, F0, by omega, rfl, by go_num, HT⟩
            · simp [intOf]; omega

theorem plays_walk (a : Option Addr) (len cap : Nat) (m : Int) (_ : (Lit.int .i64 m).wf = true) (a2 : Option Addr) (len2 cap2 : Nat) (w : World) (hu : IsU8s w a len ∧ len ≤ cap) (ho : ∃ O, IsScr w a2 len2 O) :
    Calls Try.prog 7 #[.slice a len cap, .int .i64 m, .slice a2 len2 cap2] w fun e w' => e = .returned (.bool true) ∧ Below w.heap.size w w' := by
  obtain ⟨hu, hcap⟩ := hu
  obtain ⟨O, ho⟩ := ho
  obtain ⟨g, hb, _⟩ := u8s_bys hu
  by_cases h : len ≤ 16384
  case neg => exact plays_long a len cap g m _ w hb hu.1 (by omega)
  by_cases hbad : len % 64 = 0 ∧ 0 ≤ m ∧ m ≤ 256
  case neg => exact plays_arg a len cap g m _ w hb hu.1 h hbad
  obtain ⟨M, rfl⟩ := Int.eq_ofNat_of_zero_le hbad.2.1
  obtain ⟨k, rfl⟩ : ∃ k, len = 64 * k := ⟨len / 64, by omega⟩
  exact plays_ok a k cap M g a2 len2 cap2 O w hb (by omega) (by omega) ho
end Go.Proofs.Ytpabfghpfigoaaa
