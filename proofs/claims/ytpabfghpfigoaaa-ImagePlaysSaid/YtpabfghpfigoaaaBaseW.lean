/-
  Layer 12: ImageBase: the walk.
-/
import Derived.Test.YtpabfghpfigoaaaNow
import Derived.Deep.Cut
import Derived.LoopTactic
namespace Go.Proofs.Ytpabfghpfigoaaa
open Go.RowKit Go.Tn Go.Shelf
open Go.Proofs

set_option maxRecDepth 100000 in
set_option maxHeartbeats 2000000 in
theorem base_long (a : Option Addr) (len cap : Nat) (g : Nat → Int) (m : Int) (v : Value) (w : World) (hb : Bys w a len g) (hl : len ≤ 140737488351232) (h : 16384 < len) :
    Calls Try.prog 5 #[.slice a len cap, .int .i64 m, v] w fun e w' => e = .returned (.bool true) ∧ Below w.heap.size w w' := by
  have HB := hid hb
  have HL := hid hl
  have hlI : (len : Int) ≤ 140737488351232 := by omega
  have HQ := hid (Blk.new w 5 #[])
  have hm0 := hid ((Mod.refl [] w).alloc (.cells #[] 5))
  have HX := hid h
  clear hb hl h
  go_enter Try.func5, Try.ntmps5
  go_wp2_with (at_builtin; refine wpList_app5 rfl _ _ rfl w.heap.size rfl a len cap rfl g HQ.out (HB.out.mod hm0.out (by simp)) (by have := HL.out; omega) ?_)
  intro q' c' w1 h1 h2 h3 cs h4 h5 h6
  have HM1 := hid (hm0.out.trans h5 (by simp))
  have H2 := hid h2
  have H3 := hid h3
  have H6 := hid h6
  clear h1 h2 h3 h4 h5 h6
  go_wp2_with (first
    | (go_at_call 8; refine (new_long _ len c' m w1 HX.out).mono ?_; rintro e w2 ⟨rfl, rfl⟩)
    | (go_at_call 19; refine (awake_f _).mono ?_; rintro e w9 ⟨rfl, hm9⟩; have HM9 := hid (HM1.out.andThen hm9); clear hm9))
  go_ret
  exact ⟨rfl, HM9.out.below (Nat.le_refl _) (by simp)⟩

set_option maxRecDepth 100000 in
set_option maxHeartbeats 2000000 in
theorem base_arg (a : Option Addr) (len cap : Nat) (g : Nat → Int) (m : Int) (v : Value) (w : World) (hb : Bys w a len g) (hl : len ≤ 140737488351232) (h : len ≤ 16384) (hbad : ¬ (len % 64 = 0 ∧ 0 ≤ m ∧ m ≤ 256)) :
    Calls Try.prog 5 #[.slice a len cap, .int .i64 m, v] w fun e w' => e = .returned (.bool true) ∧ Below w.heap.size w w' := by
  have HB := hid hb
  have HL := hid hl
  have hlI : (len : Int) ≤ 140737488351232 := by omega
  have HQ := hid (Blk.new w 5 #[])
  have hm0 := hid ((Mod.refl [] w).alloc (.cells #[] 5))
  have HX := hid h
  have HB2 := hid hbad
  clear hb hl h hbad
  go_enter Try.func5, Try.ntmps5
  go_wp2_with (at_builtin; refine wpList_app5 rfl _ _ rfl w.heap.size rfl a len cap rfl g HQ.out (HB.out.mod hm0.out (by simp)) (by have := HL.out; omega) ?_)
  intro q' c' w1 h1 h2 h3 cs h4 h5 h6
  have HM1 := hid (hm0.out.trans h5 (by simp))
  have H2 := hid h2
  have H3 := hid h3
  have H6 := hid h6
  clear h1 h2 h3 h4 h5 h6
  go_wp2_with (first
    | (go_at_call 8; refine (new_arg _ len c' m w1 HX.out HB2.out).mono ?_; rintro e w2 ⟨rfl, rfl⟩)
    | (go_at_call 19; refine (awake_f _).mono ?_; rintro e w9 ⟨rfl, hm9⟩; have HM9 := hid (HM1.out.andThen hm9); clear hm9))
  go_ret
  exact ⟨rfl, HM9.out.below (Nat.le_refl _) (by simp)⟩

theorem box_cells {w : World} {b : Nat} {v0 v1 v2 v3 v4 : Value} (h : Blk w b 29 #[v0, v1, v2, v3, v4]) : w.cell? ⟨b, 0, none⟩ = some v0 ∧ w.cell? ⟨b, 1, none⟩ = some v1 ∧ w.cell? ⟨b, 2, none⟩ = some v2 ∧ w.cell? ⟨b, 3, none⟩ = some v3 ∧ w.cell? ⟨b, 4, none⟩ = some v4 :=
  ⟨h.cell 0, h.cell 1, h.cell 2, h.cell 3, h.cell 4⟩
theorem JM.parts {w : World} {p mb B k m : Nat} {d : Nat → Int} {f : Int → Option (Nat → Int)} (h : JM w p mb B d k m f) : ∃ Nn R : Nat, num f k = Nn ∧ R + Nn = m ∧ (m : Int) - ((num f k : Nat) : Int) = (R : Int) :=
  ⟨num f k, m - num f k, rfl, by have := h.le; omega, by have := h.le; omega⟩
theorem wrE_zero {k m : Nat} {f : Int → Option (Nat → Int)} {x : Int} {len : Nat} (h : wrE k m f x len = 0) : ∃ A : Nat, A < k ∧ x = (A : Int) ∧ len = 64 := by
  unfold wrE at h
  split at h
  · omega
  · rename_i h1
    split at h
    · omega
    · rename_i h2
      exact ⟨x.toNat, by omega, by omega, by omega⟩

set_option maxRecDepth 100000 in
set_option maxHeartbeats 40000000 in
theorem base_ok (a : Option Addr) (k cap M : Nat) (g : Nat → Int) (a2 : Option Addr) (len2 cap2 : Nat) (O : Nat → OpV) (w : World) (hb : Bys w a (64 * k) g) (hk : k ≤ 256) (hM : M ≤ 256) (hcap : 64 * k ≤ cap) (ho : IsScr w a2 len2 O) :
    Calls Try.prog 5 #[.slice a (64 * k : Nat) cap, .int .i64 (M : Nat), .slice a2 len2 cap2] w fun e w' => e = .returned (.bool true) ∧ Below w.heap.size w w' := by
  have HB := hid hb
  have HQ := hid (Blk.new w 5 #[])
  have hm0 := hid ((Mod.refl [] w).alloc (.cells #[] 5))
  have hlen2 := ho.1
  have HO := hid ho
  have HK := hid hk
  have HM0 := hid hM
  have HCAP := hid hcap
  have hkI : (k : Int) ≤ 256 := by omega
  have hMI : (M : Int) ≤ 256 := by omega
  have t2 : ((64 * k : Nat) : Int).tdiv 64 = (k : Int) := by rw [Int.tdiv_eq_ediv_of_nonneg (by omega)]; omega
  have hmk := fun W : World => make_rows k (by omega) W
  clear hb hk hM hcap ho
  go_enter Try.func5, Try.ntmps5
  go_wp2_with (at_builtin; refine wpList_app5 rfl _ _ rfl w.heap.size rfl a (64 * k) cap rfl g HQ.out (HB.out.mod hm0.out (by simp)) (by have := HK.out; omega) ?_)
  intro q' c' w1 h1 h2 h3 cs h4 h5 h6
  have HM1 := hid (hm0.out.trans h5 (by simp))
  have H2 := hid h2
  have H3 := hid h3
  have H6 := hid h6
  clear h1 h2 h3 h4 h5 h6
  go_wp2_with (first
    | (go_at_call 8; refine (new_j q' 0 k c' M g w1 HK.out HM0.out H6.out H2.out (fun j hj => by rw [Nat.zero_add]; exact H3.out j hj)).mono ?_
       rintro e w2 ⟨p, mb, B, rfl, hJ, hmb, _, hm2⟩
       have HJ := hid (show JM w2 p mb B g k M f00 from hJ)
       have HMB := hid (show w.heap.size ≤ mb from Nat.le_trans HM1.out.size hmb)
       have HMM := hid (HM1.out.andThen hm2)
       clear hJ hmb hm2))
  have HNB := hid (show w.heap.size ≤ w2.heap.size from HMM.out.size)
  have HNE := hid (show w2.heap.size ≠ mb from fun e => by have := HJ.out.im.is.lt; omega)
  go_loopw [11] (fun i wr => ∃ (j : Nat) (cs : Array Value), j ≤ k ∧ i = .int .i64 j ∧ Hid (Blk wr w2.heap.size 27 cs ∧ cs.size = k ∧ ∀ b off, a = some ⟨b, off, none⟩ → ∀ t, t < j → ∃ c, cs[t]? = some (.slice (some ⟨b, off + 64 * t, none⟩) 64 c)) ∧ Hid (JM wr p mb B g k M f00) ∧ Hid (Tn.Mod [] w wr)) (fun i _ => k - (intOf i).toNat)
  case atStart => exact ⟨0, nils k, Nat.zero_le _, rfl, ⟨Blk.new w2 27 (nils k), nils_size k, fun b off _ t ht => by omega⟩, HJ.out.mod0 ((Mod.refl [] w2).alloc _), HMM.out.alloc _⟩
  case round =>
    clear HJ HMM hmk
    obtain ⟨j, cs, hj, rfl, hN, HJ, HMM⟩ := hrel
    by_cases hlt : j < k
    case pos =>
      obtain ⟨b, off, rfl, hbB, hbc⟩ := HB.out (by omega)
      obtain ⟨L, hL⟩ : ∃ L, j * 64 = L := ⟨_, rfl⟩
      obtain ⟨H, hH⟩ : ∃ H, (j + 1) * 64 = H := ⟨_, rfl⟩
      have t4 : (j : Int) * 64 = (L : Int) := by have := HK.out; omega
      have t5 : ((j : Int) + 1) * 64 = (H : Int) := by have := HK.out; omega
      have hLI : (L : Int) ≤ 16384 := by have := HK.out; omega
      have hHI : (H : Int) ≤ 16384 := by have := HK.out; omega
      have hJI : (j : Int) ≤ 256 := by have := HK.out; omega
      have hsl := slice_64 (b := b) (off := off) (len := 64 * k) (cap := cap) (l := L) (h := H) (by omega) (by have := HCAP.out; omega)
      obtain ⟨u0, hu0⟩ : ∃ u, wr.cell? ⟨w2.heap.size, j, none⟩ = some u := ⟨cs[j]'(by have := hN.out.2.1; omega), by rw [hN.out.1.cell]; have := hN.out.2.1; simp [this, hlt]⟩
      have f0 := hN.out.1.frozen j
      have HBC := hid hbc
      have HLJ := hid (show L = 64 * j by omega)
      clear hbc hL hH hbB
      go_wp2
      go_roundw
      case rel =>
        refine ⟨j + 1, cs.setIfInBounds j (.slice (some ⟨b, off + L, none⟩) 64 (cap - L)), by omega, by go_num, ⟨hN.out.1.set_ j _, by simp [hN.out.2.1], fun b' off' e t ht => ?_⟩, HJ.out.other hN.out.1 (by decide) (by decide) ((Mod.refl _ wr).setCell (.inl (by simp)) _), HMM.out.setCell (.inr HNB.out) _⟩
        cases e
        rw [Array.getElem?_setIfInBounds]
        by_cases e : j = t
        · subst e
          have := hN.out.2.1
          rw [if_pos rfl, if_pos (by omega)]
          exact ⟨_, by rw [HLJ.out]⟩
        · rw [if_neg e]
          exact hN.out.2.2 b off rfl t (by omega)
      case measure => simp [intOf]; omega
    case neg =>
      obtain rfl : k = j := by omega
      have HN := hid (show NowOk wr w2.heap.size mb cs g f00 k from ⟨hN.out.1, hN.out.2.1, HNE.out, fun i hi => by
        obtain ⟨b, off, e, hbB, hbc⟩ := HB.out (by omega)
        obtain ⟨c, hc⟩ := hN.out.2.2 b off e i hi
        subst e
        refine ⟨b, off + 64 * i, c, hc, by have := HNB.out; omega, by have := HMB.out; omega, ?_⟩
        have h1 := Bys_win (l := 64 * i) (n := 64) (HB.out.mod HMM.out (by simp)) (by omega)
        rw [cur_none (f00_at _)]
        exact h1⟩)
      generalize hnb : w2.heap.size = nb at HN HNB HNE
      clear hlt hN t2 hnb
      go_wp2_with fail
      go_loopw [12] (fun i wr => ∃ (j : Nat) (cs : Array Value) (f : Int → Option (Nat → Int)), j ≤ len2 ∧ i = .int .i64 j ∧ Hid (NowOk wr nb mb cs g f k) ∧ Hid (JM wr p mb B g k M f) ∧ Hid (Tn.Mod [] w wr)) (fun i _ => len2 - (intOf i).toNat)
      case atStart => exact ⟨0, cs, f00, Nat.zero_le _, rfl, HN, HJ, HMM⟩
      case round =>
        clear HN HJ HMM
        obtain ⟨j, cs, f, hj, rfl, HN, HJ, HMM⟩ := hrel
        by_cases hlt : j < len2
        case pos =>
          obtain ⟨sb, so, rfl, hbB, hop⟩ := scr_at HO.out hlt
          have hop2 := OpAt_mod hop hbB HMM.out
          generalize O j = o at hop2 hop
          obtain ⟨x, y, z, u, F, cf, fr⟩ := o
          obtain ⟨c0, c1, c2, c3, c4, hB, hL, hu0, hu1⟩ := hop2
          have HBY0 := hid (Bytes_bys hop.2.2.2.2.2.1)
          have HLB := hid hL
          clear hB hL hu0 hu1 hop hbB
          by_cases hx1 : x = 1
          · subst hx1
            by_cases he : wrE k M f y (opLen fr.length) = 0
            case pos =>
              obtain ⟨A, hA, rfl, ho64⟩ := wrE_zero he
              have hal : Tn.Mod [] wr (wr.alloc (.cells #[.int .i64 1, .int .i64 (A : Int), .int .i64 z, .int .u8 u, .slice F fr.length cf] 29)) := (Mod.refl [] wr).alloc _
              have HX := hid (Blk.new wr 29 #[.int .i64 1, .int .i64 (A : Int), .int .i64 z, .int .u8 u, .slice F fr.length cf])
              have HN := hid (HN.out.mod hal (by simp))
              have HJ := hid (HJ.out.mod0 hal)
              have HMM := hid (HMM.out.andThen hal)
              have HO64 := hid ho64
              have HE := hid (show wrE k M f (A : Int) 64 = 0 by rw [← ho64]; exact he)
              have HF := hid (show wrF k M f (A : Int) 64 (opG u fr.length (fun j => fr.getD j 0)) = put f (A : Int) (some (opG u fr.length (fun j => fr.getD j 0))) by unfold wrF; rw [HE.out]; rfl)
              have hAI : (A : Int) < (k : Int) := by omega
              have HA := hid hA
              clear he ho64 hA
              go_wp2_with fail
              have HX := hid (HX.out.mod ((Mod.refl [] (wr.alloc (.cells #[.int .i64 1, .int .i64 (A : Int), .int .i64 z, .int .u8 u, .slice F fr.length cf] 29))).drew) (by simp))
              have HN := hid (HN.out.mod ((Mod.refl [] (wr.alloc (.cells #[.int .i64 1, .int .i64 (A : Int), .int .i64 z, .int .u8 u, .slice F fr.length cf] 29))).drew) (by simp))
              have HJ := hid (HJ.out.mod0 ((Mod.refl [] (wr.alloc (.cells #[.int .i64 1, .int .i64 (A : Int), .int .i64 z, .int .u8 u, .slice F fr.length cf] 29))).drew))
              have HMM := hid (HMM.out.drew)
              refine wp_region_held_drew (S := fun w' => Blk w' wr.heap.size 29 #[.int .i64 1, .int .i64 (A : Int), .int .i64 z, .int .u8 u, .slice F fr.length cf]) (by kernel_rfl) HX.out (fun hHeld => ?_)
              refine wpAnyH_take (i := 0) (v := ?_) (drop_get rfl) (by kernel_rfl) (by kernel_rfl) (by kernel_rfl) (fun _ _ _ h => h) (Or.inl ⟨by rfl, ?_⟩) HX.out ?_
              rotate_left
              · intro w9 hS9
                obtain ⟨k0, k1, k2, k3, k4⟩ := box_cells hS9
                go_simp
                try with_reducible rfl
              simp only [Act.put, List.setIfInBounds_toArray, List.set_cons_zero, List.set_cons_succ]
              refine wpAnyH_take (i := 1) (v := ?_) (drop_get rfl) (by kernel_rfl) (by kernel_rfl) (by kernel_rfl) (fun _ _ _ h => h) (Or.inl ⟨by rfl, ?_⟩) HX.out ?_
              rotate_left
              · intro w9 hS9
                obtain ⟨k0, k1, k2, k3, k4⟩ := box_cells hS9
                go_simp
                try with_reducible rfl
              simp only [Act.put, List.setIfInBounds_toArray, List.set_cons_zero, List.set_cons_succ]
              refine wpAnyH_take (i := 2) (v := ?_) (drop_get rfl) (by kernel_rfl) (by kernel_rfl) (by kernel_rfl) (fun _ _ _ h => h) (Or.inl ⟨by rfl, ?_⟩) HX.out ?_
              rotate_left
              · intro w9 hS9
                obtain ⟨k0, k1, k2, k3, k4⟩ := box_cells hS9
                go_simp
                try with_reducible rfl
              simp only [Act.put, List.setIfInBounds_toArray, List.set_cons_zero, List.set_cons_succ]
              refine wpAnyH_take (i := 3) (v := ?_) (drop_get rfl) (by kernel_rfl) (by kernel_rfl) (by kernel_rfl) (fun _ _ _ h => h) (Or.inl ⟨by rfl, ?_⟩) HX.out ?_
              rotate_left
              · intro w9 hS9
                obtain ⟨k0, k1, k2, k3, k4⟩ := box_cells hS9
                go_simp
                try with_reducible rfl
              simp only [Act.put, List.setIfInBounds_toArray, List.set_cons_zero, List.set_cons_succ]
              refine wpAnyH_ready (rs := [4]) (by kernel_rfl) (by simp) ?_
              refine AllReadyH.cons (drop_get rfl) (fun K hK => ?_) AllReadyH.nil
              go_simp
              go_at_call 11
              refine (bytes_f _ _ _ u F fr.length cf (fun j => fr.getD j 0) _ (HBY0.out.mod HMM.out (by simp)) HLB.out).mono ?_
              rw [HO64.out]
              rintro e w3 ⟨q, cq, rfl, hc3, hq1, hq2, ⟨csq, hq3⟩, hm3⟩
              have HC := hid hc3
              have HQ3 := hid hq2
              have HQB := hid hq3
              have HX := hid (HX.out.mod hm3 (by simp))
              have HJ := hid (HJ.out.mod0 hm3)
              have HN := hid (HN.out.mod hm3 (by simp))
              have HMM := hid (HMM.out.andThen hm3)
              clear hc3 hq1 hq2 hq3 hm3
              refine hK _ _ HX.out ?_
              clear hK K
              intro _
              refine wpAnyH_ready (rs := [5]) (by kernel_rfl) (by simp) ?_
              refine AllReadyH.cons (drop_get rfl) (fun K hK => ?_) AllReadyH.nil
              go_simp
              go_at_call 10
              refine (write_j HJ.out _ q 0 _ cq (opG u fr.length (fun j => fr.getD j 0)) HQ3.out (fun j hj => by rw [Nat.zero_add]; exact HC.out j hj)).mono ?_
              rw [HE.out, HF.out]
              rintro e w4 ⟨rfl, hJ4, hm4⟩
              have HX := hid (HX.out.mod hm4 (by simp; exact HX.out.ne_map HJ.out.im.is.imap))
              have HN := hid (HN.out.mod hm4 (by simp))
              have HJ := hid hJ4
              have HMM := hid (HMM.out.trans hm4 (by intro s hs; simp at hs; subst hs; exact .inr HMB.out))
              clear hJ4 hm4
              refine hK _ _ HX.out ?_
              clear hK K
              intro _
              refine wpAnyH_take (i := 6) (v := ?_) (drop_get rfl) (by kernel_rfl) (by kernel_rfl) (by kernel_rfl) (fun _ _ _ h => h) (Or.inl ⟨by rfl, ?_⟩) HX.out ?_
              rotate_left
              · intro w9 hS9
                obtain ⟨k0, k1, k2, k3, k4⟩ := box_cells hS9
                go_simp
                try with_reducible rfl
              simp only [Act.put, List.setIfInBounds_toArray, List.set_cons_zero, List.set_cons_succ]
              refine wpAnyH_done (by kernel_rfl) ?_ _
              go_wp2_with fail
              have HX := hid (HX.out.mod ((Mod.refl [] (w4)).drew) (by simp))
              have HN := hid (HN.out.mod ((Mod.refl [] (w4)).drew) (by simp))
              have HJ := hid (HJ.out.mod0 ((Mod.refl [] (w4)).drew))
              have HMM := hid (HMM.out.drew)
              refine wp_region_held_drew (S := fun w' => Blk w' wr.heap.size 29 #[.int .i64 1, .int .i64 (A : Int), .int .i64 z, .int .u8 u, .slice F fr.length cf]) (by kernel_rfl) HX.out (fun hHeld => ?_)
              refine wpAnyH_take (i := 0) (v := ?_) (drop_get rfl) (by kernel_rfl) (by kernel_rfl) (by kernel_rfl) (fun _ _ _ h => h) (Or.inl ⟨by rfl, ?_⟩) HX.out ?_
              rotate_left
              · intro w9 hS9
                obtain ⟨k0, k1, k2, k3, k4⟩ := box_cells hS9
                go_simp
                try with_reducible rfl
              simp only [Act.put, List.setIfInBounds_toArray, List.set_cons_zero, List.set_cons_succ]
              refine wpAnyH_take (i := 1) (v := ?_) (drop_get rfl) (by kernel_rfl) (by kernel_rfl) (by kernel_rfl) (fun _ _ _ h => h) (Or.inl ⟨by rfl, ?_⟩) HX.out ?_
              rotate_left
              · intro w9 hS9
                obtain ⟨k0, k1, k2, k3, k4⟩ := box_cells hS9
                go_simp
                try with_reducible rfl
              simp only [Act.put, List.setIfInBounds_toArray, List.set_cons_zero, List.set_cons_succ]
              refine wpAnyH_take (i := 2) (v := ?_) (drop_get rfl) (by kernel_rfl) (by kernel_rfl) (by kernel_rfl) (fun _ _ _ h => h) (Or.inl ⟨by rfl, ?_⟩) HX.out ?_
              rotate_left
              · intro w9 hS9
                obtain ⟨k0, k1, k2, k3, k4⟩ := box_cells hS9
                go_simp
                try with_reducible rfl
              simp only [Act.put, List.setIfInBounds_toArray, List.set_cons_zero, List.set_cons_succ]
              refine wpAnyH_take (i := 3) (v := ?_) (drop_get rfl) (by kernel_rfl) (by kernel_rfl) (by kernel_rfl) (fun _ _ _ h => h) (Or.inl ⟨by rfl, ?_⟩) HX.out ?_
              rotate_left
              · intro w9 hS9
                obtain ⟨k0, k1, k2, k3, k4⟩ := box_cells hS9
                go_simp
                try with_reducible rfl
              simp only [Act.put, List.setIfInBounds_toArray, List.set_cons_zero, List.set_cons_succ]
              refine wpAnyH_ready (rs := [4]) (by kernel_rfl) (by simp) ?_
              refine AllReadyH.cons (drop_get rfl) (fun K hK => ?_) AllReadyH.nil
              go_simp
              go_at_call 11
              refine (bytes_f _ _ _ u F fr.length cf (fun j => fr.getD j 0) _ (HBY0.out.mod HMM.out (by simp)) HLB.out).mono ?_
              rw [HO64.out]
              rintro e w3 ⟨q, cq, rfl, hc3, hq1, hq2, ⟨csq, hq3⟩, hm3⟩
              have HC := hid hc3
              have HQ3 := hid hq2
              have HQB := hid hq3
              have HX := hid (HX.out.mod hm3 (by simp))
              have HJ := hid (HJ.out.mod0 hm3)
              have HN := hid (HN.out.mod hm3 (by simp))
              have HMM := hid (HMM.out.andThen hm3)
              clear hc3 hq1 hq2 hq3 hm3
              have f0 := HN.out.blk.frozen A
              obtain ⟨u0, hu0⟩ : ∃ u, w3.cell? ⟨nb, A, none⟩ = some u := ⟨cs[A]'(by have := HN.out.size; have := HA.out; omega), by rw [HN.out.blk.cell]; have := HN.out.size; have := HA.out; simp [*]⟩
              refine hK _ _ HX.out ?_
              clear hK K
              intro _
              refine wpAnyH_take (i := 5) (v := ?_) (drop_get rfl) (by kernel_rfl) (by kernel_rfl) (by kernel_rfl) (fun _ _ _ h => h) (Or.inl ⟨by rfl, ?_⟩) HX.out ?_
              rotate_left
              · intro w9 hS9
                obtain ⟨k0, k1, k2, k3, k4⟩ := box_cells hS9
                go_simp
                try with_reducible rfl
              simp only [Act.put, List.setIfInBounds_toArray, List.set_cons_zero, List.set_cons_succ]
              have HNS := hid (HN.out.set (c := cq) HA.out (HQB.out.ne_ HN.out.blk (by decide)) (HQB.out.ne_map HJ.out.im.is.imap) (Bys_cells HQ3.out HC.out) (cur_some (put_at f (A : Int) (some (opG u fr.length (fun j => fr.getD j 0))))) (fun i _ hi => cur_put hi))
              have hmS : Tn.Mod [nb] w3 (w3.setCell ⟨nb, A, none⟩ (.slice (some ⟨q, 0, none⟩) 64 cq)) := (Mod.refl _ w3).setCell (.inl (by simp)) _
              have HJ := hid (HJ.out.other HN.out.blk (by decide) (by decide) hmS)
              have HX := hid (HX.out.mod hmS (by simp; exact HX.out.ne_ HN.out.blk (by decide)))
              have HMM := hid (HMM.out.setCell (p := ⟨nb, A, none⟩) (.inr HNB.out) (.slice (some ⟨q, 0, none⟩) 64 cq))
              have HN := HNS
              refine wpAnyH_ready (rs := [6]) (by kernel_rfl) (by simp) ?_
              refine AllReadyH.cons (drop_get rfl) (fun K hK => ?_) AllReadyH.nil
              go_simp
              refine hK _ _ HX.out ?_
              clear hK K
              intro _
              refine wpAnyH_done (by kernel_rfl) ?_ _
              go_wp2_with (first
                | (go_at_call 13; refine (free_j HJ.out).mono ?_
                   obtain ⟨Nn, R, hN9, hR9, hR8⟩ := JM.parts HJ.out
                   rw [hR8]
                   rintro e w5 ⟨rfl, hm5⟩
                   have t9 : (R : Int) + (Nn : Int) = (M : Int) := by omega
                   have hRI : (R : Int) ≤ 256 := by have := HM0.out; omega
                   have hNI : (Nn : Int) ≤ 256 := by have := HM0.out; omega
                   have HNN := hid hN9
                   have HN := hid (HN.out.mod hm5 (by simp))
                   have HJ := hid (HJ.out.mod0 hm5)
                   have HMM := hid (HMM.out.andThen hm5)
                   clear hm5 hN9 hR9 hR8)
                | (go_at_call 17; refine (dirty_j HJ.out).mono ?_
                   rw [HNN.out]
                   rintro e w6 ⟨A9, c9, rfl, _, hm6⟩
                   have HN := hid (HN.out.mod hm6 (by simp))
                   have HJ := hid (HJ.out.mod0 hm6)
                   have HMM := hid (HMM.out.andThen hm6)
                   clear hm6))
              go_roundw
              case rel => exact ⟨j + 1, _, _, by omega, by go_num, HN, HJ, HMM⟩
              case measure => simp [intOf]; omega
            case neg =>
              have hal : Tn.Mod [] wr (wr.alloc (.cells #[.int .i64 1, .int .i64 y, .int .i64 z, .int .u8 u, .slice F fr.length cf] 29)) := (Mod.refl [] wr).alloc _
              have HX := hid (Blk.new wr 29 #[.int .i64 1, .int .i64 y, .int .i64 z, .int .u8 u, .slice F fr.length cf])
              have HN := hid (HN.out.mod hal (by simp))
              have HJ := hid (HJ.out.mod0 hal)
              have HMM := hid (HMM.out.andThen hal)
              have HSE := hid he
              have hE0 : wrE k M f y (opLen fr.length) ≠ 0 := he
              have HF := hid (show wrF k M f y (opLen fr.length) (opG u fr.length (fun j => fr.getD j 0)) = f by unfold wrF; rw [if_neg he])
              generalize hEE : wrE k M f y (opLen fr.length) = E0 at hE0
              have HE := hid hEE
              clear hEE he
              go_wp2_with fail
              have HX := hid (HX.out.mod ((Mod.refl [] (wr.alloc (.cells #[.int .i64 1, .int .i64 y, .int .i64 z, .int .u8 u, .slice F fr.length cf] 29))).drew) (by simp))
              have HN := hid (HN.out.mod ((Mod.refl [] (wr.alloc (.cells #[.int .i64 1, .int .i64 y, .int .i64 z, .int .u8 u, .slice F fr.length cf] 29))).drew) (by simp))
              have HJ := hid (HJ.out.mod0 ((Mod.refl [] (wr.alloc (.cells #[.int .i64 1, .int .i64 y, .int .i64 z, .int .u8 u, .slice F fr.length cf] 29))).drew))
              have HMM := hid (HMM.out.drew)
              refine wp_region_held_drew (S := fun w' => Blk w' wr.heap.size 29 #[.int .i64 1, .int .i64 y, .int .i64 z, .int .u8 u, .slice F fr.length cf]) (by kernel_rfl) HX.out (fun hHeld => ?_)
              refine wpAnyH_take (i := 0) (v := ?_) (drop_get rfl) (by kernel_rfl) (by kernel_rfl) (by kernel_rfl) (fun _ _ _ h => h) (Or.inl ⟨by rfl, ?_⟩) HX.out ?_
              rotate_left
              · intro w9 hS9
                obtain ⟨k0, k1, k2, k3, k4⟩ := box_cells hS9
                go_simp
                try with_reducible rfl
              simp only [Act.put, List.setIfInBounds_toArray, List.set_cons_zero, List.set_cons_succ]
              refine wpAnyH_take (i := 1) (v := ?_) (drop_get rfl) (by kernel_rfl) (by kernel_rfl) (by kernel_rfl) (fun _ _ _ h => h) (Or.inl ⟨by rfl, ?_⟩) HX.out ?_
              rotate_left
              · intro w9 hS9
                obtain ⟨k0, k1, k2, k3, k4⟩ := box_cells hS9
                go_simp
                try with_reducible rfl
              simp only [Act.put, List.setIfInBounds_toArray, List.set_cons_zero, List.set_cons_succ]
              refine wpAnyH_take (i := 2) (v := ?_) (drop_get rfl) (by kernel_rfl) (by kernel_rfl) (by kernel_rfl) (fun _ _ _ h => h) (Or.inl ⟨by rfl, ?_⟩) HX.out ?_
              rotate_left
              · intro w9 hS9
                obtain ⟨k0, k1, k2, k3, k4⟩ := box_cells hS9
                go_simp
                try with_reducible rfl
              simp only [Act.put, List.setIfInBounds_toArray, List.set_cons_zero, List.set_cons_succ]
              refine wpAnyH_take (i := 3) (v := ?_) (drop_get rfl) (by kernel_rfl) (by kernel_rfl) (by kernel_rfl) (fun _ _ _ h => h) (Or.inl ⟨by rfl, ?_⟩) HX.out ?_
              rotate_left
              · intro w9 hS9
                obtain ⟨k0, k1, k2, k3, k4⟩ := box_cells hS9
                go_simp
                try with_reducible rfl
              simp only [Act.put, List.setIfInBounds_toArray, List.set_cons_zero, List.set_cons_succ]
              refine wpAnyH_ready (rs := [4]) (by kernel_rfl) (by simp) ?_
              refine AllReadyH.cons (drop_get rfl) (fun K hK => ?_) AllReadyH.nil
              go_simp
              go_at_call 11
              refine (bytes_f _ _ _ u F fr.length cf (fun j => fr.getD j 0) _ (HBY0.out.mod HMM.out (by simp)) HLB.out).mono ?_
              rintro e w3 ⟨q, cq, rfl, hc3, hq1, hq2, ⟨csq, hq3⟩, hm3⟩
              have HC := hid hc3
              have HQ3 := hid hq2
              have HQB := hid hq3
              have HX := hid (HX.out.mod hm3 (by simp))
              have HJ := hid (HJ.out.mod0 hm3)
              have HN := hid (HN.out.mod hm3 (by simp))
              have HMM := hid (HMM.out.andThen hm3)
              clear hc3 hq1 hq2 hq3 hm3
              refine hK _ _ HX.out ?_
              clear hK K
              intro _
              refine wpAnyH_ready (rs := [5]) (by kernel_rfl) (by simp) ?_
              refine AllReadyH.cons (drop_get rfl) (fun K hK => ?_) AllReadyH.nil
              go_simp
              go_at_call 10
              refine (write_j HJ.out _ q 0 _ cq (opG u fr.length (fun j => fr.getD j 0)) HQ3.out (fun j hj => by rw [Nat.zero_add]; exact HC.out j hj)).mono ?_
              rw [HE.out, HF.out]
              rintro e w4 ⟨rfl, hJ4, hm4⟩
              have HX := hid (HX.out.mod hm4 (by simp; exact HX.out.ne_map HJ.out.im.is.imap))
              have HN := hid (HN.out.mod hm4 (by simp))
              have HJ := hid hJ4
              have HMM := hid (HMM.out.trans hm4 (by intro s hs; simp at hs; subst hs; exact .inr HMB.out))
              clear hJ4 hm4
              refine hK _ _ HX.out ?_
              clear hK K
              intro _
              refine wpAnyH_take (i := 6) (v := ?_) (drop_get rfl) (by kernel_rfl) (by kernel_rfl) (by kernel_rfl) (fun _ _ _ h => h) (Or.inl ⟨by rfl, ?_⟩) HX.out ?_
              rotate_left
              · intro w9 hS9
                obtain ⟨k0, k1, k2, k3, k4⟩ := box_cells hS9
                go_simp
                try with_reducible rfl
              simp only [Act.put, List.setIfInBounds_toArray, List.set_cons_zero, List.set_cons_succ]
              refine wpAnyH_done (by kernel_rfl) ?_ _
              go_wp2_with (first
                | (go_at_call 13; refine (free_j HJ.out).mono ?_
                   obtain ⟨Nn, R, hN9, hR9, hR8⟩ := JM.parts HJ.out
                   rw [hR8]
                   rintro e w5 ⟨rfl, hm5⟩
                   have t9 : (R : Int) + (Nn : Int) = (M : Int) := by omega
                   have hRI : (R : Int) ≤ 256 := by have := HM0.out; omega
                   have hNI : (Nn : Int) ≤ 256 := by have := HM0.out; omega
                   have HNN := hid hN9
                   have HN := hid (HN.out.mod hm5 (by simp))
                   have HJ := hid (HJ.out.mod0 hm5)
                   have HMM := hid (HMM.out.andThen hm5)
                   clear hm5 hN9 hR9 hR8)
                | (go_at_call 17; refine (dirty_j HJ.out).mono ?_
                   rw [HNN.out]
                   rintro e w6 ⟨A9, c9, rfl, _, hm6⟩
                   have HN := hid (HN.out.mod hm6 (by simp))
                   have HJ := hid (HJ.out.mod0 hm6)
                   have HMM := hid (HMM.out.andThen hm6)
                   clear hm6))
              go_roundw
              case rel => exact ⟨j + 1, cs, f, by omega, by go_num, HN, HJ, HMM⟩
              case measure => simp [intOf]; omega
          by_cases hx2 : x = 2
          · subst hx2
            by_cases hin : 0 ≤ y ∧ y < (k : Int)
            case pos =>
              obtain ⟨A, rfl⟩ := Int.eq_ofNat_of_zero_le hin.1
              have hA : A < k := by omega
              have HA := hid hA
              have hAI : (A : Int) < (k : Int) := by omega
              obtain ⟨b, off, rfl, hbB, hbc⟩ := HB.out (by omega)
              have hal : Tn.Mod [] wr (wr.alloc (.cells #[.int .i64 2, .int .i64 (A : Int), .int .i64 z, .int .u8 u, .slice F fr.length cf] 29)) := (Mod.refl [] wr).alloc _
              have HX := hid (Blk.new wr 29 #[.int .i64 2, .int .i64 (A : Int), .int .i64 z, .int .u8 u, .slice F fr.length cf])
              have HN := hid (HN.out.mod hal (by simp))
              have HJ := hid (HJ.out.mod0 hal)
              have HMM := hid (HMM.out.andThen hal)
              obtain ⟨L, hL⟩ : ∃ L, A * 64 = L := ⟨_, rfl⟩
              obtain ⟨H, hH⟩ : ∃ H, (A + 1) * 64 = H := ⟨_, rfl⟩
              have t4 : (A : Int) * 64 = (L : Int) := by have := HK.out; omega
              have t5 : ((A : Int) + 1) * 64 = (H : Int) := by have := HK.out; omega
              have hLI : (L : Int) ≤ 16384 := by have := HK.out; omega
              have hHI : (H : Int) ≤ 16384 := by have := HK.out; omega
              have hJI : (A : Int) ≤ 256 := by have := HK.out; omega
              have hw3 : IntKind.i64.wrap ((A : Int) * 64) = (L : Int) := by rw [IntKind.wrap_i64]; omega
              have hw4 : IntKind.i64.wrap ((A : Int) + 1) = (A : Int) + 1 := by rw [IntKind.wrap_i64]; omega
              have hw5 : IntKind.i64.wrap (((A : Int) + 1) * 64) = (H : Int) := by rw [IntKind.wrap_i64]; omega
              have hw6 : IntKind.i64.wrap (L : Int) = (L : Int) := by rw [IntKind.wrap_i64]; omega
              have hw7 : IntKind.i64.wrap (H : Int) = (H : Int) := by rw [IntKind.wrap_i64]; omega
              have hsl := slice_64 (b := b) (off := off) (len := 64 * k) (cap := cap) (l := L) (h := H) (by omega) (by have := HCAP.out; omega)
              have HSE := hid (show secE k (A : Int) = 0 by unfold secE; rw [if_pos hin])
              have HLA := hid (show L = 64 * A by omega)
              have HBB := hid hbB
              clear hin hL hH hbc hbB hA
              go_wp2_with (first
                | (go_at_call 9; refine (trim_j HJ.out _).mono ?_
                   rw [HSE.out]
                   rintro e w7 ⟨rfl, hJ7, hm7⟩
                   have HX := hid (HX.out.mod hm7 (by simp; exact HX.out.ne_map HJ.out.im.is.imap))
                   have HN := hid (HN.out.mod hm7 (by simp))
                   have HJ := hid hJ7
                   have HMM := hid (HMM.out.trans hm7 (by intro s hs; simp at hs; subst hs; exact .inr HMB.out))
                   clear hJ7 hm7))
              have HX := hid (HX.out.mod ((Mod.refl [] (w7)).drew) (by simp))
              have HN := hid (HN.out.mod ((Mod.refl [] (w7)).drew) (by simp))
              have HJ := hid (HJ.out.mod0 ((Mod.refl [] (w7)).drew))
              have HMM := hid (HMM.out.drew)
              refine wp_region_held_drew (S := fun w' => Blk w' wr.heap.size 29 #[.int .i64 2, .int .i64 (A : Int), .int .i64 z, .int .u8 u, .slice F fr.length cf]) (by kernel_rfl) HX.out (fun hHeld => ?_)
              have HN := hid (HN.out.congr (f' := f) (fun i hi => rfl))
              have f0 := HN.out.blk.frozen A
              obtain ⟨u0, hu0⟩ : ∃ u, w7.drew.cell? ⟨nb, A, none⟩ = some u := ⟨cs[A]'(by have := HN.out.size; have := HA.out; omega), by rw [HN.out.blk.cell]; have := HN.out.size; have := HA.out; simp [*]⟩
              have HBW := hid (show Bys w7.drew (some ⟨b, off + L, none⟩) 64 (fun j => g (64 * A + j)) by
                have h1 := Bys_win (l := L) (n := 64) (HB.out.mod HMM.out (by simp)) (by have := HLA.out; have := HA.out; omega)
                rw [HLA.out] at h1
                rw [HLA.out]
                exact h1)
              refine wpAnyH_take (i := 0) (v := ?_) (drop_get rfl) (by kernel_rfl) (by kernel_rfl) (by kernel_rfl) (fun _ _ _ h => h) (Or.inl ⟨by rfl, ?_⟩) HX.out ?_
              rotate_left
              · intro w9 hS9
                obtain ⟨k0, k1, k2, k3, k4⟩ := box_cells hS9
                go_simp
                try with_reducible rfl
              simp only [Act.put, List.setIfInBounds_toArray, List.set_cons_zero, List.set_cons_succ]
              refine wpAnyH_take (i := 1) (v := ?_) (drop_get rfl) (by kernel_rfl) (by kernel_rfl) (by kernel_rfl) (fun _ _ _ h => h) (Or.inl ⟨by rfl, ?_⟩) HX.out ?_
              rotate_left
              · intro w9 hS9
                obtain ⟨k0, k1, k2, k3, k4⟩ := box_cells hS9
                go_simp
                try with_reducible rfl
              simp only [Act.put, List.setIfInBounds_toArray, List.set_cons_zero, List.set_cons_succ]
              refine wpAnyH_take (i := 2) (v := ?_) (drop_get rfl) (by kernel_rfl) (by kernel_rfl) (by kernel_rfl) (fun _ _ _ h => h) (Or.inl ⟨by rfl, ?_⟩) HX.out ?_
              rotate_left
              · intro w9 hS9
                obtain ⟨k0, k1, k2, k3, k4⟩ := box_cells hS9
                go_simp
                try with_reducible rfl
              simp only [Act.put, List.setIfInBounds_toArray, List.set_cons_zero, List.set_cons_succ]
              refine wpAnyH_take (i := 3) (v := ?_) (drop_get rfl) (by kernel_rfl) (by kernel_rfl) (by kernel_rfl) (fun _ _ _ h => h) (Or.inl ⟨by rfl, ?_⟩) HX.out ?_
              rotate_left
              · intro w9 hS9
                obtain ⟨k0, k1, k2, k3, k4⟩ := box_cells hS9
                go_simp
                try with_reducible rfl
              simp only [Act.put, List.setIfInBounds_toArray, List.set_cons_zero, List.set_cons_succ]
              refine wpAnyH_take (i := 4) (v := ?_) (drop_get rfl) (by kernel_rfl) (by kernel_rfl) (by kernel_rfl) (fun _ _ _ h => h) (Or.inl ⟨by rfl, ?_⟩) HX.out ?_
              rotate_left
              · intro w9 hS9
                obtain ⟨k0, k1, k2, k3, k4⟩ := box_cells hS9
                go_simp
                try with_reducible rfl
              simp only [Act.put, List.setIfInBounds_toArray, List.set_cons_zero, List.set_cons_succ]
              refine wpAnyH_take (i := 5) (v := ?_) (drop_get rfl) (by kernel_rfl) (by kernel_rfl) (by kernel_rfl) (fun _ _ _ h => h) (Or.inl ⟨by rfl, ?_⟩) HX.out ?_
              rotate_left
              · intro w9 hS9
                obtain ⟨k0, k1, k2, k3, k4⟩ := box_cells hS9
                go_simp
                try with_reducible rfl
              simp only [Act.put, List.setIfInBounds_toArray, List.set_cons_zero, List.set_cons_succ]
              refine wpAnyH_take (i := 6) (v := ?_) (drop_get rfl) (by kernel_rfl) (by kernel_rfl) (by kernel_rfl) (fun _ _ _ h => h) (Or.inl ⟨by rfl, ?_⟩) HX.out ?_
              rotate_left
              · intro w9 hS9
                obtain ⟨k0, k1, k2, k3, k4⟩ := box_cells hS9
                go_simp
                try with_reducible rfl
              simp only [Act.put, List.setIfInBounds_toArray, List.set_cons_zero, List.set_cons_succ]
              refine wpAnyH_take (i := 7) (v := ?_) (drop_get rfl) (by kernel_rfl) (by kernel_rfl) (by kernel_rfl) (fun _ _ _ h => h) (Or.inl ⟨by rfl, ?_⟩) HX.out ?_
              rotate_left
              · intro w9 hS9
                obtain ⟨k0, k1, k2, k3, k4⟩ := box_cells hS9
                go_simp
                try with_reducible rfl
              simp only [Act.put, List.setIfInBounds_toArray, List.set_cons_zero, List.set_cons_succ]
              refine wpAnyH_take (i := 8) (v := ?_) (drop_get rfl) (by kernel_rfl) (by kernel_rfl) (by kernel_rfl) (fun _ _ _ h => h) (Or.inl ⟨by rfl, ?_⟩) HX.out ?_
              rotate_left
              · intro w9 hS9
                obtain ⟨k0, k1, k2, k3, k4⟩ := box_cells hS9
                go_simp
                try with_reducible rfl
              simp only [Act.put, List.setIfInBounds_toArray, List.set_cons_zero, List.set_cons_succ]
              refine wpAnyH_take (i := 9) (v := ?_) (drop_get rfl) (by kernel_rfl) (by kernel_rfl) (by kernel_rfl) (fun _ _ _ h => h) (Or.inl ⟨by rfl, ?_⟩) HX.out ?_
              rotate_left
              · intro w9 hS9
                obtain ⟨k0, k1, k2, k3, k4⟩ := box_cells hS9
                go_simp
                try with_reducible rfl
              simp only [Act.put, List.setIfInBounds_toArray, List.set_cons_zero, List.set_cons_succ]
              refine wpAnyH_take (i := 10) (v := ?_) (drop_get rfl) (by kernel_rfl) (by kernel_rfl) (by kernel_rfl) (fun _ _ _ h => h) (Or.inl ⟨by rfl, ?_⟩) HX.out ?_
              rotate_left
              · intro w9 hS9
                obtain ⟨k0, k1, k2, k3, k4⟩ := box_cells hS9
                go_simp
                try with_reducible rfl
              simp only [Act.put, List.setIfInBounds_toArray, List.set_cons_zero, List.set_cons_succ]
              refine wpAnyH_take (i := 11) (v := ?_) (drop_get rfl) (by kernel_rfl) (by kernel_rfl) (by kernel_rfl) (fun _ _ _ h => h) (Or.inl ⟨by rfl, ?_⟩) HX.out ?_
              rotate_left
              · intro w9 hS9
                obtain ⟨k0, k1, k2, k3, k4⟩ := box_cells hS9
                go_simp
                try with_reducible rfl
              simp only [Act.put, List.setIfInBounds_toArray, List.set_cons_zero, List.set_cons_succ]
              refine wpAnyH_take (i := 12) (v := ?_) (drop_get rfl) (by kernel_rfl) (by kernel_rfl) (by kernel_rfl) (fun _ _ _ h => h) (Or.inl ⟨by rfl, ?_⟩) HX.out ?_
              rotate_left
              · intro w9 hS9
                obtain ⟨k0, k1, k2, k3, k4⟩ := box_cells hS9
                go_simp
                try with_reducible rfl
              simp only [Act.put, List.setIfInBounds_toArray, List.set_cons_zero, List.set_cons_succ]
              have HNS := hid (HN.out.set (f' := put f (A : Int) none) (c := cap - L) HA.out (by have := HNB.out; have := HBB.out; omega) (by have := HMB.out; have := HBB.out; omega) HBW.out (cur_none (put_at f (A : Int) none)) (fun i _ hi => cur_put hi))
              have hmS : Tn.Mod [nb] w7.drew (w7.drew.setCell ⟨nb, A, none⟩ (.slice (some ⟨b, off + L, none⟩) 64 (cap - L))) := (Mod.refl _ _).setCell (.inl (by simp)) _
              have HJ := hid (HJ.out.other HN.out.blk (by decide) (by decide) hmS)
              have HX := hid (HX.out.mod hmS (by simp; exact HX.out.ne_ HN.out.blk (by decide)))
              have HMM := hid (HMM.out.setCell (p := ⟨nb, A, none⟩) (.inr HNB.out) (.slice (some ⟨b, off + L, none⟩) 64 (cap - L)))
              have HN := HNS
              refine wpAnyH_ready (rs := [13]) (by kernel_rfl) (by simp) ?_
              refine AllReadyH.cons (drop_get rfl) (fun K hK => ?_) AllReadyH.nil
              go_simp
              refine hK _ _ HX.out ?_
              clear hK K
              intro _
              refine wpAnyH_done (by kernel_rfl) ?_ _
              go_wp2_with (first
                | (go_at_call 13; refine (free_j HJ.out).mono ?_
                   obtain ⟨Nn, R, hN9, hR9, hR8⟩ := JM.parts HJ.out
                   rw [hR8]
                   rintro e w5 ⟨rfl, hm5⟩
                   have t9 : (R : Int) + (Nn : Int) = (M : Int) := by omega
                   have hRI : (R : Int) ≤ 256 := by have := HM0.out; omega
                   have hNI : (Nn : Int) ≤ 256 := by have := HM0.out; omega
                   have HNN := hid hN9
                   have HN := hid (HN.out.mod hm5 (by simp))
                   have HJ := hid (HJ.out.mod0 hm5)
                   have HMM := hid (HMM.out.andThen hm5)
                   clear hm5 hN9 hR9 hR8)
                | (go_at_call 17; refine (dirty_j HJ.out).mono ?_
                   rw [HNN.out]
                   rintro e w6 ⟨A9, c9, rfl, _, hm6⟩
                   have HN := hid (HN.out.mod hm6 (by simp))
                   have HJ := hid (HJ.out.mod0 hm6)
                   have HMM := hid (HMM.out.andThen hm6)
                   clear hm6))
              go_roundw
              case rel => exact ⟨j + 1, _, _, by omega, by go_num, HN, HJ, HMM⟩
              case measure => simp [intOf]; omega
            case neg =>
              have hal : Tn.Mod [] wr (wr.alloc (.cells #[.int .i64 2, .int .i64 y, .int .i64 z, .int .u8 u, .slice F fr.length cf] 29)) := (Mod.refl [] wr).alloc _
              have HX := hid (Blk.new wr 29 #[.int .i64 2, .int .i64 y, .int .i64 z, .int .u8 u, .slice F fr.length cf])
              have HN := hid (HN.out.mod hal (by simp))
              have HJ := hid (HJ.out.mod0 hal)
              have HMM := hid (HMM.out.andThen hal)
              have HSE := hid (show secE k y = 1 by unfold secE; rw [if_neg hin])
              have HIN := hid hin
              clear hin
              go_wp2_with (first
                | (go_at_call 9; refine (trim_j HJ.out _).mono ?_
                   rw [HSE.out]
                   rintro e w7 ⟨rfl, hJ7, hm7⟩
                   have HX := hid (HX.out.mod hm7 (by simp; exact HX.out.ne_map HJ.out.im.is.imap))
                   have HN := hid (HN.out.mod hm7 (by simp))
                   have HJ := hid hJ7
                   have HMM := hid (HMM.out.trans hm7 (by intro s hs; simp at hs; subst hs; exact .inr HMB.out))
                   clear hJ7 hm7)
                | (go_at_call 13; refine (free_j HJ.out).mono ?_
                   obtain ⟨Nn, R, hN9, hR9, hR8⟩ := JM.parts HJ.out
                   rw [hR8]
                   rintro e w5 ⟨rfl, hm5⟩
                   have t9 : (R : Int) + (Nn : Int) = (M : Int) := by omega
                   have hRI : (R : Int) ≤ 256 := by have := HM0.out; omega
                   have hNI : (Nn : Int) ≤ 256 := by have := HM0.out; omega
                   have HNN := hid hN9
                   have HN := hid (HN.out.mod hm5 (by simp))
                   have HJ := hid (HJ.out.mod0 hm5)
                   have HMM := hid (HMM.out.andThen hm5)
                   clear hm5 hN9 hR9 hR8)
                | (go_at_call 17; refine (dirty_j HJ.out).mono ?_
                   rw [HNN.out]
                   rintro e w6 ⟨A9, c9, rfl, _, hm6⟩
                   have HN := hid (HN.out.mod hm6 (by simp))
                   have HJ := hid (HJ.out.mod0 hm6)
                   have HMM := hid (HMM.out.andThen hm6)
                   clear hm6))
              go_roundw
              case rel => exact ⟨j + 1, cs, put f y none, by omega, by go_num, hid (HN.out.congr (fun i hi => cur_put_out (by have := HIN.out; omega))), HJ, HMM⟩
              case measure => simp [intOf]; omega
          · skip
            have hx1' : decide (x = 1) = false := decide_eq_false hx1
            have hx2' : decide (x = 2) = false := decide_eq_false hx2
            have hal : Tn.Mod [] wr (wr.alloc (.cells #[.int .i64 x, .int .i64 y, .int .i64 z, .int .u8 u, .slice F fr.length cf] 29)) := (Mod.refl [] wr).alloc _
            have HX := hid (Blk.new wr 29 #[.int .i64 x, .int .i64 y, .int .i64 z, .int .u8 u, .slice F fr.length cf])
            have HN := hid (HN.out.mod hal (by simp))
            have HJ := hid (HJ.out.mod0 hal)
            have HMM := hid (HMM.out.andThen hal)
            go_wp2_with (first
              | (go_at_call 13; refine (free_j HJ.out).mono ?_
                 obtain ⟨Nn, R, hN9, hR9, hR8⟩ := JM.parts HJ.out
                 rw [hR8]
                 rintro e w5 ⟨rfl, hm5⟩
                 have t9 : (R : Int) + (Nn : Int) = (M : Int) := by omega
                 have hRI : (R : Int) ≤ 256 := by have := HM0.out; omega
                 have hNI : (Nn : Int) ≤ 256 := by have := HM0.out; omega
                 have HNN := hid hN9
                 have HN := hid (HN.out.mod hm5 (by simp))
                 have HJ := hid (HJ.out.mod0 hm5)
                 have HMM := hid (HMM.out.andThen hm5)
                 clear hm5 hN9 hR9 hR8)
              | (go_at_call 17; refine (dirty_j HJ.out).mono ?_
                 rw [HNN.out]
                 rintro e w6 ⟨A9, c9, rfl, _, hm6⟩
                 have HN := hid (HN.out.mod hm6 (by simp))
                 have HJ := hid (HJ.out.mod0 hm6)
                 have HMM := hid (HMM.out.andThen hm6)
                 clear hm6))
            go_roundw
            case rel => exact ⟨j + 1, cs, f, by omega, by go_num, HN, HJ, HMM⟩
            case measure => simp [intOf]; omega
        case neg =>
          obtain rfl : len2 = j := by omega
          clear hlt
          go_wp2_with fail
          go_loopw [14] (fun i wr2 => ∃ j : Nat, j ≤ k ∧ i = .int .i64 j ∧ Hid (NowOk wr2 nb mb cs g f k) ∧ Hid (JM wr2 p mb B g k M f) ∧ Hid (Tn.Mod [] w wr2)) (fun i _ => k - (intOf i).toNat)
          case atStart => exact ⟨0, Nat.zero_le _, rfl, HN, HJ, HMM⟩
          case round =>
            clear HN HJ HMM
            obtain ⟨j, hj, rfl, HN, HJ, HMM⟩ := hrel
            by_cases hlt : j < k
            case pos =>
              obtain ⟨b, off, rfl, hbB, hbc⟩ := HB.out (by omega)
              obtain ⟨L, hL⟩ : ∃ L, j * 64 = L := ⟨_, rfl⟩
              obtain ⟨H, hH⟩ : ∃ H, (j + 1) * 64 = H := ⟨_, rfl⟩
              have t4 : (j : Int) * 64 = (L : Int) := by have := HK.out; omega
              have t5 : ((j : Int) + 1) * 64 = (H : Int) := by have := HK.out; omega
              have hLI : (L : Int) ≤ 16384 := by have := HK.out; omega
              have hHI : (H : Int) ≤ 16384 := by have := HK.out; omega
              have hJI : (j : Int) ≤ 256 := by have := HK.out; omega
              have hw3 : IntKind.i64.wrap ((j : Int) * 64) = (L : Int) := by rw [IntKind.wrap_i64]; omega
              have hw4 : IntKind.i64.wrap ((j : Int) + 1) = (j : Int) + 1 := by rw [IntKind.wrap_i64]; omega
              have hw5 : IntKind.i64.wrap (((j : Int) + 1) * 64) = (H : Int) := by rw [IntKind.wrap_i64]; omega
              have hw6 : IntKind.i64.wrap (L : Int) = (L : Int) := by rw [IntKind.wrap_i64]; omega
              have hw7 : IntKind.i64.wrap (H : Int) = (H : Int) := by rw [IntKind.wrap_i64]; omega
              have hsl := slice_64 (b := b) (off := off) (len := 64 * k) (cap := cap) (l := L) (h := H) (by omega) (by have := HCAP.out; omega)
              obtain ⟨nq, noff, nc, hnc, hn1, hn2, hnB⟩ := HN.out.at_ j hlt
              have HJK := hid hlt
              have HNC := hid hnc
              have HLA := hid (show L = 64 * j by omega)
              have hjk : (j : Int) < (k : Int) := by omega
              clear hL hH hbc hbB hnc hn1 hn2 hnB
              go_wp2_with (first
                | (go_at_call 15; refine (base_j HJ.out j HJK.out).mono ?_
                   rintro e w3 ⟨q1, rfl, hb3, _, hm3⟩
                   have HB1 := hid hb3
                   have HN := hid (HN.out.mod hm3 (by simp))
                   have HJ := hid (HJ.out.mod0 hm3)
                   have HMM := hid (HMM.out.andThen hm3)
                   clear hb3 hm3)
                | (go_at_call 14; refine (read_j HJ.out j HJK.out).mono ?_
                   rintro e w4 ⟨q2, rfl, hb4, _, hm4⟩
                   have HB1 := hid (HB1.out.mod hm4.drew (by simp))
                   have HB2 := hid (show Blk w4.drew q2 62 _ from hb4)
                   have HN := hid (HN.out.mod hm4.drew (by simp))
                   have HJ := hid (HJ.out.mod0 hm4.drew)
                   have HMM := hid (HMM.out.andThen hm4.drew)
                   clear hb4 hm4))
              obtain ⟨nq2, noff2, nc2, hnc2, _, _, hnB⟩ := HN.out.at_ j HJK.out
              have e9 := HNC.out.symm.trans hnc2
              simp only [Option.some.injEq, Value.slice.injEq, Addr.mk.injEq, and_true, true_and] at e9
              obtain ⟨⟨rfl, rfl⟩, rfl⟩ := e9
              have hcell : w4.drew.cell? ⟨nb, j, none⟩ = some (.slice (some ⟨nq, noff, none⟩) 64 nc) := by rw [HN.out.blk.cell]; exact hnc2
              have HBW := hid (show Bys w4.drew (some ⟨b, off + L, none⟩) 64 (fun t => g (64 * j + t)) by
                have h1 := Bys_win (l := L) (n := 64) (HB.out.mod HMM.out (by simp)) (by have := HLA.out; have := HJK.out; omega)
                rw [HLA.out] at h1
                rw [HLA.out]
                exact h1)
              have HX := hid (show Blk w4.drew q1 62 (sec (fun t => g (64 * j + t)) 0) ∧ Blk w4.drew q2 62 (sec (cur g f j) 0) ∧ Bys w4.drew (some ⟨b, off + L, none⟩) 64 (fun t => g (64 * j + t)) ∧ w4.drew.cell? ⟨nb, j, none⟩ = some (.slice (some ⟨nq, noff, none⟩) 64 nc) ∧ Bys w4.drew (some ⟨nq, noff, none⟩) 64 (cur g f j) from ⟨HB1.out, HB2.out, HBW.out, hcell, hnB⟩)
              clear hnc2 hnB hcell
              refine wp_region_held_drew (S := fun w' => Blk w' q1 62 (sec (fun t => g (64 * j + t)) 0) ∧ Blk w' q2 62 (sec (cur g f j) 0) ∧ Bys w' (some ⟨b, off + L, none⟩) 64 (fun t => g (64 * j + t)) ∧ w'.cell? ⟨nb, j, none⟩ = some (.slice (some ⟨nq, noff, none⟩) 64 nc) ∧ Bys w' (some ⟨nq, noff, none⟩) 64 (cur g f j)) (by kernel_rfl) HX.out (fun hHeld => ?_)
              refine wpAnyH_take (i := 0) (v := ?_) (drop_get rfl) (by kernel_rfl) (by kernel_rfl) (by kernel_rfl) (fun _ _ _ h => h) (Or.inl ⟨by rfl, ?_⟩) HX.out ?_
              rotate_left
              · intro w9 hS9
                have k1 := str_of (Bys_sec hS9.1) 64
                have k2 := str_of (Bys_sec hS9.2.1) 64
                have k3 := str_of hS9.2.2.1 (cap - L)
                have k4 := hS9.2.2.2.1
                have k5 := str_of hS9.2.2.2.2 nc
                go_simp
                try with_reducible rfl
              simp only [Act.put, List.setIfInBounds_toArray, List.set_cons_zero, List.set_cons_succ]
              refine wpAnyH_take (i := 1) (v := ?_) (drop_get rfl) (by kernel_rfl) (by kernel_rfl) (by kernel_rfl) (fun _ _ _ h => h) (Or.inl ⟨by rfl, ?_⟩) HX.out ?_
              rotate_left
              · intro w9 hS9
                have k1 := str_of (Bys_sec hS9.1) 64
                have k2 := str_of (Bys_sec hS9.2.1) 64
                have k3 := str_of hS9.2.2.1 (cap - L)
                have k4 := hS9.2.2.2.1
                have k5 := str_of hS9.2.2.2.2 nc
                go_simp
                try with_reducible rfl
              simp only [Act.put, List.setIfInBounds_toArray, List.set_cons_zero, List.set_cons_succ]
              refine wpAnyH_take (i := 2) (v := ?_) (drop_get rfl) (by kernel_rfl) (by kernel_rfl) (by kernel_rfl) (fun _ _ _ h => h) (Or.inl ⟨by rfl, ?_⟩) HX.out ?_
              rotate_left
              · intro w9 hS9
                have k1 := str_of (Bys_sec hS9.1) 64
                have k2 := str_of (Bys_sec hS9.2.1) 64
                have k3 := str_of hS9.2.2.1 (cap - L)
                have k4 := hS9.2.2.2.1
                have k5 := str_of hS9.2.2.2.2 nc
                go_simp
                try with_reducible rfl
              simp only [Act.put, List.setIfInBounds_toArray, List.set_cons_zero, List.set_cons_succ]
              refine wpAnyH_take (i := 3) (v := ?_) (drop_get rfl) (by kernel_rfl) (by kernel_rfl) (by kernel_rfl) (fun _ _ _ h => h) (Or.inl ⟨by rfl, ?_⟩) HX.out ?_
              rotate_left
              · intro w9 hS9
                have k1 := str_of (Bys_sec hS9.1) 64
                have k2 := str_of (Bys_sec hS9.2.1) 64
                have k3 := str_of hS9.2.2.1 (cap - L)
                have k4 := hS9.2.2.2.1
                have k5 := str_of hS9.2.2.2.2 nc
                go_simp
                try with_reducible rfl
              simp only [Act.put, List.setIfInBounds_toArray, List.set_cons_zero, List.set_cons_succ]
              refine wpAnyH_take (i := 4) (v := ?_) (drop_get rfl) (by kernel_rfl) (by kernel_rfl) (by kernel_rfl) (fun _ _ _ h => h) (Or.inl ⟨by rfl, ?_⟩) HX.out ?_
              rotate_left
              · intro w9 hS9
                have k1 := str_of (Bys_sec hS9.1) 64
                have k2 := str_of (Bys_sec hS9.2.1) 64
                have k3 := str_of hS9.2.2.1 (cap - L)
                have k4 := hS9.2.2.2.1
                have k5 := str_of hS9.2.2.2.2 nc
                go_simp
                try with_reducible rfl
              simp only [Act.put, List.setIfInBounds_toArray, List.set_cons_zero, List.set_cons_succ]
              refine wpAnyH_take (i := 5) (v := ?_) (drop_get rfl) (by kernel_rfl) (by kernel_rfl) (by kernel_rfl) (fun _ _ _ h => h) (Or.inl ⟨by rfl, ?_⟩) HX.out ?_
              rotate_left
              · intro w9 hS9
                have k1 := str_of (Bys_sec hS9.1) 64
                have k2 := str_of (Bys_sec hS9.2.1) 64
                have k3 := str_of hS9.2.2.1 (cap - L)
                have k4 := hS9.2.2.2.1
                have k5 := str_of hS9.2.2.2.2 nc
                go_simp
                try with_reducible rfl
              simp only [Act.put, List.setIfInBounds_toArray, List.set_cons_zero, List.set_cons_succ]
              refine wpAnyH_take (i := 6) (v := ?_) (drop_get rfl) (by kernel_rfl) (by kernel_rfl) (by kernel_rfl) (fun _ _ _ h => h) (Or.inl ⟨by rfl, ?_⟩) HX.out ?_
              rotate_left
              · intro w9 hS9
                have k1 := str_of (Bys_sec hS9.1) 64
                have k2 := str_of (Bys_sec hS9.2.1) 64
                have k3 := str_of hS9.2.2.1 (cap - L)
                have k4 := hS9.2.2.2.1
                have k5 := str_of hS9.2.2.2.2 nc
                go_simp
                try with_reducible rfl
              simp only [Act.put, List.setIfInBounds_toArray, List.set_cons_zero, List.set_cons_succ]
              refine wpAnyH_take (i := 7) (v := ?_) (drop_get rfl) (by kernel_rfl) (by kernel_rfl) (by kernel_rfl) (fun _ _ _ h => h) (Or.inl ⟨by rfl, ?_⟩) HX.out ?_
              rotate_left
              · intro w9 hS9
                have k1 := str_of (Bys_sec hS9.1) 64
                have k2 := str_of (Bys_sec hS9.2.1) 64
                have k3 := str_of hS9.2.2.1 (cap - L)
                have k4 := hS9.2.2.2.1
                have k5 := str_of hS9.2.2.2.2 nc
                go_simp
                try with_reducible rfl
              simp only [Act.put, List.setIfInBounds_toArray, List.set_cons_zero, List.set_cons_succ]
              refine wpAnyH_take (i := 8) (v := ?_) (drop_get rfl) (by kernel_rfl) (by kernel_rfl) (by kernel_rfl) (fun _ _ _ h => h) (Or.inl ⟨by rfl, ?_⟩) HX.out ?_
              rotate_left
              · intro w9 hS9
                have k1 := str_of (Bys_sec hS9.1) 64
                have k2 := str_of (Bys_sec hS9.2.1) 64
                have k3 := str_of hS9.2.2.1 (cap - L)
                have k4 := hS9.2.2.2.1
                have k5 := str_of hS9.2.2.2.2 nc
                go_simp
                try with_reducible rfl
              simp only [Act.put, List.setIfInBounds_toArray, List.set_cons_zero, List.set_cons_succ]
              refine wpAnyH_take (i := 9) (v := ?_) (drop_get rfl) (by kernel_rfl) (by kernel_rfl) (by kernel_rfl) (fun _ _ _ h => h) (Or.inl ⟨by rfl, ?_⟩) HX.out ?_
              rotate_left
              · intro w9 hS9
                have k1 := str_of (Bys_sec hS9.1) 64
                have k2 := str_of (Bys_sec hS9.2.1) 64
                have k3 := str_of hS9.2.2.1 (cap - L)
                have k4 := hS9.2.2.2.1
                have k5 := str_of hS9.2.2.2.2 nc
                go_simp
                try with_reducible rfl
              simp only [Act.put, List.setIfInBounds_toArray, List.set_cons_zero, List.set_cons_succ]
              refine wpAnyH_take (i := 10) (v := ?_) (drop_get rfl) (by kernel_rfl) (by kernel_rfl) (by kernel_rfl) (fun _ _ _ h => h) (Or.inl ⟨by rfl, ?_⟩) HX.out ?_
              rotate_left
              · intro w9 hS9
                have k1 := str_of (Bys_sec hS9.1) 64
                have k2 := str_of (Bys_sec hS9.2.1) 64
                have k3 := str_of hS9.2.2.1 (cap - L)
                have k4 := hS9.2.2.2.1
                have k5 := str_of hS9.2.2.2.2 nc
                go_simp
                try with_reducible rfl
              simp only [Act.put, List.setIfInBounds_toArray, List.set_cons_zero, List.set_cons_succ]
              refine wpAnyH_take (i := 11) (v := ?_) (drop_get rfl) (by kernel_rfl) (by kernel_rfl) (by kernel_rfl) (fun _ _ _ h => h) (Or.inl ⟨by rfl, ?_⟩) HX.out ?_
              rotate_left
              · intro w9 hS9
                have k1 := str_of (Bys_sec hS9.1) 64
                have k2 := str_of (Bys_sec hS9.2.1) 64
                have k3 := str_of hS9.2.2.1 (cap - L)
                have k4 := hS9.2.2.2.1
                have k5 := str_of hS9.2.2.2.2 nc
                go_simp
                try with_reducible rfl
              simp only [Act.put, List.setIfInBounds_toArray, List.set_cons_zero, List.set_cons_succ]
              refine wpAnyH_take (i := 12) (v := ?_) (drop_get rfl) (by kernel_rfl) (by kernel_rfl) (by kernel_rfl) (fun _ _ _ h => h) (Or.inl ⟨by rfl, ?_⟩) HX.out ?_
              rotate_left
              · intro w9 hS9
                have k1 := str_of (Bys_sec hS9.1) 64
                have k2 := str_of (Bys_sec hS9.2.1) 64
                have k3 := str_of hS9.2.2.1 (cap - L)
                have k4 := hS9.2.2.2.1
                have k5 := str_of hS9.2.2.2.2 nc
                go_simp
                try with_reducible rfl
              simp only [Act.put, List.setIfInBounds_toArray, List.set_cons_zero, List.set_cons_succ]
              refine wpAnyH_take (i := 13) (v := ?_) (drop_get rfl) (by kernel_rfl) (by kernel_rfl) (by kernel_rfl) (fun _ _ _ h => h) (Or.inl ⟨by rfl, ?_⟩) HX.out ?_
              rotate_left
              · intro w9 hS9
                have k1 := str_of (Bys_sec hS9.1) 64
                have k2 := str_of (Bys_sec hS9.2.1) 64
                have k3 := str_of hS9.2.2.1 (cap - L)
                have k4 := hS9.2.2.2.1
                have k5 := str_of hS9.2.2.2.2 nc
                go_simp
                try with_reducible rfl
              simp only [Act.put, List.setIfInBounds_toArray, List.set_cons_zero, List.set_cons_succ]
              refine wpAnyH_take (i := 14) (v := ?_) (drop_get rfl) (by kernel_rfl) (by kernel_rfl) (by kernel_rfl) (fun _ _ _ h => h) (Or.inl ⟨by rfl, ?_⟩) HX.out ?_
              rotate_left
              · intro w9 hS9
                have k1 := str_of (Bys_sec hS9.1) 64
                have k2 := str_of (Bys_sec hS9.2.1) 64
                have k3 := str_of hS9.2.2.1 (cap - L)
                have k4 := hS9.2.2.2.1
                have k5 := str_of hS9.2.2.2.2 nc
                go_simp
                try with_reducible rfl
              simp only [Act.put, List.setIfInBounds_toArray, List.set_cons_zero, List.set_cons_succ]
              refine wpAnyH_take (i := 15) (v := ?_) (drop_get rfl) (by kernel_rfl) (by kernel_rfl) (by kernel_rfl) (fun _ _ _ h => h) (Or.inl ⟨by rfl, ?_⟩) HX.out ?_
              rotate_left
              · intro w9 hS9
                have k1 := str_of (Bys_sec hS9.1) 64
                have k2 := str_of (Bys_sec hS9.2.1) 64
                have k3 := str_of hS9.2.2.1 (cap - L)
                have k4 := hS9.2.2.2.1
                have k5 := str_of hS9.2.2.2.2 nc
                go_simp
                try with_reducible rfl
              simp only [Act.put, List.setIfInBounds_toArray, List.set_cons_zero, List.set_cons_succ]
              refine wpAnyH_take (i := 16) (v := ?_) (drop_get rfl) (by kernel_rfl) (by kernel_rfl) (by kernel_rfl) (fun _ _ _ h => h) (Or.inl ⟨by rfl, ?_⟩) HX.out ?_
              rotate_left
              · intro w9 hS9
                have k1 := str_of (Bys_sec hS9.1) 64
                have k2 := str_of (Bys_sec hS9.2.1) 64
                have k3 := str_of hS9.2.2.1 (cap - L)
                have k4 := hS9.2.2.2.1
                have k5 := str_of hS9.2.2.2.2 nc
                go_simp
                try with_reducible rfl
              simp only [Act.put, List.setIfInBounds_toArray, List.set_cons_zero, List.set_cons_succ]
              refine wpAnyH_take (i := 17) (v := ?_) (drop_get rfl) (by kernel_rfl) (by kernel_rfl) (by kernel_rfl) (fun _ _ _ h => h) (Or.inl ⟨by rfl, ?_⟩) HX.out ?_
              rotate_left
              · intro w9 hS9
                have k1 := str_of (Bys_sec hS9.1) 64
                have k2 := str_of (Bys_sec hS9.2.1) 64
                have k3 := str_of hS9.2.2.1 (cap - L)
                have k4 := hS9.2.2.2.1
                have k5 := str_of hS9.2.2.2.2 nc
                go_simp
                try with_reducible rfl
              simp only [Act.put, List.setIfInBounds_toArray, List.set_cons_zero, List.set_cons_succ]
              refine wpAnyH_take (i := 18) (v := ?_) (drop_get rfl) (by kernel_rfl) (by kernel_rfl) (by kernel_rfl) (fun _ _ _ h => h) (Or.inl ⟨by rfl, ?_⟩) HX.out ?_
              rotate_left
              · intro w9 hS9
                have k1 := str_of (Bys_sec hS9.1) 64
                have k2 := str_of (Bys_sec hS9.2.1) 64
                have k3 := str_of hS9.2.2.1 (cap - L)
                have k4 := hS9.2.2.2.1
                have k5 := str_of hS9.2.2.2.2 nc
                go_simp
                try with_reducible rfl
              simp only [Act.put, List.setIfInBounds_toArray, List.set_cons_zero, List.set_cons_succ]
              refine wpAnyH_take (i := 19) (v := ?_) (drop_get rfl) (by kernel_rfl) (by kernel_rfl) (by kernel_rfl) (fun _ _ _ h => h) (Or.inl ⟨by rfl, ?_⟩) HX.out ?_
              rotate_left
              · intro w9 hS9
                have k1 := str_of (Bys_sec hS9.1) 64
                have k2 := str_of (Bys_sec hS9.2.1) 64
                have k3 := str_of hS9.2.2.1 (cap - L)
                have k4 := hS9.2.2.2.1
                have k5 := str_of hS9.2.2.2.2 nc
                go_simp
                try with_reducible rfl
              simp only [Act.put, List.setIfInBounds_toArray, List.set_cons_zero, List.set_cons_succ]
              refine wpAnyH_take (i := 20) (v := ?_) (drop_get rfl) (by kernel_rfl) (by kernel_rfl) (by kernel_rfl) (fun _ _ _ h => h) (Or.inl ⟨by rfl, ?_⟩) HX.out ?_
              rotate_left
              · intro w9 hS9
                have k1 := str_of (Bys_sec hS9.1) 64
                have k2 := str_of (Bys_sec hS9.2.1) 64
                have k3 := str_of hS9.2.2.1 (cap - L)
                have k4 := hS9.2.2.2.1
                have k5 := str_of hS9.2.2.2.2 nc
                go_simp
                try with_reducible rfl
              simp only [Act.put, List.setIfInBounds_toArray, List.set_cons_zero, List.set_cons_succ]
              refine wpAnyH_take (i := 21) (v := ?_) (drop_get rfl) (by kernel_rfl) (by kernel_rfl) (by kernel_rfl) (fun _ _ _ h => h) (Or.inl ⟨by rfl, ?_⟩) HX.out ?_
              rotate_left
              · intro w9 hS9
                have k1 := str_of (Bys_sec hS9.1) 64
                have k2 := str_of (Bys_sec hS9.2.1) 64
                have k3 := str_of hS9.2.2.1 (cap - L)
                have k4 := hS9.2.2.2.1
                have k5 := str_of hS9.2.2.2.2 nc
                go_simp
                try with_reducible rfl
              simp only [Act.put, List.setIfInBounds_toArray, List.set_cons_zero, List.set_cons_succ]
              refine wpAnyH_take (i := 22) (v := ?_) (drop_get rfl) (by kernel_rfl) (by kernel_rfl) (by kernel_rfl) (fun _ _ _ h => h) (Or.inl ⟨by rfl, ?_⟩) HX.out ?_
              rotate_left
              · intro w9 hS9
                have k1 := str_of (Bys_sec hS9.1) 64
                have k2 := str_of (Bys_sec hS9.2.1) 64
                have k3 := str_of hS9.2.2.1 (cap - L)
                have k4 := hS9.2.2.2.1
                have k5 := str_of hS9.2.2.2.2 nc
                go_simp
                try with_reducible rfl
              simp only [Act.put, List.setIfInBounds_toArray, List.set_cons_zero, List.set_cons_succ]
              refine wpAnyH_take (i := 23) (v := ?_) (drop_get rfl) (by kernel_rfl) (by kernel_rfl) (by kernel_rfl) (fun _ _ _ h => h) (Or.inl ⟨by rfl, ?_⟩) HX.out ?_
              rotate_left
              · intro w9 hS9
                have k1 := str_of (Bys_sec hS9.1) 64
                have k2 := str_of (Bys_sec hS9.2.1) 64
                have k3 := str_of hS9.2.2.1 (cap - L)
                have k4 := hS9.2.2.2.1
                have k5 := str_of hS9.2.2.2.2 nc
                go_simp
                try with_reducible rfl
              simp only [Act.put, List.setIfInBounds_toArray, List.set_cons_zero, List.set_cons_succ]
              refine wpAnyH_take (i := 24) (v := ?_) (drop_get rfl) (by kernel_rfl) (by kernel_rfl) (by kernel_rfl) (fun _ _ _ h => h) (Or.inl ⟨by rfl, ?_⟩) HX.out ?_
              rotate_left
              · intro w9 hS9
                have k1 := str_of (Bys_sec hS9.1) 64
                have k2 := str_of (Bys_sec hS9.2.1) 64
                have k3 := str_of hS9.2.2.1 (cap - L)
                have k4 := hS9.2.2.2.1
                have k5 := str_of hS9.2.2.2.2 nc
                go_simp
                try with_reducible rfl
              simp only [Act.put, List.setIfInBounds_toArray, List.set_cons_zero, List.set_cons_succ]
              refine wpAnyH_take (i := 25) (v := ?_) (drop_get rfl) (by kernel_rfl) (by kernel_rfl) (by kernel_rfl) (fun _ _ _ h => h) (Or.inl ⟨by rfl, ?_⟩) HX.out ?_
              rotate_left
              · intro w9 hS9
                have k1 := str_of (Bys_sec hS9.1) 64
                have k2 := str_of (Bys_sec hS9.2.1) 64
                have k3 := str_of hS9.2.2.1 (cap - L)
                have k4 := hS9.2.2.2.1
                have k5 := str_of hS9.2.2.2.2 nc
                go_simp
                try with_reducible rfl
              simp only [Act.put, List.setIfInBounds_toArray, List.set_cons_zero, List.set_cons_succ]
              refine wpAnyH_take (i := 26) (v := ?_) (drop_get rfl) (by kernel_rfl) (by kernel_rfl) (by kernel_rfl) (fun _ _ _ h => h) (Or.inl ⟨by rfl, ?_⟩) HX.out ?_
              rotate_left
              · intro w9 hS9
                have k1 := str_of (Bys_sec hS9.1) 64
                have k2 := str_of (Bys_sec hS9.2.1) 64
                have k3 := str_of hS9.2.2.1 (cap - L)
                have k4 := hS9.2.2.2.1
                have k5 := str_of hS9.2.2.2.2 nc
                go_simp
                try with_reducible rfl
              simp only [Act.put, List.setIfInBounds_toArray, List.set_cons_zero, List.set_cons_succ]
              refine wpAnyH_take (i := 27) (v := ?_) (drop_get rfl) (by kernel_rfl) (by kernel_rfl) (by kernel_rfl) (fun _ _ _ h => h) (Or.inl ⟨by rfl, ?_⟩) HX.out ?_
              rotate_left
              · intro w9 hS9
                have k1 := str_of (Bys_sec hS9.1) 64
                have k2 := str_of (Bys_sec hS9.2.1) 64
                have k3 := str_of hS9.2.2.1 (cap - L)
                have k4 := hS9.2.2.2.1
                have k5 := str_of hS9.2.2.2.2 nc
                go_simp
                try with_reducible rfl
              simp only [Act.put, List.setIfInBounds_toArray, List.set_cons_zero, List.set_cons_succ]
              refine wpAnyH_take (i := 28) (v := ?_) (drop_get rfl) (by kernel_rfl) (by kernel_rfl) (by kernel_rfl) (fun _ _ _ h => h) (Or.inl ⟨by rfl, ?_⟩) HX.out ?_
              rotate_left
              · intro w9 hS9
                have k1 := str_of (Bys_sec hS9.1) 64
                have k2 := str_of (Bys_sec hS9.2.1) 64
                have k3 := str_of hS9.2.2.1 (cap - L)
                have k4 := hS9.2.2.2.1
                have k5 := str_of hS9.2.2.2.2 nc
                go_simp
                try with_reducible rfl
              simp only [Act.put, List.setIfInBounds_toArray, List.set_cons_zero, List.set_cons_succ]
              refine wpAnyH_done (by kernel_rfl) ?_ _
              go_wp2_with fail
              go_roundw
              case rel => exact ⟨j + 1, by omega, by go_num, HN, HJ, HMM⟩
              case measure => simp [intOf]; omega
            case neg =>
              obtain rfl : k = j := by omega
              clear hlt
              go_wp2_with (first
                | (go_at_call 16; refine (sectors_j HJ.out).mono ?_; rintro e w5 ⟨rfl, rfl⟩)
                | (go_at_call 19; refine (awake_f _).mono ?_; rintro e w9 ⟨rfl, hm9⟩; have HM9 := hid (HMM.out.andThen hm9); clear hm9))
              go_ret
              exact ⟨rfl, HM9.out.below (Nat.le_refl _) (by simp)⟩
end Go.Proofs.Ytpabfghpfigoaaa
