/-
  Layer 14, the reference: Counts, Tick, Head.
-/
import Derived.Test.YtkdhkloabbcipaaK
namespace Go.Proofs.Ytkdhkloabbcipaa
open Go.RowKit Go.Tn Go.Tn.P14

section
variable {w w' : World} {q rp ac : Nat} {A : Option Addr} {FP FP' : List Nat} {C : Nat → Option Addr × Nat} {S : St}

set_option maxHeartbeats 1000000 in
/-- 'Counts'. -/
theorem rcounts_f (h : RC w q rp A ac FP C S) (x : Int) : Calls Try.prog 42 #[.pointer (some ⟨q, 0, none⟩), .int .i64 x] w fun e w' => e = .returned (.tuple #[cntA S x, .int .i64 (isE S x)]) ∧ Mod [] w w' := by
  unfold cntA isE countV
  by_cases hp : isP S x = true
  · obtain ⟨h0, h1⟩ := isP_iff.1 hp
    obtain ⟨k, rfl⟩ := Int.eq_ofNat_of_zero_le h0
    have hk : k < S.n := by omega
    simp only [hp, if_true, Int.toNat_natCast]
    have c0 := h.c0
    have d0 : w.cell? ⟨rp, k * 13 + 4, none⟩ = some (.int .i64 ((S.L k).c 0)) := h.num hk (show 4 < 13 by decide) (by decide)
    have d1 : w.cell? ⟨rp, k * 13 + 5, none⟩ = some (.int .i64 ((S.L k).c 1)) := h.num hk (show 5 < 13 by decide) (by decide)
    have d2 : w.cell? ⟨rp, k * 13 + 6, none⟩ = some (.int .i64 ((S.L k).c 2)) := h.num hk (show 6 < 13 by decide) (by decide)
    have d3 : w.cell? ⟨rp, k * 13 + 7, none⟩ = some (.int .i64 ((S.L k).c 3)) := h.num hk (show 7 < 13 by decide) (by decide)
    have d4 : w.cell? ⟨rp, k * 13 + 8, none⟩ = some (.int .i64 ((S.L k).c 4)) := h.num hk (show 8 < 13 by decide) (by decide)
    have d5 : w.cell? ⟨rp, k * 13 + 9, none⟩ = some (.int .i64 ((S.L k).c 5)) := h.num hk (show 9 < 13 by decide) (by decide)
    have d6 : w.cell? ⟨rp, k * 13 + 10, none⟩ = some (.int .i64 ((S.L k).c 6)) := h.num hk (show 10 < 13 by decide) (by decide)
    have d7 : w.cell? ⟨rp, k * 13 + 11, none⟩ = some (.int .i64 ((S.L k).c 7)) := h.num hk (show 11 < 13 by decide) (by decide)
    have d8 : w.cell? ⟨rp, k * 13 + 12, none⟩ = some (.int .i64 ((S.L k).c 8)) := h.num hk (show 12 < 13 by decide) (by decide)
    have dq := h.que hk
    have hbl := h.rows.row.lt
    have hql := h.hd.lt
    have H := hid h
    clear h hp h0 h1
    go_enter Try.func42, Try.ntmps42
    go_wp2_with (go_at_call 37; refine (is_in (H.out.newer ((Mod.refl [] w).alloc (.cells #[.int .i64 0, .int .i64 0, .int .i64 0, .int .i64 0, .int .i64 0, .int .i64 0, .int .i64 0, .int .i64 0, .int .i64 0] 36))) hk).mono ?_; rintro e w' ⟨rfl, rfl⟩)
    refine bodyPost_ret (by rw [results_cell_tmp rfl]; go_simp; rfl) rfl ?_
    exact ⟨rfl, (((Mod.refl _ _).alloc _).alloc _)⟩
  · have hp' : isP S x = false := by simpa using hp
    simp only [hp', Bool.false_eq_true, if_false]
    have H := hid h
    have HP := hid hp'
    clear hp hp' h
    go_enter Try.func42, Try.ntmps42
    go_wp2_with (go_at_call 37; refine (is_out (H.out.newer ((Mod.refl [] w).alloc (.cells #[.int .i64 0, .int .i64 0, .int .i64 0, .int .i64 0, .int .i64 0, .int .i64 0, .int .i64 0, .int .i64 0, .int .i64 0] 36))) HP.out).mono ?_; rintro e w' ⟨rfl, rfl⟩)
    refine bodyPost_ret (by rw [results_cell_tmp rfl]; go_simp; rfl) rfl ?_
    exact ⟨rfl, (Mod.refl _ _).alloc _⟩

set_option maxHeartbeats 1000000 in
/-- 'Tick'. -/
theorem rtick_f (h : RC w q rp A ac FP C S) (hcr : ∀ i j, i < S.n → 9 ≤ j → (S.L i).c j ≤ 65536) (hlo : ∀ i j, i < S.n → 0 ≤ (S.L i).c j) (h8 : S.n ≤ 8) : Calls Try.prog 32 #[.pointer (some ⟨q, 0, none⟩)] w fun e w' =>
    e = .returned (.tuple #[]) ∧ RC w' q rp A ac FP C (tickS S) ∧ Mod [rp] w w' := by
  have HC := hid hcr
  have HL := hid hlo
  have H := hid h
  clear h hcr hlo
  go_enter Try.func32, Try.ntmps32
  go_wp2_with fail
  go_loopw [2] (fun i wr => ∃ k : Nat, k ≤ S.n ∧ i = .int .i64 k ∧ Hid (RC wr q rp A ac FP C (tickTo S k)) ∧ Hid (Mod [rp] w wr)) (fun i _ => S.n - (intOf i).toNat)
  case atStart => exact ⟨0, Nat.zero_le _, rfl, by rw [tickTo_zero]; exact H.out, Mod.refl _ _⟩
  case round =>
    obtain ⟨k, hk, rfl, hb, hm⟩ := hrel
    have c0 : wr.cell? ⟨q, 0, none⟩ = some (.slice (some ⟨rp, 0, none⟩) S.n S.n) := hb.out.c0
    by_cases hlt : k < S.n
    · have c9 := hb.out.num (i := k) hlt (show 0 < 13 by decide) (by decide)
      have c10 := hb.out.num (i := k) hlt (show 1 < 13 by decide) (by decide)
      have c11 := hb.out.num (i := k) hlt (show 2 < 13 by decide) (by decide)
      rw [tickTo_at] at c9 c10 c11
      obtain ⟨x9, e9⟩ : ∃ x, (S.L k).c 9 = x := ⟨_, rfl⟩
      obtain ⟨x10, e10⟩ : ∃ x, (S.L k).c 10 = x := ⟨_, rfl⟩
      obtain ⟨x11, e11⟩ : ∃ x, (S.L k).c 11 = x := ⟨_, rfl⟩
      have f9 := hb.out.rows.free (k * 13 + 0)
      have b9 := HC.out k 9 hlt (by decide)
      have b11 := HC.out k 11 hlt (by decide)
      have a9 := HL.out k 9 hlt
      have a11 := HL.out k 11 hlt
      rw [show rr 0 = 9 from rfl, e9] at c9
      rw [show rr 1 = 10 from rfl, e10] at c10
      rw [show rr 2 = 11 from rfl, e11] at c11
      rw [e9] at b9 a9
      rw [e11] at b11 a11
      simp only [Nat.add_zero] at c9 f9
      have hst := hid (tickTo_succ S k)
      have hx := hid (show tickP (S.L k) = (S.L k).set 9 (if x9 + x11 < x10 then x9 + x11 else x10) by unfold tickP; rw [e9, e10, e11]; congr 1; split <;> omega)
      clear e9 e10 e11
      go_wp2_with fail
      go_still_tail 33, (by kernel_rfl)
      change wpList _ _ _ _ _ wr.drew
      go_wp2
      go_roundw
      case rel =>
        refine ⟨k + 1, by omega, by go_num, ?_, ((hm.out.setCell (.inl (by simp)) _).drew)⟩
        have := hb.out.onp (i := k) hlt (show 0 < 13 by decide) (by decide) _ tickP ((tickTo_at S k).symm ▸ hx.out)
        rw [← hst.out] at this
        exact this.newer (Mod.refl [] _).drew
      case measure => simp [intOf]; omega
    · have hke : k = S.n := by omega
      have HB := hid (show RC wr q rp A ac FP C (tickS S) by unfold tickS; rw [← hke]; exact hb.out)
      clear hke
      go_wp2
      go_end0
      exact ⟨rfl, HB.out, hm.out⟩

/-- The first frame that waits, in the heap. -/
theorem RC.first (h : RC w q rp A ac FP C S) {k : Nat} (hk : k < S.n) {fr : List Int} {qs : List (List Int)} (hq : (S.L k).q = fr :: qs) :
    ∃ g off cap fg fcap cs, w.cell? ⟨rp, k * 13 + 3, none⟩ = some (.slice (some ⟨g, off, none⟩) (qs.length + 1) cap) ∧ C k = (some ⟨g, off, none⟩, cap) ∧ w.cell? ⟨g, off, none⟩ = some (.slice (some ⟨fg, 0, none⟩) fr.length fcap) ∧ Blk w fg 5 cs ∧ fg ∈ FP ∧
      (∀ (j : Nat) (y : Int), fr[j]? = some y → cs[j]? = some (.int .u8 y)) ∧ ∃ x xs, QRow w 23 (some ⟨g, off, none⟩) cap (x :: xs) ∧ Frs w FP (x :: xs) (fr :: qs) := by
  obtain ⟨xs, hr, hf⟩ := h.rows.que k hk
  have hc := h.que hk
  rw [hq] at hf hc
  cases xs with
  | nil => have := hf.1; simp at this
  | cons x xs =>
    obtain ⟨g, off, hA⟩ := hr.addr (by simp)
    obtain ⟨⟨A', cap⟩, hC⟩ : ∃ c, C k = c := ⟨_, rfl⟩
    rw [hC] at hr hc hA
    simp only at hA
    subst hA
    obtain ⟨fg, fcap, cs, rfl, hfg, hb, hcs⟩ := hf.2 0 x fr (by simp) (by simp)
    have h0 := hr.cell (i := 0) (x := .slice (some ⟨fg, 0, none⟩) fr.length fcap) (by simp)
    exact ⟨g, off, cap, fg, fcap, cs, hc, hC, h0, hb, hfg, hcs, _, xs, hr, hf⟩

theorem own_empty (w : World) : (w.alloc (.cells #[] 5)).ownsRow 0 5 1 (.slice (some ⟨w.heap.size, 0, none⟩) 0 0) 0 [] :=
  ⟨rfl, .inr ⟨w.heap.size, 0, #[], rfl, Nat.zero_le _, heap_alloc_new w _, Nat.le_refl _, Nat.zero_le _, rfl, rfl⟩⟩

set_option maxHeartbeats 1000000 in
/-- 'Head'. -/
theorem rhead_f (h : RC w q rp A ac FP C S) {M : Int} (G : Ok S M) (x : Int) : Calls Try.prog 33 #[.pointer (some ⟨q, 0, none⟩), .int .i64 x] w fun e w' =>
    (∃ A cap, e = .returned (.tuple #[.slice A (headV S x).length cap, .int .i64 (headE S x)]) ∧ Bytes w' A (headV S x)) ∧ Mod [] w w' := by
  by_cases hp : isP S x = true
  case neg =>
    have hp' : isP S x = false := by simpa using hp
    have hv : headV S x = [] := by simp [headV, hp']
    have he : headE S x = 1 := by simp [headE, hp']
    rw [hv, he]
    have H := hid h
    have HP := hid hp'
    clear h G hp hp' hv he
    go_enter Try.func33, Try.ntmps33
    go_wp2_with (go_at_call 37; refine (is_out H.out HP.out).mono ?_; rintro e w' ⟨rfl, rfl⟩)
    go_ret2
    exact ⟨⟨none, 0, rfl, fun y hy => absurd hy (by simp), fun h => absurd h (by simp)⟩, Mod.refl _ _⟩
  case pos =>
    obtain ⟨h0, h1⟩ := isP_iff.1 hp
    obtain ⟨k, rfl⟩ := Int.eq_ofNat_of_zero_le h0
    have hk : k < S.n := by omega
    have c0 := h.c0
    by_cases hq : (S.L k).q = []
    case pos =>
      have hv : headV S (k : Int) = [] := by simp [headV, hp, hq]
      have he : headE S (k : Int) = 6 := by simp [headE, hp, hq]
      have dq := h.que hk
      rw [hq] at dq
      rw [hv, he]
      have H := hid h
      clear h G hp hv he hq h0 h1
      go_enter Try.func33, Try.ntmps33
      go_wp2_with (go_at_call 37; refine (is_in H.out hk).mono ?_; rintro e w' ⟨rfl, rfl⟩)
      go_ret2
      exact ⟨⟨none, 0, rfl, fun y hy => absurd hy (by simp), fun h => absurd h (by simp)⟩, Mod.refl _ _⟩
    case neg =>
      obtain ⟨fr, qs, hq2⟩ := List.exists_cons_of_ne_nil hq
      have hv : headV S (k : Int) = fr := by simp [headV, hp, hq2]
      have he : headE S (k : Int) = 0 := by simp [headE, hp, hq2]
      rw [hv, he]
      obtain ⟨f2, f128, fby⟩ := G.fr k hk fr (by rw [hq2]; simp)
      obtain ⟨g, off, cap, fg, fcap, cs, d3, _, cg, hb, hfg, hcs, _⟩ := h.first hk hq2
      obtain ⟨n, hn⟩ : ∃ n, qs.length = n := ⟨_, rfl⟩
      rw [hn] at d3
      have ht : ((n : Int) + 1 == 0) = false := by simp; omega
      have H := hid h
      have HCS := hid hcs
      have HB := hid (hb.mod ((Mod.refl [] w).alloc (.cells #[] 5)) (by simp))
      have HBY := hid fby
      have hbl := h.rows.row.lt
      have hql := h.hd.lt
      have hgl := World.block_lt_of_cell? w _ cg
      obtain ⟨i5, hi5, hz0, hz1, hz2⟩ := info_parts info5
      clear h hcs hb fby hq hq2 he hv hn hp h0 h1 hfg
      go_enter Try.func33, Try.ntmps33
      go_wp2_with (first
        | (go_at_call 37; refine (is_in H.out hk).mono ?_; rintro e w' ⟨rfl, rfl⟩)
        | (at_builtin; refine wpList_append_lies _ rfl _ _ 23 rfl 0 5 i5 _ 1 1 Try.underlying23 hi5 hz0 hz1 hz2 rfl (by decide) (.slice (some ⟨w.heap.size, 0, none⟩) 0 0) 0 [] rfl (own_empty w) ⟨fg, 0, none⟩ fr.length fcap (bytesV fr) rfl (by simp [bytesV_len]) ?c1 (bytesV_one fr) (by omega) (by unfold maxLen; omega) (by omega) (Nat.zero_le _) (w.heap.size + 1) (by simp) ?_))
      case c1 => exact blk_news HB.out HCS.out
      intro g2 cap2 w2 hown hgr hat hlt
      have HO := hid (own_bytes hown hlt HBY.out)
      have HM := hid (((Mod.refl [] w).alloc (.cells #[] 5)).grown hgr (by simp [Value.ownBlock]))
      clear hown hgr hat hlt
      go_wp2
      go_ret2
      exact ⟨⟨_, cap2, rfl, HO.out⟩, HM.out⟩
end

end Go.Proofs.Ytkdhkloabbcipaa
