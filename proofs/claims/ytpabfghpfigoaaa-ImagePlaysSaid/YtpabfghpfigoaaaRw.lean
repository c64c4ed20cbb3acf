/-
  Layer 12: the reference: Read, Write, Trim.
-/
import Derived.Test.YtpabfghpfigoaaaRj
import Derived.Test.YtpabfghpfigoaaaReg
namespace Go.Proofs.Ytpabfghpfigoaaa
open Go.RowKit Go.Tn Go.Shelf
open Go.Proofs

theorem wp_app5 {o : Oper} {A : Act} {w : World} {K : Act → World → Prop} {Q : Exit → Act → World → Prop} (s x : Operand)
    (ho : o.op = .call { callee := .builtin .append, args := #[s, x], argTypes := #[27, 27] }) (q : Nat) (hs : A.eval s = .slice (some ⟨q, 0, none⟩) 0 0) (a : Option Addr) (len c : Nat) (hx : A.eval x = .slice a len c) (g : Nat → Int)
    (hq : Blk w q 5 #[]) (hb : Bys w a len g) (hl : len ≤ 140737488355328)
    (h : ∀ q' c' w', q ≤ q' → q' < w'.heap.size → (∀ j, j < len → w'.cell? ⟨q', j, none⟩ = some (.int .u8 (g j))) → (∃ cs, Blk w' q' 5 cs) → Tn.Mod [q] w w' → len ≤ c' → K (A.put o.dst (.slice (some ⟨q', 0, none⟩) len c')) w') :
    o.wp Try.prog A w K Q := by
  obtain ⟨q', c', w', hr, h2, h3, h4, h5, h6, h7⟩ := append_bytes q hq a len c g hb hl o.type
  unfold Oper.wp execOp
  simp only [ho, resolve, invoke, builtin, Sem.run_bind, Sem.run_pure, Result.andThen_ok, List.map_toArray, List.map_cons, List.map_nil, hs, hx, hr]
  exact h q' c' w' h2 h3 h4 h5 h6 h7

section
variable {w w' : World} {r lc bb bc k m : Nat} {la : Option Addr} {d : Nat → Int} {f : Int → Option (Nat → Int)}

theorem RJ.none_out (h : RJ w r la lc bb bc d k m f) {x : Int} (hx : ¬ (0 ≤ x ∧ x < k)) : f x = none := by
  cases hf : f x with
  | none => rfl
  | some g => exact absurd (h.dom x (by rw [hf]; rfl)) hx

theorem rread_out (h : RJ w r la lc bb bc d k m f) (x : Int) (hx : ¬ (0 ≤ x ∧ x < k)) : Calls Try.prog 31 #[.pointer (some ⟨r, 0, none⟩), .int .i64 x] w fun e w' => e = .returned (.tuple #[.slice none 0 0, .int .i64 1]) ∧ w = w' := by
  have H := hid h
  have e : decide (0 ≤ x ∧ x < (k : Int)) = false := decide_eq_false hx
  have E := hid e
  have HX := hid hx
  clear h e hx
  go_enter Try.func31, Try.ntmps31
  go_wp2_with (first
    | (go_at_call 37; refine (is_f H.out _).mono ?_; rw [E.out]; rintro e w' ⟨rfl, rfl⟩)
    | (go_at_call 35; refine (rbase_out H.out x HX.out).mono ?_; rintro e w' ⟨rfl, rfl⟩))
  go_ret2
  exact ⟨rfl, rfl⟩

set_option maxHeartbeats 2000000 in
theorem rread_in (h : RJ w r la lc bb bc d k m f) (X : Nat) (hx : X < k) : Calls Try.prog 31 #[.pointer (some ⟨r, 0, none⟩), .int .i64 (X : Nat)] w fun e w' => ∃ q c, e = .returned (.tuple #[.slice (some ⟨q, 0, none⟩) 64 c, .int .i64 0]) ∧ Bys w' (some ⟨q, 0, none⟩) 64 (cur d f X) ∧ Tn.Mod [] w w' := by
  have H := hid h
  have e : decide (0 ≤ (X : Int) ∧ (X : Int) < (k : Int)) = true := decide_eq_true (by omega)
  have E := hid e
  have HX := hid hx
  have c1 := h.blk.cell 1
  simp only [List.getElem?_toArray, List.getElem?_cons_zero, List.getElem?_cons_succ] at c1
  obtain ⟨lb, cs, rfl, hb, hsz, ha⟩ := h.row (by omega)
  have hs := ha X hx
  have hxI : (X : Int) < (k : Int) := by omega
  have hk6 := h.k6
  have hXI : (X : Int) ≤ 256 := by omega
  cases hf : f (X : Int) with
  | none =>
    rw [cur_none hf]
    rw [hf] at hs
    obtain ⟨ad, c, hs⟩ := hs
    have c2 := (hb.cell X).trans hs
    clear h e hx hb hsz ha hs hf
    go_enter Try.func31, Try.ntmps31
    go_wp2_with (first
      | (go_at_call 37; refine (is_f H.out _).mono ?_; rw [E.out]; rintro e w' ⟨rfl, rfl⟩)
      | (go_at_call 35; refine (rbase_in H.out X HX.out).mono ?_; rintro e w' ⟨q, c', rfl, hq, hm⟩; have HQ := hid (And.intro hq hm); clear hq hm))
    go_ret2
    exact ⟨q, c', rfl, HQ.out.1, HQ.out.2⟩
  | some g =>
    rw [cur_some hf]
    rw [hf] at hs
    obtain ⟨q, c, hs, ⟨csq, hq⟩, hB⟩ := hs
    have c2 := (hb.cell X).trans hs
    have hm1 : Tn.Mod [] w (w.alloc (.cells #[] 5)) := (Mod.refl [] w).alloc _
    have HM := hid hm1
    have HB := hid (hB.mod hm1 (by simp))
    have HQ := hid (Blk.new w 5 #[])
    have d1 := (h.blk.mod hm1 (by simp)).cell 1
    simp only [List.getElem?_toArray, List.getElem?_cons_zero, List.getElem?_cons_succ] at d1
    have d2 := ((hb.mod hm1 (by simp)).cell X).trans hs
    clear h e hx hb hsz ha hs hf hm1 hB hq
    go_enter Try.func31, Try.ntmps31
    go_wp2_with (first
      | (go_at_call 37; refine (is_f H.out _).mono ?_; rw [E.out]; rintro e w' ⟨rfl, rfl⟩)
      | (at_builtin; refine wpList_app5 rfl _ _ rfl w.heap.size rfl (some ⟨q, 0, none⟩) 64 c rfl g HQ.out HB.out (by omega) ?_))
    intro q' c' w1 h1 h2 h3 cs h4 h5 h6
    have H1 := hid (Bys_cells h2 h3)
    have H2 := hid (HM.out.trans h5 (by simp))
    clear h1 h2 h3 h4 h5 h6
    go_wp2
    go_ret2
    exact ⟨q', c', rfl, H1.out, H2.out⟩

theorem RJ.write {lb : Nat} {cs : Array Value} {X : Nat} {v : Value} {f' : Int → Option (Nat → Int)} (h : RJ w r (some ⟨lb, 0, none⟩) lc bb bc d k m f) (hX : X < k) (hb : Blk w lb 27 cs) (hsz : k ≤ cs.size) (ha : ∀ i : Nat, i < k → SlotOk w cs[i]? (f (i : Int)))
    (hm : Tn.Mod [r, lb] w w') (hr : Blk w' r 56 #[.slice (some ⟨bb, 0, none⟩) (64 * k : Nat) bc, .slice (some ⟨lb, 0, none⟩) k lc, .int .i64 ((m : Int) - (num f' k : Nat))]) (hl : Blk w' lb 27 (cs.setIfInBounds X v)) (hv : SlotOk w' (some v) (f' (X : Int)))
    (hf : ∀ x : Int, x ≠ X → f' x = f x) (hle : num f' k ≤ m) : RJ w' r (some ⟨lb, 0, none⟩) lc bb bc d k m f' := by
  have n5 : ∀ q cs, Blk w q 5 cs → q ∉ [r, lb] := fun q cs hq hs => by
    simp at hs
    rcases hs with rfl | rfl
    · exact hq.ne_ h.blk (by decide) rfl
    · exact hq.ne_ hb (by decide) rfl
  obtain ⟨cs5, h5⟩ := h.bbk
  refine ⟨hr, h.base.mod hm (fun b o e => by cases e; exact n5 bb cs5 h5), ⟨cs5, h5.mod hm (n5 bb cs5 h5)⟩, h.cap, fun _ => ⟨lb, _, rfl, hl, by simpa using hsz, fun i hi => ?_⟩, fun x hx => ?_, hle, h.k6, h.m6⟩
  · by_cases e : i = X
    · subst e
      rw [show (cs.setIfInBounds i v)[i]? = some v from by rw [Array.getElem?_setIfInBounds, if_pos rfl, if_pos (by omega)]]
      exact hv
    · rw [Array.getElem?_setIfInBounds_ne (Ne.symm e), hf i (by omega)]
      exact (ha i hi).mod hm n5
  · by_cases e : x = X
    · subst e; omega
    · rw [hf x e] at hx; exact h.dom x hx

theorem rwrite_out (h : RJ w r la lc bb bc d k m f) (x : Int) (hx : ¬ (0 ≤ x ∧ x < k)) (v : Value) : Calls Try.prog 32 #[.pointer (some ⟨r, 0, none⟩), .int .i64 x, v] w fun e w' => e = .returned (.int .i64 1) ∧ w = w' := by
  have H := hid h
  have e : decide (0 ≤ x ∧ x < (k : Int)) = false := decide_eq_false hx
  have E := hid e
  clear h e hx
  go_enter Try.func32, Try.ntmps32
  go_wp2_with (go_at_call 37; refine (is_f H.out _).mono ?_; rw [E.out]; rintro e w' ⟨rfl, rfl⟩)
  go_ret
  exact ⟨rfl, rfl⟩

theorem rwrite_len (h : RJ w r la lc bb bc d k m f) (x : Int) (hx : 0 ≤ x ∧ x < k) (ad : Option Addr) (len c : Nat) (hl : len ≠ 64) : Calls Try.prog 32 #[.pointer (some ⟨r, 0, none⟩), .int .i64 x, .slice ad len c] w fun e w' => e = .returned (.int .i64 1) ∧ w = w' := by
  have H := hid h
  have e : decide (0 ≤ x ∧ x < (k : Int)) = true := decide_eq_true hx
  have E := hid e
  have hl' : ((len : Nat) : Int) ≠ 64 := by omega
  clear h e hx hl
  go_enter Try.func32, Try.ntmps32
  go_wp2_with (go_at_call 37; refine (is_f H.out _).mono ?_; rw [E.out]; rintro e w' ⟨rfl, rfl⟩)
  go_ret
  exact ⟨rfl, rfl⟩

theorem rwrite_full (h : RJ w r la lc bb bc d k m f) (X : Nat) (hx : X < k) (hf : f (X : Int) = none) (hn : num f k = m) (ad : Option Addr) (c : Nat) : Calls Try.prog 32 #[.pointer (some ⟨r, 0, none⟩), .int .i64 (X : Nat), .slice ad 64 c] w fun e w' => e = .returned (.int .i64 71) ∧ w = w' := by
  have H := hid h
  have e : decide (0 ≤ (X : Int) ∧ (X : Int) < (k : Int)) = true := decide_eq_true (by omega)
  have E := hid e
  have c1 := h.blk.cell 1
  have c3 := h.blk.cell 2
  simp only [List.getElem?_toArray, List.getElem?_cons_zero, List.getElem?_cons_succ] at c1 c3
  rw [hn, Int.sub_self] at c3
  obtain ⟨lb, cs, rfl, hb, hsz, ha⟩ := h.row (by omega)
  have hs := ha X hx
  rw [hf] at hs
  obtain ⟨ad2, c2, hs⟩ := hs
  have c2 := (hb.cell X).trans hs
  have hxI : (X : Int) < (k : Int) := by omega
  have hk6 := h.k6
  have hXI : (X : Int) ≤ 256 := by omega
  clear h e hx hb hsz ha hs hf
  go_enter Try.func32, Try.ntmps32
  go_wp2_with (go_at_call 37; refine (is_f H.out _).mono ?_; rw [E.out]; rintro e w' ⟨rfl, rfl⟩)
  go_ret
  exact ⟨rfl, rfl⟩
end
end Go.Proofs.Ytpabfghpfigoaaa
