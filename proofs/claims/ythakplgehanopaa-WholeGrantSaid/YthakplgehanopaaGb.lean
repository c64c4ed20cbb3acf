/-
  Whole: a domain's places are laid, and it joins.
-/
import Derived.Test.YthakplgehanopaaGa
namespace Go.Proofs.Ythakplgehanopaa
open Go.RowKit Go.Tn Go.MapKept
open Go.Proofs

/-- The machine, the grants, and places p that nobody else holds. -/
structure QH (B : Nat) (w : World) (m fb x mb kb p bf bp : Nat) (F : Nat → Nat → Int) (f : Int → Option Value) (L : List Int) : Prop where
  ph : PH w m fb F
  gh : GH w x m mb kb f #[] 0
  pm : Pm.PM w p bf bp L
  n1 : mb ≠ bf ∧ mb ≠ bp
  n2 : kb ≠ bf ∧ kb ≠ bp
  b1 : B ≤ bf
  b2 : B ≤ bp

section
variable {B : Nat} {w w' : World} {m fb x mb kb p bf bp : Nat} {F F' : Nat → Nat → Int} {f : Int → Option Value} {L : List Int}

theorem q7 (ph : PH w m fb F) (gh : GH w x m mb kb f #[] 0) (hB : B ≤ w.heap.size) : Calls Try.prog 7 #[.int .i64 2] w fun e w' => ∃ p bf bp, e = .returned (.tuple #[.pointer (some ⟨p, 0, none⟩), .int .i64 0]) ∧ QH B w' m fb x mb kb p bf bp F f [-1, -1] ∧ Tn.Mod [] w w' := by
  refine (Pm.new_ok 2 w (by omega)).mono ?_
  rintro e w' ⟨he, hp, hm⟩
  have h1 := gh.mm.lt
  have h2 := (Array.getElem?_eq_some_iff.1 gh.km).1
  exact ⟨_, _, _, he, ⟨ph.mod0 hm, gh.mod0 hm, hp, ⟨by omega, by omega⟩, ⟨by omega, by omega⟩, by omega, by omega⟩, hm⟩

theorem q8 (q : QH B w m fb x mb kb p bf bp F f L) (g n : Int) : Calls Try.prog 8 #[.pointer (some ⟨p, 0, none⟩), .int .i64 g, .int .i64 n] w fun e w' => (∃ v, e = .returned v) ∧ QH B w' m fb x mb kb p bf bp F f (P3.setL L g n) ∧ Tn.Mod [bf, bp] w w' := by
  refine (Pm.set_f q.pm g n).mono ?_
  rintro e w' ⟨he, hp, hm⟩
  have e1 := q.pm.mf.imap
  have e2 := q.pm.mp.imap
  refine ⟨⟨_, he⟩, ⟨q.ph.mod hm ?_ ?_, q.gh.mod hm ?_ ?_ ?_, hp, q.n1, q.n2, q.b1, q.b2⟩, hm⟩
  · simpa using ⟨q.ph.blk.ne_map e1, q.ph.blk.ne_map e2⟩
  · simpa using ⟨q.ph.fr.ne_map e1, q.ph.fr.ne_map e2⟩
  · simpa using ⟨q.gh.blk.ne_map e1, q.gh.blk.ne_map e2⟩
  · simpa using q.n1
  · simpa using q.n2

theorem q9 (q : QH B w m fb x mb kb p bf bp F f L) (dom mfn : Nat) (hd : dom < 8) (hn : f (dom : Nat) = none) (hi : mfn < 4) (ho : F mfn 0 = (dom : Int)) (ht : F mfn 1 = 0) (hT : F mfn 3 = 0) (hC : F mfn 2 = 0) :
    Calls Try.prog 9 #[.pointer (some ⟨x, 0, none⟩), .int .i64 (dom : Nat), .int .i64 (mfn : Nat), .pointer (some ⟨p, 0, none⟩)] w fun e w' =>
      (∃ v, e = .returned v) ∧ QH B w' m fb x mb kb p bf bp (got1 F mfn) (Tn.upd f (dom : Nat) (some (mem mfn p))) L ∧ Tn.Mod [fb, mb] w w' := by
  refine (join_f q.ph q.gh q.pm hd hn hi ho (.inl ht) (by omega) (by omega) (by omega) (by omega)).mono ?_
  rintro e w' ⟨he, hp, hg, hm⟩
  have e1 := q.pm.mf.imap
  have e2 := q.pm.mp.imap
  refine ⟨he, ⟨hp, hg, q.pm.mod hm ?_ ?_ ?_, q.n1, q.n2, q.b1, q.b2⟩, hm⟩
  · simpa using ⟨q.pm.blk.ne_ q.ph.fr (by decide), q.pm.blk.ne_map q.gh.mm.imap⟩
  · simpa using ⟨fun e => q.ph.fr.ne_map e1 e.symm, fun e => q.n1.1 e.symm⟩
  · simpa using ⟨fun e => q.ph.fr.ne_map e2 e.symm, fun e => q.n1.2 e.symm⟩

/-- What stands at the head of the loop over the domains. -/
inductive L2 (W : World) (m fb x mb kb : Nat) : Nat → Prop
  | z (F : Nat → Nat → Int) (f : Int → Option Value) (ph : PH W m fb F) (gh : GH W x m mb kb f #[] 0) (hF : FA 4 F) (hf : ∀ n, f n = none) : L2 W m fb x mb kb 0
  | o (F : Nat → Nat → Int) (f : Int → Option Value) (ph : PH W m fb F) (gh : GH W x m mb kb f #[] 0) (hF : ∀ a c, 2 ≤ a → a < 4 → c < 4 → F a c = if c = 0 then 1 else 0) (hf : f 1 = none) : L2 W m fb x mb kb 1
  | t (F : Nat → Nat → Int) (f : Int → Option Value) (p1 bf bp : Nat) (s : SG W m fb x mb kb p1 bf bp F f #[] 0) (T : FT F) : L2 W m fb x mb kb 2

theorem got1_num (F : Nat → Nat → Int) (i : Nat) : got1 F i i 0 = F i 0 ∧ got1 F i i 1 = 1 ∧ got1 F i i 2 = F i 2 + 1 ∧ got1 F i i 3 = F i 3 + 1 := by
  unfold got1
  refine ⟨by rw [upd_oth (by omega), upd_oth (by omega), upd_oth (by omega)], by rw [upd_oth (by omega), upd_at], by rw [upd_at], by rw [upd_oth (by omega), upd_oth (by omega), upd_at]⟩
theorem got1_oth (F : Nat → Nat → Int) (i a c : Nat) (h : a ≠ i) : got1 F i a c = F a c := by
  unfold got1
  rw [upd_oth (by omega), upd_oth (by omega), upd_oth (by omega)]

/-- Domain 0 joins. -/
theorem q9_0 (q : QH B w m fb x mb kb p bf bp F f L) (hF : FA 4 F) (hf : ∀ n, f n = none) :
    Calls Try.prog 9 #[.pointer (some ⟨x, 0, none⟩), .int .i64 0, .int .i64 0, .pointer (some ⟨p, 0, none⟩)] w fun e w' => (∃ v, e = .returned v) ∧ L2 w' m fb x mb kb 1 ∧ Tn.Mod [fb, mb] w w' := by
  have hh := q9 q 0 0 (by omega) (hf _) (by omega) (by rw [hF 0 0 (by omega) (by omega)]; rfl) (by rw [hF 0 1 (by omega) (by omega)]; rfl) (by rw [hF 0 3 (by omega) (by omega)]; rfl) (by rw [hF 0 2 (by omega) (by omega)]; rfl)
  refine hh.mono ?_
  rintro e w' ⟨he, h, hm⟩
  refine ⟨he, .o _ _ h.ph h.gh (fun a c ha ha4 hc => ?_) ?_, hm⟩
  · rw [got1_oth F 0 a c (by omega), hF a c ha4 hc]
    by_cases hc0 : c = 0
    · rw [if_pos hc0, if_pos hc0, if_pos ha4]
      have : a / 2 = 1 := by omega
      rw [this]; rfl
    · rw [if_neg hc0, if_neg hc0]
  · unfold Tn.upd
    rw [if_neg (by decide)]
    exact hf 1

/-- Domain 1 joins. -/
theorem q9_1 (q : QH B w m fb x mb kb p bf bp F f [2, 3]) (hF : ∀ a c, 2 ≤ a → a < 4 → c < 4 → F a c = if c = 0 then 1 else 0) (hf : f 1 = none) :
    Calls Try.prog 9 #[.pointer (some ⟨x, 0, none⟩), .int .i64 1, .int .i64 2, .pointer (some ⟨p, 0, none⟩)] w fun e w' => (∃ v, e = .returned v) ∧ L2 w' m fb x mb kb 2 ∧ Tn.Mod [fb, mb] w w' := by
  have h20 := hF 2 0 (by omega) (by omega) (by omega)
  have h21 := hF 2 1 (by omega) (by omega) (by omega)
  have h22 := hF 2 2 (by omega) (by omega) (by omega)
  have h23 := hF 2 3 (by omega) (by omega) (by omega)
  have h30 := hF 3 0 (by omega) (by omega) (by omega)
  have h31 := hF 3 1 (by omega) (by omega) (by omega)
  have h32 := hF 3 2 (by omega) (by omega) (by omega)
  have h33 := hF 3 3 (by omega) (by omega) (by omega)
  rw [if_pos rfl] at h20 h30
  rw [if_neg (by decide)] at h21 h22 h23 h31 h32 h33
  have hh := q9 q 1 2 (by omega) hf (by omega) h20 h21 h23 h22
  refine hh.mono ?_
  rintro e w' ⟨he, h, hm⟩
  have T : FT (got1 F 2) := by
    obtain ⟨a0, a1, a2, a3⟩ := got1_num F 2
    exact ⟨a0.trans h20, a1, by rw [a2, h22]; rfl, by rw [a3, h23]; rfl, (got1_oth F 2 3 0 (by omega)).trans h30, (got1_oth F 2 3 1 (by omega)).trans h31, (got1_oth F 2 3 2 (by omega)).trans h32, (got1_oth F 2 3 3 (by omega)).trans h33⟩
  refine ⟨he, .t _ _ p bf bp ⟨h.ph, h.gh, h.pm, ?_, T.a0, T.a1, T.b0⟩ T, hm⟩
  unfold Tn.upd
  rw [if_pos (by decide)]

theorem gnew_g (h : PH w m fb F) (hF : FA 4 F) : Calls Try.prog 6 #[.pointer (some ⟨m, 0, none⟩)] w fun e w' => ∃ x mb kb, e = .returned (.pointer (some ⟨x, 0, none⟩)) ∧ L2 w' m fb x mb kb 0 ∧ w.heap.size ≤ mb ∧ w.heap.size ≤ kb ∧ Tn.Mod [] w w' := by
  refine (gnew_f h).mono ?_
  rintro e w' ⟨he, hg, hm⟩
  exact ⟨_, _, _, he, .z _ _ (h.mod0 hm) hg hF (fun _ => rfl), Nat.le_refl _, by omega, hm⟩
end
end Go.Proofs.Ythakplgehanopaa
