/-
  Whole: the calls of the law, each as one contract.
-/
import Derived.Test.YthakplgehanopaaMa
import Derived.Test.YthakplgehanopaaAl
namespace Go.Proofs.Ythakplgehanopaa
open Go.RowKit Go.Tn Go.MapKept
open Go.Proofs

section
variable {w w' : World} {m fb x mb kb p1 bf bp v db r : Nat} {F F' : Nat → Nat → Int} {f : Int → Option Value} {es : Array MapEntry} {c : Nat}

/-- The frames behind j allocations. -/
def FA (j : Nat) (F : Nat → Nat → Int) : Prop := ∀ a c, a < 4 → c < 4 → F a c = if c = 0 then (if a < j then ((a / 2 : Nat) : Int) else -1) else 0
theorem FA.zero {F : Nat → Nat → Int} (h : ∀ a c, F a c = if c = 0 ∧ a < 4 then -1 else 0) : FA 0 F := fun a c ha hc => by
  rw [h]
  by_cases hc : c = 0
  · simp [hc, ha]
  · simp [hc]
theorem FA.step {F : Nat → Nat → Int} {j : Nat} (h : FA j F) (hj : j < 4) : F j 0 = -1 ∧ (∀ i, i < j → F i 0 ≠ -1) ∧ FA (j + 1) (upd F j 0 ((j / 2 : Nat) : Int)) := by
  refine ⟨by rw [h j 0 hj (by omega)]; simp, fun i hi => by rw [h i 0 (by omega) (by omega)]; simp [hi]; omega, fun a c ha hc => ?_⟩
  unfold upd
  by_cases h1 : a = j ∧ c = 0
  · rw [if_pos h1, if_pos h1.2, if_pos (by omega), h1.1]
  · rw [if_neg h1, h a c ha hc]
    by_cases hc0 : c = 0
    · rw [if_pos hc0, if_pos hc0]
      by_cases h2 : a < j
      · rw [if_pos h2, if_pos (by omega)]
      · rw [if_neg h2, if_neg (by omega)]
    · rw [if_neg hc0, if_neg hc0]

theorem alloc_j (h : PH w m fb F) (j : Nat) (hj : j < 4) (hF : FA j F) (o : Int) (ho : o = ((j / 2 : Nat) : Int)) :
    Calls Try.prog 5 #[.pointer (some ⟨m, 0, none⟩), .int .i64 o] w fun e w' => (∃ v, e = .returned v) ∧ (∃ F', PH w' m fb F' ∧ FA (j + 1) F') ∧ Tn.Mod [fb] w w' := by
  subst ho
  obtain ⟨h1, h2, h3⟩ := hF.step hj
  refine (alloc_f h (j / 2) j (by omega) hj h1 h2).mono ?_
  rintro e w' ⟨he, hp, hm⟩
  exact ⟨he, ⟨_, hp, h3⟩, hm⟩

/-- A view is new: what is due ahead of the reads 0 and 1. -/
structure VN (w : World) (v m db len : Nat) (G : Nat → Int) (N : Nat) : Prop where
  vh : VH w v m db 0
  d0 : Due w v db (0 : Nat) len G 0
  d1 : Due w v db (1 : Nat) len G N

theorem vnew_g (h : PH w m fb F) (la : Option Addr) (nl nlc len : Nat) (G : Nat → Int) (hnl : nl = 0 ∨ nl = 2) (hla : Late w la nl len G) (hl : len ≤ 256) :
    Calls Try.prog 13 #[.pointer (some ⟨m, 0, none⟩), .slice la nl nlc] w fun e w' => ∃ v db, e = .returned (.tuple #[.pointer (some ⟨v, 0, none⟩), .int .i64 0]) ∧ VN w' v m db len G (if nl = 0 then 0 else 1) ∧ w.heap.size ≤ v ∧ w.heap.size ≤ db ∧ Tn.Mod [] w w' := by
  refine (vnew_f h la nl nlc len G (by omega) hla hl).mono ?_
  rintro e w' ⟨he, hN⟩
  refine ⟨w.heap.size + 1, w.heap.size, he, ⟨hN.vh, .no (hN.no _ (.inl (by simp))), ?_⟩, by omega, by omega, hN.md⟩
  rcases hnl with rfl | rfl
  · exact .no (hN.no _ (.inr (by simp)))
  · exact hN.one (by omega)

theorem VN.mod0 {len N : Nat} {G : Nat → Int} (h : VN w v m db len G N) {S : List Nat} (hm : Tn.Mod S w w') (h1 : ∀ s ∈ S, s < v) (h2 : db ∉ S) : VN w' v m db len G N :=
  ⟨h.vh.mod hm (fun h => by have := h1 _ h; omega) h2, h.d0.mod hm (fun s hs => by have := h1 s hs; omega) h2 h.vh.mm, h.d1.mod hm (fun s hs => by have := h1 s hs; omega) h2 h.vh.mm⟩

/-- What Pull answers. -/
def PuA (e : Ending) (w' : World) (F' : Nat → Nat → Int) (P o g : Int) (n : Nat) : Prop := ∃ a l cp, e = .returned (.tuple #[.slice a l cp, .int .i64 g]) ∧ Bys w' a l (fun j => F' (2 + P).toNat (4 + o.toNat + j)) ∧ l = (if g = 0 then n else 0) ∧ ∀ b off, a = some ⟨b, off, none⟩ → off = 0

theorem pull_g {len N : Nat} {G : Nat → Int} (s : SG w m fb x mb kb p1 bf bp F f es c) (hv : VN w v m db len G N) (hl : len ≤ 256) (hfv : fb < v)
    (K : Int) (ro sub : Bool) (D P O L : Int) (ok : GOk K D P O L) (hb : Lies F K ro sub D P O L) (off n : Nat) (ho : off ≤ 255) (hn : n ≤ 255) :
    Calls Try.prog 14 #[.pointer (some ⟨x, 0, none⟩), .pointer (some ⟨v, 0, none⟩), .int .i64 0, .agg #[.bool true, .int .i64 1, .int .i64 0, .int .i64 0, .int .i64 (off : Nat)], .int .i64 (n : Nat)] w fun e w' =>
      PuA e w' (rw2 F N len G) P (gOff sub O + off) (eF K sub D P L off n) n ∧ (∃ N', N' ≤ N ∧ SG w' m fb x mb kb p1 bf bp (rw2 F N' len G) f es c) ∧ Tn.Mod [fb, v] w w' := by
  by_cases he : eF K sub D P L off n = 0
  · refine (pull_ok s hv.vh hv.d0 hv.d1 hl hfv (by omega) K ro sub D P O L ok hb off n ho hn he).mono ?_
    rintro e w' ⟨⟨q, h1, h2⟩, h3, _, h5⟩
    exact ⟨⟨_, _, _, by rw [he]; exact h1, h2, by rw [if_pos he], fun b off h => by cases h; rfl⟩, ⟨N, Nat.le_refl _, h3⟩, h5⟩
  · refine (pull_no s hv.vh hv.d0 hl hfv (by omega) K ro sub D P O L ok hb off n ho hn he).mono ?_
    rintro e w' ⟨h1, h2, _, h5⟩
    exact ⟨⟨_, _, _, h1, Bys_zero _ _, by rw [if_neg he], fun b off h => by cases h⟩, ⟨0, Nat.zero_le _, h2⟩, h5⟩

/-- The counts of the frames 2 and 3. -/
structure FT (F : Nat → Nat → Int) : Prop where
  a0 : F 2 0 = 1
  a1 : F 2 1 = 1
  a2 : F 2 2 = 1
  a3 : F 2 3 = 1
  b0 : F 3 0 = 1
  b1 : F 3 1 = 0
  b2 : F 3 2 = 0
  b3 : F 3 3 = 0

theorem map_g {len : Nat} {G : Nat → Int} (s : SG w m fb x mb kb p1 bf bp F f #[] c) (T : FT F) (hv : VH w v m db 0) (d : Due w v db (0 : Nat) len G 0) (hl : len ≤ 256) (hfv : fb < v)
    (K : Int) (ro sub : Bool) (D P O L : Int) (ok : GOk K D P O L) (hb : Lies F K ro sub D P O L) (wr : Bool) (hdk : kb ≠ db) :
    Calls Try.prog 15 #[.pointer (some ⟨x, 0, none⟩), .pointer (some ⟨v, 0, none⟩), .int .i64 0, .int .i64 1, .int .i64 0, .bool wr] w fun e w' => e = .returned (.tuple #[.int .i64 0, .int .i64 (mE K ro sub D P wr)]) ∧ VH w' v m db 1 ∧
      (mE K ro sub D P wr = 0 → Calls Try.prog 17 #[.pointer (some ⟨x, 0, none⟩), .int .i64 0, .int .i64 0] w' fun e w'' => e = .returned (.int .i64 0) ∧ Tn.Mod [fb, kb] w' w'') ∧ Tn.Mod [fb, v, kb] w w' := by
  by_cases he : mE K ro sub D P wr = 0
  · have h4 : (K = 1 ∧ D = 0) ∧ sub = false ∧ (wr && ro) = false ∧ (P = 0 ∨ P = 1) := by
      unfold mE at he
      have := ok.p0
      by_cases h1 : K = 1 ∧ D = 0
      · rw [if_neg (by simpa using h1)] at he
        cases sub
        · rw [if_neg (by decide)] at he
          cases hw : (wr && ro)
          · rw [hw, if_neg (by decide)] at he
            by_cases h2 : P < 2
            · exact ⟨h1, rfl, rfl, by omega⟩
            · rw [if_pos h2] at he; cases he
          · rw [hw, if_pos rfl] at he; cases he
        · rw [if_pos rfl] at he; cases he
      · rw [if_pos h1] at he; cases he
    obtain ⟨hKD, hsub, hwr, hP⟩ := h4
    have hi : (2 + P).toNat < 4 := by omega
    have hpi : ((((2 + P).toNat : Nat)) : Int) = 2 + P := by omega
    have t1 : F (2 + P).toNat 1 = 0 ∧ F (2 + P).toNat 2 = 0 ∧ F (2 + P).toNat 3 = 0 ∨ F (2 + P).toNat 1 = 1 ∧ F (2 + P).toNat 2 = 1 ∧ F (2 + P).toNat 3 = 1 := by
      rcases hP with rfl | rfl
      · exact .inr ⟨T.a1, T.a2, T.a3⟩
      · exact .inl ⟨T.b1, T.b2, T.b3⟩
    cases wr
    · refine (map_r s hv d hl hfv (by omega) K ro sub D P O L ok hb hKD hsub hP hdk (by omega) (by omega)).mono ?_
      rintro e w' ⟨h1, h2, h3, h4, h5⟩
      rw [he]
      refine ⟨h1, h2, fun _ => ?_, h5⟩
      rw [← hpi] at h3
      refine unmap_r h4 h3 hi ?_ ?_ ?_
      · rw [upd_at, upd_oth (by omega)]; omega
      · rw [upd_at]; omega
      · rw [upd_at]; omega
    · have hro : ro = false := by simpa using hwr
      refine (map_w s hv d hl hfv (by omega) K ro sub D P O L ok hb hro hKD hsub hP hdk (by omega) (by omega) (by omega) (by omega) (by omega)).mono ?_
      rintro e w' ⟨h1, h2, h3, h4, h5⟩
      rw [he]
      refine ⟨h1, h2, fun _ => ?_, h5⟩
      rw [← hpi] at h3
      have g1 : got1 F (2 + P).toNat (2 + P).toNat 1 = 1 := by unfold got1; rw [upd_oth (by omega), upd_at]
      have g2 : got1 F (2 + P).toNat (2 + P).toNat 2 = F (2 + P).toNat 2 + 1 := by unfold got1; rw [upd_at]
      have g3 : got1 F (2 + P).toNat (2 + P).toNat 3 = F (2 + P).toNat 3 + 1 := by unfold got1; rw [upd_oth (by omega), upd_oth (by omega), upd_at]
      exact unmap_w h4 h3 hi g1 (by omega) (by omega) (by omega) (by omega)
  · refine (map_no s hv d hl hfv (by omega) K ro sub D P O L ok hb wr he).mono ?_
    rintro e w' ⟨h1, _, h3, h4⟩
    exact ⟨h1, h3, fun h => absurd h he, h4.mono (by simp)⟩
end
end Go.Proofs.Ythakplgehanopaa
