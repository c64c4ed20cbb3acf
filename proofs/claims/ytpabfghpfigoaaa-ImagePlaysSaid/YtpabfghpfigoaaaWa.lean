/-
  Layer 12: an image with its books: Write, Trim, Free, Need, Read, Base as one contract each.
-/
import Derived.Test.YtpabfghpfigoaaaMh
namespace Go.Proofs.Ytpabfghpfigoaaa
open Go.RowKit Go.Tn
open Go.Proofs

/-- How many sectors are written. -/
def num (f : Int → Option (Nat → Int)) (k : Nat) : Nat := ((List.range k).filter fun t : Nat => (f (t : Int)).isSome).length
theorem num_succ (f : Int → Option (Nat → Int)) (k : Nat) : num f (k + 1) = num f k + (if (f (k : Int)).isSome then 1 else 0) := by
  unfold num
  rw [List.range_succ, List.filter_append, List.length_append]
  cases h : f (k : Int) <;> (rw [List.filter_cons]; simp only [h]; simp)
theorem num_none (k : Nat) : num (fun _ => none) k = 0 := by simp [num]
theorem num_le (f : Int → Option (Nat → Int)) (k : Nat) : num f k ≤ k := by
  unfold num
  exact Nat.le_trans (List.length_filter_le _ _) (by simp)
theorem num_put_out (f : Int → Option (Nat → Int)) (x : Int) (v : Option (Nat → Int)) : ∀ k : Nat, ¬ (0 ≤ x ∧ x < k) → num (put f x v) k = num f k := by
  intro k
  induction k with
  | zero => intro _; rfl
  | succ k ih =>
    intro h
    rw [num_succ, num_succ, ih (by omega)]
    have h2 : put f x v (k : Int) = f (k : Int) := by unfold put; rw [if_neg (by omega)]
    rw [h2]
theorem num_put (f : Int → Option (Nat → Int)) (x : Int) (v : Option (Nat → Int)) : ∀ k : Nat, 0 ≤ x ∧ x < k → num (put f x v) k + (if (f x).isSome then 1 else 0) = num f k + (if v.isSome then 1 else 0) := by
  intro k
  induction k with
  | zero => intro h; omega
  | succ k ih =>
    intro h
    rw [num_succ, num_succ]
    by_cases e : x = k
    · subst e
      rw [num_put_out f _ v k (by omega)]
      unfold put
      rw [if_pos rfl]
      omega
    · have h1 := ih (by omega)
      have h2 : put f x v (k : Int) = f (k : Int) := by unfold put; rw [if_neg (by omega)]
      rw [h2]
      omega
theorem num_lt (f : Int → Option (Nat → Int)) (x : Int) (hx : (f x).isSome = true) : ∀ k : Nat, 0 ≤ x ∧ x < k → 0 < num f k := by
  intro k
  induction k with
  | zero => intro h; omega
  | succ k ih =>
    intro h
    rw [num_succ]
    by_cases e : x = k
    · subst e; rw [if_pos hx]; omega
    · have := ih (by omega); omega

/-- What Write answers, and what is written then. -/
def wrE (k m : Nat) (f : Int → Option (Nat → Int)) (x : Int) (len : Nat) : Int :=
  if ¬ (0 ≤ x ∧ x < k) then 1 else if len ≠ 64 then 1 else if (f x).isSome = false ∧ num f k = m then 71 else 0
def wrF (k m : Nat) (f : Int → Option (Nat → Int)) (x : Int) (len : Nat) (g : Nat → Int) : Int → Option (Nat → Int) :=
  if wrE k m f x len = 0 then put f x (some g) else f

/-- What a sector holds now. -/
def cur (d : Nat → Int) (f : Int → Option (Nat → Int)) (x : Nat) : Nat → Int := match f x with | some g => g | none => fun j => d (64 * x + j)

structure JM (w : World) (p mb B : Nat) (d : Nat → Int) (k m : Nat) (f : Int → Option (Nat → Int)) : Prop where
  im : IM w p mb B d k m f
  len : mlen w mb = num f k
  le : num f k ≤ m
  pB : p < B
  mB : mb < B
  Bw : B ≤ w.heap.size
  k6 : k ≤ 256
  m6 : m ≤ 256

theorem sec_shift (d : Nat → Int) (x : Nat) : sec (fun j => d (64 * x + j)) 0 = sec d x := by
  unfold sec; simp

section
variable {w : World} {p mb B k m : Nat} {d : Nat → Int} {f : Int → Option (Nat → Int)}

theorem JM.mod {S : List Nat} {w' : World} (h : JM w p mb B d k m f) (hm : Tn.Mod S w w') (h1 : p ∉ S) (h2 : mb ∉ S) (h3 : ∀ s ∈ S, ∀ cs, ¬ Blk w s 62 cs) : JM w' p mb B d k m f := by
  obtain ⟨a, b, c, e, g, i, j, l⟩ := h
  obtain ⟨h4, h5⟩ := a.mod hm h1 h2 h3
  exact ⟨h4, h5.trans b, c, e, g, Nat.le_trans i hm.size, j, l⟩
theorem JM.mod0 {w' : World} (h : JM w p mb B d k m f) (hm : Tn.Mod [] w w') : JM w' p mb B d k m f := h.mod hm (by simp) (by simp) (by simp)

theorem free_j (h : JM w p mb B d k m f) : Calls Try.prog 13 #[.pointer (some ⟨p, 0, none⟩)] w fun e w' => e = .returned (.int .i64 ((m : Int) - (num f k : Nat))) ∧ Tn.Mod [] w w' := by
  refine (free_f h.im h.m6 (by rw [h.len]; have := h.le; have := h.m6; omega)).mono ?_
  rintro e w' ⟨rfl, n, rfl⟩
  rw [h.len]
  exact ⟨rfl, (Mod.refl [] w).drewN n⟩

theorem trim_j (h : JM w p mb B d k m f) (x : Int) : Calls Try.prog 9 #[.pointer (some ⟨p, 0, none⟩), .int .i64 x] w fun e w' => e = .returned (.int .i64 (secE k x)) ∧ JM w' p mb B d k m (put f x none) ∧ Tn.Mod [mb] w w' := by
  refine (trim_f h.im x).mono ?_
  rintro e w' ⟨rfl, rfl⟩
  refine ⟨rfl, ?_⟩
  have hm : Tn.Mod [mb] w (mdel w mb x) := (Mod.refl _ w).mdel (.inl (by simp)) x
  split
  · rename_i hx
    obtain ⟨h1, h2⟩ := h.im.del h.mB x
    have h3 := num_put f x none k hx
    have h4 := h.len
    have h5 := h.le
    refine ⟨⟨h1, ?_, ?_, h.pB, h.mB, Nat.le_trans h.Bw hm.size, h.k6, h.m6⟩, hm⟩
    · rw [h2]
      cases hs : (f x).isSome <;> (rw [hs] at h3; simp at h3 ⊢; omega)
    · cases hs : (f x).isSome <;> (rw [hs] at h3; simp at h3; omega)
  · rename_i hx
    have : put f x none = f := by
      funext n
      unfold put
      split
      · rename_i e; subst e
        cases hfn : f n with
        | none => rfl
        | some g => exact absurd (h.im.dom n (by rw [hfn]; rfl)) hx
      · rfl
    rw [this]
    exact ⟨h, Mod.refl _ w⟩

theorem range_sec {gb go : Nat} {g : Nat → Int} (hr : ∀ j, j < 64 → w.cell? ⟨gb, go + j, none⟩ = some (.int .u8 (g j))) : w.rangeAt gb go (sec g 0).toList := fun t v hv => by
  obtain ⟨ht2, rfl⟩ := sec_list_at _ _ _ _ hv
  rw [Nat.mul_zero, Nat.zero_add]
  exact hr t ht2

theorem write_j (h : JM w p mb B d k m f) (x : Int) (gb go len cp : Nat) (g : Nat → Int) (hgb : gb < w.heap.size) (hr : ∀ j, j < len → w.cell? ⟨gb, go + j, none⟩ = some (.int .u8 (g j))) :
    Calls Try.prog 10 #[.pointer (some ⟨p, 0, none⟩), .int .i64 x, .slice (some ⟨gb, go, none⟩) len cp] w fun e w' => e = .returned (.int .i64 (wrE k m f x len)) ∧ JM w' p mb B d k m (wrF k m f x len g) ∧ Tn.Mod [mb] w w' := by
  unfold wrF
  by_cases hx : 0 ≤ x ∧ x < k
  · by_cases hl : len = 64
    · subst hl
      have hr2 := range_sec hr
      by_cases hf : (f x).isSome = true
      · have e : wrE k m f x 64 = 0 := by unfold wrE; rw [if_neg (by simpa using hx), if_neg (by simp), if_neg (by rw [hf]; simp)]
        rw [e, if_pos rfl]
        refine (write_again h.im x hx h.pB h.Bw hf gb go cp g hgb hr2).mono ?_
        rintro e w' ⟨rfl, w1, hm1, rfl⟩
        have h1 := h.mod0 hm1
        have hm : Tn.Mod [mb] w (mput w1 mb x (.agg (sec g 0))) := (hm1.mono (by simp)).mput (.inl (by simp)) x _
        obtain ⟨h2, h3⟩ := h1.im.put_ h1.mB x hx g
        have h4 := num_put f x (some g) k hx
        refine ⟨rfl, ⟨h2, ?_, ?_, h.pB, h.mB, Nat.le_trans h.Bw hm.size, h.k6, h.m6⟩, hm⟩
        · rw [h3, h1.len, if_pos hf]; rw [hf] at h4; simp at h4; exact h4.symm
        · rw [hf] at h4; simp at h4; rw [h4]; exact h.le
      · have hf0 : (f x).isSome = false := by simpa using hf
        by_cases hn : num f k = m
        · have e : wrE k m f x 64 = 71 := by unfold wrE; rw [if_neg (by simpa using hx), if_neg (by simp), if_pos ⟨hf0, hn⟩]
          rw [e, if_neg (by decide)]
          refine (write_full h.im x hx h.pB h.Bw h.m6 (h.len.trans hn) hf0 _ _ cp rfl).mono ?_
          rintro e w' ⟨rfl, hm⟩
          exact ⟨rfl, h.mod0 hm, hm.mono (by simp)⟩
        · have e : wrE k m f x 64 = 0 := by unfold wrE; rw [if_neg (by simpa using hx), if_neg (by simp), if_neg (by simp [hn])]
          rw [e, if_pos rfl]
          have hlt : num f k < m := by have := h.le; omega
          refine (write_new h.im x hx h.pB h.Bw h.m6 (by rw [h.len]; exact hlt) hf0 gb go cp g hgb hr2).mono ?_
          rintro e w' ⟨rfl, w1, hm1, rfl⟩
          have h1 := h.mod0 hm1
          have hm : Tn.Mod [mb] w (mput w1 mb x (.agg (sec g 0))) := (hm1.mono (by simp)).mput (.inl (by simp)) x _
          obtain ⟨h2, h3⟩ := h1.im.put_ h1.mB x hx g
          have h4 := num_put f x (some g) k hx
          rw [hf0] at h4
          simp at h4
          refine ⟨rfl, ⟨h2, ?_, ?_, h.pB, h.mB, Nat.le_trans h.Bw hm.size, h.k6, h.m6⟩, hm⟩
          · rw [h3, h1.len, if_neg hf]; exact h4.symm
          · omega
    · have e : wrE k m f x len = 1 := by unfold wrE; rw [if_neg (by simpa using hx), if_pos hl]
      rw [e, if_neg (by decide)]
      refine (write_len h.im x hx _ len cp hl).mono ?_
      rintro e w' ⟨rfl, rfl⟩
      exact ⟨rfl, h, Mod.refl _ w⟩
  · have e : wrE k m f x len = 1 := by unfold wrE; rw [if_pos hx]
    rw [e, if_neg (by decide)]
    refine (write_out h.im x _ hx).mono ?_
    rintro e w' ⟨rfl, rfl⟩
    exact ⟨rfl, h, Mod.refl _ w⟩

theorem need_j (h : JM w p mb B d k m f) (a n : Nat) (hn : a + n ≤ k) :
    Calls Try.prog 12 #[.pointer (some ⟨p, 0, none⟩), .int .i64 (a : Nat), .int .i64 (n : Nat)] w fun e w' => e = .returned (.tuple #[.int .i64 (cnt f a n : Nat), .int .i64 0]) ∧ Tn.Mod [] w w' :=
  need_f h.im a n hn h.k6 h.pB h.Bw

theorem base_j (h : JM w p mb B d k m f) (x : Nat) (hx : x < k) : Calls Try.prog 15 #[.pointer (some ⟨p, 0, none⟩), .int .i64 (x : Nat)] w fun e w' => ∃ q, e = .returned (.tuple #[.slice (some ⟨q, 0, none⟩) 64 64, .int .i64 0]) ∧ Blk w' q 62 (sec (fun j => d (64 * x + j)) 0) ∧ w.heap.size ≤ q ∧ Tn.Mod [] w w' := by
  rw [sec_shift]
  exact base_f h.im x hx h.k6

theorem read_j (h : JM w p mb B d k m f) (x : Nat) (hx : x < k) : Calls Try.prog 14 #[.pointer (some ⟨p, 0, none⟩), .int .i64 (x : Nat)] w fun e w' => ∃ q, e = .returned (.tuple #[.slice (some ⟨q, 0, none⟩) 64 64, .int .i64 0]) ∧ Blk w' q 62 (sec (cur d f x) 0) ∧ w.heap.size ≤ q ∧ Tn.Mod [] w w' := by
  unfold cur
  cases hf : f (x : Int) with
  | some g => exact read_new h.im x h.pB h.Bw g hf
  | none =>
    simp only
    rw [sec_shift]
    exact read_old h.im x hx h.k6 h.pB h.Bw hf

theorem sectors_j (h : JM w p mb B d k m f) : Calls Try.prog 16 #[.pointer (some ⟨p, 0, none⟩)] w fun e w' => e = .returned (.int .i64 k) ∧ w = w' := sectors_f h.im
end
end Go.Proofs.Ytpabfghpfigoaaa
