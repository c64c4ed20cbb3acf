/-
  Layer 12: Trim and written.
-/
import Derived.Test.YtpabfghpfigoaaaMa
namespace Go.Proofs.Ytpabfghpfigoaaa
open Go.RowKit Go.Tn
open Go.Proofs
attribute [local go_sem] look38 del38 len38

section
variable {w : World} {p mb B k m : Nat} {d : Nat → Int} {f : Int → Option (Nat → Int)}

def put (f : Int → Option (Nat → Int)) (x : Int) (v : Option (Nat → Int)) : Int → Option (Nat → Int) := fun n => if n = x then v else f n

theorem IM.mod {S : List Nat} {w' : World} (h : IM w p mb B d k m f) (hm : Tn.Mod S w w') (h1 : p ∉ S) (h2 : mb ∉ S) (h3 : ∀ s ∈ S, ∀ cs, ¬ Blk w s 62 cs) : IM w' p mb B d k m f ∧ mlen w' mb = mlen w mb := by
  obtain ⟨⟨a, cap, hb, ho⟩, hi, hg, hd⟩ := h
  have hh := hm.block mb hi.lt h2
  refine ⟨⟨⟨a, cap, hb.mod hm h1, row62_mod ho hm h3⟩, hi.of_heap hh, fun n => by rw [mget_of_heap hh]; exact hg n, hd⟩, mlen_of_heap hh⟩

theorem IM.del (h : IM w p mb B d k m f) (hB : mb < B) (x : Int) : IM (mdel w mb x) p mb B d k m (put f x none) ∧ mlen (mdel w mb x) mb = if (f x).isSome then mlen w mb - 1 else mlen w mb := by
  have hm : Tn.Mod [mb] w (mdel w mb x) := (Mod.refl _ w).mdel (.inl (by simp)) x
  obtain ⟨⟨a, cap, hb, ho⟩, hi, hg, hd⟩ := h
  have hne : p ∉ [mb] := by simpa using hb.ne_map hi.imap
  refine ⟨⟨⟨a, cap, hb.mod hm hne, row62_mod ho hm (fun s hs cs hc => by simp at hs; subst hs; exact hc.ne_map hi.imap rfl)⟩, hi.mdel_same x, fun n => ?_, fun n hn => ?_⟩, ?_⟩
  · rw [mget_mdel_same hi]
    unfold put
    split
    · rfl
    · exact hg n
  · unfold put at hn
    split at hn
    · cases hn
    · exact hd n hn
  · rw [mlen_mdel_same hi, hg x]
    simp

theorem IM.put_ (h : IM w p mb B d k m f) (hB : mb < B) (x : Int) (hx : 0 ≤ x ∧ x < k) (g : Nat → Int) : IM (mput w mb x (.agg (sec g 0))) p mb B d k m (put f x (some g)) ∧ mlen (mput w mb x (.agg (sec g 0))) mb = if (f x).isSome then mlen w mb else mlen w mb + 1 := by
  have hm : Tn.Mod [mb] w (mput w mb x (.agg (sec g 0))) := (Mod.refl _ w).mput (.inl (by simp)) x _
  obtain ⟨⟨a, cap, hb, ho⟩, hi, hg, hd⟩ := h
  have hne : p ∉ [mb] := by simpa using hb.ne_map hi.imap
  refine ⟨⟨⟨a, cap, hb.mod hm hne, row62_mod ho hm (fun s hs cs hc => by simp at hs; subst hs; exact hc.ne_map hi.imap rfl)⟩, hi.mput_same x _, fun n => ?_, fun n hn => ?_⟩, ?_⟩
  · rw [mget_mput_same hi]
    unfold put
    split
    · rfl
    · exact hg n
  · unfold put at hn
    split at hn
    · rename_i e; subst e; exact hx
    · exact hd n hn
  · rw [mlen_mput_same hi, hg x]
    simp

theorem trim_f (h : IM w p mb B d k m f) (x : Int) : Calls Try.prog 9 #[.pointer (some ⟨p, 0, none⟩), .int .i64 x] w fun e w' => e = .returned (.int .i64 (secE k x)) ∧ w' = if 0 ≤ x ∧ x < k then mdel w mb x else w := by
  obtain ⟨a, cap, hb, _⟩ := h.blk
  have c2 := hb.cell 2
  have his := h.is
  simp only [List.getElem?_toArray, List.getElem?_cons_zero, List.getElem?_cons_succ] at c2
  have H := hid h
  clear h hb
  by_cases hx : 0 ≤ x ∧ x < k
  · have e : secE k x = 0 := by unfold secE; rw [if_pos hx]
    rw [if_pos hx]
    go_enter Try.func9, Try.ntmps9
    go_wp2_with (go_at_call 25; refine (sector_f H.out _).mono ?_; rw [e]; rintro e w' ⟨rfl, rfl⟩)
    go_ret
    rw [e]
    exact ⟨rfl, rfl⟩
  · have e : secE k x = 1 := by unfold secE; rw [if_neg hx]
    rw [if_neg hx]
    go_enter Try.func9, Try.ntmps9
    go_wp2_with (go_at_call 25; refine (sector_f H.out _).mono ?_; rw [e]; rintro e w' ⟨rfl, rfl⟩)
    go_ret
    rw [e]
    exact ⟨rfl, rfl⟩
end
end Go.Proofs.Ytpabfghpfigoaaa
