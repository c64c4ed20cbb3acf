/-
  Layer 12: an image in the heap; none, sector, Sectors, Free, Trim.
-/
import Derived.Test.YtpabfghpfigoaaaIm
import Derived.BigQuiet
namespace Go.Proofs.Ytpabfghpfigoaaa
open Go.RowKit Go.Tn
open Go.Proofs

/-- At p an image lies: k base sectors with the bytes d, m blocks in all, f the written ones. Its map is block mb. -/
structure IM (w : World) (p mb B : Nat) (d : Nat → Int) (k m : Nat) (f : Int → Option (Nat → Int)) : Prop where
  blk : ∃ a cap, Blk w p 40 #[.bool true, .slice a k cap, .map (some mb), .int .i64 (m : Nat)] ∧ w.ownsRow 0 62 64 (.slice a k cap) k (flat d k)
  is : IsM w mb
  get : ∀ n, mget w mb n = (f n).map fun g => .agg (sec g 0)
  dom : ∀ n, (f n).isSome → 0 ≤ n ∧ n < k

/-- A row of sectors stands where no block of sectors turns. -/
theorem row62_keep {W W' : World} {v : Value} {k : Nat} {xs : List Value} (h : W.ownsRow 0 62 64 v k xs) (hh : ∀ g cs, Blk W g 62 cs → W'.heap[g]? = W.heap[g]?) : W'.ownsRow 0 62 64 v k xs := by
  obtain ⟨hl, h0 | ⟨g, cap', cur', e, h3, h4, h5⟩⟩ := h
  · exact ⟨hl, .inl h0⟩
  · exact ⟨hl, .inr ⟨g, cap', cur', e, h3, (hh g cur' h4).trans h4, h5⟩⟩
theorem row62_mod {S : List Nat} {W W' : World} {v : Value} {k : Nat} {xs : List Value} (h : W.ownsRow 0 62 64 v k xs) (hm : Tn.Mod S W W') (hS : ∀ s ∈ S, ∀ cs, ¬ Blk W s 62 cs) : W'.ownsRow 0 62 64 v k xs :=
  row62_keep h (fun g cs hb => hm.block g hb.lt (fun hs => hS g hs cs hb))

theorem look38 {w : World} {b : Nat} (h : IsM w b) (n : Int) : (Instr.lookup 38 (.map (some b)) (.int .i64 n) true).run Try.prog w = .ok (.tuple #[(mget w b n).getD (.agg z62), .bool (mget w b n).isSome]) w := by
  have := h.imap.look (t := 38) Try.underlying38 Try.underlying3 (zero62 w) n true
  simpa using this
theorem del38 {w : World} {b : Nat} (h : IsM w b) (n : Int) (ty : TypeId) : (Builtin.delete_ #[38, 3] ty #[.map (some b), .int .i64 n]).run Try.prog w = .ok (.tuple #[]) (mdel w b n) := h.imap.delete Try.underlying38 Try.underlying3 n ty
theorem len38 {w : World} {b : Nat} (h : IsM w b) (ty : TypeId) : (Builtin.len_ #[38] ty #[.map (some b)]).run Try.prog w = .ok (.int .i64 (mlen w b)) w := h.runLen Try.underlying38 ty
attribute [local go_sem] look38 del38 len38

section
variable {w : World} {p mb B k m : Nat} {d : Nat → Int} {f : Int → Option (Nat → Int)}

theorem none_f (h : IM w p mb B d k m f) : Calls Try.prog 27 #[.pointer (some ⟨p, 0, none⟩)] w fun e w' => e = .returned (.bool false) ∧ w = w' := by
  obtain ⟨a, cap, hb, _⟩ := h.blk
  have c0 := hb.cell 0
  simp only [List.getElem?_toArray, List.getElem?_cons_zero] at c0
  clear h hb
  go_enter Try.func27, Try.ntmps27
  go_wp2
  go_ret
  exact ⟨rfl, rfl⟩

def secE (k : Nat) (x : Int) : Int := if 0 ≤ x ∧ x < k then 0 else 1

theorem sector_f (h : IM w p mb B d k m f) (x : Int) : Calls Try.prog 25 #[.pointer (some ⟨p, 0, none⟩), .int .i64 x] w fun e w' => e = .returned (.int .i64 (secE k x)) ∧ w = w' := by
  obtain ⟨a, cap, hb, _⟩ := h.blk
  have c1 := hb.cell 1
  simp only [List.getElem?_toArray, List.getElem?_cons_zero, List.getElem?_cons_succ] at c1
  have H := hid h
  clear h hb
  unfold secE
  by_cases h0 : x < 0
  · rw [if_neg (by omega)]
    go_enter Try.func25, Try.ntmps25
    go_wp2_with (go_at_call 27; refine (none_f H.out).mono ?_; rintro e w' ⟨rfl, rfl⟩)
    go_ret
    exact ⟨rfl, rfl⟩
  · have h0' : 0 ≤ x := by omega
    by_cases h1 : x < k
    · rw [if_pos ⟨h0', h1⟩]
      clear h0
      go_enter Try.func25, Try.ntmps25
      go_wp2_with (go_at_call 27; refine (none_f H.out).mono ?_; rintro e w' ⟨rfl, rfl⟩)
      go_ret
      exact ⟨rfl, rfl⟩
    · rw [if_neg (by omega)]
      have h2 : (k : Int) ≤ x := by omega
      clear h0 h1
      go_enter Try.func25, Try.ntmps25
      go_wp2_with (go_at_call 27; refine (none_f H.out).mono ?_; rintro e w' ⟨rfl, rfl⟩)
      go_ret
      exact ⟨rfl, rfl⟩

theorem sectors_f (h : IM w p mb B d k m f) : Calls Try.prog 16 #[.pointer (some ⟨p, 0, none⟩)] w fun e w' => e = .returned (.int .i64 k) ∧ w = w' := by
  obtain ⟨a, cap, hb, _⟩ := h.blk
  have c1 := hb.cell 1
  simp only [List.getElem?_toArray, List.getElem?_cons_zero, List.getElem?_cons_succ] at c1
  have H := hid h
  clear h hb
  go_enter Try.func16, Try.ntmps16
  go_wp2_with (go_at_call 27; refine (none_f H.out).mono ?_; rintro e w' ⟨rfl, rfl⟩)
  go_ret
  exact ⟨rfl, rfl⟩

theorem free_f (h : IM w p mb B d k m f) (hm : m ≤ 256) (hl : mlen w mb ≤ 256) : Calls Try.prog 13 #[.pointer (some ⟨p, 0, none⟩)] w fun e w' => e = .returned (.int .i64 ((m : Int) - mlen w mb)) ∧ ∃ n, w' = w.drewN n := by
  obtain ⟨a, cap, hb, _⟩ := h.blk
  have c2 := hb.cell 2
  have c3 := hb.cell 3
  have his := h.is
  simp only [List.getElem?_toArray, List.getElem?_cons_zero, List.getElem?_cons_succ] at c2 c3
  have H := hid h
  clear h hb
  go_enter Try.func13, Try.ntmps13
  go_wp2_with (go_at_call 27; refine (none_f H.out).mono ?_; rintro e w' ⟨rfl, rfl⟩)
  go_quiet (fail)
  go_wp2
  go_ret
  exact ⟨rfl, _, rfl⟩

end
end Go.Proofs.Ytpabfghpfigoaaa
