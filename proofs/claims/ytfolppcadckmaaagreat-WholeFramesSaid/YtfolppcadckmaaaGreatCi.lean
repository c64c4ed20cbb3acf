/-
  Frames: what a front's posted buffers keep; Put of one more; bytes as a string.
-/
import Derived.Test.YtfolppcadckmaaaGreatNn
import Derived.Test.YtfolppcadckmaaaGreatRg
import Derived.Laws.BytesArg
namespace Go.Proofs.YtfolppcadckmaaaGreat
open Go.RowKit Go.Tn
open Go.Proofs
set_option maxRecDepth 100000

/-- The ring of posted buffers in frame mfn: i were put, o were got; each that is pending names grant 3. -/
structure InR (F : Nat → Nat → Int) (mfn i o : Nat) : Prop where
  i6 : i < 65536
  o6 : o < 65536
  d8 : df i o ≤ 8
  x0 : F mfn 4 = ((i % 256 : Nat) : Int)
  x1 : F mfn 5 = ((i / 256 : Nat) : Int)
  pe : ∀ t, t < df i o → F mfn (4 + qs ((o + t) % 65536)) = 3
/-- F' is F but for the bytes of frames a, b. -/
def OnlyP (F F' : Nat → Nat → Int) (a b : Nat) : Prop := ∀ k c, c < 4 ∨ (k ≠ a ∧ k ≠ b) → F' k c = F k c
theorem OnlyP.refl (F : Nat → Nat → Int) (a b : Nat) : OnlyP F F a b := fun _ _ _ => rfl
theorem OnlyP.trans {F F' F'' : Nat → Nat → Int} {a b : Nat} (h : OnlyP F F' a b) (k : OnlyP F' F'' a b) : OnlyP F F'' a b := fun i c hc => (k i c hc).trans (h i c hc)
theorem OnlyP.wr1 {F F' : Nat → Nat → Int} {a b off n : Nat} {G : Nat → Int} (h : OnlyP F F' a b) : OnlyP F (wrB F' a off n G) a b := fun i c hc => by
  unfold wrB
  rw [if_neg (by omega)]
  exact h i c hc
theorem OnlyP.wr2 {F F' : Nat → Nat → Int} {a b off n : Nat} {G : Nat → Int} (h : OnlyP F F' a b) : OnlyP F (wrB F' b off n G) a b := fun i c hc => by
  unfold wrB
  rw [if_neg (by omega)]
  exact h i c hc

theorem qs_mod (n : Nat) : qs n = 16 + 16 * (n % 8) := rfl
theorem inR_put {F : Nat → Nat → Int} {mfn i o : Nat} {G : Nat → Int} (h : InR F mfn i o) (hr : df i o < 8) (hG : G 0 = 3) : InR (wrB (wrB F mfn (qs i) 16 G) mfn 0 2 (tb (sc i))) mfn (sc i) o ∧ df (sc i) o ≠ 0 := by
  have hi := h.i6
  have ho := h.o6
  have hd : df (sc i) o = df i o + 1 := by unfold df sc at *; omega
  refine ⟨⟨sc_lt i, ho, by omega, ?_, ?_, fun t ht => ?_⟩, by omega⟩
  · unfold wrB; rw [if_pos (by omega)]; simp [tb]
  · unfold wrB; rw [if_pos (by omega)]; simp [tb]
  · rw [hd] at ht
    have e1 : wrB (wrB F mfn (qs i) 16 G) mfn 0 2 (tb (sc i)) mfn (4 + qs ((o + t) % 65536)) = wrB F mfn (qs i) 16 G mfn (4 + qs ((o + t) % 65536)) := by
      unfold wrB; rw [if_neg (by rw [qs_mod]; omega)]
    rw [e1]
    by_cases hs : (o + t) % 65536 % 8 = i % 8
    · unfold wrB
      rw [if_pos (by rw [qs_mod, qs_mod]; omega), show 4 + qs ((o + t) % 65536) - (4 + qs i) = 0 by rw [qs_mod, qs_mod]; omega]
      exact hG
    · have ht' : t < df i o := by
        by_cases e : t = df i o
        · subst e
          exfalso
          apply hs
          unfold df at *
          omega
        · omega
      have e2 := h.pe t ht'
      unfold wrB
      rw [if_neg (by rw [qs_mod, qs_mod]; omega)]
      exact e2
theorem inR_done {F : Nat → Nat → Int} {mfn dp i o n : Nat} {G R : Nat → Int} (h : InR F mfn i o) (hr : df i o ≠ 0) (hne : dp ≠ mfn) : InR (wrB (wrB (wrB F dp 0 n G) mfn (rs o) 8 R) mfn 2 2 (tb (sc o))) mfn i (sc o) := by
  have hi := h.i6
  have ho := h.o6
  have h8 := h.d8
  have hd : df i (sc o) + 1 = df i o := by unfold df sc at *; omega
  have hrs : rs o = 144 + 8 * (o % 8) := rfl
  have keep : ∀ c, (c = 4 ∨ c = 5 ∨ (20 ≤ c ∧ c ≤ 147)) → wrB (wrB (wrB F dp 0 n G) mfn (rs o) 8 R) mfn 2 2 (tb (sc o)) mfn c = F mfn c := fun c hc => by
    unfold wrB
    rw [if_neg (by omega), if_neg (by omega), if_neg (by omega)]
  refine ⟨hi, sc_lt o, by omega, ?_, ?_, fun t ht => ?_⟩
  · rw [keep 4 (by omega)]; exact h.x0
  · rw [keep 5 (by omega)]; exact h.x1
  · rw [keep _ (by rw [qs_mod]; omega)]
    have e := h.pe (t + 1) (by omega)
    rw [show (sc o + t) % 65536 = (o + (t + 1)) % 65536 by unfold sc; omega]
    exact e

section
variable {w w' : World} {f m mfn i o fb dp : Nat} {F : Nat → Nat → Int}

/-- 'Put' of a buffer, room or not. -/
theorem rput_any (h : RF w f m mfn i o) (p : PH w m fb F) (hI : InR F mfn i o) (hmf : mfn < 14) (hown : F mfn 0 ≠ -1) (sa : Option Addr) (cp : Nat) (G : Nat → Int) (hG : G 0 = 3) (hB : Bys w sa 16 G) (hsf : ∀ q off, sa = some ⟨q, off, none⟩ → q ≠ fb ∧ q ≠ f) :
    Calls Tryz.prog 18 #[.pointer (some ⟨f, 0, none⟩), .slice sa 16 cp] w fun e w' => (∃ z : Int, e = .returned (.int .i64 z)) ∧ ∃ F1 i', InR F1 mfn i' o ∧ df i' o ≠ 0 ∧ OnlyP F F1 mfn dp ∧ PH w' m fb F1 ∧ RF w' f m mfn i' o ∧ Tn.Mod [fb, f] w w' := by
  by_cases hr : df i o < 8
  · refine (rput_f h p hI.i6 hI.o6 hmf hown hr sa cp G hB hsf).mono ?_
    rintro e w' ⟨rfl, hp, hf, hm⟩
    have hk := inR_put hI hr hG
    exact ⟨⟨_, rfl⟩, _, _, hk.1, hk.2, ((OnlyP.refl F mfn dp).wr1).wr1, hp, hf, hm⟩
  · have h8 : df i o = 8 := by have := hI.d8; omega
    refine (rput_full h hI.i6 hI.o6 h8 sa cp).mono ?_
    rintro e w' ⟨rfl, hm⟩
    exact ⟨⟨_, rfl⟩, F, i, hI, by omega, OnlyP.refl _ _ _, p.mod0 hm, h.mod0 hm, hm.mono (by simp)⟩
end

/-- Bytes as a string. -/
theorem conv22 {w : World} {a : Option Addr} {n cap : Nat} {g : Nat → Int} (h : Bys w a n g) (h0 : 0 < n) : (convert 22 9 (.slice a n cap)).run Tryz.prog w = .ok (.string (strOfNums ((List.range n).map g))) w := by
  obtain ⟨b, off, rfl, _, hc⟩ := h h0
  exact run_convert_bytes_arg w 22 5 Tryz.underlying22 Tryz.underlying5 b off n cap ((List.range n).map g) (by simp) (fun j hj => (hc j hj).trans (by simp [List.getD_eq_getElem?_getD, hj])) 9 Tryz.underlying9
end Go.Proofs.YtfolppcadckmaaaGreat
