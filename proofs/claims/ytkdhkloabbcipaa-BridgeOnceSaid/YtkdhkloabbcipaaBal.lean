/-
  Layer 14: no frame is lost: what was taken, what was directed; no number falls. Lists and numbers alone.
-/
import Derived.Test.YtkdhkloabbcipaaLr
import Derived.Test.YtkdhkloabbcipaaOps
namespace Go.Tn.P14

/-- What was taken and what was directed is accounted for. -/
def Bal (P : Po) : Prop := P.c 0 = P.c 1 + P.c 2 + P.c 3 ∧ P.c 4 = P.c 5 + P.q.length + P.c 7 + P.c 8
/-- No number falls. -/
def Up (P Q : Po) : Prop := P.c 1 ≤ Q.c 1 ∧ P.c 2 ≤ Q.c 2 ∧ P.c 3 ≤ Q.c 3 ∧ P.c 4 ≤ Q.c 4 ∧ P.c 5 ≤ Q.c 5 ∧ P.c 7 ≤ Q.c 7 ∧ P.c 8 ≤ Q.c 8
def Fine (P Q : Po) : Prop := Bal P → Bal Q ∧ Up P Q
theorem Up.refl (P : Po) : Up P P := ⟨Int.le_refl _, Int.le_refl _, Int.le_refl _, Int.le_refl _, Int.le_refl _, Int.le_refl _, Int.le_refl _⟩
theorem Fine.refl (P : Po) : Fine P P := fun h => ⟨h, Up.refl P⟩
theorem Fine.trans {P Q R : Po} (h : Fine P Q) (k : Fine Q R) : Fine P R := fun hb => by
  obtain ⟨h1, h2⟩ := h hb
  obtain ⟨h3, h4⟩ := k h1
  refine ⟨h3, ?_⟩
  unfold Up at *
  omega
theorem fine_bad (P : Po) : Fine P ((P.inc 0).inc 2) := by
  intro h
  unfold Bal Up Po.inc Po.set at *
  simp at *
  omega
theorem fine_none (P : Po) : Fine P ((P.inc 0).inc 3) := by
  intro h
  unfold Bal Up Po.inc Po.set at *
  simp at *
  omega
theorem fine_take (P : Po) (x : Int) : Fine P (((P.inc 0).set 9 x).inc 1) := by
  intro h
  unfold Bal Up Po.inc Po.set at *
  simp at *
  omega
theorem fine_rate (P : Po) (x y : Int) : Fine P (((P.set 9 x).set 10 x).set 11 y) := by
  intro h
  unfold Bal Up Po.set at *
  simp at *
  omega
theorem fine_tick (P : Po) : Fine P (tickP P) := by
  intro h
  unfold tickP Bal Up Po.set at *
  simp at *
  omega
theorem fine_dir (P : Po) (fr : List Int) : Fine P (dirP P fr) := by
  intro h
  unfold dirP
  split
  · unfold Bal Up Po.inc Po.set at *
    simp at *
    omega
  · unfold Bal Up Po.inc Po.set Po.setq at *
    simp at *
    omega
theorem fine_done (P : Po) (on : Bool) (hq : P.q ≠ []) : Fine P (doneP P on) := by
  intro h
  obtain ⟨fr, q, e⟩ := List.exists_cons_of_ne_nil hq
  unfold doneP
  cases on
  · unfold Bal Up Po.inc Po.set Po.setq at *
    simp [e] at *
    omega
  · unfold Bal Up Po.inc Po.set Po.setq at *
    simp [e] at *
    omega
theorem fine_drop (P : Po) : Fine P (dropAll P) := by
  intro h
  unfold dropAll Bal Up Po.set Po.setq at *
  simp at *
  omega
theorem fine_onP {S : St} (p : Int) {f : Po → Po} (hf : ∀ P : Po, P = S.L p.toNat → Fine P (f P)) (i : Nat) : Fine (S.L i) ((onP S p f).L i) := by
  simp only [onP, upd]
  by_cases e : i = p.toNat
  · subst e; rw [if_pos rfl]; exact hf _ rfl
  · rw [if_neg e]; exact Fine.refl _

theorem fine_send (S : St) (p : Int) (fr : List Int) (i : Nat) : Fine (S.L i) ((sendS S p fr).L i) := by
  unfold sendS
  split
  · exact Fine.refl _
  split
  · exact fine_onP p (fun P _ => fine_bad P) i
  split
  · exact fine_onP p (fun P _ => fine_none P) i
  · have h1 : Fine (S.L i) ((takeS S p fr).L i) := fine_onP p (fun P _ => fine_take P _) i
    refine h1.trans ?_
    simp only [dirTo]
    split
    · exact fine_dir _ _
    · exact Fine.refl _

theorem fine_play (S : St) (o : Go.Tn.OpV) (i : Nat) (S' : St) (h : S' = sendS S o.y o.fr ∨ S' = rateS S o.y o.z o.u ∨ S' = tickS S ∨ S' = S ∨ S' = doneS S o.y o.n ∨ S' = downS S o.y ∨ S' = badS S o.y) : Fine (S.L i) (S'.L i) := by
  rcases h with rfl | rfl | rfl | rfl | rfl | rfl | rfl
  · exact fine_send S _ _ i
  · unfold rateS
    split
    · exact fine_onP _ (fun P _ => fine_rate P _ _) i
    · exact Fine.refl _
  · simp only [tickS, tickTo]
    split
    · exact fine_tick _
    · exact Fine.refl _
  · exact Fine.refl _
  · unfold doneS
    split
    · rename_i h0
      refine fine_onP _ (fun P hP => fine_done P _ ?_) i
      rw [hP]
      intro hq
      unfold headE at h0
      split at h0
      · cases h0
      · cases h0
    · exact Fine.refl _
  · unfold downS
    split
    · exact fine_onP _ (fun P _ => fine_drop P) i
    · exact Fine.refl _
  · unfold badS
    split
    · exact fine_onP _ (fun P _ => fine_bad P) i
    · exact Fine.refl _

theorem bal_new (n i : Nat) : Bal ((newS n).L i) := by simp [Bal, newS]

end Go.Tn.P14
