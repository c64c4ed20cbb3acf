/-
  Layer 14: a switch's state in plain lists and numbers, and what each call answers and leaves.
-/
import Derived.Test.YtfolppcadckmaaaGreatQ
namespace Go.Tn.P14

/-- A port: its numbers (0 Taken .. 8 RingFull, 9 credit, 10 burst, 11 rate) and the frames that wait. -/
structure Po where
  c : Nat → Int
  q : List (List Int)

def Po.set (P : Po) (j : Nat) (x : Int) : Po := { P with c := fun k => if k = j then x else P.c k }
def Po.inc (P : Po) (j : Nat) : Po := P.set j (P.c j + 1)
def Po.setq (P : Po) (q : List (List Int)) : Po := { P with q := q }
def upd {α : Type} (L : Nat → α) (i : Nat) (P : α) : Nat → α := fun k => if k = i then P else L k

structure St where
  n : Nat
  L : Nat → Po
  K : Int → Int

def isP (S : St) (p : Int) : Bool := decide (0 ≤ p ∧ p < S.n)
def cntTo (K : Int → Int) : Nat → Nat
  | 0 => 0
  | k + 1 => cntTo K k + if 0 ≤ K k then 1 else 0
def cnt (K : Int → Int) : Nat := cntTo K 256
def onP (S : St) (p : Int) (f : Po → Po) : St := { S with L := upd S.L p.toNat (f (S.L p.toNat)) }

def newS (n : Nat) : St := ⟨n, fun _ => ⟨fun _ => 0, []⟩, fun _ => -1⟩
def okC (x : Int) : Bool := decide (0 ≤ x ∧ x ≤ 65536)
def rateE (S : St) (p bu ra : Int) : Int := if isP S p && (okC bu && okC ra) then 0 else 1
def rateS (S : St) (p bu ra : Int) : St := if isP S p && (okC bu && okC ra) then onP S p fun P => ((P.set 9 bu).set 10 bu).set 11 ra else S
def tickP (P : Po) : Po := P.set 9 (min (P.c 10) (P.c 9 + P.c 11))
def tickTo (S : St) (k : Nat) : St := { S with L := fun i => if i < k then tickP (S.L i) else S.L i }
def tickS (S : St) : St := tickTo S S.n
def creditV (S : St) (p : Int) : Int := if isP S p then (S.L p.toNat).c 9 else 0

def fAt (fr : List Int) (i : Nat) : Int := fr.getD i 0
def badF (fr : List Int) : Bool := decide (fr.length < 2) || decide (128 < fr.length) || decide (fAt fr 1 = 255)
def dirP (P : Po) (fr : List Int) : Po := if 4 ≤ P.q.length then (P.inc 4).inc 8 else (P.inc 4).setq (P.q ++ [fr])
/-- Is the frame directed to i? -/
def isTo (K : Int → Int) (p : Int) (fr : List Int) (i : Nat) : Bool := decide ((i : Int) ≠ p) && (decide (K (fAt fr 0) < 0 ∨ fAt fr 0 = 255) || decide (K (fAt fr 0) = i))
def dirTo (S : St) (p : Int) (fr : List Int) (k : Nat) : St := { S with L := fun i => if i < k ∧ isTo S.K p fr i = true then dirP (S.L i) fr else S.L i }
def learn (K : Int → Int) (a p : Int) : Int → Int := if 0 ≤ K a ∨ cnt K < 64 then fun x => if x = a then p else K x else K
/-- What stands ahead of the directing. -/
def takeS (S : St) (p : Int) (fr : List Int) : St := { onP S p (fun P => ((P.inc 0).set 9 (P.c 9 - fr.length)).inc 1) with K := learn S.K (fAt fr 1) p }
def sendE (S : St) (p : Int) (fr : List Int) : Int := if isP S p = false then 1 else if badF fr = true then 4 else if (S.L p.toNat).c 9 < fr.length then 71 else 0
def sendS (S : St) (p : Int) (fr : List Int) : St :=
  if isP S p = false then S else if badF fr = true then onP S p fun P => (P.inc 0).inc 2 else if (S.L p.toNat).c 9 < fr.length then onP S p fun P => (P.inc 0).inc 3 else dirTo (takeS S p fr) p fr S.n

def badS (S : St) (p : Int) : St := if isP S p then onP S p fun P => (P.inc 0).inc 2 else S
def isE (S : St) (p : Int) : Int := if isP S p then 0 else 1
def headE (S : St) (p : Int) : Int := if isP S p = false then 1 else if (S.L p.toNat).q = [] then 6 else 0
def headV (S : St) (p : Int) : List Int := if isP S p = false then [] else (S.L p.toNat).q.headD []
def doneP (P : Po) (on : Bool) : Po := (P.setq P.q.tail).inc (if on then 5 else 7)
def doneS (S : St) (p : Int) (on : Bool) : St := if headE S p = 0 then onP S p fun P => doneP P on else S
def knownE (S : St) (a : Int) : Int := if ¬ (0 ≤ a ∧ a ≤ 255) then 1 else if S.K a < 0 then 6 else 0
def knownV (S : St) (a : Int) : Int := if knownE S a = 0 then S.K a else 0
def forget (K : Int → Int) (p : Int) : Int → Int := fun x => if K x = p then -1 else K x
def dropAll (P : Po) : Po := (P.setq []).set 7 (P.c 7 + P.q.length)
def downS (S : St) (p : Int) : St := if isP S p then { onP S p dropAll with K := forget S.K p } else S
/-- A port's numbers as Counts tells them. -/
def count (P : Po) (j : Nat) : Int := if j = 6 then P.q.length else P.c j
def countV (S : St) (p : Int) (j : Nat) : Int := if isP S p then count (S.L p.toNat) j else 0

/-- A frame that may wait. -/
def FrOk (f : List Int) : Prop := 2 ≤ f.length ∧ f.length ≤ 128 ∧ ∀ y, y ∈ f → 0 ≤ y ∧ y ≤ 255

structure Ok (S : St) (M : Int) : Prop where
  n1 : 1 ≤ S.n
  n8 : S.n ≤ 8
  lo : ∀ i j, i < S.n → 0 ≤ (S.L i).c j
  hi : ∀ i j, i < S.n → (S.L i).c j ≤ M
  cr : ∀ i j, i < S.n → 9 ≤ j → (S.L i).c j ≤ 65536
  q4 : ∀ i, i < S.n → (S.L i).q.length ≤ 4
  fr : ∀ i, i < S.n → ∀ f, f ∈ (S.L i).q → FrOk f
  kr : ∀ a, -1 ≤ S.K a ∧ S.K a < S.n
  k255 : ∀ a, 0 ≤ S.K a → 0 ≤ a ∧ a < 255

theorem isP_iff {S : St} {p : Int} : isP S p = true ↔ 0 ≤ p ∧ p < S.n := by simp [isP]
theorem isP_nat {S : St} {k : Nat} : isP S (k : Int) = true ↔ k < S.n := by simp [isP]

theorem ok_new {n : Nat} (h1 : 1 ≤ n) (h8 : n ≤ 8) : Ok (newS n) 0 :=
  ⟨h1, h8, fun _ _ _ => Int.le_refl _, fun _ _ _ => Int.le_refl _, fun _ _ _ _ => by simp [newS], fun _ _ => by simp [newS], fun _ _ f hf => by simp [newS] at hf, fun a => by simp [newS]; omega, fun a h => by simp [newS] at h⟩

theorem Ok.mono {S : St} {M M' : Int} (h : Ok S M) (hM : M ≤ M') : Ok S M' := ⟨h.n1, h.n8, h.lo, fun i j hi => Int.le_trans (h.hi i j hi) hM, h.cr, h.q4, h.fr, h.kr, h.k255⟩

/-- One port is turned. -/
theorem Ok.onPort {S : St} {M : Int} (h : Ok S M) (p : Int) (f : Po → Po) (M' : Int) (hM : M ≤ M')
    (hf : ∀ P : Po, (∀ j, 0 ≤ P.c j) → (∀ j, P.c j ≤ M) → (∀ j, 9 ≤ j → P.c j ≤ 65536) → P.q.length ≤ 4 → (∀ g, g ∈ P.q → FrOk g) →
      (∀ j, 0 ≤ (f P).c j) ∧ (∀ j, (f P).c j ≤ M') ∧ (∀ j, 9 ≤ j → (f P).c j ≤ 65536) ∧ (f P).q.length ≤ 4 ∧ (∀ g, g ∈ (f P).q → FrOk g)) : Ok (onP S p f) M' := by
  have hL : ∀ i, i < S.n → (∀ j, 0 ≤ ((onP S p f).L i).c j) ∧ (∀ j, ((onP S p f).L i).c j ≤ M') ∧ (∀ j, 9 ≤ j → ((onP S p f).L i).c j ≤ 65536) ∧ ((onP S p f).L i).q.length ≤ 4 ∧ (∀ g, g ∈ ((onP S p f).L i).q → FrOk g) := by
    intro i hi
    simp only [onP, upd]
    by_cases hp : i = p.toNat
    · subst hp
      rw [if_pos rfl]
      exact hf _ (fun j => h.lo _ j hi) (fun j => h.hi _ j hi) (fun j => h.cr _ j hi) (h.q4 _ hi) (h.fr _ hi)
    · rw [if_neg hp]
      exact ⟨fun j => h.lo _ j hi, fun j => Int.le_trans (h.hi _ j hi) hM, fun j => h.cr _ j hi, h.q4 _ hi, h.fr _ hi⟩
  exact ⟨h.n1, h.n8, fun i j hi => (hL i hi).1 j, fun i j hi => (hL i hi).2.1 j, fun i j hi hj => (hL i hi).2.2.1 j hj, fun i hi => (hL i hi).2.2.2.1, fun i hi => (hL i hi).2.2.2.2, h.kr, h.k255⟩

theorem onP_onP (S : St) (p : Int) (f g : Po → Po) : onP (onP S p f) p g = onP S p fun P => g (f P) := by
  simp only [onP]
  congr 1
  funext k
  simp only [upd]
  split <;> simp
theorem onP_congr {S : St} {k : Nat} {f g : Po → Po} (h : f (S.L k) = g (S.L k)) : onP S (k : Int) f = onP S (k : Int) g := by
  simp only [onP, Int.toNat_natCast]
  rw [h]
theorem onP_L (S : St) (k : Nat) (f : Po → Po) : (onP S (k : Int) f).L k = f (S.L k) := by simp [onP, upd]
theorem set_c (P : Po) (j k : Nat) (x : Int) : (P.set j x).c k = if k = j then x else P.c k := rfl
theorem inc_c (P : Po) (j k : Nat) : (P.inc j).c k = if k = j then P.c j + 1 else P.c k := rfl
theorem set_q (P : Po) (j : Nat) (x : Int) : (P.set j x).q = P.q := rfl
theorem inc_q (P : Po) (j : Nat) : (P.inc j).q = P.q := rfl
theorem setq_c (P : Po) (q : List (List Int)) (k : Nat) : (P.setq q).c k = P.c k := rfl
theorem setq_q (P : Po) (q : List (List Int)) : (P.setq q).q = q := rfl
theorem tickTo_zero (S : St) : tickTo S 0 = S := by simp [tickTo]
theorem tickTo_at (S : St) (k : Nat) : (tickTo S k).L k = S.L k := by simp [tickTo]
theorem tickTo_succ (S : St) (k : Nat) : tickTo S (k + 1) = onP (tickTo S k) k tickP := by
  simp only [tickTo, onP]
  congr 1
  funext i
  simp only [upd, Int.toNat_natCast]
  by_cases h : i = k
  · subst h; simp
  · rw [if_neg h]
    by_cases h2 : i < k
    · rw [if_pos h2, if_pos (by omega)]
    · rw [if_neg h2, if_neg (by omega)]
theorem cntTo_upd (K : Int → Int) {y v : Int} (hv : 0 ≤ v) (h0 : 0 ≤ y) : ∀ k : Nat, cntTo (fun x => if x = y then v else K x) k = if y < k ∧ K y < 0 then cntTo K k + 1 else cntTo K k
  | 0 => by simp [cntTo]; omega
  | k + 1 => by
    simp only [cntTo, cntTo_upd K hv h0 k]
    by_cases hk : (k : Int) = y
    · subst hk
      simp only [if_true, hv]
      by_cases hK : K (k : Int) < 0
      · have h1 : ¬ (0 ≤ K (k : Int)) := by omega
        simp [hK, h1]
        omega
      · have h1 : 0 ≤ K (k : Int) := by omega
        simp [hK, h1]
    · simp only [if_neg hk]
      by_cases hlt : y < k
      · have h2 : y < ((k + 1 : Nat) : Int) := by omega
        by_cases hK : K y < 0
        · simp only [hlt, hK, h2, and_self, if_true]; omega
        · simp only [hK, and_false, if_false]
      · have h2 : ¬ y < ((k + 1 : Nat) : Int) := by omega
        simp only [hlt, h2, false_and, if_false]
theorem cnt_upd (K : Int → Int) {y v : Int} (hv : 0 ≤ v) (h0 : 0 ≤ y) (h1 : y < 256) : cnt (fun x => if x = y then v else K x) = if K y < 0 then cnt K + 1 else cnt K := by
  unfold cnt
  rw [cntTo_upd K hv h0]
  by_cases hK : K y < 0
  · rw [if_pos ⟨by omega, hK⟩, if_pos hK]
  · rw [if_neg (by omega), if_neg hK]
theorem learn_yes {K : Int → Int} {a p : Int} (h : 0 ≤ K a ∨ cnt K < 64) : learn K a p = fun x => if x = a then p else K x := by unfold learn; exact if_pos h
theorem learn_no {K : Int → Int} {a p : Int} (h : ¬ (0 ≤ K a ∨ cnt K < 64)) : learn K a p = K := by unfold learn; exact if_neg h
theorem dirTo_zero (S : St) (p : Int) (fr : List Int) : dirTo S p fr 0 = S := by simp [dirTo]
theorem dirTo_at (S : St) (p : Int) (fr : List Int) (k : Nat) : (dirTo S p fr k).L k = S.L k := by simp [dirTo]
theorem dirTo_skip {S : St} {p : Int} {fr : List Int} {k : Nat} (h : isTo S.K p fr k = false) : dirTo S p fr (k + 1) = dirTo S p fr k := by
  simp only [dirTo]
  congr 1
  funext i
  by_cases hi : i = k
  · subst hi; simp [h]
  · by_cases h2 : i < k
    · simp [h2, show i < k + 1 by omega]
    · simp [h2, show ¬ i < k + 1 by omega]
theorem dirTo_go {S : St} {p : Int} {fr : List Int} {k : Nat} (h : isTo S.K p fr k = true) : dirTo S p fr (k + 1) = onP (dirTo S p fr k) k fun P => dirP P fr := by
  simp only [dirTo, onP]
  congr 1
  funext i
  simp only [upd, Int.toNat_natCast]
  by_cases hi : i = k
  · subst hi; simp [h]
  · rw [if_neg hi]
    by_cases h2 : i < k
    · simp [h2, show i < k + 1 by omega]
    · simp [h2, show ¬ i < k + 1 by omega]
theorem upd_same {α : Type} (L : Nat → α) (i : Nat) : upd L i (L i) = L := by
  funext k; unfold upd; split
  · rename_i h; rw [h]
  · rfl
theorem upd_upd {α : Type} (L : Nat → α) (i : Nat) (P Q : α) : upd (upd L i P) i Q = upd L i Q := by
  funext k; unfold upd; split <;> rfl
theorem upd_at {α : Type} (L : Nat → α) (i : Nat) (P : α) : upd L i P i = P := by simp [upd]
theorem upd_ne {α : Type} (L : Nat → α) {i k : Nat} (P : α) (h : k ≠ i) : upd L i P k = L k := by simp [upd, h]

end Go.Tn.P14
