/-
  Commit: the path right above one.
-/
import Derived.Test.YtlhjocgkmeoheaaDoorPs
import Derived.LoopTactic
namespace Go.Proofs.YtlhjocgkmeoheaaDoor
open Go.RowKit Go.Tn
open Go.Proofs

theorem splitL_cons (b : UInt8) (r : List UInt8) : splitL (b :: r) = if b = 47 then [] :: splitL r else match splitL r with | p :: ps => (b :: p) :: ps | [] => [[b]] := rfl
theorem splitL_app : ∀ (a b : List UInt8), splitL (a ++ 47 :: b) = splitL a ++ splitL b
  | [], b => by simp [splitL]
  | x :: a, b => by
    rw [List.cons_append, splitL_cons, splitL_cons]
    by_cases hx : x = 47
    · rw [if_pos hx, if_pos hx, splitL_app a b]
      have := splitL_ne b
      cases hb : splitL b with
      | nil => exact absurd hb this
      | cons p ps => simp
    · rw [if_neg hx, if_neg hx, splitL_app a b]
      have := splitL_ne a
      cases ha : splitL a with
      | nil => exact absurd ha this
      | cons p ps => simp
theorem partsE_app : ∀ (xs ys : List (List UInt8)) (k : Nat), partsE (xs ++ ys) k = 0 → partsE xs k = 0
  | [], _, _, _ => rfl
  | p :: xs, ys, k, h => by
    rw [List.cons_append] at h
    unfold partsE at h ⊢
    by_cases hk : k = 8
    · rw [if_pos hk] at h; cases h
    · rw [if_neg hk] at h ⊢
      by_cases hn : nameE p 0 ≠ 0
      · rw [if_pos hn] at h; exact absurd h hn
      · rw [if_neg hn] at h ⊢
        exact partsE_app xs ys (k + 1) h
theorem hasP_cons (l : List UInt8) : Lib.hasPrefix (47 :: l) [47] = true := by simp [Lib.hasPrefix]
theorem hasP_head {l : List UInt8} (h : Lib.hasPrefix l [47] = true) : ∃ r, l = 47 :: r := by
  cases l with
  | nil => simp [Lib.hasPrefix] at h
  | cons b r =>
    simp [Lib.hasPrefix, List.isPrefixOf] at h
    exact ⟨r, by rw [h]⟩

/-- A valid path. -/
def Val (l : List UInt8) : Prop := parseE l = 0
theorem Val.len {l : List UInt8} (h : Val l) : l.length ≤ 256 := by
  unfold Val parseE at h
  by_cases h1 : 256 < l.length
  · rw [if_pos h1] at h; cases h
  · omega
theorem Val.head {l : List UInt8} (h : Val l) : ∃ r, l = 47 :: r := by
  unfold Val parseE at h
  by_cases h1 : 256 < l.length
  · rw [if_pos h1] at h; cases h
  · rw [if_neg h1] at h
    by_cases h2 : Lib.hasPrefix l [47] = false
    · rw [if_pos h2] at h; cases h
    · exact hasP_head (by simpa using h2)
theorem Val.parts {l : List UInt8} (h : Val l) (hn : l ≠ [47]) : partsE (splitL l.tail) 0 = 0 := by
  obtain ⟨r, rfl⟩ := h.head
  have hl := h.len
  unfold Val parseE at h
  rw [if_neg (by omega), if_neg (by rw [hasP_cons]; simp), if_neg hn] at h
  exact h
theorem Val.mk_ {r : List UInt8} (hl : (47 :: r).length ≤ 256) (hp : partsE (splitL r) 0 = 0) : Val (47 :: r) := by
  unfold Val parseE
  rw [if_neg (by omega), if_neg (by rw [hasP_cons]; simp)]
  split
  · rfl
  · exact hp
theorem Val.root : Val [47] := by unfold Val parseE; rfl

/-- The path above: l is cut at place i. -/
def upAt (l : List UInt8) (i : Nat) : List UInt8 := 47 :: Lib.trimPrefix (l.take i) [47]
theorem upAt_val {l : List UInt8} (h : Val l) (hn : l ≠ [47]) {i : Nat} (hi : i < l.length) (h47 : l[i]? = some 47) : Val (upAt l i) ∧ (upAt l i).length < l.length := by
  obtain ⟨r, rfl⟩ := h.head
  have hl := h.len
  have hp := h.parts hn
  cases i with
  | zero =>
    refine ⟨?_, ?_⟩
    · simp [upAt, Lib.trimPrefix, Lib.hasPrefix]; exact Val.root
    · cases r with
      | nil => exact absurd rfl hn
      | cons x r => simp [upAt, Lib.trimPrefix, Lib.hasPrefix]
  | succ j =>
    simp at hi h47
    have hr : r = r.take j ++ 47 :: r.drop (j + 1) := by
      have := List.take_append_drop j r
      rw [List.drop_eq_getElem_cons hi] at this
      rw [List.getElem?_eq_getElem hi] at h47
      injection h47 with h47
      rw [h47] at this
      exact this.symm
    have hu : upAt (47 :: r) (j + 1) = 47 :: r.take j := by
      simp [upAt, Lib.trimPrefix, Lib.hasPrefix]
    rw [hu]
    refine ⟨Val.mk_ ?_ ?_, ?_⟩
    · simp at hl ⊢; omega
    · simp only [List.tail_cons] at hp
      rw [hr, splitL_app] at hp
      exact partsE_app _ _ _ hp
    · simp; omega

def upB (n : ByteArray) : ByteArray := ba (upAt n.data.toList (Lib.lastIndexByte n 47).toNat)
theorem slash_at {n : ByteArray} (h : Val n.data.toList) : ∃ i : Nat, Lib.lastIndexByte n 47 = i ∧ i < n.size ∧ n.data.toList[i]? = some 47 := by
  rcases Lib.lastIndexByte_spec n 47 with ⟨_, hn⟩ | ⟨i, hi, he, hc, _⟩
  · obtain ⟨r, hr⟩ := h.head
    have hs : 0 < n.size := by
      have := congrArg List.length hr
      simp at this
      omega
    have := hn 0 hs
    have h0 : n.data[0]! = 47 := by
      have e : n.data.toList[0]? = some 47 := by rw [hr]; rfl
      rw [getElem!_def]
      rw [Array.getElem?_toList] at e
      rw [e]
    rw [h0] at this
    simp at this
  · refine ⟨i, he, hi, ?_⟩
    have hlt : i < n.data.size := hi
    rw [getElem!_def, Array.getElem?_eq_getElem hlt] at hc
    rw [Array.getElem?_toList, Array.getElem?_eq_getElem hlt]
    congr 1
    apply UInt8.toNat_inj.1
    have : ((n.data[i]).toNat : Int) = 47 := hc
    simp
    omega
theorem upB_val {n : ByteArray} (h : Val n.data.toList) (hn : n ≠ ⟨#[47]⟩) : Val (upB n).data.toList ∧ (upB n).size < n.size := by
  obtain ⟨i, he, hi, hc⟩ := slash_at h
  have hn' : n.data.toList ≠ [47] := fun hc => hn (by rw [← ba_toList n, hc]; rfl)
  have hu : (upB n).data.toList = upAt n.data.toList i := by unfold upB; rw [toList_ba, he]; rfl
  have := upAt_val h hn' (i := i) (by simpa using hi) hc
  rw [hu]
  refine ⟨this.1, ?_⟩
  have h2 := this.2
  rw [← hu] at h2
  simpa using h2

theorem up_f (n : ByteArray) (h : Val n.data.toList) (w : World) : Calls Tryd.prog 23 #[.string n] w fun e w' => e = .returned (.string (upB n)) ∧ w = w' := by
  obtain ⟨i, he, hi, hc⟩ := slash_at h
  have hlen := h.len
  have hsz : n.size ≤ 256 := by simpa using hlen
  obtain ⟨X, hX⟩ : ∃ X : ByteArray, X = ⟨(Lib.trimPrefix (n.extract 0 i).data.toList [47]).toArray⟩ := ⟨_, rfl⟩
  have hXs : X.size ≤ 256 := by
    have h1 : X.size = (Lib.trimPrefix (n.extract 0 i).data.toList [47]).length := by rw [hX, Lib.size_eq]
    rw [h1]
    unfold Lib.trimPrefix
    split
    · simp; omega
    · simp; omega
  have hXI : (X.size : Int) ≤ 256 := by omega
  have hU := hid (show (⟨#[47]⟩ : ByteArray) ++ X = upB n by
    rw [hX]
    unfold upB upAt ba
    rw [he]
    apply ByteArray.ext
    apply Array.ext'
    simp)
  have hiI : (i : Int) ≤ n.size := by omega
  have HT := hid (show ∀ W, Calls Tryd.prog 34 #[.string (n.extract 0 i), .string ⟨#[47]⟩] W fun e W' => e = .returned (.string X) ∧ W = W' from fun W => (Tryd.strings_TrimPrefix (n.extract 0 i) ⟨#[47]⟩ W).mono (by rintro e w' ⟨rfl, rfl⟩; exact ⟨by rw [hX], rfl⟩))
  clear h hc hlen hX
  go_enter Tryd.func23, Tryd.ntmps23
  go_wp2_with (first
    | (go_at_call 35; refine (Tryd.strings_LastIndexByte n 47 (by omega) _).mono ?_; rintro e w' ⟨rfl, rfl⟩; rw [he])
    | (go_at_call 34; refine (HT.out _).mono ?_; rintro e w' ⟨rfl, rfl⟩))
  go_ret
  exact ⟨by rw [← hU.out]; rfl, rfl⟩
end Go.Proofs.YtlhjocgkmeoheaaDoor
