/-
  Commit: trees in plain Lean: setting, adding, what is missing.
-/
import Derived.Test.YtlhjocgkmeoheaaDoorUp
import Derived.Test.YtlhjocgkmeoheaaDoorTr
namespace Go.Proofs.YtlhjocgkmeoheaaDoor
open Go.RowKit Go.Tn Go.MapKept
open Go.Proofs

def nms (A : Tree) : List ByteArray := A.map (·.1)
theorem LK_none {A : Tree} {n : ByteArray} : LK A n = none ↔ n ∉ nms A := by
  have := LK_some (A := A) (n := n)
  unfold nms
  rw [← this]
  cases LK A n <;> simp
def setA (A : Tree) (n : ByteArray) (o : Option Int) : Tree := A.map fun p => if p.1 = n then (n, o) else p
theorem nms_setA (A : Tree) (n : ByteArray) (o : Option Int) : nms (setA A n o) = nms A := by
  unfold nms setA
  rw [List.map_map]
  refine List.map_congr_left fun p _ => ?_
  simp only [Function.comp]
  split
  · rename_i h; exact h.symm
  · rfl
theorem LK_setA {A : Tree} {n : ByteArray} (o : Option Int) (h : n ∈ nms A) (m : ByteArray) : LK (setA A n o) m = if m = n then some o else LK A m := by
  induction A with
  | nil => simp [nms] at h
  | cons p A ih =>
    have hc : ∀ (q : ByteArray × Option Int) (B : Tree), LK (q :: B) m = if q.1 = m then some q.2 else LK B m := fun q B => by
      unfold LK
      rw [List.find?_cons]
      by_cases hq : q.1 = m
      · simp [hq]
      · have : (q.1 == m) = false := by simpa using hq
        rw [this]; simp [hq]
    show LK ((if p.1 = n then (n, o) else p) :: setA A n o) m = _
    rw [hc, hc]
    by_cases hp : p.1 = n
    · rw [if_pos hp]
      by_cases hm : m = n
      · rw [if_pos hm.symm, if_pos hm]
      · rw [if_neg (fun e => hm e.symm), if_neg hm, if_neg (by rw [hp]; exact fun e => hm e.symm)]
        by_cases hn : n ∈ nms A
        · rw [ih hn, if_neg hm]
        · have : setA A n o = A := by
            unfold setA
            conv => rhs; rw [← List.map_id A]
            refine List.map_congr_left fun q hq => ?_
            rw [if_neg]
            · rfl
            · intro e
              exact hn (List.mem_map.2 ⟨q, hq, e⟩)
          rw [this]
    · rw [if_neg hp]
      have hn : n ∈ nms A := by
        simp [nms] at h ⊢
        rcases h with h | h
        · exact absurd h.symm hp
        · exact h
      rw [ih hn]
      by_cases hm : m = n
      · rw [if_pos hm, if_neg (by rw [hm]; exact hp), if_pos hm]
      · rw [if_neg hm, if_neg hm]
theorem LK_snoc {A : Tree} {n : ByteArray} (o : Option Int) (h : n ∉ nms A) (m : ByteArray) : LK (A ++ [(n, o)]) m = if m = n then some o else LK A m := by
  unfold LK
  rw [List.find?_append]
  by_cases hm : m = n
  · subst hm
    have : A.find? (fun p => p.1 == m) = none := by
      rw [List.find?_eq_none]
      intro p hp
      simp only [beq_iff_eq]
      intro e
      exact h (List.mem_map.2 ⟨p, hp, e⟩)
    rw [this]
    simp
  · rw [if_neg hm]
    have hb : (n == m) = false := by simpa using fun e => hm e.symm
    cases A.find? (fun p => p.1 == m) <;> simp [hb]

section
variable {w : World} {u : Nat} {A : Tree}
theorem TH.put_set (h : TH w u A) {n : ByteArray} {v : Value} {o : Option Int} (hv : Node w v o) (hn : n ∈ nms A) : TH (sput w u n v) u (setA A n o) := by
  have hm := sput_mod w u n v
  have hc : Cold [u] w := (Cold.nil w).cons (by obtain ⟨es, c, hb, _⟩ := h.is.smap; exact cold_map hb)
  refine ⟨h.is.sput_same _ _, by have := nms_setA A n o; unfold nms at this; rw [this]; exact h.nd, fun m hl => ?_, fun m o' hl => ?_⟩
  · rw [LK_setA o hn] at hl
    by_cases hmn : m = n
    · rw [if_pos hmn] at hl; cases hl
    · rw [if_neg hmn] at hl
      rw [sget_sput_same h.is, if_neg hmn]
      exact h.no m hl
  · rw [LK_setA o hn] at hl
    by_cases hmn : m = n
    · rw [if_pos hmn] at hl
      injection hl with hl
      subst hl
      exact ⟨v, by rw [sget_sput_same h.is, if_pos hmn], hv.mod hm hc⟩
    · rw [if_neg hmn] at hl
      obtain ⟨v', hv', hN⟩ := h.yes m o' hl
      exact ⟨v', by rw [sget_sput_same h.is, if_neg hmn]; exact hv', hN.mod hm hc⟩
theorem TH.put_new (h : TH w u A) {n : ByteArray} {v : Value} {o : Option Int} (hv : Node w v o) (hn : n ∉ nms A) : TH (sput w u n v) u (A ++ [(n, o)]) := by
  have hm := sput_mod w u n v
  have hc : Cold [u] w := (Cold.nil w).cons (by obtain ⟨es, c, hb, _⟩ := h.is.smap; exact cold_map hb)
  refine ⟨h.is.sput_same _ _, ?_, fun m hl => ?_, fun m o' hl => ?_⟩
  · rw [List.map_append]
    rw [List.nodup_append]
    refine ⟨h.nd, by simp, ?_⟩
    intro a ha b hb
    simp at hb
    subst hb
    intro e
    subst e
    exact hn ha
  · rw [LK_snoc o hn] at hl
    by_cases hmn : m = n
    · rw [if_pos hmn] at hl; cases hl
    · rw [if_neg hmn] at hl
      rw [sget_sput_same h.is, if_neg hmn]
      exact h.no m hl
  · rw [LK_snoc o hn] at hl
    by_cases hmn : m = n
    · rw [if_pos hmn] at hl
      injection hl with hl
      subst hl
      exact ⟨v, by rw [sget_sput_same h.is, if_pos hmn], hv.mod hm hc⟩
    · rw [if_neg hmn] at hl
      obtain ⟨v', hv', hN⟩ := h.yes m o' hl
      exact ⟨v', by rw [sget_sput_same h.is, if_neg hmn]; exact hv', hN.mod hm hc⟩
end

/-- The names that are missing, from n upward. -/
def miss (A : Tree) : Nat → ByteArray → List ByteArray
  | 0, _ => []
  | f + 1, n => if n ∈ nms A then [] else n :: miss A f (upB n)
def missing (A : Tree) (n : ByteArray) : List ByteArray := miss A (n.size + 1) n
def wOk (A : Tree) (n : ByteArray) : Prop := n ∈ nms A ∨ A.length + (missing A n).length ≤ 256
instance (A : Tree) (n : ByteArray) : Decidable (wOk A n) := by unfold wOk; infer_instance
def addA (A : Tree) (n : ByteArray) (o : Option Int) (l : List ByteArray) : Tree := A ++ l.map fun m => (m, if m = n then o else none)
/-- What a write leaves of a tree. -/
def wA (A : Tree) (n : ByteArray) (o : Option Int) : Tree := if n ∈ nms A then setA A n o else addA A n o (missing A n).reverse

def rootB : ByteArray := ⟨#[47]⟩
/-- A good tree. -/
structure GT (A : Tree) : Prop where
  root : rootB ∈ nms A
  val : ∀ n ∈ nms A, Val n.data.toList
  len : A.length ≤ 256

/-- Each is the path above the one ahead of it. -/
inductive Chain : ByteArray → List ByteArray → ByteArray → Prop
  | nil (n : ByteArray) : Chain n [] n
  | cons {n t : ByteArray} {l : List ByteArray} : Chain (upB n) l t → Chain n (n :: l) t

theorem Val.ne_root {A : Tree} (h : GT A) {n : ByteArray} (hn : n ∉ nms A) : n ≠ ⟨#[47]⟩ := fun e => hn (by rw [e]; exact h.root)
theorem val_size {n : ByteArray} (h : Val n.data.toList) : 1 ≤ n.size := by
  obtain ⟨r, hr⟩ := h.head
  have := congrArg List.length hr
  simp at this
  omega

/-- The loop that looks for what is missing: where it stands. -/
structure Look (A : Tree) (name : ByteArray) (pre : List ByteArray) (top : ByteArray) : Prop where
  val : Val top.data.toList
  size : pre.length + top.size ≤ name.size
  rest : ∃ f, top.size + 1 ≤ f ∧ pre ++ miss A f top = missing A name
  no : ∀ m ∈ pre, m ∉ nms A ∧ Val m.data.toList ∧ top.size < m.size
  nd : pre.Nodup
  chain : ∀ i, i < pre.length → upB (pre.getD i ByteArray.empty) = if i + 1 < pre.length then pre.getD (i + 1) ByteArray.empty else top
  head : name = if 0 < pre.length then pre.getD 0 ByteArray.empty else top

theorem Look.start {A : Tree} {name : ByteArray} (h : Val name.data.toList) : Look A name [] name :=
  ⟨h, by simp, ⟨name.size + 1, Nat.le_refl _, rfl⟩, by simp, by simp, by simp, by simp⟩
theorem Look.step {A : Tree} {name top : ByteArray} {pre : List ByteArray} (G : GT A) (h : Look A name pre top) (hn : top ∉ nms A) : Look A name (pre ++ [top]) (upB top) := by
  obtain ⟨h1, h2, ⟨f, h3, h4⟩, h5, h6, h7, h8⟩ := h
  obtain ⟨hv, hs⟩ := upB_val h1 (Val.ne_root G hn)
  refine ⟨hv, by simp; omega, ⟨f - 1, by omega, ?_⟩, ?_, ?_, ?_, ?_⟩
  · obtain ⟨f', rfl⟩ : ∃ f', f = f' + 1 := ⟨f - 1, by omega⟩
    rw [← h4]
    conv => rhs; unfold miss
    rw [if_neg hn]
    simp
  · intro m hm
    rcases List.mem_append.1 hm with hm | hm
    · obtain ⟨a, b, c⟩ := h5 m hm
      exact ⟨a, b, by omega⟩
    · simp at hm
      subst hm
      exact ⟨hn, h1, hs⟩
  · rw [List.nodup_append]
    refine ⟨h6, by simp, ?_⟩
    intro a ha b hb e
    simp at hb
    subst hb
    subst e
    have := (h5 _ ha).2.2
    omega
  · intro i hi
    simp at hi
    by_cases hlt : i < pre.length
    · have hg : (pre ++ [top]).getD i ByteArray.empty = pre.getD i ByteArray.empty := by
        simp [List.getD_eq_getElem?_getD, List.getElem?_append_left hlt]
      rw [hg, h7 i hlt]
      by_cases hl2 : i + 1 < pre.length
      · rw [if_pos hl2, if_pos (by simp; omega)]
        simp [List.getD_eq_getElem?_getD, List.getElem?_append_left hl2]
      · rw [if_neg hl2, if_pos (by simp; omega)]
        have : i + 1 = pre.length := by omega
        simp [List.getD_eq_getElem?_getD, this]
    · have : i = pre.length := by omega
      subst this
      rw [if_neg (by simp)]
      simp [List.getD_eq_getElem?_getD]
  · rw [if_pos (by simp)]
    by_cases hl : 0 < pre.length
    · rw [h8, if_pos hl]
      simp only [List.getD_eq_getElem?_getD]
      rw [List.getElem?_append_left hl]
    · have : pre = [] := List.eq_nil_of_length_eq_zero (by omega)
      subst this
      rw [h8]
      simp
theorem Look.done {A : Tree} {name top : ByteArray} {pre : List ByteArray} (h : Look A name pre top) (hn : top ∈ nms A) : pre = missing A name := by
  obtain ⟨f, h3, h4⟩ := h.rest
  obtain ⟨f', rfl⟩ : ∃ f', f = f' + 1 := ⟨f - 1, by omega⟩
  rw [← h4]
  unfold miss
  rw [if_pos hn]
  simp
end Go.Proofs.YtlhjocgkmeoheaaDoor
