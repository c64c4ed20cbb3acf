/-
  Rows of one-cell elements that a slice with any offset reads, and append of one element onto them; over any program. Plain lemmas of this claim; no Go function is named here.
-/
import Derived.ArgAppend
import Derived.Deep.AppendLies
import Derived.Test.YtfolppcadckmaaaGreatBase
namespace Go.Tn
open Go.RowKit

/-- The slice at A with capacity cap holds xs, in a block of its own kind e. -/
def QRow (w : World) (e : TypeId) (A : Option Addr) (cap : Nat) (xs : List Value) : Prop :=
  xs.length ≤ cap ∧ cap ≤ maxLen ∧ ((A = none ∧ cap = 0) ∨
    ∃ g off cur, A = some ⟨g, off, none⟩ ∧ w.heap[g]? = some (.cells cur e (0, 0)) ∧ off + cap ≤ cur.size ∧ ∀ (i : Nat) (x : Value), xs[i]? = some x → cur[off + i]? = some x)

def blkOf (A : Option Addr) : List Nat := match A with | some a => [a.block] | none => []

section
variable {w w' : World} {e : TypeId} {A : Option Addr} {cap : Nat} {xs : List Value}

theorem QRow.nil (w : World) (e : TypeId) : QRow w e none 0 [] := ⟨by simp, by simp [maxLen], .inl ⟨rfl, rfl⟩⟩

theorem QRow.of_heap (h : QRow w e A cap xs) (hh : ∀ b, b ∈ blkOf A → w'.heap[b]? = w.heap[b]?) : QRow w' e A cap xs := by
  refine ⟨h.1, h.2.1, ?_⟩
  rcases h.2.2 with h0 | ⟨g, off, cur, rfl, hg, r⟩
  · exact .inl h0
  · exact .inr ⟨g, off, cur, rfl, (hh g (by simp [blkOf])).trans hg, r⟩

theorem QRow.lt (h : QRow w e A cap xs) {b : Nat} (hb : b ∈ blkOf A) : b < w.heap.size := by
  rcases h.2.2 with ⟨rfl, _⟩ | ⟨g, off, cur, rfl, hg, r⟩
  · simp [blkOf] at hb
  · simp [blkOf] at hb; subst hb; exact (Array.getElem?_eq_some_iff.1 hg).1

theorem QRow.mod {S : List Nat} (h : QRow w e A cap xs) (hm : Mod S w w') (hS : ∀ b, b ∈ blkOf A → b ∉ S) : QRow w' e A cap xs :=
  h.of_heap fun b hb => hm.block b (h.lt hb) (hS b hb)

theorem QRow.addr (h : QRow w e A cap xs) (hn : 0 < xs.length) : ∃ g off, A = some ⟨g, off, none⟩ := by
  rcases h.2.2 with ⟨_, h0⟩ | ⟨g, off, cur, rfl, _⟩
  · have := h.1; omega
  · exact ⟨g, off, rfl⟩

theorem QRow.cell {g off : Nat} (h : QRow w e (some ⟨g, off, none⟩) cap xs) {i : Nat} {x : Value} (hx : xs[i]? = some x) : w.cell? ⟨g, off + i, none⟩ = some x := by
  rcases h.2.2 with ⟨h0, _⟩ | ⟨g', off', cur, hA, hg, _, hr⟩
  · cases h0
  · injection hA with hA
    injection hA with h1 h2
    subst h1 h2
    rw [cell_of_row w g (off + i) cur e (0, 0) hg]
    exact hr i x hx

theorem QRow.ne_blk {g : Nat} {t : TypeId} {cs : Array Value} (h : QRow w e A cap xs) (hb : Blk w g t cs) (hne : t ≠ e) : g ∉ blkOf A := by
  intro hm
  rcases h.2.2 with ⟨rfl, _⟩ | ⟨g', off, cur, rfl, hg, _⟩
  · simp [blkOf] at hm
  · simp [blkOf] at hm
    subst hm
    exact Blk.ne_ hb hg hne rfl

theorem QRow.of_own {base n : Nat} (h : w.ownsRow base e 1 (.slice A n cap) n xs) : QRow w e A cap xs := by
  obtain ⟨hl, h⟩ := h
  rcases h with ⟨hv, rfl⟩ | ⟨g, cap', cur, hv, _, hg, hn, hm, hs, ht⟩
  · injection hv with h1 h2 h3
    subst h1 h3
    have : xs = [] := List.eq_nil_of_length_eq_zero (by simpa using hl)
    subst this
    exact QRow.nil w e
  · injection hv with h1 h2 h3
    subst h1 h3
    refine ⟨by omega, hm, .inr ⟨g, 0, cur, rfl, hg, by omega, fun i x hx => ?_⟩⟩
    rw [← ht] at hx
    rw [Nat.zero_add, ← Array.getElem?_toList]
    rw [List.getElem?_take] at hx
    split at hx
    · exact hx
    · cases hx

/-- The slice's tail. -/
theorem QRow.tail {g off : Nat} {x : Value} (h : QRow w e (some ⟨g, off, none⟩) cap (x :: xs)) : QRow w e (some ⟨g, off + 1, none⟩) (cap - 1) xs := by
  have h1 := h.1
  simp only [List.length_cons] at h1
  have h2 := h.2.1
  refine ⟨by omega, by omega, ?_⟩
  rcases h.2.2 with ⟨h0, _⟩ | ⟨g', off', cur, hA, hg, hs, hr⟩
  · cases h0
  · injection hA with hA
    injection hA with h1 h2
    subst h1 h2
    refine .inr ⟨g, off + 1, cur, rfl, hg, by omega, fun i y hy => ?_⟩
    rw [show off + 1 + i = off + (i + 1) by omega]
    exact hr (i + 1) y (by simpa using hy)

end

/-- append of one element. -/
theorem run_append_q {P : Program} {w : World} {t ty e : TypeId} {i : TypeInfo} {z : Value} {bytes : Nat} (ht : P.underlying t = some (.slice e)) (hi : P.info? e = some i) (hz : i.zero = some z)
    (hsize : i.size = 1) (hby : i.bytes = bytes) (hzs : z.cells.size = 1) {A : Option Addr} {cap : Nat} {xs : List Value} (h : QRow w e A cap xs)
    {ad : Addr} {c : Nat} {u : Value} (hu : w.cell? ad = some u) (h1 : u.oneCell' = true) (h63 : xs.length + 1 ≤ maxLen) (hbytes : (xs.length + 1) * bytes ≤ 140737488355328) :
    ∃ g off cap' w', (Builtin.append_ #[t, t] ty #[.slice A xs.length cap, .slice (some ad) 1 c]).run P w = .ok (.slice (some ⟨g, off, none⟩) (xs.length + 1) cap') w' ∧
      QRow w' e (some ⟨g, off, none⟩) cap' (xs ++ [u]) ∧ Mod (blkOf A) w w' ∧ (g ∈ blkOf A ∨ w.heap.size ≤ g) ∧ g < w'.heap.size := by
  have hu' : ∀ j v, [u][j]? = some v → w.cell? (ad.add j) = some v := by
    intro j v hv
    cases j with
    | zero =>
      simp at hv
      subst hv
      rw [show ad.add 0 = ad by obtain ⟨b, o, sp⟩ := ad; cases sp <;> simp [Addr.add]]
      exact hu
    | succ j => simp at hv
  obtain ⟨hle, hcm, hA⟩ := h
  rcases hA with ⟨rfl, rfl⟩ | ⟨g, off, cur, rfl, hg, hs, hr⟩
  · have : xs = [] := List.eq_nil_of_length_eq_zero (by omega)
    subst this
    obtain ⟨g, cap', w', hrun, hown, hgr, hat, hlt⟩ := run_append_lies (P := P) w t ty 0 e i z 1 bytes ht hi hz hsize hby hzs (by decide) (.slice none 0 0) 0 [] (World.ownsRow_nil w 0 e 1) ad 1 c [u] rfl hu' (by simpa using h1) (by decide) (by simpa using h63) (by simpa using hbytes) (Nat.zero_le _) w.heap.size rfl
    refine ⟨g, 0, cap', w', by simpa using hrun, by simpa using QRow.of_own hown, (Mod.refl _ _).grown hgr (by simp [Value.ownBlock]), ?_, hlt⟩
    rcases hat with h | h
    · simp [Value.ownBlock] at h
    · exact .inr (by omega)
  · by_cases hroom : xs.length + 1 ≤ cap
    · have hoff : off + xs.length < cur.size := by omega
      have hc1 : w.cell? ⟨g, off + xs.length, none⟩ = some cur[off + xs.length] := by
        rw [cell_of_row w g (off + xs.length) cur e (0, 0) hg]
        exact Array.getElem?_eq_getElem hoff
      have hf1 : w.frozen? ⟨g, off + xs.length, none⟩ = false := by simp [World.frozen?, hg]
      have hrun := run_append_room_cells (P := P) w t ty e i ht hi g off xs.length cap ad 1 c [u] (by rw [hsize]; rfl) hu' (by simpa using h1) hroom
        (fun j hj => by have : j = 0 := by simpa using hj
                        subst this; rw [hsize]; simp [hc1]) (fun j hj => by have : j = 0 := by simpa using hj
                                                                            subst this; rw [hsize]; simpa using hf1)
      rw [hsize] at hrun
      have hsc : w.setCells g (off + xs.length * 1) [u] = w.setCell ⟨g, off + xs.length, none⟩ u := by simp [World.setCells]
      rw [hsc] at hrun
      have hh : (w.setCell ⟨g, off + xs.length, none⟩ u).heap[g]? = some (.cells (cur.setIfInBounds (off + xs.length) u) e (0, 0)) := by
        simp [World.setCell, Array.getElem?_modify, hg]
      refine ⟨g, off, cap, _, hrun, ⟨by simpa using hroom, hcm, .inr ⟨g, off, _, rfl, hh, by simpa using hs, fun k x hx => ?_⟩⟩, (Mod.refl _ _).setCell (.inl (by simp [blkOf])) u, .inl (by simp [blkOf]), by simp; exact (Array.getElem?_eq_some_iff.1 hg).1⟩
      rw [Array.getElem?_setIfInBounds]
      by_cases hk : k < xs.length
      · rw [if_neg (by omega)]
        rw [List.getElem?_append_left hk] at hx
        exact hr k x hx
      · have hkl := (List.getElem?_eq_some_iff.1 hx).1
        simp at hkl
        have : k = xs.length := by omega
        subst this
        simp at hx
        simp [hx, hoff]
    · obtain ⟨v', w', hrun, hown, hgr⟩ := run_append_arg_grows (P := P) w t ty e i z 1 bytes ht hi hz hsize hby hzs (by decide) ⟨g, off, none⟩ xs.length cap xs (by simp)
        (fun j v hv => by rw [Addr.add_lit, cell_of_row w g (off + j) cur e (0, 0) hg]; exact hr j v hv) ad 1 c [u] rfl hu' (by omega) h63 hbytes
      obtain ⟨g', cap', rfl, hb, hlt⟩ := hown.form (by omega)
      exact ⟨g', 0, cap', w', hrun, QRow.of_own hown, (Mod.refl _ _).grown hgr (by simp), .inr hb, hlt⟩

section
variable {P : Program} {w : World}
theorem wp_append_q {o : Oper} {a : Act} {K : Act → World → Prop} {Q : Exit → Act → World → Prop} (s x : Operand) (t : TypeId)
    (ho : o.op = .call { callee := .builtin .append, args := #[s, x], argTypes := #[t, t] }) {e : TypeId} {i : TypeInfo} {z : Value} {bytes : Nat} (ht : P.underlying t = some (.slice e)) (hi : P.info? e = some i) (hz : i.zero = some z)
    (hsize : i.size = 1) (hby : i.bytes = bytes) (hzs : z.cells.size = 1) {A : Option Addr} {n cap : Nat} {xs : List Value} (h : QRow w e A cap xs) (hn : n = xs.length) (hs : a.eval s = .slice A n cap)
    {ad : Addr} {c : Nat} {u : Value} (hx : a.eval x = .slice (some ad) 1 c) (hu : w.cell? ad = some u) (h1 : u.oneCell' = true) (h63 : xs.length + 1 ≤ maxLen) (hbytes : (xs.length + 1) * bytes ≤ 140737488355328)
    (hK : ∀ g off cap' w', QRow w' e (some ⟨g, off, none⟩) cap' (xs ++ [u]) → Mod (blkOf A) w w' → (g ∈ blkOf A ∨ w.heap.size ≤ g) → g < w'.heap.size → K (a.put o.dst (.slice (some ⟨g, off, none⟩) (n + 1) cap')) w') : o.wp P a w K Q := by
  subst hn
  obtain ⟨g, off, cap', w', hr, h2, h3, h4, h5⟩ := run_append_q (P := P) (ty := o.type) ht hi hz hsize hby hzs h (c := c) hu h1 h63 hbytes
  unfold Oper.wp execOp
  simp only [ho, resolve, invoke, builtin, Sem.run_bind, Sem.run_pure, Result.andThen_ok, List.map_toArray, List.map_cons, List.map_nil, hs, hx, hr]
  exact hK g off cap' w' h2 h3 h4 h5

theorem wpList_append_q {ops : Array Oper} {rest : List Oper} {o : Oper} {a : Act} {Q : Exit → Act → World → Prop} (hgd : o.guard = none) (s x : Operand) (t : TypeId)
    (ho : o.op = .call { callee := .builtin .append, args := #[s, x], argTypes := #[t, t] }) {e : TypeId} {i : TypeInfo} {z : Value} {bytes : Nat} (ht : P.underlying t = some (.slice e)) (hi : P.info? e = some i) (hz : i.zero = some z)
    (hsize : i.size = 1) (hby : i.bytes = bytes) (hzs : z.cells.size = 1) {A : Option Addr} {n cap : Nat} {xs : List Value} (h : QRow w e A cap xs) (hn : n = xs.length) (hs : a.eval s = .slice A n cap)
    {ad : Addr} {c : Nat} {u : Value} (hx : a.eval x = .slice (some ad) 1 c) (hu : w.cell? ad = some u) (h1 : u.oneCell' = true) (h63 : xs.length + 1 ≤ maxLen) (hbytes : (xs.length + 1) * bytes ≤ 140737488355328)
    (hK : ∀ g off cap' w', QRow w' e (some ⟨g, off, none⟩) cap' (xs ++ [u]) → Mod (blkOf A) w w' → (g ∈ blkOf A ∨ w.heap.size ≤ g) → g < w'.heap.size → wpList P ops Q rest (a.put o.dst (.slice (some ⟨g, off, none⟩) (n + 1) cap')) w') : wpList P ops Q (o :: rest) a w :=
  wpList_plain hgd fun _ hK' => wp_append_q s x t ho ht hi hz hsize hby hzs h hn hs hx hu h1 h63 hbytes fun g off cap' w' h2 h3 h4 h5 => hK' _ _ (hK g off cap' w' h2 h3 h4 h5)
end

end Go.Tn
