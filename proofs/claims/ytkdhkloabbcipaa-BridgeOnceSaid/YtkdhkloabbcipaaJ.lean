/-
  Layer 14, the reference's switch in the heap; its small functions.
-/
import Derived.Test.YtkdhkloabbcipaaI
namespace Go.Proofs.Ytkdhkloabbcipaa
open Go.RowKit Go.Tn Go.Tn.P14

/-- Which number stands in a cell of the reference's record (cell 3 is its queue). -/
def rr (k : Nat) : Nat := if k < 3 then k + 9 else k - 4
theorem rr_inj {k k' : Nat} (h : k ≠ 3) (h' : k' ≠ 3) (e : rr k' = rr k) : k < 13 → k' < 13 → k' = k := by
  unfold rr at e
  intro _ _
  split at e <;> split at e <;> omega
def adrV (K : Int → Int) : List Value := (List.range 256).map fun (i : Nat) => .int .i64 (K i)
theorem adrV_len (K : Int → Int) : (adrV K).length = 256 := by simp [adrV]
theorem adrV_get (K : Int → Int) {i : Nat} (h : i < 256) : (adrV K)[i]? = some (.int .i64 (K i)) := by simp [adrV, h]

structure RC (w : World) (q rp : Nat) (A : Option Addr) (ac : Nat) (FP : List Nat) (C : Nat → Option Addr × Nat) (S : St) : Prop where
  hd : Blk w q 80 #[.slice (some ⟨rp, 0, none⟩) S.n S.n, .slice A 256 ac]
  rows : PRows w 88 3 rr rp FP C S.n S.L
  adr : QRow w 3 A ac (adrV S.K)
  qF : q ∈ FP
  aF : ∀ b, b ∈ blkOf A → b ∈ FP

section
variable {w w' : World} {q rp ac : Nat} {A : Option Addr} {FP FP' : List Nat} {C : Nat → Option Addr × Nat} {S : St}
theorem RC.c0 (h : RC w q rp A ac FP C S) : w.cell? ⟨q, 0, none⟩ = some (.slice (some ⟨rp, 0, none⟩) S.n S.n) := h.hd.cell 0
theorem RC.c1 (h : RC w q rp A ac FP C S) : w.cell? ⟨q, 1, none⟩ = some (.slice A 256 ac) := h.hd.cell 1
theorem RC.num (h : RC w q rp A ac FP C S) {i k : Nat} (hi : i < S.n) (hk : k < 13) (h3 : k ≠ 3) : w.cell? ⟨rp, i * 13 + k, none⟩ = some (.int .i64 ((S.L i).c (rr k))) := by
  rw [h.rows.cell hi hk]
  simp only [pcell, h3, if_false]
theorem RC.que (h : RC w q rp A ac FP C S) {i : Nat} (hi : i < S.n) : w.cell? ⟨rp, i * 13 + 3, none⟩ = some (.slice (C i).1 (S.L i).q.length (C i).2) := by
  rw [h.rows.cell hi (by decide)]
  simp [pcell]
theorem RC.same {T : List Nat} (h : RC w q rp A ac FP C S) (hm : Mod T w w') (hT : ∀ b, b ∈ FP → b ∉ T) : RC w' q rp A ac FP C S :=
  ⟨h.hd.mod hm (hT q h.qF), h.rows.same hm hT, h.adr.mod hm fun b hb => hT b (h.aF b hb), h.qF, h.aF⟩
theorem RC.newer (h : RC w q rp A ac FP C S) (hm : Mod [] w w') : RC w' q rp A ac FP C S := h.same hm (by simp)
theorem RC.drewN (h : RC w q rp A ac FP C S) (n : Nat) : RC (w.drewN n) q rp A ac FP C S := h.newer ((Mod.refl [] w).drewN n)
theorem RC.drew (h : RC w q rp A ac FP C S) : RC w.drew q rp A ac FP C S := h.newer (Mod.refl [] w).drew
theorem RC.more (h : RC w q rp A ac FP C S) (hF : ∀ b, b ∈ FP → b ∈ FP') (hF' : ∀ b, b ∈ FP' → b < w.heap.size) : RC w q rp A ac FP' C S :=
  ⟨h.hd, h.rows.mod (Mod.refl [] w) (by simp) hF hF', h.adr, hF q h.qF, fun b hb => hF b (h.aF b hb)⟩
theorem RC.qr (h : RC w q rp A ac FP C S) : q ≠ rp := Blk.ne_ h.hd h.rows.row (by decide)
theorem RC.ar (h : RC w q rp A ac FP C S) : rp ∉ blkOf A := h.adr.ne_blk h.rows.row (by decide)
theorem RC.aq (h : RC w q rp A ac FP C S) : q ∉ blkOf A := h.adr.ne_blk h.hd (by decide)
theorem RC.addr (h : RC w q rp A ac FP C S) : ∃ g off, A = some ⟨g, off, none⟩ := h.adr.addr (by rw [adrV_len]; decide)
theorem RC.at_ {g off : Nat} (h : RC w q rp (some ⟨g, off, none⟩) ac FP C S) {i : Nat} (hi : i < 256) : w.cell? ⟨g, off + i, none⟩ = some (.int .i64 (S.K i)) := h.adr.cell (adrV_get S.K hi)
theorem QRow.free {e : TypeId} {g off cap : Nat} {xs : List Value} (h : QRow w e (some ⟨g, off, none⟩) cap xs) (i : Nat) : w.frozen? ⟨g, i, none⟩ = false := by
  rcases h.2.2 with ⟨h0, _⟩ | ⟨g', off', cur, hA, hg, _⟩
  · cases h0
  · injection hA with hA
    injection hA with h1 h2
    subst h1
    simp [World.frozen?, hg]
/-- A port's number is stored. -/
theorem RC.onp (h : RC w q rp A ac FP C S) {i k : Nat} (hi : i < S.n) (hk : k < 13) (h3 : k ≠ 3) (x : Int) (f : Po → Po) (hf : f (S.L i) = (S.L i).set (rr k) x) : RC (w.setCell ⟨rp, i * 13 + k, none⟩ (.int .i64 x)) q rp A ac FP C (onP S i f) := by
  have hm : Mod [rp] w (w.setCell ⟨rp, i * 13 + k, none⟩ (.int .i64 x)) := (Mod.refl _ _).setCell (.inl (by simp)) _
  have h1 := h.rows.setc hi hk h3 rfl (fun k' hk' h3' e => rr_inj h3 h3' e hk hk') x
  rw [← hf] at h1
  exact ⟨h.hd.mod hm (by simpa using h.qr), h1, h.adr.mod hm (fun b hb e => by simp at e; subst e; exact h.ar hb), h.qF, h.aF⟩
/-- An address is stored. -/
theorem QRow.put {e : TypeId} {g off cap i : Nat} {xs : List Value} (h : QRow w e (some ⟨g, off, none⟩) cap xs) (hi : i < xs.length) (u : Value) : QRow (w.setCell ⟨g, off + i, none⟩ u) e (some ⟨g, off, none⟩) cap (xs.set i u) := by
  refine ⟨by simpa using h.1, h.2.1, ?_⟩
  rcases h.2.2 with ⟨h0, _⟩ | ⟨g', off', cur, hA, hg, hs, hr⟩
  · cases h0
  · injection hA with hA
    injection hA with h1 h2
    subst h1 h2
    have hle := h.1
    refine .inr ⟨g, off, cur.setIfInBounds (off + i) u, rfl, by simp [World.setCell, Array.getElem?_modify, hg], by simpa using hs, fun j x hj => ?_⟩
    rw [Array.getElem?_setIfInBounds]
    by_cases hji : j = i
    · subst hji
      rw [List.getElem?_set_self hi] at hj
      rw [if_pos rfl, if_pos (by omega)]
      exact hj
    · rw [List.getElem?_set_ne (fun e => hji e.symm)] at hj
      rw [if_neg (by omega)]
      exact hr j x hj
theorem adrV_set (K : Int → Int) {a : Nat} (ha : a < 256) (v : Int) : (adrV K).set a (.int .i64 v) = adrV fun x => if x = a then v else K x := by
  apply List.ext_getElem?
  intro i
  by_cases hi : i < 256
  · rw [adrV_get _ hi]
    by_cases e : i = a
    · subst e; rw [List.getElem?_set_self (by rw [adrV_len]; exact hi)]; simp
    · rw [List.getElem?_set_ne (fun h => e h.symm), adrV_get K hi]
      have : ¬ ((i : Int) = (a : Int)) := by omega
      simp [this]
  · rw [List.getElem?_eq_none (by rw [List.length_set, adrV_len]; omega), List.getElem?_eq_none (by rw [adrV_len]; omega)]
theorem RC.kput {g off : Nat} (h : RC w q rp (some ⟨g, off, none⟩) ac FP C S) {a : Nat} (ha : a < 256) (v : Int) : RC (w.setCell ⟨g, off + a, none⟩ (.int .i64 v)) q rp (some ⟨g, off, none⟩) ac FP C { S with K := fun x => if x = a then v else S.K x } := by
  have hm : Mod [g] w (w.setCell ⟨g, off + a, none⟩ (.int .i64 v)) := (Mod.refl _ _).setCell (.inl (by simp)) _
  have hq := h.aq
  have hr := h.ar
  simp [blkOf] at hq hr
  have h1 := QRow.put h.adr (i := a) (by rw [adrV_len]; exact ha) (.int .i64 v)
  rw [adrV_set S.K ha] at h1
  refine ⟨h.hd.mod hm (by simpa using hq), ?_, h1, h.qF, h.aF⟩
  have hne : ∀ {b : Nat} {t : TypeId} {cs : Array Value}, Blk w b t cs → t ≠ 3 → b ∉ [g] := fun hb ht e => by
    simp at e
    subst e
    exact h.adr.ne_blk hb ht (by simp [blkOf])
  refine ⟨h.rows.row.mod hm (hne h.rows.row (by decide)), fun i hi => ?_, h.rows.sep, h.rows.own, h.rows.bpF, fun b hb => Nat.lt_of_lt_of_le (h.rows.old b hb) hm.size, h.rows.t23, h.rows.t5⟩
  obtain ⟨xs, k1, k2⟩ := h.rows.que i hi
  refine ⟨xs, k1.mod hm fun b hb => ?_, k2.mod hm (fun g' cs _ hb => hne hb (by decide)) fun _ h => h⟩
  rcases k1.2.2 with ⟨e0, _⟩ | ⟨g', off', cur, e0, hg', _⟩
  · rw [e0] at hb; simp [blkOf] at hb
  · rw [e0] at hb; simp [blkOf] at hb
    subst hb
    exact hne hg' (by decide)

/-- 'Is'. -/
theorem is_f (h : RC w q rp A ac FP C S) (x : Int) : Calls Try.prog 37 #[.pointer (some ⟨q, 0, none⟩), .int .i64 x] w fun e w' => e = .returned (.bool (isP S x)) ∧ w = w' := by
  have c0 := h.c0
  clear h
  by_cases h0 : 0 ≤ x
  · by_cases h1 : x < S.n
    · have hp : isP S x = true := isP_iff.2 ⟨h0, h1⟩
      rw [hp]
      clear hp
      go_enter Try.func37, Try.ntmps37
      go_wp2
      go_ret
      exact ⟨by simp [h1], rfl⟩
    · have hp : isP S x = false := by simp [isP, h1]
      rw [hp]
      have h2 : (S.n : Int) ≤ x := by omega
      clear hp
      go_enter Try.func37, Try.ntmps37
      go_wp2
      go_ret
      exact ⟨by simp [h1], rfl⟩
  · have hp : isP S x = false := by simp [isP, h0]
    rw [hp]
    have h2 : x < 0 := by omega
    clear hp h0
    go_enter Try.func37, Try.ntmps37
    go_wp2
    go_ret
    exact ⟨rfl, rfl⟩
end

end Go.Proofs.Ytkdhkloabbcipaa
