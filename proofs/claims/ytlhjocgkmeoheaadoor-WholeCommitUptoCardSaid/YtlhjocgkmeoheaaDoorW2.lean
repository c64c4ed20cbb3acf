/-
  Commit: write's second loop, its state.
-/
import Derived.Test.YtlhjocgkmeoheaaDoorWr
import Derived.Test.YtlhjocgkmeoheaaDoorRv
namespace Go.Proofs.YtlhjocgkmeoheaaDoor
open Go.RowKit Go.Tn Go.MapKept
open Go.Proofs

/-- Changes in a row of one's own. -/
def ChgO (B : Nat) (w : World) (v : Value) (cnt : Nat) : Prop := ∃ xs, w.ownsRow B 69 2 v cnt xs ∧ xs.length = cnt * 2 ∧ ∀ i, i < cnt → ∃ s a l c, xs[i * 2]? = some (.string s) ∧ xs[i * 2 + 1]? = some (.slice a l c)
theorem ownsRow_weak {w : World} {base e size n : Nat} {v : Value} {xs : List Value} (h : w.ownsRow base e size v n xs) : w.ownsRow 0 e size v n xs := by
  refine ⟨h.1, ?_⟩
  rcases h.2 with h0 | ⟨g, cap, cur, hv, _, r⟩
  · exact .inl h0
  · exact .inr ⟨g, cap, cur, hv, Nat.zero_le _, r⟩
theorem ChgO.chg {B : Nat} {w : World} {v : Value} {cnt : Nat} (h : ChgO B w v cnt) (hc : cnt ≤ 1073741824) : Chg w v cnt := by
  obtain ⟨xs, h1, h2, h3⟩ := h
  exact ⟨xs, ownsRow_weak h1, h2, hc, h3⟩
theorem ChgO.own {B : Nat} {w : World} {v : Value} {cnt b : Nat} (h : ChgO B w v cnt) (hb : v.ownBlock = some b) : B ≤ b ∧ b < w.heap.size ∧ ∃ cs, Blk w b 69 cs := by
  obtain ⟨xs, h1, _⟩ := h
  have hl := h1.lt b hb
  refine ⟨hl.1, hl.2, ?_⟩
  rcases h1.2 with ⟨rfl, _⟩ | ⟨g, cap, cur, rfl, _, hh, _⟩
  · simp [Value.ownBlock] at hb
  · simp [Value.ownBlock] at hb
    subst hb
    exact ⟨_, hh⟩
theorem ChgO.mod {B : Nat} {w w' : World} {v : Value} {cnt : Nat} (h : ChgO B w v cnt) {S : List Nat} (hm : Tn.Mod S w w') (hS : ∀ b, v.ownBlock = some b → b ∉ S) : ChgO B w' v cnt := by
  obtain ⟨xs, h1, h2⟩ := h
  exact ⟨xs, ownsRow_of_heap' h1 fun b hb => hm.block b (h1.lt b hb).2 (hS b hb), h2⟩
theorem ChgO.nil (B : Nat) (w : World) : ChgO B w (.slice none 0 0) 0 := ⟨[], ⟨rfl, .inl ⟨rfl, rfl⟩⟩, rfl, fun i hi => by omega⟩

theorem cell_lt {w : World} {b i : Nat} {v : Value} (h : w.cell? ⟨b, i, none⟩ = some v) : b < w.heap.size := by
  rcases Nat.lt_or_ge b w.heap.size with h1 | h1
  · exact h1
  · simp [World.cell?, Array.getElem?_eq_none h1] at h

theorem RowS.mod {w w' : World} {q : Nat} {l : List ByteArray} (h : RowS w q l) {S : List Nat} (hm : Tn.Mod S w w') (hq : q ∉ S) : RowS w' q l := fun i hi => by
  obtain ⟨h1, h2⟩ := h i hi
  have hlt := cell_lt h1
  exact ⟨(hm.cell (p := ⟨q, i, none⟩) hlt hq).trans h1, (hm.frozen (p := ⟨q, i, none⟩) hlt hq).trans h2⟩

/-- The state behind k rounds. -/
structure W2 (w wr : World) (q u : Nat) (A : Tree) (name : ByteArray) (o : Option Int) (rev : List ByteArray) (k : Nat) (vl : Value) : Prop where
  md : Tn.Mod [] w wr
  row : RowS wr q rev
  blk : ∃ cs, Blk wr q 9 cs
  th : TH wr u (addA A name o (rev.take k))
  ul : w.heap.size ≤ u
  ch : ChgO w.heap.size wr vl k

theorem addA_step {A : Tree} {name : ByteArray} {o : Option Int} {rev : List ByteArray} {k : Nat} (hk : k < rev.length) :
    addA A name o (rev.take (k + 1)) = addA A name o (rev.take k) ++ [(rev.getD k ByteArray.empty, if rev.getD k ByteArray.empty = name then o else none)] := by
  unfold addA
  rw [List.take_add_one, List.map_append, List.getD_eq_getElem?_getD, List.getElem?_eq_getElem hk]
  simp
theorem nms_addA (A : Tree) (name : ByteArray) (o : Option Int) (l : List ByteArray) : nms (addA A name o l) = nms A ++ l := by
  unfold nms addA
  rw [List.map_append, List.map_map]
  congr 1
  conv => rhs; rw [← List.map_id l]
  rfl

theorem W2.mod0 {w wr W : World} {q u k : Nat} {A : Tree} {name : ByteArray} {o : Option Int} {rev : List ByteArray} {vl : Value} (h : W2 w wr q u A name o rev k vl) (hm : Tn.Mod [] wr W) : W2 w W q u A name o rev k vl := by
  obtain ⟨cs, hb⟩ := h.blk
  exact ⟨h.md.andThen hm, h.row.mod hm (by simp), ⟨cs, hb.mod hm (by simp)⟩, h.th.mod0 hm, h.ul, h.ch.mod hm (by simp)⟩

/-- A round: the node is put, the change is listed. -/
theorem W2.step {w W W8 : World} {q u k : Nat} {A : Tree} {name : ByteArray} {o : Option Int} {rev : List ByteArray} {vl v' : Value} {nv : Value} {a : Option Addr} {l c : Nat} (h : W2 w W q u A name o rev k vl) (hk : k < rev.length)
    (hnd : rev.Nodup) (hno : ∀ m ∈ rev, m ∉ nms A) (hN : Node W nv (if rev.getD k ByteArray.empty = name then o else none))
    {obj : Obj} (hg : ((sput W u (rev.getD k ByteArray.empty) nv).alloc obj).grownBy W8 vl.ownBlock)
    {xs : List Value} (hxs : W.ownsRow w.heap.size 69 2 vl k xs) (hxl : xs.length = k * 2) (hxp : ∀ i, i < k → ∃ s a l c, xs[i * 2]? = some (.string s) ∧ xs[i * 2 + 1]? = some (.slice a l c))
    (ho : W8.ownsRow w.heap.size 69 2 v' (k + 1) (xs ++ [.string (rev.getD k ByteArray.empty), .slice a l c])) :
    W2 w W8 q u A name o rev (k + 1) v' := by
  have hmem : rev.getD k ByteArray.empty ∈ rev := by
    rw [List.getD_eq_getElem?_getD, List.getElem?_eq_getElem hk]
    exact List.getElem_mem hk
  have hnot : rev.getD k ByteArray.empty ∉ nms (addA A name o (rev.take k)) := by
    rw [nms_addA]
    intro hc
    rcases List.mem_append.1 hc with hc | hc
    · exact hno _ hmem hc
    · obtain ⟨i, hi, he⟩ := List.getElem_of_mem hc
      rw [List.getElem_take] at he
      rw [List.getD_eq_getElem?_getD, List.getElem?_eq_getElem hk] at he
      simp at hi
      have := (List.getElem_inj (h₀ := by omega) (h₁ := hk) hnd).1 he
      omega
  have hT := h.th.put_new hN hnot
  rw [← addA_step hk] at hT
  have mp := sput_mod W u (rev.getD k ByteArray.empty) nv
  obtain ⟨cs, hb⟩ := h.blk
  have hqu : q ≠ u := h.th.ne_blk hb
  have hch : ChgO w.heap.size W vl k := ⟨xs, hxs, hxl, hxp⟩
  have hS : ∀ b, vl.ownBlock = some b → w.heap.size ≤ b ∧ b ≠ q ∧ b ≠ u ∧ ∃ cs, Blk W b 69 cs := fun b hb' => by
    obtain ⟨h1, h2, cs', h3⟩ := hch.own hb'
    exact ⟨h1, fun e => h3.ne_ hb (by decide) e, h.th.ne_blk h3, cs', h3⟩
  obtain ⟨S, hSr, hSs⟩ : ∃ S : List Nat, (∀ b, vl.ownBlock = some b → b ∈ S) ∧ ∀ s ∈ S, vl.ownBlock = some s := by
    cases hr : vl.ownBlock with
    | none => exact ⟨[], by simp, by simp⟩
    | some r => exact ⟨[r], by simp, by simp⟩
  have m8 : Tn.Mod S (sput W u (rev.getD k ByteArray.empty) nv) W8 := ((Mod.refl S _).alloc obj).grown hg (fun b hb => .inl (hSr b hb))
  have hcold : Cold S (sput W u (rev.getD k ByteArray.empty) nv) := fun s hs cs t hbs => by
    obtain ⟨_, _, h3, cs', h4⟩ := hS s (hSs s hs)
    exact cold_blk (h4.mod mp (by simpa using h3)) (by decide) (by decide) cs t hbs
  refine ⟨(h.md.trans mp (by simp; exact h.ul)).trans m8 (fun s hs => .inr (hS s (hSs s hs)).1), (h.row.mod mp (by simpa using hqu)).mod m8 (fun hs => (hS q (hSs q hs)).2.1 rfl), ⟨cs, (hb.mod mp (by simpa using hqu)).mod m8 (fun hs => (hS q (hSs q hs)).2.1 rfl)⟩,
    hT.mod m8 (fun hs => (hS u (hSs u hs)).2.2.1 rfl) hcold, h.ul, ⟨_, ho, by simp; omega, fun i hi => ?_⟩⟩
  rcases Nat.lt_or_ge i k with hlt | hge
  · obtain ⟨s, a, l, c, e1, e2⟩ := hxp i hlt
    exact ⟨s, a, l, c, by rw [List.getElem?_append_left (by omega)]; exact e1, by rw [List.getElem?_append_left (by omega)]; exact e2⟩
  · have : i = k := by omega
    subst this
    exact ⟨_, a, l, c, by rw [List.getElem?_append_right (by omega), show i * 2 - xs.length = 0 by omega]; rfl, by rw [List.getElem?_append_right (by omega), show i * 2 + 1 - xs.length = 1 by omega]; rfl⟩

/-- What the reversed list gives: the path above is there. -/
theorem up_there {A : Tree} {name top : ByteArray} {o : Option Int} {pre : List ByteArray} (h : Look A name pre top) (ht : top ∈ nms A) {k : Nat} (hk : k < pre.reverse.length) : Val (pre.reverse.getD k ByteArray.empty).data.toList ∧ upB (pre.reverse.getD k ByteArray.empty) ∈ nms (addA A name o (pre.reverse.take k)) := by
  have hk' : k < pre.length := by simpa using hk
  have hg : pre.reverse.getD k ByteArray.empty = pre.getD (pre.length - 1 - k) ByteArray.empty := by
    rw [List.getD_eq_getElem?_getD, List.getD_eq_getElem?_getD, List.getElem?_reverse hk']
  rw [hg]
  have hi : pre.length - 1 - k < pre.length := by omega
  have hmem : pre.getD (pre.length - 1 - k) ByteArray.empty ∈ pre := by
    rw [List.getD_eq_getElem?_getD, List.getElem?_eq_getElem hi]
    exact List.getElem_mem hi
  refine ⟨(h.no _ hmem).2.1, ?_⟩
  rw [h.chain _ hi, nms_addA]
  by_cases h0 : k = 0
  · rw [if_neg (by omega)]
    exact List.mem_append_left _ ht
  · rw [if_pos (by omega)]
    refine List.mem_append_right _ ?_
    have hg2 : pre.getD (pre.length - 1 - k + 1) ByteArray.empty = pre.reverse.getD (k - 1) ByteArray.empty := by
      rw [List.getD_eq_getElem?_getD, List.getD_eq_getElem?_getD, List.getElem?_reverse (by omega)]
      congr 2
      omega
    rw [hg2]
    have hl : k - 1 < (pre.reverse.take k).length := by simp; omega
    have : (pre.reverse.take k)[k - 1] = pre.reverse.getD (k - 1) ByteArray.empty := by
      rw [List.getElem_take, List.getD_eq_getElem?_getD, List.getElem?_eq_getElem (by simp; omega)]
      rfl
    rw [← this]
    exact List.getElem_mem hl

theorem NV.mod {w w' : World} {S : List Nat} {v : Value} {o : Option Int} (h : NV w v o) (hm : Tn.Mod S w w') (hc : Cold S w) : NV w' v o := by
  cases o with
  | none => exact h
  | some z => obtain ⟨b, c, h1, h2⟩ := h; exact ⟨b, c, h1, h2.mod hm hc⟩
section
variable {w W W' : World} {q u k : Nat} {A : Tree} {name : ByteArray} {o : Option Int} {rev : List ByteArray} {vl : Value}
theorem W2.mod39 {b : Nat} {cs : Array Value} (h : W2 w W q u A name o rev k vl) (hb : Blk W b 39 cs) (hw : w.heap.size ≤ b) (hm : Tn.Mod [b] W W') : W2 w W' q u A name o rev k vl := by
  obtain ⟨cs', hq⟩ := h.blk
  have hqb : q ≠ b := hq.ne_ hb (by decide)
  exact ⟨h.md.trans hm (by simp; exact hw), h.row.mod hm (by simpa using hqb), ⟨cs', hq.mod hm (by simpa using hqb)⟩, h.th.mod hm (by simpa using (h.th.ne_blk hb).symm) ((Cold.nil _).cons (cold_blk hb (by decide) (by decide))), h.ul,
    h.ch.mod hm (fun b' hb' => by
      obtain ⟨_, _, cs2, h2⟩ := h.ch.own hb'
      simpa using h2.ne_ hb (by decide))⟩
theorem W2.row10 (h : W2 w W q u A name o rev k vl) {B : Nat} {xs : List Value} (hxs : W.ownsRow B 69 2 vl k xs) (n : ByteArray) (nv : Value) (obj : Obj) : ((sput W u n nv).alloc obj).ownsRow B 69 2 vl k xs := by
  refine World.ownsRow.alloc ?_ _
  refine ownsRow_of_heap' hxs fun b hb => ?_
  obtain ⟨_, _, cs2, h2⟩ := h.ch.own hb
  exact sput_heap_other _ _ _ _ (h.th.ne_blk h2)
end
end Go.Proofs.YtlhjocgkmeoheaaDoor
