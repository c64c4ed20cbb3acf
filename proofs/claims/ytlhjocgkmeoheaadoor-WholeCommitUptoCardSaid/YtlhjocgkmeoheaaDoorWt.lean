/-
  Commit: Write.
-/
import Derived.Test.YtlhjocgkmeoheaaDoorWn
namespace Go.Proofs.YtlhjocgkmeoheaaDoor
open Go.RowKit Go.Tn Go.MapKept
open Go.Proofs

theorem miss_val {A : Tree} (G : GT A) : ∀ (f : Nat) (n : ByteArray), Val n.data.toList → ∀ m ∈ miss A f n, Val m.data.toList
  | 0, _, _, m, hm => by simp [miss] at hm
  | f + 1, n, hv, m, hm => by
    unfold miss at hm
    by_cases hn : n ∈ nms A
    · rw [if_pos hn] at hm; simp at hm
    · rw [if_neg hn] at hm
      rcases List.mem_cons.1 hm with rfl | hm
      · exact hv
      · exact miss_val G f _ (upB_val hv (Val.ne_root G hn)).1 m hm
theorem GT.wA {A : Tree} (G : GT A) {n : ByteArray} (hv : Val n.data.toList) (hok : wOk A n) (o : Option Int) : GT (wA A n o) := by
  unfold Go.Proofs.YtlhjocgkmeoheaaDoor.wA
  by_cases hn : n ∈ nms A
  · rw [if_pos hn]
    exact ⟨by rw [nms_setA]; exact G.root, by rw [nms_setA]; exact G.val, by unfold setA; rw [List.length_map]; exact G.len⟩
  · rw [if_neg hn]
    refine ⟨by rw [nms_addA]; exact List.mem_append_left _ G.root, fun m hm => ?_, ?_⟩
    · rw [nms_addA] at hm
      rcases List.mem_append.1 hm with hm | hm
      · exact G.val m hm
      · exact miss_val G _ _ hv m (List.mem_reverse.1 hm)
    · rcases hok with h | h
      · exact absurd h hn
      · unfold addA
        simp
        exact h

def errW (A : Tree) (n : ByteArray) : Int := if parseE n.data.toList ≠ 0 then parseE n.data.toList else if wOk A n then 0 else 71
def resW (A : Tree) (n : ByteArray) (o : Option Int) : Tree := if errW A n = 0 then wA A n o else A
theorem errW_bad {A : Tree} {n : ByteArray} (h : parseE n.data.toList ≠ 0) : errW A n = parseE n.data.toList := by unfold errW; rw [if_pos h]
theorem errW_ok {A : Tree} {n : ByteArray} (h : parseE n.data.toList = 0) (hok : wOk A n) : errW A n = 0 := by unfold errW; rw [if_neg (by simpa using h), if_pos hok]
theorem errW_full {A : Tree} {n : ByteArray} (h : parseE n.data.toList = 0) (hok : ¬ wOk A n) : errW A n = 71 := by unfold errW; rw [if_neg (by simpa using h), if_neg hok]
theorem errW_zero {A : Tree} {n : ByteArray} (h : errW A n = 0) : Val n.data.toList ∧ wOk A n := by
  by_cases hp : parseE n.data.toList = 0
  · by_cases hok : wOk A n
    · exact ⟨hp, hok⟩
    · rw [errW_full hp hok] at h; cases h
  · rw [errW_bad hp] at h; exact absurd h hp
theorem GT.resW {A : Tree} (G : GT A) (n : ByteArray) (o : Option Int) : GT (resW A n o) := by
  unfold Go.Proofs.YtlhjocgkmeoheaaDoor.resW
  split
  · rename_i h
    exact G.wA (errW_zero h).1 (errW_zero h).2 o
  · exact G

section
variable {w : World} {sb mt mo g : Nat} {A : Tree} {op : Option Nat}

/-- write, on a valid name. -/
theorem write_any {m tx : Nat} (hT : TH w m A) (G : GT A) {name : ByteArray} (hval : Val name.data.toList) {v : Value} {o : Option Int} (hv : NV w v o)
    (hview : Calls Tryd.prog 20 #[.pointer (some ⟨sb, 0, none⟩), .int .i64 tx] w fun e w' => e = .returned (.map (some m)) ∧ w = w') {R : World → World → Prop}
    (hch : ∀ w1 m' vl k, Tn.Mod [] w w1 → TH w1 m' (wA A name o) → w.heap.size ≤ m' → Chg w1 vl k → 1 ≤ k → k ≤ 256 → Calls Tryd.prog 22 #[.pointer (some ⟨sb, 0, none⟩), .int .i64 tx, .map (some m'), vl] w1 fun e w' => e = .returned (.tuple #[]) ∧ R w1 w') :
    Calls Tryd.prog 13 #[.pointer (some ⟨sb, 0, none⟩), .int .i64 0, .int .i64 tx, .string name, v, .bool false] w fun e w' => e = .returned (.int .i64 (errW A name)) ∧ ((errW A name = 0 ∧ ∃ w1, Tn.Mod [] w w1 ∧ R w1 w') ∨ (errW A name ≠ 0 ∧ Tn.Mod [] w w')) := by
  by_cases hn : name ∈ nms A
  · have he : errW A name = 0 := errW_ok hval (.inl hn)
    rw [he]
    exact (write_old hT hn hv hview hch).mono fun e w' ⟨h1, h2⟩ => ⟨h1, .inl ⟨rfl, h2⟩⟩
  · refine (write_new hT G hn hval hv hview hch).mono ?_
    rintro e w' (⟨hok, rfl, h⟩ | ⟨hok, rfl, h⟩)
    · rw [errW_ok hval hok]; exact ⟨rfl, .inl ⟨rfl, h⟩⟩
    · rw [errW_full hval hok]; exact ⟨rfl, .inr ⟨by decide, h⟩⟩

set_option maxRecDepth 100000 in
/-- Write, whatever the view is. -/
theorem write_gen {m tx : Nat} {name : ByteArray} {v : Value} {o : Option Int} {R : World → World → Prop} (hv : NV w v o) (G : GT A)
    (hask : Calls Tryd.prog 12 #[.pointer (some ⟨sb, 0, none⟩), .int .i64 0, .int .i64 tx, .string name] w fun e w' => e = .returned (.int .i64 (parseE name.data.toList)) ∧ Tn.Mod [] w w')
    (hT : ∀ w1, Tn.Mod [] w w1 → TH w1 m A)
    (hview : ∀ w1, Tn.Mod [] w w1 → Calls Tryd.prog 20 #[.pointer (some ⟨sb, 0, none⟩), .int .i64 tx] w1 fun e w' => e = .returned (.map (some m)) ∧ w1 = w')
    (hch : ∀ w1 m' vl k, Tn.Mod [] w w1 → TH w1 m' (wA A name o) → w.heap.size ≤ m' → Chg w1 vl k → 1 ≤ k → k ≤ 256 → Calls Tryd.prog 22 #[.pointer (some ⟨sb, 0, none⟩), .int .i64 tx, .map (some m'), vl] w1 fun e w' => e = .returned (.tuple #[]) ∧ R w1 w') :
    Calls Tryd.prog 6 #[.pointer (some ⟨sb, 0, none⟩), .int .i64 0, .int .i64 tx, .string name, v] w fun e w' => e = .returned (.int .i64 (errW A name)) ∧ ((errW A name = 0 ∧ ∃ w1, Tn.Mod [] w w1 ∧ R w1 w') ∨ (errW A name ≠ 0 ∧ Tn.Mod [] w w')) := by
  have HA := hid hask
  obtain ⟨ya, yl, yc, hvs, hyl⟩ := hv.slice
  by_cases hp : parseE name.data.toList = 0
  · rw [hp] at HA
    have HW := hid (show ∀ w1, Tn.Mod [] w w1 → Calls Tryd.prog 13 #[.pointer (some ⟨sb, 0, none⟩), .int .i64 0, .int .i64 tx, .string name, v, .bool false] w1 fun e w' => e = .returned (.int .i64 (errW A name)) ∧ ((errW A name = 0 ∧ ∃ w1, Tn.Mod [] w w1 ∧ R w1 w') ∨ (errW A name ≠ 0 ∧ Tn.Mod [] w w')) from fun w1 hm =>
      (write_any (hT w1 hm) G hp (hv.mod0 hm) (hview w1 hm) (fun w2 m' vl k h1 h2 h3 => hch w2 m' vl k (hm.andThen h1) h2 (Nat.le_trans hm.size h3))).mono (by
        rintro e w' ⟨rfl, ⟨h1, w2, h2, h3⟩ | ⟨h1, h2⟩⟩
        · exact ⟨rfl, .inl ⟨h1, w2, hm.andThen h2, h3⟩⟩
        · exact ⟨rfl, .inr ⟨h1, hm.andThen h2⟩⟩))
    clear hask hT hview hch hv
    subst hvs
    have hyI : ¬ (64 : Int) < yl := by omega
    have hyJ : (yl : Int) ≤ 64 := by omega
    go_enter Tryd.func6, Tryd.ntmps6
    go_wp2_with (first
      | (go_at_call 12; refine HA.out.mono ?_; rintro e w2 ⟨rfl, hm⟩; replace hm := hid hm)
      | (go_at_call 13; refine (HW.out _ hm.out).mono ?_; rintro e w3 ⟨rfl, hr⟩; replace hr := hid hr))
    go_ret
    exact ⟨rfl, hr.out⟩
  · have hb : (parseE name.data.toList == 0) = false := by simpa using hp
    have he := hid (errW_bad (A := A) hp)
    clear hask hT hview hch hv
    subst hvs
    go_enter Tryd.func6, Tryd.ntmps6
    go_wp2_with (go_at_call 12; refine HA.out.mono ?_; rintro e w2 ⟨rfl, hm⟩; replace hm := hid hm)
    go_ret
    rw [he.out]
    exact ⟨rfl, .inr ⟨hp, hm.out⟩⟩

/-- Write, outside any transaction. -/
theorem write_f0 (h : SH w sb mt mo A g op) (G : GT A) (hg : g + 1 < 4611686018427387904) (name : ByteArray) {v : Value} {o : Option Int} (hv : NV w v o) :
    Calls Tryd.prog 6 #[.pointer (some ⟨sb, 0, none⟩), .int .i64 0, .int .i64 0, .string name, v] w fun e w' => e = .returned (.int .i64 (errW A name)) ∧ (∃ mt', SH w' sb mt' mo (resW A name o) (g + if errW A name = 0 then 1 else 0) op ∧ (mt' = mt ∨ w.heap.size ≤ mt')) ∧ Tn.Mod [sb] w w' := by
  refine (write_gen (tx := 0) (m := mt) (R := fun w1 w' => (∃ mt', SH w' sb mt' mo (wA A name o) (g + 1) op ∧ w.heap.size ≤ mt') ∧ Tn.Mod [sb] w1 w') hv G (asked_f0 h name) (fun w1 hm => (h.mod0 hm).th) (fun w1 hm => view_f0 (h.mod0 hm)) ?_).mono ?_
  · intro w1 m' vl k hm ht hul hc _ _
    exact (changed_f0 (h.mod0 hm) hc hg ht (by have := h.mo.lt; omega)).mono fun e w' ⟨h1, h2, h3⟩ => ⟨h1, ⟨_, h2, hul⟩, h3⟩
  · rintro e w' ⟨rfl, ⟨h1, w1, h2, h3, h4⟩ | ⟨h1, h2⟩⟩
    · refine ⟨rfl, ?_, (h2.mono (T := [sb]) (by simp)).andThen h4⟩
      unfold resW
      rw [if_pos h1, if_pos h1]
      obtain ⟨mt', h5, h6⟩ := h3
      exact ⟨mt', h5, .inr h6⟩
    · refine ⟨rfl, ⟨mt, ?_, .inl rfl⟩, h2.mono (by simp)⟩
      unfold resW
      rw [if_neg h1, if_neg h1]
      exact h.mod0 h2

/-- Write, in the open transaction. -/
theorem write_f1 {B tb m2 g2 cnt : Nat} {A2 : Tree} (hB : B ≤ w.heap.size) (h : SH w sb mt mo A g (some tb)) (hx : XH B w tb m2 A2 g2 cnt) (G : GT A2) (hb : cnt + 256 ≤ 1073741824) (name : ByteArray) {v : Value} {o : Option Int} (hv : NV w v o) :
    Calls Tryd.prog 6 #[.pointer (some ⟨sb, 0, none⟩), .int .i64 0, .int .i64 1, .string name, v] w fun e w' => e = .returned (.int .i64 (errW A2 name)) ∧
      ∃ m2' cnt' S, XH B w' tb m2' (resW A2 name o) g2 cnt' ∧ (m2' = m2 ∨ w.heap.size ≤ m2') ∧ cnt' ≤ cnt + 256 ∧ (if errW A2 name = 0 then cnt < cnt' else cnt' = cnt) ∧ Tn.Mod (tb :: S) w w' ∧ ∀ s ∈ S, B ≤ s ∧ (w.heap.size ≤ s ∨ ∃ cs, Blk w s 69 cs) := by
  refine (write_gen (tx := 1) (m := m2) (R := fun w1 w' => ∃ m2' k S, XH B w' tb m2' (wA A2 name o) g2 (cnt + k) ∧ w.heap.size ≤ m2' ∧ 1 ≤ k ∧ k ≤ 256 ∧ Tn.Mod (tb :: S) w1 w' ∧ ∀ s ∈ S, B ≤ s ∧ ∃ cs, Blk w1 s 69 cs) hv G (asked_f1 h hx name) (fun w1 hm => (hx.mod0 hm).th) (fun w1 hm => ?_) ?_).mono ?_
  · obtain ⟨⟨v, hb, _⟩, _⟩ := hx.mod0 hm
    exact view_f1 (h.mod0 hm) (hb.cell 2)
  · intro w1 m' vl k hm ht hul hc h1 h2
    exact (changed_f1 (h.mod0 hm) (hx.mod0 hm) hc h1 (by omega) ht (Nat.le_trans hB hm.size)).mono fun e w' ⟨h3, h4, S, h5, h6⟩ => ⟨h3, m', k, S, h4, hul, h1, h2, h5, h6⟩
  · rintro e w' ⟨rfl, ⟨h1, w1, h2, m2', k, S, h3, hul, h4, h5, h6, h7⟩ | ⟨h1, h2⟩⟩
    · refine ⟨rfl, m2', cnt + k, S, ?_, .inr hul, by omega, by rw [if_pos h1]; omega, (h2.mono (T := tb :: S) (by simp)).andThen h6, fun s hs => ?_⟩
      · unfold resW
        rw [if_pos h1]
        exact h3
      · obtain ⟨hBs, cs, hcs⟩ := h7 s hs
        refine ⟨hBs, ?_⟩
        rcases Nat.lt_or_ge s w.heap.size with hlt | hge
        · exact .inr ⟨cs, (h2.block s hlt (by simp)).symm.trans hcs⟩
        · exact .inl hge
    · refine ⟨rfl, m2, cnt, [], ?_, .inl rfl, by omega, by rw [if_neg h1], h2.mono (by simp), by simp⟩
      unfold resW
      rw [if_neg h1]
      exact hx.mod0 h2
end
end Go.Proofs.YtlhjocgkmeoheaaDoor
