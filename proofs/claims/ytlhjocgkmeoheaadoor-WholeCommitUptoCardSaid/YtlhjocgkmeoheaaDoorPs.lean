/-
  Commit: SplitSeq, Parse.
-/
import Derived.Test.YtlhjocgkmeoheaaDoorSq
import Derived.Test.YtlhjocgkmeoheaaDoorNm
import Derived.Test.YtlhjocgkmeoheaaDoorReg
import Derived.Test.YtlhjocgkmeoheaaDoorSm
namespace Go.Proofs.YtlhjocgkmeoheaaDoor
open Go.RowKit Go.Tn
open Go.Proofs
attribute [local go_sem] Oper.semAt_some

/-- What SplitSeq answers: an iterator with boxes of its own. -/
def SeqOk (s : ByteArray) (w : World) (e : Ending) (w' : World) : Prop :=
  ∃ b1 b2 b3, e = .returned (.func (.func 66) #[] #[.pointer (some ⟨b1, 0, none⟩), .pointer (some ⟨b2, 0, none⟩), .pointer (some ⟨b3, 0, none⟩)]) ∧
    Blk w' b1 9 #[.string ⟨#[47]⟩] ∧ Blk w' b2 9 #[.string s] ∧ Blk w' b3 3 #[.int .i64 0] ∧ b1 ≠ b2 ∧ w.heap.size ≤ b1 ∧ w.heap.size ≤ b2 ∧ w.heap.size ≤ b3 ∧ Tn.Mod [] w w'

theorem splitseq_f (s : ByteArray) (w : World) : Calls Tryd.prog 31 #[.string s, .string ⟨#[47]⟩] w (SeqOk s w) := by
  have h42 : Calls Tryd.prog 42 #[.string s, .string ⟨#[47]⟩, .int .i64 0] w (SeqOk s w) := by
    have g0 := Blk.new w 9 #[.string s]
    have g1 := Blk.new (w.alloc (.cells #[.string s] 9)) 9 #[.string ⟨#[47]⟩]
    have g2 := Blk.new ((w.alloc (.cells #[.string s] 9)).alloc (.cells #[.string ⟨#[47]⟩] 9)) 3 #[.int .i64 0]
    simp only [World.size_alloc] at g0 g1 g2
    go_enter Tryd.func42, Tryd.ntmps42
    go_wp2
    go_ret
    refine ⟨_, _, _, rfl, Blk.mod (S := []) g1 ((Mod.refl [] _).alloc _) (by simp), Blk.mod (S := []) g0 (((Mod.refl [] _).alloc _).alloc _) (by simp), g2, by omega, by omega, by omega, by omega, (((Mod.refl [] w).alloc _).alloc _).alloc _⟩
  have H := hid h42
  clear h42
  go_enter Tryd.func31, Tryd.ntmps31
  go_wp2_with (go_at_call 42; refine H.out.mono ?_; rintro e w' ⟨b1, b2, b3, rfl, h⟩; replace h := hid h)
  go_ret
  exact ⟨_, _, _, rfl, h.out⟩

/-- Why the parts are no path (0: they are one). -/
def partsE : List (List UInt8) → Nat → Int
  | [], _ => 0
  | p :: ps, k => if k = 8 then 2 else if nameE p 0 ≠ 0 then nameE p 0 else partsE ps (k + 1)
/-- Why a text is no path (0: it is one). -/
def parseE (l : List UInt8) : Int := if 256 < l.length then 2 else if Lib.hasPrefix l [47] = false then 90 else if l = [47] then 0 else partsE (splitL l.tail) 0

theorem drop_getD {l : List (List UInt8)} {k : Nat} (hk : k < l.length) : l.drop k = l.getD k [] :: l.drop (k + 1) := by
  rw [List.drop_eq_getElem_cons hk]
  simp [List.getD_eq_getElem?_getD, List.getElem?_eq_getElem hk]
/-- What Parse answers. -/
def ParseOk (e : Ending) (g : Int) : Prop := ∃ (v : Value) (n : Int), e = .returned (.tuple #[v, .int .i64 n, .int .i64 g])

theorem info9 : (Tryd.prog.info? 9).map (fun i => (i.zero, i.size, i.bytes)) = some (some (.string ⟨#[]⟩), 1, 16) := by kernel_rfl
/-- Parse's state after k parts. -/
structure PSt (w W : World) (H k : Nat) : Prop where
  md : Tn.Mod [] w W
  r0 : Blk W w.heap.size 22 #[.slice none 0 0]
  r1 : Blk W (w.heap.size + 1) 3 #[.int .i64 0]
  r2 : Blk W (w.heap.size + 2) 25 #[.int .i64 0]
  l : ∃ v xs, Blk W (w.heap.size + 3) 22 #[v] ∧ W.ownsRow (H + 2) 9 1 v k xs
  at_ : ∃ n : Int, Blk W (w.heap.size + 4) 3 #[.int .i64 n]

/-- Parse's state where it has failed. -/
structure RSt (w W : World) (n g : Int) : Prop where
  md : Tn.Mod [] w W
  r0 : Blk W w.heap.size 22 #[.slice none 0 0]
  r1 : Blk W (w.heap.size + 1) 3 #[.int .i64 n]
  r2 : Blk W (w.heap.size + 2) 25 #[.int .i64 g]

theorem ownsRow_of_heap' {w w' : World} {base e size n : Nat} {v : Value} {xs : List Value} (h : w.ownsRow base e size v n xs) (hh : ∀ b, v.ownBlock = some b → w'.heap[b]? = w.heap[b]?) : w'.ownsRow base e size v n xs := by
  refine ⟨h.1, ?_⟩
  rcases h.2 with h0 | ⟨g, cap, cur, rfl, hb, hg, r⟩
  · exact .inl h0
  · exact .inr ⟨g, cap, cur, rfl, hb, (hh g rfl).trans hg, r⟩

theorem plain_bin {P : Program} {o : Oper} (b : BinOp) (t t2 : TypeId) (x y : Operand) (h : o.op = .binOp b t x y t2) : PlainOp P o :=
  ⟨fun c => by rw [h]; simp, fun w ρ => by unfold Oper.about; rw [h], fun ρ w => by unfold execOp; rw [h]; exact calm_value _ w⟩
section
variable {w W W' : World} {H k : Nat}
theorem PSt.turn {bx : Nat} (h : PSt w W H k) (hm : Tn.Mod [bx, H, H + 1] W W') (h1 : w.heap.size + 5 ≤ bx) (h2 : bx < H) : PSt w W' H k := by
  obtain ⟨h0, ha, hb, hc, ⟨v, xs, hd, hx⟩, ⟨n, he⟩⟩ := h
  refine ⟨h0.trans hm (by simp; omega), ha.mod hm (by simp; omega), hb.mod hm (by simp; omega), hc.mod hm (by simp; omega), ⟨v, xs, hd.mod hm (by simp; omega), ownsRow_of_heap' hx fun b hb => hm.block b (hx.lt b hb).2 ?_⟩, ⟨n, he.mod hm (by simp; omega)⟩⟩
  have := (hx.lt b hb).1
  simp; omega
theorem RSt.turn {bx : Nat} {n g : Int} (h : RSt w W n g) (hm : Tn.Mod [bx, H, H + 1] W W') (h1 : w.heap.size + 5 ≤ bx) (h2 : bx < H) : RSt w W' n g := by
  obtain ⟨h0, ha, hb, hc⟩ := h
  exact ⟨h0.trans hm (by simp; omega), ha.mod hm (by simp; omega), hb.mod hm (by simp; omega), hc.mod hm (by simp; omega)⟩
/-- The three stores of a failure. -/
theorem PSt.fail (h : PSt w W H k) (hH : w.heap.size + 5 ≤ H) (hW : H + 2 ≤ W.heap.size) (n g : Int) :
    RSt w (((W.setCell ⟨w.heap.size, 0, none⟩ (.slice none 0 0)).setCell ⟨w.heap.size + 1, 0, none⟩ (.int .i64 n)).setCell ⟨w.heap.size + 1 + 1, 0, none⟩ (.int .i64 g)) n g ∧
    KeepT (H + 2) [w.heap.size, w.heap.size + 1, w.heap.size + 2, w.heap.size + 3, w.heap.size + 4] W (((W.setCell ⟨w.heap.size, 0, none⟩ (.slice none 0 0)).setCell ⟨w.heap.size + 1, 0, none⟩ (.int .i64 n)).setCell ⟨w.heap.size + 1 + 1, 0, none⟩ (.int .i64 g)) := by
  obtain ⟨h0, ha, hb, hc, hd, he⟩ := h
  have m1 : Tn.Mod [w.heap.size] W (W.setCell ⟨w.heap.size, 0, none⟩ (.slice none 0 0)) := (Mod.refl _ W).setCell (.inl (by simp)) _
  have a1 := ha.set_ 0 (.slice none 0 0)
  have b1 := hb.mod m1 (by simp)
  have c1 := hc.mod m1 (by simp)
  generalize W.setCell ⟨w.heap.size, 0, none⟩ (.slice none 0 0) = W1 at *
  have m2 : Tn.Mod [w.heap.size + 1] W1 (W1.setCell ⟨w.heap.size + 1, 0, none⟩ (.int .i64 n)) := (Mod.refl _ W1).setCell (.inl (by simp)) _
  have a2 := a1.mod m2 (by simp)
  have b2 := b1.set_ 0 (.int .i64 n)
  have c2 := c1.mod m2 (by simp)
  generalize W1.setCell ⟨w.heap.size + 1, 0, none⟩ (.int .i64 n) = W2 at *
  have m3 : Tn.Mod [w.heap.size + 1 + 1] W2 (W2.setCell ⟨w.heap.size + 1 + 1, 0, none⟩ (.int .i64 g)) := (Mod.refl _ W2).setCell (.inl (by simp)) _
  have a3 := a2.mod m3 (by simp; omega)
  have b3 := b2.mod m3 (by simp)
  have c3 := c2.set_ 0 (.int .i64 g)
  generalize W2.setCell ⟨w.heap.size + 1 + 1, 0, none⟩ (.int .i64 g) = W3 at *
  have s1 := m1.size
  have s2 := m2.size
  refine ⟨⟨((h0.trans m1 (by simp)).trans m2 (by simp)).trans m3 (by simp; omega), by simpa using a3, by simpa using b3, by simpa using c3⟩, ?_⟩
  exact ((KeepT.of_mod m1 (by omega) (by simp)).trans (KeepT.of_mod m2 (by omega) (by simp))).trans (KeepT.of_mod m3 (by omega) (by simp))
theorem PSt.mod0 (h : PSt w W H k) (hm : Tn.Mod [] W W') : PSt w W' H k := by
  obtain ⟨h0, ha, hb, hc, ⟨v, xs, hd, hx⟩, ⟨n, he⟩⟩ := h
  exact ⟨h0.andThen hm, ha.mod hm (by simp), hb.mod hm (by simp), hc.mod hm (by simp), ⟨v, xs, hd.mod hm (by simp), ownsRow_of_heap' hx fun b hb => hm.block b (hx.lt b hb).2 (by simp)⟩, ⟨n, he.mod hm (by simp)⟩⟩
theorem PSt.drew (h : PSt w W H k) : PSt w W.drew H k := h.mod0 ((Mod.refl [] W).drew)
/-- The three stores of the results. -/
theorem res3 {B : Nat} {x0 x1 x2 v n g : Value} (ha : Blk W B 22 #[x0]) (hb : Blk W (B + 1) 3 #[x1]) (hc : Blk W (B + 2) 25 #[x2]) :
    Blk (((W.setCell ⟨B, 0, none⟩ v).setCell ⟨B + 1, 0, none⟩ n).setCell ⟨B + 1 + 1, 0, none⟩ g) B 22 #[v] ∧ Blk (((W.setCell ⟨B, 0, none⟩ v).setCell ⟨B + 1, 0, none⟩ n).setCell ⟨B + 1 + 1, 0, none⟩ g) (B + 1) 3 #[n] ∧ Blk (((W.setCell ⟨B, 0, none⟩ v).setCell ⟨B + 1, 0, none⟩ n).setCell ⟨B + 1 + 1, 0, none⟩ g) (B + 2) 25 #[g] := by
  have m1 : Tn.Mod [B] W (W.setCell ⟨B, 0, none⟩ v) := (Mod.refl _ W).setCell (.inl (by simp)) _
  have a1 := ha.set_ 0 v
  have b1 := hb.mod m1 (by simp)
  have c1 := hc.mod m1 (by simp)
  generalize W.setCell ⟨B, 0, none⟩ v = W1 at *
  have m2 : Tn.Mod [B + 1] W1 (W1.setCell ⟨B + 1, 0, none⟩ n) := (Mod.refl _ W1).setCell (.inl (by simp)) _
  have a2 := a1.mod m2 (by simp)
  have b2 := b1.set_ 0 n
  have c2 := c1.mod m2 (by simp)
  generalize W1.setCell ⟨B + 1, 0, none⟩ n = W2 at *
  have m3 : Tn.Mod [B + 1 + 1] W2 (W2.setCell ⟨B + 1 + 1, 0, none⟩ g) := (Mod.refl _ W2).setCell (.inl (by simp)) _
  have a3 := a2.mod m3 (by simp; omega)
  have b3 := b2.mod m3 (by simp)
  have c3 := c2.set_ 0 g
  exact ⟨by simpa using a3, by simpa using b3, by simpa using c3⟩
/-- What an append to the list leaves. -/
theorem PSt.app {n : Int} {o : Obj} {row : Option Nat} (h : PSt w W H k) (hH : w.heap.size + 5 ≤ H) (hW : H + 2 ≤ W.heap.size) (hl : ∃ v, Blk W (w.heap.size + 3) 22 #[v]) (hn : Blk W (w.heap.size + 4) 3 #[.int .i64 n]) (hg : (W.alloc o).grownBy W' row) (hr : ∀ b, row = some b → H + 2 ≤ b) :
    Tn.Mod [] w W' ∧ KeepT (H + 2) [] W W' ∧ Blk W' w.heap.size 22 #[.slice none 0 0] ∧ Blk W' (w.heap.size + 1) 3 #[.int .i64 0] ∧ Blk W' (w.heap.size + 2) 25 #[.int .i64 0] ∧ (∃ v, Blk W' (w.heap.size + 3) 22 #[v]) ∧ Blk W' (w.heap.size + 4) 3 #[.int .i64 n] ∧ H + 2 ≤ W'.heap.size := by
  obtain ⟨h0, ha, hb, hc, hd, he⟩ := h
  have hM : Tn.Mod (match row with | some b => [b] | none => []) W W' := ((Mod.refl _ W).alloc o).grown hg (by intro b hb; subst hb; simp)
  have hK : KeepT (H + 2) [] W W' := KeepT.of_mod hM hW (by
    intro b hb
    cases row with
    | none => simp at hb
    | some r => simp at hb; subst hb; exact .inr (hr _ rfl))
  refine ⟨h0.trans hM ?_, hK, hK.blk ha (by omega) (by simp), hK.blk hb (by omega) (by simp), hK.blk hc (by omega) (by simp), ?_, hK.blk hn (by omega) (by simp), Nat.le_trans hW hK.size⟩
  · intro b hb
    cases row with
    | none => simp at hb
    | some r => simp at hb; subst hb; have := hr _ rfl; right; omega
  · obtain ⟨v, hv⟩ := hl
    exact ⟨v, hK.blk hv (by omega) (by simp)⟩
/-- The list's cell and the place's cell are set. -/
theorem PSt.next {v : Value} {xs : List Value} {n m : Int} (h0 : Tn.Mod [] w W) (hH : w.heap.size + 5 ≤ H) (hW : H + 2 ≤ W.heap.size) (ha : Blk W w.heap.size 22 #[.slice none 0 0]) (hb : Blk W (w.heap.size + 1) 3 #[.int .i64 0]) (hc : Blk W (w.heap.size + 2) 25 #[.int .i64 0])
    (hd : ∃ v, Blk W (w.heap.size + 3) 22 #[v]) (he : Blk W (w.heap.size + 4) 3 #[.int .i64 n]) (hx : W.ownsRow (H + 2) 9 1 v (k + 1) xs) :
    PSt w ((W.setCell ⟨w.heap.size + 1 + 1 + 1, 0, none⟩ v).setCell ⟨w.heap.size + 1 + 1 + 1 + 1, 0, none⟩ (.int .i64 m)) H (k + 1) ∧
    KeepT (H + 2) [w.heap.size, w.heap.size + 1, w.heap.size + 2, w.heap.size + 3, w.heap.size + 4] W ((W.setCell ⟨w.heap.size + 1 + 1 + 1, 0, none⟩ v).setCell ⟨w.heap.size + 1 + 1 + 1 + 1, 0, none⟩ (.int .i64 m)) := by
  obtain ⟨v0, hd⟩ := hd
  have m1 : Tn.Mod [w.heap.size + 3] W (W.setCell ⟨w.heap.size + 1 + 1 + 1, 0, none⟩ v) := (Mod.refl _ W).setCell (.inl (by simp)) _
  have a1 := ha.mod m1 (by simp)
  have b1 := hb.mod m1 (by simp)
  have c1 := hc.mod m1 (by simp)
  have d1 := hd.set_ 0 v
  have e1 := he.mod m1 (by simp)
  have x1 := ownsRow_of_heap' hx fun b hb => m1.block b (hx.lt b hb).2 (by have := (hx.lt b hb).1; simp; omega)
  generalize W.setCell ⟨w.heap.size + 1 + 1 + 1, 0, none⟩ v = W1 at *
  have m2 : Tn.Mod [w.heap.size + 4] W1 (W1.setCell ⟨w.heap.size + 1 + 1 + 1 + 1, 0, none⟩ (.int .i64 m)) := (Mod.refl _ W1).setCell (.inl (by simp)) _
  have a2 := a1.mod m2 (by simp)
  have b2 := b1.mod m2 (by simp)
  have c2 := c1.mod m2 (by simp)
  have d2 := d1.mod m2 (by simp)
  have e2 := e1.set_ 0 (.int .i64 m)
  have x2 := ownsRow_of_heap' x1 fun b hb => m2.block b (x1.lt b hb).2 (by have := (x1.lt b hb).1; simp; omega)
  generalize W1.setCell ⟨w.heap.size + 1 + 1 + 1 + 1, 0, none⟩ (.int .i64 m) = W2 at *
  have s1 := m1.size
  refine ⟨⟨(h0.trans m1 (by simp)).trans m2 (by simp), a2, b2, c2, ⟨v, xs, by simpa using d2, x2⟩, ⟨m, by simpa using e2⟩⟩, ?_⟩
  exact (KeepT.of_mod m1 (by omega) (by simp)).trans (KeepT.of_mod m2 (by omega) (by simp))
end

theorem ps_ret {w W : World} {b2 b3 b4 : Nat} {v : Value} {n g : Int} {tmps : Array Value} (t2 : tmps[2]? = some (.pointer (some ⟨b2, 0, none⟩))) (t3 : tmps[3]? = some (.pointer (some ⟨b3, 0, none⟩))) (t4 : tmps[4]? = some (.pointer (some ⟨b4, 0, none⟩)))
    (h2 : W.cell? ⟨b2, 0, none⟩ = some v) (h3 : W.cell? ⟨b3, 0, none⟩ = some (.int .i64 n)) (h4 : W.cell? ⟨b4, 0, none⟩ = some (.int .i64 g)) (hm : Tn.Mod [] w W) :
    LeavesIn Fence.wide 6 Tryd.prog Tryd.f19 tmps (fun e w' => ParseOk e g ∧ Tn.Mod [] w w') [] .returning W := by
  refine ⟨.tuple #[v, .int .i64 n, .int .i64 g], ?_, ⟨_, _, rfl⟩, hm⟩
  simp [results, Tryd.results19, go_sem, t2, t3, t4, h2, h3, h4]

set_option maxRecDepth 100000 in
set_option maxHeartbeats 4000000 in
theorem parse_f (s : ByteArray) (w : World) : Calls Tryd.prog 19 #[.string s] w fun e w' => ParseOk e (parseE s.data.toList) ∧ Tn.Mod [] w w' := by
  refine (callsIn_wide (n := 6)).1 ?_
  refine callsIn_of_wp_marks Tryd.func19 rfl trivial ?_ rfl
  simp only [Tryd.ntmps19, List.size_toArray, List.length_cons, List.length_nil, Nat.reduceAdd, Nat.reduceSub, Array.replicate_succ, Array.replicate_zero, List.push_toArray, List.append_toArray, List.nil_append, List.cons_append]
  have hM3 : ∀ a b c, Tn.Mod [] w (((w.alloc a).alloc b).alloc c) := fun a b c => (((Mod.refl [] w).alloc _).alloc _).alloc _
  have HM3 := hid hM3
  clear hM3
  by_cases h1 : 256 < s.size
  · rw [show parseE s.data.toList = 2 by unfold parseE; rw [if_pos (by simpa using h1)]]
    have h1I : (256 : Int) < s.size := by omega
    gi_wp2
    exact ps_ret (v := .slice none 0 0) (n := 0) rfl rfl rfl (by simp [go_sem]) (by simp [go_sem]) (by simp [go_sem]) (HM3.out _ _ _)
  cases hpf : Lib.hasPrefix s.data.toList [47]
  · rw [show parseE s.data.toList = 90 by unfold parseE; rw [if_neg (by simpa using h1), if_pos hpf]]
    have h1I : ¬ (256 : Int) < s.size := by omega
    gi_wp2_with (refine ⟨trivial, ?_⟩; gi_at_call 30; refine (callsIn_wide.2 (Tryd.strings_HasPrefix s ⟨#[47]⟩ _)).mono ?_; rintro e w' ⟨rfl, rfl⟩; rw [hpf])
    exact ps_ret (v := .slice none 0 0) (n := 0) rfl rfl rfl (by simp [go_sem]) (by simp [go_sem]) (by simp [go_sem]) (HM3.out _ _ _)
  by_cases h47 : s = ⟨#[47]⟩
  · subst h47
    rw [show parseE _ = 0 by unfold parseE; rw [if_neg (by decide), if_neg (by rw [hpf]; simp), if_pos rfl]]
    gi_wp2_with (refine ⟨trivial, ?_⟩; gi_at_call 30; refine (callsIn_wide.2 (Tryd.strings_HasPrefix ⟨#[47]⟩ ⟨#[47]⟩ _)).mono ?_; rintro e w' ⟨rfl, rfl⟩; rw [hpf])
    exact ps_ret (v := .slice none 0 0) (n := 0) rfl rfl rfl (by simp [go_sem]) (by simp [go_sem]) (by simp [go_sem]) (HM3.out _ _ _)
  have h1I : ¬ (256 : Int) < s.size := by omega
  have hb47 : (s.toList == [47]) = false := beq_eq_false_iff_ne.2 (fun hc => h47 (by rw [Lib.toList_data] at hc; rw [← ba_toList s, hc]; rfl))
  have h1s : 1 ≤ s.size := by
    rcases Nat.eq_zero_or_pos s.size with h | h
    · exfalso
      have : s.data.toList = [] := by apply List.eq_nil_of_length_eq_zero; simpa using h
      rw [this] at hpf
      simp [Lib.hasPrefix] at hpf
    · exact h
  have hpe : parseE s.data.toList = partsE (splitL s.data.toList.tail) 0 := by
    unfold parseE; rw [if_neg (by simpa using h1), if_neg (by rw [hpf]; simp), if_neg (by intro hc; exact h47 (by rw [← ba_toList s, hc]; rfl))]
  have htl : (s.extract 1 s.size).data.toList = s.data.toList.tail := by
    simp
    rw [List.take_of_length_le (by simp)]
  rw [hpe, ← htl]
  clear hpe htl
  generalize hPP : splitL (s.extract 1 s.size).data.toList = P
  obtain ⟨pf, hpf2⟩ : ∃ pf : Nat → ByteArray, ∀ k, pf k = ba (P.getD k []) := ⟨_, fun _ => rfl⟩
  gi_wp2_with (refine ⟨trivial, ?_⟩; first
    | (gi_at_call 30; refine (callsIn_wide.2 (Tryd.strings_HasPrefix s ⟨#[47]⟩ _)).mono ?_; rintro e w' ⟨rfl, rfl⟩; rw [hpf])
    | (gi_at_call 31; refine (callsIn_wide.2 (splitseq_f _ _)).mono ?_; rintro e w' ⟨b1, b2, b3, rfl, hs⟩; replace hs := hid hs))
  obtain ⟨e1, e2, e3, hne, l1, l2, l3, hmS⟩ := hs.out
  clear hs
  simp only [World.size_alloc] at l1 l2 l3
  have hHB : w.heap.size + 5 ≤ w'.heap.size := by have := e2.lt; omega
  have hP0 : PSt w w' w'.heap.size 0 := by
    have g0 := Blk.new w 22 #[.slice none 0 0]
    have g1 := Blk.new (w.alloc (.cells #[.slice none 0 0] 22)) 3 #[.int .i64 0]
    have g2 := Blk.new ((w.alloc (.cells #[.slice none 0 0] 22)).alloc (.cells #[.int .i64 0] 3)) 25 #[.int .i64 0]
    have g3 := Blk.new (((w.alloc (.cells #[.slice none 0 0] 22)).alloc (.cells #[.int .i64 0] 3)).alloc (.cells #[.int .i64 0] 25)) 22 #[.slice none 0 0]
    have g4 := Blk.new ((((w.alloc (.cells #[.slice none 0 0] 22)).alloc (.cells #[.int .i64 0] 3)).alloc (.cells #[.int .i64 0] 25)).alloc (.cells #[.slice none 0 0] 22)) 3 #[.int .i64 1]
    simp only [World.size_alloc] at g0 g1 g2 g3 g4
    have ms : ∀ W a, Tn.Mod [] W (World.alloc W a) := fun W a => (Mod.refl [] W).alloc a
    refine ⟨(((((((Mod.refl [] w).alloc _).alloc _).alloc _).alloc _).alloc _).andThen hmS), ((((g0.mod (ms _ _) (by simp)).mod (ms _ _) (by simp)).mod (ms _ _) (by simp)).mod (ms _ _) (by simp)).mod hmS (by simp), (((g1.mod (ms _ _) (by simp)).mod (ms _ _) (by simp)).mod (ms _ _) (by simp)).mod hmS (by simp),
      ((g2.mod (ms _ _) (by simp)).mod (ms _ _) (by simp)).mod hmS (by simp), ⟨.slice none 0 0, [], (g3.mod (ms _ _) (by simp)).mod hmS (by simp), ⟨by simp, .inl ⟨rfl, rfl⟩⟩⟩, ⟨1, g4.mod hmS (by simp)⟩⟩
  have hsq : ∀ T, b1 ∉ T → b2 ∉ T → b3 ∉ T → Iter 5 Tryd.prog 66 #[.pointer (some ⟨b1, 0, none⟩), .pointer (some ⟨b2, 0, none⟩), .pointer (some ⟨b3, 0, none⟩)] (fun k => #[.string (pf k)]) P.length b2 T w' := fun T t1 t2 t3 => by
    have h := split_iter 5 (by omega) (s.extract 1 s.size) (by simp; omega) b1 b2 b3 T w' e1 e2 e3 hne t1 t2 t3
    rw [hPP] at h
    have he : (fun k => #[Value.string (pf k)]) = fun k => #[Value.string (ba (P.getD k []))] := by funext k; rw [hpf2]
    rw [he]
    exact h
  have HPF := hid hpf2
  clear hpf2
  refine wpIn_range_box (by omega) (gf := 66) (lb := #[.pointer (some ⟨b1, 0, none⟩), .pointer (some ⟨b2, 0, none⟩), .pointer (some ⟨b3, 0, none⟩)]) rfl (enters_of Tryd.func66 (by kernel_rfl) rfl)
    (fun k => #[.string (pf k)]) (P).length b2
    [w.heap.size, w.heap.size + 1, w.heap.size + 2, w.heap.size + 3, w.heap.size + 4] ?hS
    (hsq _ ?t1 ?t2 ?t3) (fun _ => rfl)
    (fun k W => k ≤ 8 ∧ partsE ((P).drop k) k = partsE (P) 0 ∧ PSt w W w'.heap.size k)
    (fun W => ∃ n, RSt w W n (partsE (P) 0)) ?hI ?hR e2.lt ⟨by omega, rfl, hP0⟩
    (fun k => { tmps := #[.string s, undef, .pointer (some ⟨w.heap.size, 0, none⟩), .pointer (some ⟨w.heap.size + 1, 0, none⟩), .pointer (some ⟨w.heap.size + 1 + 1, 0, none⟩), .pointer (some ⟨w.heap.size + 1 + 1 + 1, 0, none⟩), .pointer (some ⟨w.heap.size + 1 + 1 + 1 + 1, 0, none⟩),
      .string (pf k), undef, undef, .bool false, .string s, .int .i64 s.size, .bool false, .bool false, .string s, .bool true, .bool false, .bool false, .string s, .bool false, .string s, .string (s.extract 1 s.size),
      .func (.func 66) #[] #[.pointer (some ⟨b1, 0, none⟩), .pointer (some ⟨b2, 0, none⟩), .pointer (some ⟨b3, 0, none⟩)], .string (pf k),
      undef, undef, undef, undef, undef, undef, undef, undef, undef, undef, undef, undef, undef, undef, undef, undef, undef, undef, undef, undef, undef, undef, undef, undef, undef], defers := [] }) ?assign ?body ?done ?stop
  case hS =>
    have := hmS.size
    simp only [World.size_alloc] at this
    intro t ht
    simp at ht
    omega
  case t1 =>
    have := e1.lt
    simp; omega
  case t2 =>
    have := e2.lt
    simp; omega
  case t3 =>
    have := e3.lt
    simp; omega
  case hI =>
    rintro k W W' ⟨h8, hq, hP⟩ hm
    exact ⟨h8, hq, hP.turn hm l2 e2.lt⟩
  case hR =>
    rintro W W' ⟨n, hP⟩ hm
    exact ⟨n, hP.turn hm l2 e2.lt⟩
  case assign =>
    intro l k W K hK
    gi_wp2
    exact hK
  case body =>
    rintro l k W hk hsz ⟨h8, hq, hP⟩
    obtain ⟨pt, hpt⟩ : ∃ pt, (P).getD k [] = pt := ⟨_, rfl⟩
    have hdr : (P).drop k = pt :: (P).drop (k + 1) := by
      rw [← hpt]; exact drop_getD hk
    rw [hdr] at hq
    have hpk : pf k = ba pt := by rw [HPF.out, hpt]
    rw [hpk]
    obtain ⟨v, xs, hl, hx⟩ := hP.l
    obtain ⟨A, cap, rfl⟩ : ∃ A cap, v = .slice A k cap := by
      rcases hx.2 with ⟨rfl, rfl⟩ | ⟨g, cap, cur, rfl, _⟩
      · exact ⟨_, _, rfl⟩
      · exact ⟨_, _, rfl⟩
    have cl := hl.cell 0
    simp only [List.getElem?_toArray, List.getElem?_cons_zero] at cl
    obtain ⟨na, hna⟩ := hP.at_
    have ca := hna.cell 0
    simp only [List.getElem?_toArray, List.getElem?_cons_zero] at ca
    have f0 := hP.r0.frozen 0
    have f1 := hP.r1.frozen 0
    have f2 := hP.r2.frozen 0
    have hmx : Tryd.prog.follows .mixedOrders = true := by kernel_rfl
    by_cases hk8 : k = 8
    · have hpe : partsE P 0 = 2 := by rw [← hq, hk8]; unfold partsE; rw [if_pos rfl]
      have hkI : (k : Int) = 8 := by omega
      have HP := hid hP
      clear hP hq hx hl hna
      gi_wp2
      refine wpIn_region_plainL (S := fun w' => w'.cell? ⟨w.heap.size + 1 + 1 + 1 + 1, 0, none⟩ = some (.int .i64 na)) hmx ?_ ?_
      · exact List.forall_mem_cons.2 ⟨plain_load _ _ rfl, List.forall_mem_cons.2 ⟨plain_store _ _ _ rfl, List.forall_mem_cons.2 ⟨plain_store _ _ _ rfl, List.forall_mem_cons.2 ⟨plain_store _ _ _ rfl, fun _ h => by cases h⟩⟩⟩⟩
      have HF := hid (HP.out.drew.fail (by omega) hsz na 2)
      have hS0 : (fun w' : World => w'.cell? ⟨w.heap.size + 1 + 1 + 1 + 1, 0, none⟩ = some (.int .i64 na)) W.drew := ca
      have q0 : W.drew.cell? ⟨w.heap.size, 0, none⟩ = some (.slice none 0 0) := by have := HP.out.drew.r0.cell 0; simpa using this
      have q1 : W.drew.cell? ⟨w.heap.size + 1, 0, none⟩ = some (.int .i64 0) := by have := HP.out.drew.r1.cell 0; simpa using this
      have q2 : W.drew.cell? ⟨w.heap.size + 1 + 1, 0, none⟩ = some (.int .i64 0) := by have := HP.out.drew.r2.cell 0; simpa using this
      have g0 := HP.out.drew.r0.frozen 0
      have g1 := HP.out.drew.r1.frozen 0
      have g2 := HP.out.drew.r2.frozen 0
      have hKo : KeepT (w'.heap.size + 2) [w.heap.size, w.heap.size + 1, w.heap.size + 2, w.heap.size + 3, w.heap.size + 4] W W.drew := KeepT.of_mod (S := []) ((Mod.refl [] W).drew) (by omega) (by simp)
      clear f0 f1 f2 cl
      replace ca : W.drew.cell? ⟨w.heap.size + 1 + 1 + 1 + 1, 0, none⟩ = some (.int .i64 na) := ca
      generalize W.drew = V at *
      refine wpAnyH_take (i := 0) (v := ?_) (drop_get rfl) (by kernel_rfl) (by kernel_rfl) (by kernel_rfl) (fun _ _ _ h => h) (Or.inl ⟨by rfl, ?_⟩) hS0 ?_
      rotate_left
      · intro w9 hS9
        have k1 : w9.cell? ⟨w.heap.size + 1 + 1 + 1 + 1, 0, none⟩ = some (.int .i64 na) := hS9
        go_simp
        try with_reducible rfl
      simp only [Act.put, List.setIfInBounds_toArray, List.set_cons_zero, List.set_cons_succ]
      refine wpAnyH_ready (rs := [1]) (by kernel_rfl) (by simp) ?_
      refine AllReadyH.cons (drop_get rfl) (fun K hK => ?_) AllReadyH.nil
      go_simp
      refine hK _ _ (by show World.cell? _ _ = _; simp [go_sem, ca]) ?_
      clear hK K
      intro _
      refine wpAnyH_ready (rs := [2]) (by kernel_rfl) (by simp) ?_
      refine AllReadyH.cons (drop_get rfl) (fun K hK => ?_) AllReadyH.nil
      go_simp
      refine hK _ _ (by show World.cell? _ _ = _; simp [go_sem, ca]) ?_
      clear hK K
      intro _
      refine wpAnyH_ready (rs := [3]) (by kernel_rfl) (by simp) ?_
      refine AllReadyH.cons (drop_get rfl) (fun K hK => ?_) AllReadyH.nil
      go_simp
      refine hK _ _ (by show World.cell? _ _ = _; simp [go_sem, ca]) ?_
      clear hK K
      intro _
      refine wpAnyH_done (by kernel_rfl) ?_ _
      simp only [Inner, Exit.then]
      gi_wp2
      exact ⟨hKo.trans HF.out.2, na, by rw [hpe]; exact HF.out.1⟩
    · have hk8I : ¬ (k : Int) = 8 := by omega
      have hkb : ((k : Int) == 8) = false := by simpa using hk8I
      by_cases hn0 : nameE pt 0 = 0
      · have hq2 : partsE (P.drop (k + 1)) (k + 1) = partsE P 0 := by
          rw [← hq]
          conv => rhs; unfold partsE
          rw [if_neg hk8, if_neg (by simpa using hn0)]
        have HP := hid hP
        have HQ2 := hid hq2
        have HX := hid hx
        have HL := hid hl
        have HN := hid hna
        obtain ⟨i0, hi, hz0, hz1, hz2⟩ := info_parts info9
        clear hP hq hx hl hna f0 f1 f2 hq2
        gi_wp2_with (first
          | (refine ⟨trivial, ?_⟩; gi_at_call 32; refine (CallsIn.inRound l (callsIn_wide.2 (name_f (ba pt) W))).mono ?_; rintro e w9 ⟨⟨at_, rfl⟩, hm9⟩; rw [toList_ba, hn0]; have HQ := hid (HP.out.mod0 hm9); have HB3 := hid (show ∃ v, Blk w9 (w.heap.size + 3) 22 #[v] from ⟨_, HL.out.mod hm9 (by simp)⟩); have HB4 := hid (HN.out.mod hm9 (by simp)); have c9l : w9.cell? ⟨w.heap.size + 1 + 1 + 1, 0, none⟩ = some (.slice A k cap) := (by rw [hm9.cell (by have := hm9.size; simp; omega) (by simp)]; exact cl); have c9a : w9.cell? ⟨w.heap.size + 1 + 1 + 1 + 1, 0, none⟩ = some (.int .i64 na) := (by rw [hm9.cell (by have := hm9.size; simp; omega) (by simp)]; exact ca); have hx9 := ownsRow_of_heap' HX.out fun b hb => hm9.block b (HX.out.lt b hb).2 (by simp); replace hm9 := hid hm9)
          | (gi_at_builtin; refine wpListIn_append_own _ rfl _ _ 22 rfl (w'.heap.size + 2) 9 i0 _ 1 16 Tryd.underlying22 hi hz0 hz1 hz2 rfl (by decide) _ _ _ rfl (hx9.alloc _) ⟨w9.heap.size, 0, none⟩ 1 1 [.string (ba pt)] rfl rfl ?c1 ?c2 ?c3 ?c4 ?c5 ?_))
        case c1 =>
          intro j u hj
          match j, hj with
          | 0, hj => simp at hj; subst hj; simp [Addr.add]
        case c2 => intro u hu; simp at hu; subst hu; rfl
        case c3 => unfold maxLen; omega
        case c4 => omega
        case c5 => have := hm9.out.size; simp; omega
        intro v' w1 hown' hgrow _
        obtain ⟨G, cap2, hv'⟩ : ∃ G cap2, v' = .slice G (k + 1) cap2 := by
          rcases hown'.2 with ⟨_, h0⟩ | ⟨g2, cap2, cur2, h3, _⟩
          · omega
          · exact ⟨_, _, h3⟩
        subst hv'
        obtain ⟨p0, p1, p2, p3, p4, p5, p6, p7⟩ := HQ.out.app (by omega) (Nat.le_trans hsz hm9.out.size) HB3.out HB4.out hgrow (fun b hb => (hx9.lt b hb).1)
        have hfin := hid (fun m => PSt.next (m := m) p0 (by omega) p7 p2 p3 p4 p5 p6 hown')
        have K9 : KeepT (w'.heap.size + 2) [w.heap.size, w.heap.size + 1, w.heap.size + 2, w.heap.size + 3, w.heap.size + 4] W w1 := (KeepT.of_mod hm9.out (by omega) (by simp)).trans (p1.mono (Nat.le_refl _) (by simp))
        obtain ⟨v3, p5⟩ := p5
        have q5 := p5.cell 0
        have q6 := p6.cell 0
        have f5 := p5.frozen 0
        have f6 := p6.frozen 0
        simp only [List.getElem?_toArray, List.getElem?_cons_zero] at q5 q6
        have HK9 := hid K9
        clear p0 p1 p2 p3 p4 p5 p6 p7 K9 hown' hgrow hx9 c9l c9a
        gi_wp2
        exact ⟨HK9.out.trans (hfin.out _).2, by omega, HQ2.out, (hfin.out _).1⟩
      · have hpe : partsE P 0 = nameE pt 0 := by rw [← hq]; unfold partsE; rw [if_neg hk8, if_pos hn0]
        have hnb : (nameE pt 0 == 0) = false := by simpa using hn0
        have HP := hid hP
        clear hP hq hx hl hna f0 f1 f2
        gi_wp2_with (refine ⟨trivial, ?_⟩; gi_at_call 32; refine (CallsIn.inRound l (callsIn_wide.2 (name_f (ba pt) W))).mono ?_; rintro e w9 ⟨⟨at_, rfl⟩, hm9⟩; rw [toList_ba]; replace hm9 := hid hm9)
        have HQ := hid (HP.out.mod0 hm9.out)
        have hsz9 : w'.heap.size + 2 ≤ w9.heap.size := Nat.le_trans hsz hm9.out.size
        have ca9 : w9.cell? ⟨w.heap.size + 1 + 1 + 1 + 1, 0, none⟩ = some (.int .i64 na) := by rw [hm9.out.cell (by have := hm9.out.size; simp; omega) (by simp)]; exact ca
        have hK9 : KeepT (w'.heap.size + 2) [w.heap.size, w.heap.size + 1, w.heap.size + 2, w.heap.size + 3, w.heap.size + 4] W w9 := KeepT.of_mod hm9.out (by omega) (by simp)
        clear HP hm9 ca cl
        refine wpIn_region_plainL (S := fun w' => w'.cell? ⟨w.heap.size + 1 + 1 + 1 + 1, 0, none⟩ = some (.int .i64 na)) hmx ?_ ?_
        · exact List.forall_mem_cons.2 ⟨plain_load _ _ rfl, List.forall_mem_cons.2 ⟨plain_move _ rfl, List.forall_mem_cons.2 ⟨plain_bin _ _ _ _ _ rfl, List.forall_mem_cons.2 ⟨plain_move _ rfl, List.forall_mem_cons.2 ⟨plain_store _ _ _ rfl, List.forall_mem_cons.2 ⟨plain_store _ _ _ rfl, List.forall_mem_cons.2 ⟨plain_store _ _ _ rfl, fun _ h => by cases h⟩⟩⟩⟩⟩⟩⟩
        have HF := hid (HQ.out.drew.fail (by omega) hsz9)
        have hS0 : (fun w' : World => w'.cell? ⟨w.heap.size + 1 + 1 + 1 + 1, 0, none⟩ = some (.int .i64 na)) w9.drew := ca9
        have q0 : w9.drew.cell? ⟨w.heap.size, 0, none⟩ = some (.slice none 0 0) := by have := HQ.out.drew.r0.cell 0; simpa using this
        have q1 : w9.drew.cell? ⟨w.heap.size + 1, 0, none⟩ = some (.int .i64 0) := by have := HQ.out.drew.r1.cell 0; simpa using this
        have q2 : w9.drew.cell? ⟨w.heap.size + 1 + 1, 0, none⟩ = some (.int .i64 0) := by have := HQ.out.drew.r2.cell 0; simpa using this
        have g0 := HQ.out.drew.r0.frozen 0
        have g1 := HQ.out.drew.r1.frozen 0
        have g2 := HQ.out.drew.r2.frozen 0
        replace ca9 : w9.drew.cell? ⟨w.heap.size + 1 + 1 + 1 + 1, 0, none⟩ = some (.int .i64 na) := ca9
        have hKo : KeepT (w'.heap.size + 2) [w.heap.size, w.heap.size + 1, w.heap.size + 2, w.heap.size + 3, w.heap.size + 4] W w9.drew := hK9.trans (KeepT.of_mod (S := []) ((Mod.refl [] w9).drew) (by omega) (by simp))
        generalize w9.drew = V at *
        refine wpAnyH_take (i := 0) (v := ?_) (drop_get rfl) (by kernel_rfl) (by kernel_rfl) (by kernel_rfl) (fun _ _ _ h => h) (Or.inl ⟨by rfl, ?_⟩) hS0 ?_
        rotate_left
        · intro w8 hS8
          have k1 : w8.cell? ⟨w.heap.size + 1 + 1 + 1 + 1, 0, none⟩ = some (.int .i64 na) := hS8
          go_simp
          try with_reducible rfl
        simp only [Act.put, List.setIfInBounds_toArray, List.set_cons_zero, List.set_cons_succ]
        refine wpAnyH_take (i := 1) (v := ?_) (drop_get rfl) (by kernel_rfl) (by kernel_rfl) (by kernel_rfl) (fun _ _ _ h => h) (Or.inl ⟨by rfl, ?_⟩) hS0 ?_
        rotate_left
        · intro w8 hS8
          have k1 : w8.cell? ⟨w.heap.size + 1 + 1 + 1 + 1, 0, none⟩ = some (.int .i64 na) := hS8
          go_simp
          try with_reducible rfl
        simp only [Act.put, List.setIfInBounds_toArray, List.set_cons_zero, List.set_cons_succ]
        refine wpAnyH_take (i := 2) (v := ?_) (drop_get rfl) (by kernel_rfl) (by kernel_rfl) (by kernel_rfl) (fun _ _ _ h => h) (Or.inl ⟨by rfl, ?_⟩) hS0 ?_
        rotate_left
        · intro w8 hS8
          have k1 : w8.cell? ⟨w.heap.size + 1 + 1 + 1 + 1, 0, none⟩ = some (.int .i64 na) := hS8
          go_simp
          try with_reducible rfl
        simp only [Act.put, List.setIfInBounds_toArray, List.set_cons_zero, List.set_cons_succ]
        refine wpAnyH_take (i := 3) (v := ?_) (drop_get rfl) (by kernel_rfl) (by kernel_rfl) (by kernel_rfl) (fun _ _ _ h => h) (Or.inl ⟨by rfl, ?_⟩) hS0 ?_
        rotate_left
        · intro w8 hS8
          have k1 : w8.cell? ⟨w.heap.size + 1 + 1 + 1 + 1, 0, none⟩ = some (.int .i64 na) := hS8
          go_simp
          try with_reducible rfl
        simp only [Act.put, List.setIfInBounds_toArray, List.set_cons_zero, List.set_cons_succ]
        refine wpAnyH_ready (rs := [4]) (by kernel_rfl) (by simp) ?_
        refine AllReadyH.cons (drop_get rfl) (fun K hK => ?_) AllReadyH.nil
        go_simp
        refine hK _ _ (by show World.cell? _ _ = _; simp [go_sem, ca9]) ?_
        clear hK K
        intro _
        refine wpAnyH_ready (rs := [5]) (by kernel_rfl) (by simp) ?_
        refine AllReadyH.cons (drop_get rfl) (fun K hK => ?_) AllReadyH.nil
        go_simp
        refine hK _ _ (by show World.cell? _ _ = _; simp [go_sem, ca9]) ?_
        clear hK K
        intro _
        refine wpAnyH_ready (rs := [6]) (by kernel_rfl) (by simp) ?_
        refine AllReadyH.cons (drop_get rfl) (fun K hK => ?_) AllReadyH.nil
        go_simp
        refine hK _ _ (by show World.cell? _ _ = _; simp [go_sem, ca9]) ?_
        clear hK K
        intro _
        refine wpAnyH_done (by kernel_rfl) ?_ _
        simp only [Inner, Exit.then]
        gi_wp2
        exact ⟨hKo.trans (HF.out _ _).2, _, by rw [hpe]; exact (HF.out _ _).1⟩
  case done =>
    rintro D W hD ⟨h8, hq, hP⟩ hK
    rw [List.drop_length] at hq
    have hq0 : partsE P 0 = 0 := by rw [← hq]; rfl
    obtain ⟨v, xs, hl, hx⟩ := hP.l
    obtain ⟨A, cap, rfl⟩ : ∃ A cap, v = .slice A P.length cap := by
      rcases hx.2 with ⟨rfl, h0⟩ | ⟨g, cap, cur, rfl, _⟩
      · exact ⟨_, _, by rw [h0]⟩
      · exact ⟨_, _, rfl⟩
    have cl := hl.cell 0
    have M3 : ∀ a b c, Tn.Mod [w.heap.size, w.heap.size + 1, w.heap.size + 1 + 1] W (((W.setCell ⟨w.heap.size, 0, none⟩ a).setCell ⟨w.heap.size + 1, 0, none⟩ b).setCell ⟨w.heap.size + 1 + 1, 0, none⟩ c) := fun a b c =>
      (((Mod.refl _ W).setCell (.inl (by simp)) _).setCell (.inl (by simp)) _).setCell (.inl (by simp)) _
    have hDlt : D < W.heap.size := (Array.getElem?_eq_some_iff.1 hK).1
    have HM := hid M3
    clear M3
    have q0 := hP.r0.cell 0
    have q1 := hP.r1.cell 0
    have q2 := hP.r2.cell 0
    have f0 := hP.r0.frozen 0
    have f1 := hP.r1.frozen 0
    have f2 := hP.r2.frozen 0
    simp only [List.getElem?_toArray, List.getElem?_cons_zero] at cl q0 q1 q2
    have HP := hid hP
    clear hP hl hx hq
    gi_wp2
    have m4 := fun V => putObj_mod V D (.deferred none)
    have hb : ∀ (V : World) (q : Addr), q.block < V.heap.size → q.block ≠ D → (V.putObj D (.deferred none)).cell? q = V.cell? q := fun V q h1 h2 => (putObj_mod V D (.deferred none)).cell h1 (by simpa using h2)
    have hBW : w.heap.size + 5 ≤ W.heap.size := by omega
    refine ⟨by simp, .inl ⟨_, _, rfl, run_takeDeferred (((HM.out _ _ _).block D hDlt (by simp; omega)).trans hK), ?_⟩⟩
    rw [hq0]
    obtain ⟨z0, z1, z2⟩ := res3 (v := .slice A P.length cap) (n := .int .i64 0) (g := .int .i64 0) HP.out.r0 HP.out.r1 HP.out.r2
    refine ps_ret rfl rfl rfl ((hb _ _ (by simp; omega) (by simp; omega)).trans (z0.cell 0)) ((hb _ _ (by simp; omega) (by simp; omega)).trans (z1.cell 0)) ((hb _ _ (by simp; omega) (by simp; omega)).trans (z2.cell 0)) ?_
    exact (HP.out.md.trans (HM.out _ _ _) (by simp; omega)).trans (m4 _) (by simp; omega)
  case stop =>
    rintro D W hD ⟨n, hR⟩ hK
    have hm : Tn.Mod [D] W (W.putObj D (.deferred none)) := putObj_mod _ _ _
    have q0 := (hR.r0.mod hm (by simp; omega)).cell 0
    have q1 := (hR.r1.mod hm (by simp; omega)).cell 0
    have q2 := (hR.r2.mod hm (by simp; omega)).cell 0
    simp only [List.getElem?_toArray, List.getElem?_cons_zero] at q0 q1 q2
    have hmd := hid (hR.md.trans hm (by simp; omega))
    clear hR hm
    gi_wp2
    refine ⟨by simp, .inl ⟨_, _, rfl, run_takeDeferred hK, ?_⟩⟩
    exact ps_ret rfl rfl rfl q0 q1 q2 hmd.out
end Go.Proofs.YtlhjocgkmeoheaaDoor
