/-
  Layer 7: event channels: a port is taken; the calls of the law.
-/
import Derived.Test.YtcgeeepjpodopaaEv
namespace Go.Proofs.Ytcgeeepjpodopaa
open Go.RowKit Go.Tn

theorem wpList_index39 {ops : Array Oper} {rest : List Oper} {o : Oper} {a : Act} {w : World} {Q : Exit → Act → World → Prop} (hgd : o.guard = none) (s y : Operand) (ho : o.op = .index 39 s y)
    {A C : Array Value} {n : Int} {i : Nat} (hs : a.eval s = .agg A) (hy : a.eval y = .int .i64 n) (hn : n = (i : Int)) (hi : i < 32) (hC : A.extract (i * 6) (i * 6 + 6) = C)
    (hK : wpList Try.prog ops Q rest (a.put o.dst (.agg C)) w) : wpList Try.prog ops Q (o :: rest) a w :=
  wpList_plain hgd fun _ hK' => by
    unfold Oper.wp execOp
    have hr := index39 A w hi
    rw [hC] at hr
    simp only [ho, hs, hy, hn, Sem.run_bind, Sem.run_pure, Result.andThen_ok, hr]
    exact hK' _ _ hK

section
variable {w w' : World} {x : Nat} {P Q : Pt} {u : Bool}

/-- 'find', where the first port is free. -/
theorem find_f {cs : Array Value} (hb : Blk w x 46 cs) (hs : cs.size = 1545) {o : Nat} (ho : o + 192 ≤ 1545) (hp : PC cs o P) (hk : P.k = 0) :
    Calls Try.prog 21 #[.pointer (some ⟨x, o, none⟩), .func (.func 22) #[] #[]] w fun e w' => e = .returned (.int .i64 0) ∧ Mod [] w w' := by
  have hr : w.rangeAt x o (cs.extract o (o + 192)).toList := World.rangeAt_of_block hb o 192
  have hsz : (Try.prog.info? 39).map (·.size) = some (cs.extract o (o + 192)).toList.length := by rw [size39]; simp; omega
  obtain ⟨A, hA⟩ : ∃ A, cs.extract o (o + 192) = A := ⟨_, rfl⟩
  have hx : A.extract (0 * 6) (0 * 6 + 6) = #[.int .i64 P.k, .int .i64 P.r, .int .i64 P.p, .int .i64 P.v, .bool P.pe, .bool P.ma] := by
    rw [← hA, ← extract_pc hp]
    simp
  rw [hA] at hr hsz
  have HR := hid hr
  have HSZ := hid hsz
  have HX := hid hx
  have HK := hid (show (P.k == 0) = true by simp [hk])
  clear hA hx hr hsz hk hb hs hp
  go_enter Try.func21, Try.ntmps21
  go_wp2_with (refine wpList_load_mid rfl 39 _ rfl x o rfl A.toList _ HR.out Try.underlying39 rfl HSZ.out ?_)
  refine wp_loop_rounds 1 ?_
  rw [rounds_succ]
  go_wp2_with (first
    | (refine wpList_index39 rfl _ _ rfl (i := 0) rfl rfl rfl (by decide) HX.out ?_)
    | (go_at_call 22; refine (isfree P _).mono ?_; rintro e w2 ⟨rfl, hm2⟩; rw [HK.out]; have HM2 := hid hm2; clear hm2))
  go_ret
  exact ⟨rfl, ((Mod.refl [] w).alloc _).andThen HM2.out⟩

/-- 'take' of a side's first port. -/
theorem take0 (h : Ev w x P Q u) (hk : P.k = 0) (X : Pt) :
    Calls Try.prog 15 #[.pointer (some ⟨x, 1, none⟩), X.val] w fun e w' => e = .returned (.tuple #[.int .i64 0, .int .i64 0]) ∧ Ev w' x X Q u ∧ Mod [x] w w' := by
  obtain ⟨cs, hb, hc⟩ := h
  have hm0 : Mod [] w (w.alloc (.cells #[.int .i64 X.k, .int .i64 X.r, .int .i64 X.p, .int .i64 X.v, .bool X.pe, .bool X.ma] 38)) := (Mod.refl [] w).alloc _
  have hf := hid (find_f (hb.mod hm0 (by simp)) hc.s (o := 1) (by decide) hc.p hk)
  have HB := hid hb
  have HC := hid hc
  have hxl := hb.lt
  clear hb hc hm0 hk
  unfold Pt.val
  go_enter Try.func15, Try.ntmps15
  go_wp2_with (go_at_call 21; refine hf.out.mono ?_; rintro e w2 ⟨rfl, hm2⟩; have HM2 := hid hm2; clear hm2)
  have hm := ((Mod.refl [] w).alloc (.cells #[.int .i64 X.k, .int .i64 X.r, .int .i64 X.p, .int .i64 X.v, .bool X.pe, .bool X.ma] 38)).andThen HM2.out
  have hb2 := HB.out.mod hm (by simp)
  have hbv : Blk w2 w.heap.size 38 #[.int .i64 X.k, .int .i64 X.r, .int .i64 X.p, .int .i64 X.v, .bool X.pe, .bool X.ma] := (Blk.new w 38 _).mod HM2.out (by simp)
  have v0 : w2.cell? ⟨w.heap.size, 0, none⟩ = some (.int .i64 X.k) := hbv.cell 0
  have v1 : w2.cell? ⟨w.heap.size, 1, none⟩ = some (.int .i64 X.r) := hbv.cell 1
  have v2 : w2.cell? ⟨w.heap.size, 2, none⟩ = some (.int .i64 X.p) := hbv.cell 2
  have v3 : w2.cell? ⟨w.heap.size, 3, none⟩ = some (.int .i64 X.v) := hbv.cell 3
  have v4 : w2.cell? ⟨w.heap.size, 4, none⟩ = some (.bool X.pe) := hbv.cell 4
  have v5 : w2.cell? ⟨w.heap.size, 5, none⟩ = some (.bool X.ma) := hbv.cell 5
  have c0 := (hb2.cell 1).trans HC.out.p.k
  have f0 := hb2.frozen 1
  have c1 := (hb2.cell 2).trans HC.out.p.r
  have f1 := hb2.frozen 2
  have c2 := (hb2.cell 3).trans HC.out.p.p
  have f2 := hb2.frozen 3
  have c3 := (hb2.cell 4).trans HC.out.p.v
  have f3 := hb2.frozen 4
  have c4 := (hb2.cell 5).trans HC.out.p.pe
  have f4 := hb2.frozen 5
  have c5 := (hb2.cell 6).trans HC.out.p.ma
  have f5 := hb2.frozen 6
  have HB2 := hid hb2
  have HM := hid hm
  clear hb2 hbv hm
  go_still_tail 6, (by kernel_rfl)
  change wpList _ _ _ _ _ w2.drew
  go_wp2
  go_ret2
  have e0 := HC.out.inP (by decide) (by decide) (HC.out.p.setk X.k)
  have e1 := e0.inP (by decide) (by decide) (e0.p.setr X.r)
  have e2 := e1.inP (by decide) (by decide) (e1.p.setp X.p)
  have e3 := e2.inP (by decide) (by decide) (e2.p.setv X.v)
  have e4 := e3.inP (by decide) (by decide) (e3.p.setpe X.pe)
  have e5 := e4.inP (by decide) (by decide) (e4.p.setma X.ma)
  refine ⟨rfl, ⟨_, ((Blk.set_ (Blk.set_ (Blk.set_ (Blk.set_ (Blk.set_ (Blk.set_ HB2.out 1 (.int .i64 X.k)) 2 (.int .i64 X.r)) 3 (.int .i64 X.p)) 4 (.int .i64 X.v)) 5 (.bool X.pe)) 6 (.bool X.ma))).mod ((Mod.refl [] _).drew) (by simp), e5⟩, ?_⟩
  exact (((((((HM.out.mono (T := [x]) (by simp)).setCell (.inl (by simp)) _).setCell (.inl (by simp)) _).setCell (.inl (by simp)) _).setCell (.inl (by simp)) _).setCell (.inl (by simp)) _).setCell (.inl (by simp)) _).drew

/-- 'take' of a side's first port. -/
theorem take1 (h : Ev w x P Q u) (hk : Q.k = 0) (X : Pt) :
    Calls Try.prog 15 #[.pointer (some ⟨x, 194, none⟩), X.val] w fun e w' => e = .returned (.tuple #[.int .i64 0, .int .i64 0]) ∧ Ev w' x P X u ∧ Mod [x] w w' := by
  obtain ⟨cs, hb, hc⟩ := h
  have hm0 : Mod [] w (w.alloc (.cells #[.int .i64 X.k, .int .i64 X.r, .int .i64 X.p, .int .i64 X.v, .bool X.pe, .bool X.ma] 38)) := (Mod.refl [] w).alloc _
  have hf := hid (find_f (hb.mod hm0 (by simp)) hc.s (o := 194) (by decide) hc.q hk)
  have HB := hid hb
  have HC := hid hc
  have hxl := hb.lt
  clear hb hc hm0 hk
  unfold Pt.val
  go_enter Try.func15, Try.ntmps15
  go_wp2_with (go_at_call 21; refine hf.out.mono ?_; rintro e w2 ⟨rfl, hm2⟩; have HM2 := hid hm2; clear hm2)
  have hm := ((Mod.refl [] w).alloc (.cells #[.int .i64 X.k, .int .i64 X.r, .int .i64 X.p, .int .i64 X.v, .bool X.pe, .bool X.ma] 38)).andThen HM2.out
  have hb2 := HB.out.mod hm (by simp)
  have hbv : Blk w2 w.heap.size 38 #[.int .i64 X.k, .int .i64 X.r, .int .i64 X.p, .int .i64 X.v, .bool X.pe, .bool X.ma] := (Blk.new w 38 _).mod HM2.out (by simp)
  have v0 : w2.cell? ⟨w.heap.size, 0, none⟩ = some (.int .i64 X.k) := hbv.cell 0
  have v1 : w2.cell? ⟨w.heap.size, 1, none⟩ = some (.int .i64 X.r) := hbv.cell 1
  have v2 : w2.cell? ⟨w.heap.size, 2, none⟩ = some (.int .i64 X.p) := hbv.cell 2
  have v3 : w2.cell? ⟨w.heap.size, 3, none⟩ = some (.int .i64 X.v) := hbv.cell 3
  have v4 : w2.cell? ⟨w.heap.size, 4, none⟩ = some (.bool X.pe) := hbv.cell 4
  have v5 : w2.cell? ⟨w.heap.size, 5, none⟩ = some (.bool X.ma) := hbv.cell 5
  have c0 := (hb2.cell 194).trans HC.out.q.k
  have f0 := hb2.frozen 194
  have c1 := (hb2.cell 195).trans HC.out.q.r
  have f1 := hb2.frozen 195
  have c2 := (hb2.cell 196).trans HC.out.q.p
  have f2 := hb2.frozen 196
  have c3 := (hb2.cell 197).trans HC.out.q.v
  have f3 := hb2.frozen 197
  have c4 := (hb2.cell 198).trans HC.out.q.pe
  have f4 := hb2.frozen 198
  have c5 := (hb2.cell 199).trans HC.out.q.ma
  have f5 := hb2.frozen 199
  have HB2 := hid hb2
  have HM := hid hm
  clear hb2 hbv hm
  go_still_tail 6, (by kernel_rfl)
  change wpList _ _ _ _ _ w2.drew
  go_wp2
  go_ret2
  have e0 := HC.out.inQ (by decide) (by decide) (HC.out.q.setk X.k)
  have e1 := e0.inQ (by decide) (by decide) (e0.q.setr X.r)
  have e2 := e1.inQ (by decide) (by decide) (e1.q.setp X.p)
  have e3 := e2.inQ (by decide) (by decide) (e2.q.setv X.v)
  have e4 := e3.inQ (by decide) (by decide) (e3.q.setpe X.pe)
  have e5 := e4.inQ (by decide) (by decide) (e4.q.setma X.ma)
  refine ⟨rfl, ⟨_, ((Blk.set_ (Blk.set_ (Blk.set_ (Blk.set_ (Blk.set_ (Blk.set_ HB2.out 194 (.int .i64 X.k)) 195 (.int .i64 X.r)) 196 (.int .i64 X.p)) 197 (.int .i64 X.v)) 198 (.bool X.pe)) 199 (.bool X.ma))).mod ((Mod.refl [] _).drew) (by simp), e5⟩, ?_⟩
  exact (((((((HM.out.mono (T := [x]) (by simp)).setCell (.inl (by simp)) _).setCell (.inl (by simp)) _).setCell (.inl (by simp)) _).setCell (.inl (by simp)) _).setCell (.inl (by simp)) _).setCell (.inl (by simp)) _).drew
end

end Go.Proofs.Ytcgeeepjpodopaa
