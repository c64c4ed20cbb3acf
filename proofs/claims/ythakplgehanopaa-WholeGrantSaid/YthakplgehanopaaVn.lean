/-
  Whole: view.New.
-/
import Derived.Test.YthakplgehanopaaVw
import Derived.Test.YthakplgehanopaaReg
import Derived.Maps.AppendAt
namespace Go.Proofs.Ythakplgehanopaa
open Go.RowKit Go.Tn
open Go.Proofs
attribute [local go_sem] look87b store87
attribute [-go_sem] Builtin.append_

theorem info5v : (Try.prog.info? 5).map (fun i => (i.zero, i.size, i.bytes)) = some (some (.int .u8 0), 1, 1) := by kernel_rfl
theorem info1v : (Try.prog.info? 1).map (fun i => (i.zero, i.size, i.bytes)) = some (some Value.nilFunc, 1, 8) := by kernel_rfl

/-- Append to a nil slice. -/
theorem app_nil {w : World} (t e : TypeId) (i : TypeInfo) (z : Value) (bytes : Nat) (ht : Try.prog.underlying t = some (.slice e)) (hi : Try.prog.info? e = some i) (hz : i.zero = some z) (hs1 : i.size = 1) (hby : i.bytes = bytes) (hzs : z.cells.size = 1)
    (ty : TypeId) (b off : Nat) (m c : Nat) (G : Nat → Value) (h0 : 0 < m) (hc : ∀ j, j < m → w.cell? ⟨b, off + j, none⟩ = some (G j)) (h1 : ∀ j, (G j).oneCell' = true) (hl : m ≤ 1000000) (hb8 : bytes ≤ 8) :
    ∃ q c' w', (Builtin.append_ #[t, t] ty #[.slice none 0 0, .slice (some ⟨b, off, none⟩) m c]).run Try.prog w = .ok (.slice (some ⟨q, 0, none⟩) m c') w' ∧ w.heap.size ≤ q ∧ (∀ j, j < m → w'.cell? ⟨q, j, none⟩ = some (G j)) ∧ Tn.Mod [] w w' := by
  have hown : w.ownsRow w.heap.size e 1 (.slice none 0 0) 0 [] := ⟨by simp, .inl ⟨rfl, rfl⟩⟩
  obtain ⟨v', w', hr, ho, hg, hn, hw⟩ := run_append_own_at (P := Try.prog) w w.heap.size t ty e i z 1 bytes ht hi hz hs1 hby hzs (by decide) (.slice none 0 0) 0 [] hown ⟨b, off, none⟩ m c ((List.range m).map G) (by simp)
    (fun j u hj => by
      rw [List.getElem?_map] at hj
      obtain ⟨j', hj', rfl⟩ := Option.map_eq_some_iff.1 hj
      obtain ⟨hjl, hje⟩ := List.getElem?_eq_some_iff.1 hj'
      rw [List.length_range] at hjl
      rw [List.getElem_range] at hje
      subst hje
      rw [Addr.add_lit]
      exact hc _ hjl)
    (fun u hu => by
      obtain ⟨j, _, rfl⟩ := List.mem_map.1 hu
      exact h1 j) (by unfold maxLen; omega) (by have := Nat.mul_le_mul (show 0 + m ≤ 1000000 by omega) hb8; omega) (Nat.le_refl _)
  rw [Nat.zero_add, List.nil_append] at ho
  obtain ⟨_, ⟨rfl, h⟩ | ⟨q', c', cur, rfl, hbq, hg2, h3, h4, h5, h6⟩⟩ := ho
  · omega
  · refine ⟨q', c', w', hr, hbq, fun j hj => ?_, (Mod.refl _ w).grown hg (fun k hk => by simp [Value.ownBlock] at hk)⟩
    rw [cell_of_row w' q' j cur e (0, 0) hg2]
    have h7 : (cur.toList.take (m * 1))[j]? = some (G j) := by rw [h6]; simp [hj]
    rw [List.getElem?_take, if_pos (by omega), Array.getElem?_toList] at h7
    exact h7

theorem app_bys {w : World} (ty : TypeId) (a : Option Addr) (len c : Nat) (G : Nat → Int) (hB : Bys w a len G) (hl : len ≤ 256) :
    ∃ q c' w', (Builtin.append_ #[24, 24] ty #[.slice none 0 0, .slice a len c]).run Try.prog w = .ok (.slice q len c') w' ∧ (∀ b off, q = some ⟨b, off, none⟩ → w.heap.size ≤ b) ∧ Bys w' q len G ∧ Tn.Mod [] w w' := by
  obtain ⟨i5, hi5, hz0, hz1, hz2⟩ := info_parts info5v
  by_cases h0 : 0 < len
  · obtain ⟨b, off, rfl, hlt, hcell⟩ := hB h0
    obtain ⟨q, c', w', hr, hq, hc, hm⟩ := app_nil (w := w) 24 5 i5 _ 1 Try.underlying24 hi5 hz0 hz1 hz2 rfl ty b off len c (fun j => .int .u8 (G j)) h0 hcell (fun _ => rfl) (by omega) (by omega)
    exact ⟨_, c', w', hr, fun b off e => by cases e; exact hq, fun _ => ⟨q, 0, rfl, by have := cell_lt (hc 0 h0); exact this, fun j hj => by rw [Nat.zero_add]; exact hc j hj⟩, hm⟩
  · have hl0 : len = 0 := by omega
    subst hl0
    cases a with
    | none =>
      refine ⟨none, 0, w, ?_, by simp, Bys_zero _ _, Mod.refl _ _⟩
      simp [Builtin.append_, run_underlying Try.underlying24, sizeOf, typeInfo, hi5, Builtin.lenOf, run_firstCells_none]
    | some ad =>
      have hf := run_firstCells_some (P := Try.prog) w 1 0 ad 0 c [] rfl (by simp)
      refine ⟨none, 0, w, ?_, by simp, Bys_zero _ _, Mod.refl _ _⟩
      simp [Builtin.append_, run_underlying Try.underlying24, sizeOf, typeInfo, hi5, hz1, Builtin.lenOf, hf]

theorem wpList_appB {ops : Array Oper} {rest : List Oper} {o : Oper} {A : Act} {w : World} {Q : Exit → Act → World → Prop} (hgd : o.guard = none) (s x : Operand)
    (ho : o.op = .call { callee := .builtin .append, args := #[s, x], argTypes := #[24, 24] }) (hs : A.eval s = .slice none 0 0) (a : Option Addr) (len c : Nat) (hx : A.eval x = .slice a len c) (g : Nat → Int)
    (hb : Bys w a len g) (hl : len ≤ 256)
    (h : ∀ (q : Option Addr) (c' : Nat) w', (∀ b off, q = some ⟨b, off, none⟩ → w.heap.size ≤ b) → Bys w' q len g → Tn.Mod [] w w' → wpList Try.prog ops Q rest (A.put o.dst (.slice q len c')) w') :
    wpList Try.prog ops Q (o :: rest) A w := by
  refine wpList_plain hgd fun K hK => ?_
  obtain ⟨q', c', w', hr, h2, h3, h4⟩ := app_bys o.type a len c g hb hl
  unfold Oper.wp execOp
  simp only [ho, resolve, invoke, builtin, Sem.run_bind, Sem.run_pure, Result.andThen_ok, List.map_toArray, List.map_cons, List.map_nil, hs, hx, hr]
  exact hK _ _ (h q' c' w' h2 h3 h4)

theorem app_clo {w : World} (ty : TypeId) (b : Nat) (u : Value) (h1 : u.oneCell' = true) (hc : w.cell? ⟨b, 0, none⟩ = some u) :
    ∃ q c' w', (Builtin.append_ #[90, 90] ty #[.slice none 0 0, .slice (some ⟨b, 0, none⟩) 1 1]).run Try.prog w = .ok (.slice (some ⟨q, 0, none⟩) 1 c') w' ∧ w.heap.size ≤ q ∧ w'.cell? ⟨q, 0, none⟩ = some u ∧ Tn.Mod [] w w' := by
  obtain ⟨i5, hi5, hz0, hz1, hz2⟩ := info_parts info1v
  obtain ⟨q, c', w', hr, hq, hc, hm⟩ := app_nil (w := w) 90 1 i5 _ 8 Try.underlying90 hi5 hz0 hz1 hz2 rfl ty b 0 1 1 (fun _ => u) (by omega) (fun j hj => by
    have e : j = 0 := by omega
    subst e
    exact hc) (fun _ => h1) (by omega) (by omega)
  exact ⟨q, c', w', hr, hq, hc 0 (by omega), hm⟩

/-- The rewrites that are given: nl of them, of frame 2, ahead of reads 1, 2. -/
structure Late (w : World) (la : Option Addr) (nl len : Nat) (G : Nat → Int) : Prop where
  cs : 0 < nl → ∃ lb sa cp, la = some ⟨lb, 0, none⟩ ∧ Bys w sa len G ∧ ∀ k, k < nl → w.cell? ⟨lb, k * 4, none⟩ = some (.int .i64 ((k : Int) + 1)) ∧ w.cell? ⟨lb, k * 4 + 1, none⟩ = some (.int .i64 2) ∧ w.cell? ⟨lb, k * 4 + 2, none⟩ = some (.int .i64 0) ∧ w.cell? ⟨lb, k * 4 + 3, none⟩ = some (.slice sa len cp)
theorem Late.mod0 {w w' : World} {la : Option Addr} {nl len : Nat} {G : Nat → Int} (h : Late w la nl len G) (hm : Tn.Mod [] w w') : Late w' la nl len G := ⟨fun h0 => by
  obtain ⟨lb, sa, cp, h1, h2, h3⟩ := h.cs h0
  refine ⟨lb, sa, cp, h1, h2.mod hm (by simp), fun k hk => ?_⟩
  obtain ⟨a, b, c, d⟩ := h3 k hk
  exact ⟨(hm.cell (p := ⟨lb, _, none⟩) (cell_lt a) (by simp)).trans a, (hm.cell (p := ⟨lb, _, none⟩) (cell_lt b) (by simp)).trans b, (hm.cell (p := ⟨lb, _, none⟩) (cell_lt c) (by simp)).trans c, (hm.cell (p := ⟨lb, _, none⟩) (cell_lt d) (by simp)).trans d⟩⟩

/-- What stands behind k rounds. -/
structure NewSt (w : World) (m len : Nat) (G : Nat → Int) (k : Nat) (W : World) : Prop where
  md : Tn.Mod [] w W
  vh : VH W (w.heap.size + 1) m w.heap.size 0
  bv : Blk W (w.heap.size + 1 + 1) 46 #[.pointer (some ⟨w.heap.size + 1, 0, none⟩)]
  no : ∀ j : Int, j ≤ 0 ∨ (k : Int) < j → mget W w.heap.size j = none
  one : 0 < k → Due W (w.heap.size + 1) w.heap.size 1 len G 1

abbrev cloV (bv bp bb : Nat) : Value := .func (.func 29) #[] #[.pointer (some ⟨bv, 0, none⟩), .pointer (some ⟨bp, 0, none⟩), .pointer (some ⟨bb, 0, none⟩)]

theorem NewSt.step {w W W5 : World} {m len k bp bb q c : Nat} {G : Nat → Int} (h : NewSt w m len G k W) (hm : Tn.Mod [] W W5) (hc : Clo W5 (w.heap.size + 1) (w.heap.size + 1 + 1) bp bb len G)
    (hq : W5.cell? ⟨q, 0, none⟩ = some (cloV (w.heap.size + 1 + 1) bp bb)) (hl : w.heap.size + 1 < q) : NewSt w m len G (k + 1) (Tn.mput W5 w.heap.size ((k : Int) + 1) (.slice (some ⟨q, 0, none⟩) 1 c)) := by
  have hs : w.heap.size < W5.heap.size := by have h1 := h.bv.lt; have h2 := hm.size; omega
  have hp : Tn.Mod [w.heap.size] W5 (Tn.mput W5 w.heap.size ((k : Int) + 1) (.slice (some ⟨q, 0, none⟩) 1 c)) := (Mod.refl _ _).mput (.inl (by simp)) _ _
  have hv5 := h.vh.mod0 hm
  have hg5 : ∀ j : Int, mget W5 w.heap.size j = mget W w.heap.size j := mget_of_heap (hm.block _ h.vh.mm.lt (by simp))
  have hg : ∀ j : Int, mget (Tn.mput W5 w.heap.size ((k : Int) + 1) (.slice (some ⟨q, 0, none⟩) 1 c)) w.heap.size j = if j = (k : Int) + 1 then some (.slice (some ⟨q, 0, none⟩) 1 c) else mget W w.heap.size j := fun j => by rw [mget_mput_same hv5.mm, hg5]
  refine ⟨(h.md.andThen hm).mput (.inr (Nat.le_refl _)) _ _, ⟨hv5.blk.mod hp (by simp), hv5.mm.mput_same _ _⟩, (h.bv.mod hm (by simp)).mod hp (by simp; omega), fun j hj => ?_, fun _ => ?_⟩
  · rw [hg, if_neg (by omega)]
    exact h.no j (by omega)
  · by_cases hk : k = 0
    · subst hk
      exact .one q c _ bp bb (by rw [hg]; rfl) ((hp.cell (p := ⟨q, 0, none⟩) (cell_lt hq) (by simp; omega)).trans hq) (hc.mod hp (by simp)) hl
    · have hd := (h.one (by omega)).mod hm (by simp) (by simp) h.vh.mm
      cases hd with
      | one s cap bv bp bb h1 h2 h3 h4 => exact .one s cap bv bp bb (by rw [hg, if_neg (by omega)]; rw [← hg5]; exact h1) ((hp.cell (p := ⟨s, 0, none⟩) (cell_lt h2) (by simp; omega)).trans h2) (h3.mod hp (by simp)) h4

set_option maxRecDepth 100000 in
set_option maxHeartbeats 4000000 in
theorem vnew_f {w : World} {m fb : Nat} {F : Nat → Nat → Int} (h : PH w m fb F) (la : Option Addr) (nl nlc len : Nat) (G : Nat → Int) (hnl : nl ≤ 2) (hla : Late w la nl len G) (hl : len ≤ 256) :
    Calls Try.prog 13 #[.pointer (some ⟨m, 0, none⟩), .slice la nl nlc] w fun e w' => e = .returned (.tuple #[.pointer (some ⟨w.heap.size + 1, 0, none⟩), .int .i64 0]) ∧ NewSt w m len G nl w' := by
  have hmm := @run_makeMap Try.prog
  have hnlI : (nl : Int) ≤ 64 := by omega
  have d64 : decide ((64 : Int) < nl) = false := by simp; omega
  have HP := hid h
  have HLA := hid hla
  have HL := hid hl
  have HNL := hid hnl
  clear h hla hl hnl
  go_enter Try.func13, Try.ntmps13
  go_wp2_with (go_at_call 21; refine (size_f HP.out).mono ?_; rintro e w' ⟨rfl, rfl⟩)
  clear hmm
  have H0 : NewSt w m len G 0 (((w.alloc (.map #[] 0)).alloc (.cells #[.pointer (some ⟨m, 0, none⟩), .map (some w.heap.size), .int .i64 0] 89)).alloc (.cells #[.pointer (some ⟨w.heap.size + 1, 0, none⟩)] 46)) := by
    have b1 := Blk.new (w.alloc (.map #[] 0)) 89 #[.pointer (some ⟨m, 0, none⟩), .map (some w.heap.size), .int .i64 0]
    have b2 := Blk.new ((w.alloc (.map #[] 0)).alloc (.cells #[.pointer (some ⟨m, 0, none⟩), .map (some w.heap.size), .int .i64 0] 89)) 46 #[.pointer (some ⟨w.heap.size + 1, 0, none⟩)]
    simp only [World.size_alloc] at b1 b2
    refine ⟨(((Mod.refl _ w).alloc _).alloc _).alloc _, ⟨b1.mod ((Mod.refl [] _).alloc _) (by simp), (((IMap.made w).is.alloc _ _ _).alloc _ _ _)⟩, b2, fun j _ => ?_, fun h => by omega⟩
    rw [mget_alloc _ _ _ ((IMap.made w).is.alloc _ _ _), mget_alloc _ _ _ (IMap.made w).is, (IMap.made w).get]
  go_loopw [24] (fun t wr => ∃ k : Nat, t = .int .i64 (k : Nat) ∧ k ≤ nl ∧ NewSt w m len G k wr)
    (fun t _ => nl - (intOf t).toNat)
  case atStart => exact ⟨0, rfl, Nat.zero_le _, H0⟩
  case round =>
    obtain ⟨k, rfl, hk, hN⟩ := hrel
    clear H0
    by_cases hlt : k < nl
    · obtain ⟨lb, sa, cp, rfl, hB, hcs⟩ := (HLA.out.mod0 hN.md).cs (by omega)
      obtain ⟨p0, p1, p2, p3⟩ := hcs k hlt
      have hB1 := hid (fun V (hm : Tn.Mod [] wr V) => hB.mod hm (by simp))
      have HNN := hid hN
      clear hN hB hcs
      go_wp2_with (at_builtin; refine wpList_appB rfl _ _ rfl rfl sa len cp rfl G (hB1.out _ ((Mod.refl [] wr).alloc _)) HL.out ?_; intro q c' w2 hq hb2 hm2; have HQ := hid hq; have HB2 := hid hb2; have HM2 := hid hm2; clear hq hb2 hm2)
      have hV : ∃ V, (w2.alloc (Obj.cells #[Value.slice q len c'] 24)).drew = V ∧ (fun w' : World => w'.cell? ⟨w.heap.size + 1 + 1, 0, none⟩ = some (.pointer (some ⟨w.heap.size + 1, 0, none⟩)) ∧ w'.cell? ⟨w.heap.size + 1, 1, none⟩ = some (.map (some w.heap.size)) ∧ w'.cell? ⟨wr.heap.size, 0, none⟩ = some (.int .i64 ((k : Int) + 1))) V ∧ VH V (w.heap.size + 1) m w.heap.size 0 ∧ mget V w.heap.size ((k : Int) + 1) = none ∧ Clo V (w.heap.size + 1) (w.heap.size + 1 + 1) wr.heap.size w2.heap.size len G ∧ Tn.Mod [] wr V := by
        have hbs := HNN.out.bv.lt
        have hm3 : Tn.Mod [] wr (w2.alloc (Obj.cells #[Value.slice q len c'] 24)).drew := ((((Mod.refl [] wr).alloc _).andThen HM2.out).alloc _).drew
        have hm4 : Tn.Mod [] (wr.alloc (.cells #[Value.int IntKind.i64 (↑k + 1), Value.int IntKind.i64 2, Value.int IntKind.i64 0, Value.slice sa len cp] 44)) (w2.alloc (Obj.cells #[Value.slice q len c'] 24)).drew := (HM2.out.alloc _).drew
        have hm5 : Tn.Mod [] w2 (w2.alloc (Obj.cells #[Value.slice q len c'] 24)).drew := ((Mod.refl [] w2).alloc _).drew
        have hm6 : Tn.Mod [] (w2.alloc (Obj.cells #[Value.slice q len c'] 24)) (w2.alloc (Obj.cells #[Value.slice q len c'] 24)).drew := (Mod.refl [] _).drew
        have hv := HNN.out.vh.mod0 hm3
        have hb := (HNN.out.bv.mod hm3 (by simp)).cell 0
        have hp := ((Blk.new wr 44 #[Value.int IntKind.i64 (↑k + 1), Value.int IntKind.i64 2, Value.int IntKind.i64 0, Value.slice sa len cp]).mod hm4 (by simp))
        have hq := ((Blk.new w2 24 #[Value.slice q len c']).mod hm6 (by simp)).cell 0
        have hs2 : wr.heap.size < w2.heap.size := by have := HM2.out.size; simp at this; omega
        simp only [List.getElem?_toArray, List.getElem?_cons_zero, List.getElem?_cons_succ] at hb hq
        refine ⟨_, rfl, ⟨hb, hv.c1, hp.cell 0⟩, hv, ?_, ⟨hb, hp.cell 1, hp.cell 2, ⟨q, c', hq, fun b off e => ?_, HB2.out.mod hm5 (by simp)⟩, by omega, by omega, by omega⟩, hm3⟩
        · rw [mget_of_heap (hm3.block _ HNN.out.vh.mm.lt (by simp))]
          exact HNN.out.no _ (.inr (by omega))
        · have := HQ.out b off e
          simp at this
          omega
      obtain ⟨V, hVe, hS0, hvh, hmg, hclo, hmV⟩ := hV
      have HS0 := hid hS0
      have hb0 := hS0.1
      have hb1 := hS0.2.1
      have hmm := hvh.mm
      -- the slice of one closure
      have hm1 : Tn.Mod [] V (V.alloc (.cells #[cloV (w.heap.size + 1 + 1) wr.heap.size w2.heap.size] 1)) := (Mod.refl [] V).alloc _
      have hc1 := (Blk.new V 1 #[cloV (w.heap.size + 1 + 1) wr.heap.size w2.heap.size]).cell 0
      simp only [List.getElem?_toArray, List.getElem?_cons_zero, List.getElem?_cons_succ] at hc1
      obtain ⟨q5, c5, w5, hap, hq5, hcq5, hm5⟩ := app_clo (w := V.alloc (.cells #[cloV (w.heap.size + 1 + 1) wr.heap.size w2.heap.size] 1)) 90 V.heap.size _ rfl hc1
      have hmV5 := hm1.andThen hm5
      have hmm1 := (hvh.mod0 hm1).mm
      have hmg1 := (mget_of_heap (hm1.block _ hvh.mm.lt (by simp)) ((k : Int) + 1)).trans hmg
      have hmm5 := (hvh.mod0 hmV5).mm
      have hSf : ∀ W, Tn.Mod [w.heap.size] V W → (fun w' : World => w'.cell? ⟨w.heap.size + 1 + 1, 0, none⟩ = some (.pointer (some ⟨w.heap.size + 1, 0, none⟩)) ∧ w'.cell? ⟨w.heap.size + 1, 1, none⟩ = some (.map (some w.heap.size)) ∧ w'.cell? ⟨wr.heap.size, 0, none⟩ = some (.int .i64 ((k : Int) + 1))) W := fun W hW => by
        have hbs := HNN.out.bv.lt
        exact ⟨(hW.cell (p := ⟨_, _, none⟩) (cell_lt hS0.1) (by simp; omega)).trans hS0.1, (hW.cell (p := ⟨_, _, none⟩) (cell_lt hS0.2.1) (by simp)).trans hS0.2.1, (hW.cell (p := ⟨_, _, none⟩) (cell_lt hS0.2.2) (by simp; omega)).trans hS0.2.2⟩
      have HS1 := hid (hSf _ (hm1.mono (by simp)))
      have HS5 := hid (hSf _ (hmV5.mono (by simp)))
      have HS6 := hid (hSf _ ((hmV5.mono (T := [w.heap.size]) (by simp)).mput (b := w.heap.size) (.inl (by simp)) ((k : Int) + 1) (.slice (some ⟨q5, 0, none⟩) 1 c5)))
      have HF := hid (HNN.out.step (c := c5) (hmV.andThen hmV5) (hclo.mod hmV5 (by simp)) hcq5 (by have h1 := HNN.out.bv.lt; have h2 := hmV.size; simp at hq5; omega))
      clear hS0 hvh hclo hmV hm1 hc1 hq5 hcq5 hm5 hmV5 hSf p0 p1 p2 p3
      refine wp_region_held_drew (S := (fun w' : World => w'.cell? ⟨w.heap.size + 1 + 1, 0, none⟩ = some (.pointer (some ⟨w.heap.size + 1, 0, none⟩)) ∧ w'.cell? ⟨w.heap.size + 1, 1, none⟩ = some (.map (some w.heap.size)) ∧ w'.cell? ⟨wr.heap.size, 0, none⟩ = some (.int .i64 ((k : Int) + 1)))) (by kernel_rfl) (by rw [hVe]; exact HS0.out) (fun hHeld => ?_)
      rw [hVe]
      clear hHeld hVe
      refine wpAnyH_take (i := 0) (v := ?_) (drop_get rfl) (by kernel_rfl) (by kernel_rfl) (by kernel_rfl) (fun _ _ _ h => h) (Or.inl ⟨by rfl, ?_⟩) HS0.out ?_
      rotate_left
      · intro w9 hS9
        have k1 := hS9.1
        have k2 := hS9.2.1
        have k3 := hS9.2.2
        go_simp
        try with_reducible rfl
      simp only [Act.put, List.setIfInBounds_toArray, List.set_cons_zero, List.set_cons_succ]
      refine wpAnyH_take (i := 1) (v := ?_) (drop_get rfl) (by kernel_rfl) (by kernel_rfl) (by kernel_rfl) (fun _ _ _ h => h) (Or.inl ⟨by rfl, ?_⟩) HS0.out ?_
      rotate_left
      · intro w9 hS9
        have k1 := hS9.1
        have k2 := hS9.2.1
        have k3 := hS9.2.2
        go_simp
        try with_reducible rfl
      simp only [Act.put, List.setIfInBounds_toArray, List.set_cons_zero, List.set_cons_succ]
      refine wpAnyH_take (i := 2) (v := ?_) (drop_get rfl) (by kernel_rfl) (by kernel_rfl) (by kernel_rfl) (fun _ _ _ h => h) (Or.inl ⟨by rfl, ?_⟩) HS0.out ?_
      rotate_left
      · intro w9 hS9
        have k1 := hS9.1
        have k2 := hS9.2.1
        have k3 := hS9.2.2
        go_simp
        try with_reducible rfl
      simp only [Act.put, List.setIfInBounds_toArray, List.set_cons_zero, List.set_cons_succ]
      refine wpAnyH_take (i := 3) (v := ?_) (drop_get rfl) (by kernel_rfl) (by kernel_rfl) (by kernel_rfl) (fun _ _ _ h => h) (Or.inl ⟨by rfl, ?_⟩) HS0.out ?_
      rotate_left
      · intro w9 hS9
        have k1 := hS9.1
        have k2 := hS9.2.1
        have k3 := hS9.2.2
        go_simp
        try with_reducible rfl
      simp only [Act.put, List.setIfInBounds_toArray, List.set_cons_zero, List.set_cons_succ]
      refine wpAnyH_take (i := 4) (v := ?_) (drop_get rfl) (by kernel_rfl) (by kernel_rfl) (by kernel_rfl) (fun _ _ _ h => h) (Or.inl ⟨by rfl, ?_⟩) HS0.out ?_
      rotate_left
      · intro w9 hS9
        have k1 := hS9.1
        have k2 := hS9.2.1
        have k3 := hS9.2.2
        go_simp
        try with_reducible rfl
      simp only [Act.put, List.setIfInBounds_toArray, List.set_cons_zero, List.set_cons_succ]
      refine wpAnyH_take (i := 5) (v := ?_) (drop_get rfl) (by kernel_rfl) (by kernel_rfl) (by kernel_rfl) (fun _ _ _ h => h) (Or.inl ⟨by rfl, ?_⟩) HS0.out ?_
      rotate_left
      · intro w9 hS9
        have k1 := hS9.1
        have k2 := hS9.2.1
        have k3 := hS9.2.2
        go_simp
        try with_reducible rfl
      simp only [Act.put, List.setIfInBounds_toArray, List.set_cons_zero, List.set_cons_succ]
      refine wpAnyH_take (i := 6) (v := ?_) (drop_get rfl) (by kernel_rfl) (by kernel_rfl) (by kernel_rfl) (fun _ _ _ h => h) (Or.inl ⟨by rfl, ?_⟩) HS0.out ?_
      rotate_left
      · intro w9 hS9
        have k1 := hS9.1
        have k2 := hS9.2.1
        have k3 := hS9.2.2
        go_simp
        try with_reducible rfl
      simp only [Act.put, List.setIfInBounds_toArray, List.set_cons_zero, List.set_cons_succ]
      refine wpAnyH_take (i := 7) (v := ?_) (drop_get rfl) (by kernel_rfl) (by kernel_rfl) (by kernel_rfl) (fun _ _ _ h => h) (Or.inl ⟨by rfl, ?_⟩) HS0.out ?_
      rotate_left
      · intro w9 hS9
        have k1 := hS9.1
        have k2 := hS9.2.1
        have k3 := hS9.2.2
        go_simp
        try with_reducible rfl
      simp only [Act.put, List.setIfInBounds_toArray, List.set_cons_zero, List.set_cons_succ]
      refine wpAnyH_take (i := 8) (v := ?_) (drop_get rfl) (by kernel_rfl) (by kernel_rfl) (by kernel_rfl) (fun _ _ _ h => h) (Or.inl ⟨by rfl, ?_⟩) HS0.out ?_
      rotate_left
      · intro w9 hS9
        have k1 := hS9.1
        have k2 := hS9.2.1
        have k3 := hS9.2.2
        go_simp
        try with_reducible rfl
      simp only [Act.put, List.setIfInBounds_toArray, List.set_cons_zero, List.set_cons_succ]
      refine wpAnyH_take (i := 9) (v := ?_) (drop_get rfl) (by kernel_rfl) (by kernel_rfl) (by kernel_rfl) (fun _ _ _ h => h) (Or.inl ⟨by rfl, ?_⟩) HS0.out ?_
      rotate_left
      · intro w9 hS9
        have k1 := hS9.1
        have k2 := hS9.2.1
        have k3 := hS9.2.2
        go_simp
        try with_reducible rfl
      simp only [Act.put, List.setIfInBounds_toArray, List.set_cons_zero, List.set_cons_succ]
      refine wpAnyH_take (i := 10) (v := ?_) (drop_get rfl) (by kernel_rfl) (by kernel_rfl) (by kernel_rfl) (fun _ _ _ h => h) (Or.inl ⟨by rfl, ?_⟩) HS0.out ?_
      rotate_left
      · intro w9 hS9
        have k1 := hS9.1
        have k2 := hS9.2.1
        have k3 := hS9.2.2
        go_simp
        try with_reducible rfl
      simp only [Act.put, List.setIfInBounds_toArray, List.set_cons_zero, List.set_cons_succ]
      refine wpAnyH_take (i := 11) (v := ?_) (drop_get rfl) (by kernel_rfl) (by kernel_rfl) (by kernel_rfl) (fun _ _ _ h => h) (Or.inl ⟨by rfl, ?_⟩) HS0.out ?_
      rotate_left
      · intro w9 hS9
        have k1 := hS9.1
        have k2 := hS9.2.1
        have k3 := hS9.2.2
        go_simp
        try with_reducible rfl
      simp only [Act.put, List.setIfInBounds_toArray, List.set_cons_zero, List.set_cons_succ]
      refine wpAnyH_take (i := 13) (v := ?_) (drop_get rfl) (by kernel_rfl) (by kernel_rfl) (by kernel_rfl) (fun _ _ _ h => h) (Or.inl ⟨by rfl, ?_⟩) HS0.out ?_
      rotate_left
      · intro w9 hS9
        have k1 := hS9.1
        have k2 := hS9.2.1
        have k3 := hS9.2.2
        go_simp
        try with_reducible rfl
      simp only [Act.put, List.setIfInBounds_toArray, List.set_cons_zero, List.set_cons_succ]
      refine wpAnyH_ready (rs := [12, 14]) (by kernel_rfl) (by simp) ?_
      refine AllReadyH.cons (drop_get rfl) (fun K hK => ?_) (AllReadyH.cons (drop_get rfl) (fun K hK => ?_) AllReadyH.nil)
      · go_simp
        refine hK _ _ HS0.out ?_
        clear hK K
        intro hdrop
        clear hdrop
        refine wpAnyH_ready (rs := [14]) (by kernel_rfl) (by simp) ?_
        refine AllReadyH.cons (drop_get rfl) (fun K hK => ?_) AllReadyH.nil
        go_simp
        refine hK _ _ HS1.out ?_
        clear hK K
        intro hdrop
        clear hdrop
        refine wpAnyH_ready (rs := [15]) (by kernel_rfl) (by simp) ?_
        refine AllReadyH.cons (drop_get rfl) (fun K hK => ?_) AllReadyH.nil
        go_simp
        refine hK _ _ HS5.out ?_
        clear hK K
        intro hdrop
        clear hdrop
        refine wpAnyH_ready (rs := [16]) (by kernel_rfl) (by simp) ?_
        refine AllReadyH.cons (drop_get rfl) (fun K hK => ?_) AllReadyH.nil
        go_simp
        refine hK _ _ HS6.out ?_
        clear hK K
        intro hdrop
        clear hdrop
        refine wpAnyH_done (by kernel_rfl) ?_ _
        go_wp2
        refine ⟨⟨k + 1, by simp, by omega, HF.out⟩, ?_⟩
        simp [intOf]; omega
      · go_simp
        refine hK _ _ HS1.out ?_
        clear hK K
        intro hdrop
        clear hdrop
        refine wpAnyH_ready (rs := [12]) (by kernel_rfl) (by simp) ?_
        refine AllReadyH.cons (drop_get rfl) (fun K hK => ?_) AllReadyH.nil
        go_simp
        refine hK _ _ HS1.out ?_
        clear hK K
        intro hdrop
        clear hdrop
        refine wpAnyH_ready (rs := [15]) (by kernel_rfl) (by simp) ?_
        refine AllReadyH.cons (drop_get rfl) (fun K hK => ?_) AllReadyH.nil
        go_simp
        refine hK _ _ HS5.out ?_
        clear hK K
        intro hdrop
        clear hdrop
        refine wpAnyH_ready (rs := [16]) (by kernel_rfl) (by simp) ?_
        refine AllReadyH.cons (drop_get rfl) (fun K hK => ?_) AllReadyH.nil
        go_simp
        refine hK _ _ HS6.out ?_
        clear hK K
        intro hdrop
        clear hdrop
        refine wpAnyH_done (by kernel_rfl) ?_ _
        go_wp2
        refine ⟨⟨k + 1, by simp, by omega, HF.out⟩, ?_⟩
        simp [intOf]; omega
    · obtain rfl : k = nl := by omega
      have b6 := hN.bv.cell 0
      simp only [List.getElem?_toArray, List.getElem?_cons_zero, List.getElem?_cons_succ] at b6
      have HNN := hid hN
      clear hN
      go_wp2
      go_ret2
      exact ⟨rfl, HNN.out⟩
end Go.Proofs.Ythakplgehanopaa
