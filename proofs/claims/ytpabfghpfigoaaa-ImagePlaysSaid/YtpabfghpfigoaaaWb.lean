/-
  Layer 12: bytes copied by append; the law's 'bytes' with bytes given; New with its books.
-/
import Derived.Test.YtpabfghpfigoaaaWa
import Derived.Test.YtpabfghpfigoaaaBy
import Derived.Test.YtpabfghpfigoaaaNf
import Derived.Maps.AppendAt
namespace Go.Proofs.Ytpabfghpfigoaaa
open Go.RowKit Go.Tn Go.Shelf
open Go.Proofs

/-- A slice of len bytes at a: g 0, g 1, .. -/
def Bys (w : World) (a : Option Addr) (len : Nat) (g : Nat → Int) : Prop :=
  0 < len → ∃ b off, a = some ⟨b, off, none⟩ ∧ b < w.heap.size ∧ ∀ j, j < len → w.cell? ⟨b, off + j, none⟩ = some (.int .u8 (g j))

theorem Bys.mod {S : List Nat} {w w' : World} {a : Option Addr} {len : Nat} {g : Nat → Int} (h : Bys w a len g) (hm : Tn.Mod S w w') (hS : ∀ b off, a = some ⟨b, off, none⟩ → b ∉ S) : Bys w' a len g := by
  intro h0
  obtain ⟨b, off, rfl, hb, hc⟩ := h h0
  exact ⟨b, off, rfl, Nat.lt_of_lt_of_le hb hm.size, fun j hj => (hm.cell (p := ⟨b, _, none⟩) hb (hS b off rfl)).trans (hc j hj)⟩

theorem append_bytes {w : World} (q : Nat) (hq : Blk w q 5 #[]) (a : Option Addr) (len c : Nat) (g : Nat → Int) (hb : Bys w a len g) (hl : len ≤ 140737488355328) (ty : TypeId) :
    ∃ q' c' w', (Builtin.append_ #[27, 27] ty #[.slice (some ⟨q, 0, none⟩) 0 0, .slice a len c]).run Try.prog w = .ok (.slice (some ⟨q', 0, none⟩) len c') w' ∧ q ≤ q' ∧ q' < w'.heap.size ∧ (∀ j, j < len → w'.cell? ⟨q', j, none⟩ = some (.int .u8 (g j))) ∧ (∃ cs, Blk w' q' 5 cs) ∧ Tn.Mod [q] w w' ∧ len ≤ c' := by
  obtain ⟨i5, hi5, hz0, hz1, hz2⟩ := info_parts info5
  by_cases h0 : 0 < len
  · obtain ⟨b, off, rfl, hlt, hcell⟩ := hb h0
    have hown : w.ownsRow q 5 1 (.slice (some ⟨q, 0, none⟩) 0 0) 0 [] := ⟨by simp, .inr ⟨q, 0, #[], rfl, Nat.le_refl _, hq, Nat.le_refl _, by unfold maxLen; omega, by simp, by simp⟩⟩
    obtain ⟨v', w', hr, ho, hg, hn, hw⟩ := run_append_own_at (P := Try.prog) w q 27 ty 5 i5 (.int .u8 0) 1 1 Try.underlying27 hi5 hz0 hz1 hz2 rfl (by decide) (.slice (some ⟨q, 0, none⟩) 0 0) 0 [] hown ⟨b, off, none⟩ len c ((List.range len).map fun j => Value.int .u8 (g j)) (by simp)
      (fun j u hj => by
        rw [List.getElem?_map] at hj
        obtain ⟨j', hj', rfl⟩ := Option.map_eq_some_iff.1 hj
        obtain ⟨hjl, hje⟩ := List.getElem?_eq_some_iff.1 hj'
        rw [List.length_range] at hjl
        rw [List.getElem_range] at hje
        subst hje
        rw [Addr.add_lit]
        exact hcell _ hjl)
      (fun u hu => by
        obtain ⟨j, _, rfl⟩ := List.mem_map.1 hu
        rfl) (by unfold maxLen; omega) (by omega) (Nat.le_of_lt hq.lt)
    rw [Nat.zero_add, List.nil_append] at ho
    obtain ⟨_, ⟨rfl, h⟩ | ⟨q', c', cur, rfl, hbq, hg2, h3, h4, h5, h6⟩⟩ := ho
    · omega
    · refine ⟨q', c', w', hr, hbq, (Array.getElem?_eq_some_iff.1 hg2).1, fun j hj => ?_, ⟨cur, hg2⟩, (Mod.refl _ w).grown hg (fun k hk => .inl (by simp [Value.ownBlock] at hk; simp [hk])), h3⟩
      rw [cell_of_row w' q' j cur 5 (0, 0) hg2]
      have h7 : (cur.toList.take (len * 1))[j]? = some (.int .u8 (g j)) := by rw [h6]; simp [hj]
      rw [List.getElem?_take, if_pos (by omega), Array.getElem?_toList] at h7
      exact h7
  · have hl0 : len = 0 := by omega
    subst hl0
    refine ⟨q, 0, w.setRow q #[], ?_, Nat.le_refl _, ?_, fun j hj => by omega, ⟨#[], hq.setRow⟩, (Mod.refl [q] w).setRow (.inl (by simp)) _, Nat.le_refl _⟩
    · have hst := run_storeCells_at Try.prog q 0 5 [] 0 #[] w hq (by simp) (by simp)
      simp only [Nat.add_zero, List.append_nil, List.length_nil, List.take_append_drop, Array.toArray_toList] at hst
      cases a with
      | none =>
        simp [Builtin.append_, run_underlying Try.underlying27, sizeOf, typeInfo, hi5, Builtin.lenOf, run_firstCells_none, Addr.add_lit, hst]
      | some ad =>
        have hf := run_firstCells_some (P := Try.prog) w 1 0 ad 0 c [] rfl (by simp)
        simp [Builtin.append_, run_underlying Try.underlying27, sizeOf, typeInfo, hi5, hz1, Builtin.lenOf, hf, Addr.add_lit, hst]
    · exact hq.setRow.lt

theorem wpList_app5 {ops : Array Oper} {rest : List Oper} {o : Oper} {A : Act} {w : World} {Q : Exit → Act → World → Prop} (hgd : o.guard = none) (s x : Operand)
    (ho : o.op = .call { callee := .builtin .append, args := #[s, x], argTypes := #[27, 27] }) (q : Nat) (hs : A.eval s = .slice (some ⟨q, 0, none⟩) 0 0) (a : Option Addr) (len c : Nat) (hx : A.eval x = .slice a len c) (g : Nat → Int)
    (hq : Blk w q 5 #[]) (hb : Bys w a len g) (hl : len ≤ 140737488355328)
    (h : ∀ q' c' w', q ≤ q' → q' < w'.heap.size → (∀ j, j < len → w'.cell? ⟨q', j, none⟩ = some (.int .u8 (g j))) → (∃ cs, Blk w' q' 5 cs) → Tn.Mod [q] w w' → len ≤ c' → wpList Try.prog ops Q rest (A.put o.dst (.slice (some ⟨q', 0, none⟩) len c')) w') :
    wpList Try.prog ops Q (o :: rest) A w := by
  refine wpList_plain hgd fun K hK => ?_
  obtain ⟨q', c', w', hr, h2, h3, h4, h5, h6, h7⟩ := append_bytes q hq a len c g hb hl o.type
  unfold Oper.wp execOp
  simp only [ho, resolve, invoke, builtin, Sem.run_bind, Sem.run_pure, Result.andThen_ok, List.map_toArray, List.map_cons, List.map_nil, hs, hx, hr]
  exact hK _ _ (h q' c' w' h2 h3 h4 h5 h6 h7)

/-- What the law's 'bytes' gives. -/
def opG (fl : Int) (len : Nat) (g : Nat → Int) : Nat → Int := if len = 0 then fun _ => fl else g
def opLen (len : Nat) : Nat := if len = 0 then 64 else len

theorem bytes_f (t0 t1 t2 fl : Int) (sa : Option Addr) (len cp : Nat) (g : Nat → Int) (w : World) (hb : Bys w sa len g) (hl : len ≤ 140737488351232) : Calls Try.prog 11 #[.agg #[.int .i64 t0, .int .i64 t1, .int .i64 t2, .int .u8 fl, .slice sa len cp]] w fun e w' => ∃ q c, e = .returned (.slice (some ⟨q, 0, none⟩) (opLen len) c) ∧ (∀ j, j < opLen len → w'.cell? ⟨q, j, none⟩ = some (.int .u8 (opG fl len g j))) ∧ w.heap.size ≤ q ∧ q < w'.heap.size ∧ (∃ cs, Blk w' q 5 cs) ∧ Tn.Mod [] w w' := by
  unfold opG opLen
  by_cases h0 : len = 0
  · subst h0
    simp only [if_true]
    refine (bytes_fill t0 t1 t2 fl sa cp w).mono ?_
    rintro e w' ⟨q, rfl, hr, h1, h2, h3, h4⟩
    refine ⟨q, 64, rfl, fun j hj => ?_, h1, h2, h3, h4⟩
    have := hr j (.int .u8 fl) (by rw [Array.getElem?_toList, sec_at _ _ _ hj])
    rwa [Nat.zero_add] at this
  · simp only [if_neg h0]
    have hpos : (0 : Int) < (len : Int) := by omega
    have HB := hid hb
    have HL := hid hl
    clear hb h0 hl
    go_enter Try.func11, Try.ntmps11
    have hm0 : Tn.Mod [] w ((w.alloc (.cells #[.int .i64 t0, .int .i64 t1, .int .i64 t2, .int .u8 fl, .slice sa len cp] 29)).alloc (.cells #[] 5)) := ((Mod.refl [] w).alloc _).alloc _
    have hq0 : Blk ((w.alloc (.cells #[.int .i64 t0, .int .i64 t1, .int .i64 t2, .int .u8 fl, .slice sa len cp] 29)).alloc (.cells #[] 5)) (w.heap.size + 1) 5 #[] := by
      have := Blk.new (w.alloc (.cells #[.int .i64 t0, .int .i64 t1, .int .i64 t2, .int .u8 fl, .slice sa len cp] 29)) 5 #[]
      rwa [World.size_alloc] at this
    have HM := hid hm0
    have HQ := hid hq0
    clear hm0 hq0
    go_wp2_with (at_builtin; refine wpList_app5 rfl _ _ rfl (w.heap.size + 1) rfl sa len cp rfl g HQ.out (HB.out.mod HM.out (by simp)) (by have := HL.out; omega) ?_)
    intro q' c' w' h1 h2 h3 cs h4 h5 _
    have hm5 : Tn.Mod [] w w' := HM.out.trans h5 (by simp)
    have H1 := hid h1
    have H2 := hid h2
    have H3 := hid h3
    have H4 := hid h4
    clear h1 h2 h3 h4 h5
    go_wp2
    go_ret
    exact ⟨q', c', rfl, H3.out, Nat.le_of_succ_le H1.out, H2.out, ⟨cs, H4.out⟩, hm5⟩
end Go.Proofs.Ytpabfghpfigoaaa
