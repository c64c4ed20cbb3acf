/-
  'for k, v := range m' over a map keyed by strings; over any program. Plain lemmas of this claim; no Go function is named here.
-/
import Derived.Maps.RangeWalk
import Derived.Test.YtlhjocgkmeoheaaDoorBase
import Derived.Test.YtlhjocgkmeoheaaDoorSm
namespace Go.Tn
open Go.MapKept Go.RowKit
open Go.ChangeMaps (setBlock)

/-- Block r is a loop under way over the map in block b: 'left n' says whether the entry at n is still to come; cnt: how many are. -/
def RngS (w : World) (b r : Nat) (left : ByteArray → Bool) (cnt : Nat) : Prop :=
  ∃ es clock since seen c0, w.heap[b]? = some (.map es clock) ∧ Stamped es clock ∧ (∀ e ∈ es.toList, ∃ n, e.key = .string n) ∧ w.heap[r]? = some (.mapIter (some b) since seen c0) ∧ (∀ x ∈ es.toList, x.born < since) ∧ (leftOf es seen).size = cnt ∧
    (∀ x ∈ es.toList, ∀ n, x.key = .string n → left n = !seen.contains x.born) ∧ (∀ n, left n = true → ∃ x ∈ es.toList, x.key = .string n) ∧ since ≤ c0 ∧ since ≤ clock

section
variable {w w' : World} {b r : Nat} {left : ByteArray → Bool} {cnt : Nat} {P : Program}

theorem RngS.isS (h : RngS w b r left cnt) : IsS w b := by
  obtain ⟨es, clock, since, seen, c0, hb, hs, hk, _⟩ := h
  exact isS_iff_entries.2 ⟨es, clock, hb, hs, hk⟩
theorem RngS.rlt (h : RngS w b r left cnt) : r < w.heap.size := by
  obtain ⟨es, clock, since, seen, c0, _, _, _, hr, _⟩ := h
  exact (Array.getElem?_eq_some_iff.1 hr).1
theorem RngS.ne (h : RngS w b r left cnt) : r ≠ b := by
  obtain ⟨es, clock, since, seen, c0, hb, _, _, hr, _⟩ := h
  intro e
  rw [e, hb] at hr
  cases hr
theorem RngS.of_heap (h : RngS w b r left cnt) (hb : w'.heap[b]? = w.heap[b]?) (hr : w'.heap[r]? = w.heap[r]?) : RngS w' b r left cnt := by
  obtain ⟨es, clock, since, seen, c0, h1, hs, hk, h2, rest⟩ := h
  exact ⟨es, clock, since, seen, c0, hb.trans h1, hs, hk, hr.trans h2, rest⟩

/-- 'range m'. -/
theorem IsS.range (h : IsS w b) {t k e : TypeId} (ht : P.underlying t = some (.map k e)) :
    ∃ w', (Instr.range t (.map (some b))).run P w = .ok (.pointer (some ⟨w.heap.size, 0, none⟩)) w' ∧ RngS w' b w.heap.size (fun n => (sget w b n).isSome) (slen w b) ∧ Mod [] w w' := by
  have hlt := h.lt
  obtain ⟨es, clock, hb, hs, hk⟩ := isS_iff_entries.1 h
  have him := h.smap
  refine ⟨_, run_range_map w t k e b es clock ht hb, ⟨es, clock, clock, #[], clock, ((MapKept.heap_alloc w _).2 b hlt).trans hb, hs, hk, (MapKept.heap_alloc w _).1, hs.1, ?_, ?_, ?_, Nat.le_refl _, Nat.le_refl _⟩, (Mod.refl _ _).alloc _⟩
  · simp [leftOf, slen, hb]
  · intro x hx n hn
    obtain ⟨es', c', hb', _, _, hf⟩ := him
    rw [hb] at hb'
    injection hb' with hb'
    injection hb' with he hc
    subst he
    have := (hf n x.val).2 ⟨x, hx, hn, rfl⟩
    simp [this]
  · intro n hn
    obtain ⟨v, hv⟩ := Option.isSome_iff_exists.1 hn
    obtain ⟨es', c', hb', _, _, hf⟩ := him
    rw [hb] at hb'
    injection hb' with hb'
    injection hb' with he hc
    subst he
    obtain ⟨x, hx, hxk, _⟩ := (hf n v).1 hv
    exact ⟨x, hx, hxk⟩

theorem key_injS {es : Array MapEntry} {clock : Nat} (hs : Stamped es clock) {x e : MapEntry} (hx : x ∈ es.toList) (he : e ∈ es.toList) {n : ByteArray} (hxk : x.key = .string n) (hek : e.key = .string n) : x = e :=
  SMap.uniq hs hx he (hxk.trans hek.symm)

/-- The step. -/
theorem RngS.next (h : RngS w b r left cnt) (ty : TypeId) :
    ((∀ n, left n = false) ∧ (Instr.next (.pointer (some ⟨r, 0, none⟩)) false ty).run P w = .ok (.tuple #[.bool false]) w) ∨
    ∃ n v w' cnt', left n = true ∧ sget w b n = some v ∧ (Instr.next (.pointer (some ⟨r, 0, none⟩)) false ty).run P w = .ok (.tuple #[.bool true, .string n, v]) w' ∧
      RngS w' b r (fun m => left m && !(m == n)) cnt' ∧ cnt' < cnt ∧ Mod [r] w w' ∧ (Instr.entry (.pointer (some ⟨r, 0, none⟩))).run P w' = .ok (.tuple #[.string n, v]) w' := by
  have hne := h.ne
  have him := h.isS.smap
  obtain ⟨es, clock, since, seen, c0, hb, hs, hk, hr, hold, rfl, hl1, hl2, hsc, hsk⟩ := h
  rcases run_next_at (P := P) w ty r b since c0 seen es clock hr hb hold hsc with ⟨h0, hrun⟩ | ⟨e, he, w1, hal, hrun⟩
  · refine Or.inl ⟨fun n => ?_, hrun⟩
    cases hn : left n
    · rfl
    · obtain ⟨x, hx, hxk⟩ := hl2 n hn
      rw [hl1 x hx n hxk, all_seen es seen h0 x hx] at hn
      cases hn
  · right
    obtain ⟨hem, hes⟩ := mem_left he
    obtain ⟨n, hn⟩ := hk e hem
    have hv : sget w b n = some e.val := by
      obtain ⟨es', c', hb', _, _, hf⟩ := him
      rw [hb] at hb'
      injection hb' with hb'
      injection hb' with h1 h2
      subst h1
      exact (hf n e.val).2 ⟨e, hem, hn, rfl⟩
    have hr1 : w1.heap[r]? = some (.mapIter (some b) since seen c0) := by rcases hal with rfl | rfl <;> exact hr
    have hb1 : w1.heap[b]? = some (.map es clock) := by rcases hal with rfl | rfl <;> exact hb
    have hset := heap_set (o' := .mapIter (some b) since (seen.push e.born) clock) hr1
    have hb' : (setBlock w1 r (.mapIter (some b) since (seen.push e.born) clock)).heap[b]? = some (.map es clock) := (hset.2 b (fun e1 => hne e1.symm)).trans hb1
    have hst := (stamped_iff es clock).1 hs
    refine ⟨n, e.val, _, _, by rw [hl1 e hem n hn, hes]; rfl, hv, by rw [← hn]; exact hrun,
      ⟨es, clock, since, seen.push e.born, clock, hb', hs, hk, hset.1, hold, rfl, fun x hx m hm => ?_, fun m hm => hl2 m (by simp at hm; exact hm.1), hsk, hsk⟩, left_shrinks es seen e he, ?_,
      by rw [← hn]; exact run_entry_at _ r b since seen es clock e hset.1 hb' hem hst.2.1⟩
    · show (left m && !(m == n)) = _
      rw [hl1 x hx m hm, contains_push]
      have hbe : (m == n) = (x.born == e.born) := by
        by_cases hmn : m = n
        · subst hmn
          have := key_injS hs hx hem hm hn
          subst this
          simp
        · have h2 : x.born ≠ e.born := fun h => by
            have := born_inj hst.2.1 hx hem h
            subst this
            rw [hm] at hn
            injection hn with hn
            exact hmn hn
          rw [beq_eq_false_iff_ne.2 hmn, beq_eq_false_iff_ne.2 h2]
      rw [hbe]
      cases seen.contains x.born <;> cases (x.born == e.born) <;> rfl
    · rcases hal with rfl | rfl <;> exact ⟨rfl, rfl, rfl, by simp [setBlock], fun i _ hi => hset.2 i (fun e1 => hi (by rw [e1]; simp))⟩

end

section
variable {P : Program} (w : World) {ops : Array Oper} {rest : List Oper} {o : Oper} {a : Act} {Q : Exit → Act → World → Prop}
theorem wpList_range_rngS (hg : o.guard = none) (m : Operand) (t : TypeId) (hop : o.op = Op.range t m) {k e : TypeId} (ht : P.underlying t = some (.map k e)) {b : Nat} (hm : a.eval m = .map (some b)) (h : IsS w b)
    (hK : ∀ w', RngS w' b w.heap.size (fun n => (sget w b n).isSome) (slen w b) → Mod [] w w' → wpList P ops Q rest (a.put o.dst (.pointer (some ⟨w.heap.size, 0, none⟩))) w') : wpList P ops Q (o :: rest) a w := by
  refine wpList_plain hg fun K' hK' => ?_
  obtain ⟨w', hrun, r1, r2⟩ := h.range ht
  unfold Oper.wp
  simp [execOp, hop, hm, hrun, Result.andThen]
  exact hK' _ _ (hK w' r1 r2)

theorem wpList_next_rngS (hg : o.guard = none) (it : Operand) (hop : o.op = Op.next it false) {b r : Nat} {left : ByteArray → Bool} {cnt : Nat} (hit : a.eval it = .pointer (some ⟨r, 0, none⟩)) (h : RngS w b r left cnt)
    (hDone : (∀ n, left n = false) → wpList P ops Q rest (a.put o.dst (.tuple #[.bool false])) w)
    (hMore : ∀ n v w' cnt', left n = true → sget w b n = some v → RngS w' b r (fun m => left m && !(m == n)) cnt' → cnt' < cnt → Mod [r] w w' → (Instr.entry (.pointer (some ⟨r, 0, none⟩))).run P w' = .ok (.tuple #[.string n, v]) w' →
      wpList P ops Q rest (a.put o.dst (.tuple #[.bool true, .string n, v])) w') : wpList P ops Q (o :: rest) a w := by
  refine wpList_plain hg fun K' hK' => ?_
  unfold Oper.wp
  rcases h.next (P := P) o.type with ⟨hl, hrun⟩ | ⟨n, v, w', cnt', hl, hv, hrun, hrg, hlt, hm, hen⟩
  · simp [execOp, hop, hit, hrun, Result.andThen]
    exact hK' _ _ (hDone hl)
  · simp [execOp, hop, hit, hrun, Result.andThen]
    exact hK' _ _ (hMore n v w' cnt' hl hv hrg hlt hm hen)
end
end Go.Tn
