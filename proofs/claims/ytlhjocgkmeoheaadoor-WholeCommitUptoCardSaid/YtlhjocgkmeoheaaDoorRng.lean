/-
  'for k, v := range m' over a map keyed by ints, with deletions in the round; over any program. Plain lemmas of this claim; no Go function is named here.
-/
import Derived.Maps.RangeWalk
import Derived.Test.YtlhjocgkmeoheaaDoorBase
namespace Go.Tn
open Go.MapKept Go.RowKit
open Go.ChangeMaps (setBlock)

/-- Block r is a loop under way over the map in block b: 'left n' says whether the entry at n is still to come; cnt: how many are. -/
def Rng (w : World) (b r : Nat) (left : Int → Bool) (cnt : Nat) : Prop :=
  ∃ es clock since seen c0, w.heap[b]? = some (.map es clock) ∧ Stamped es clock ∧ (∀ e ∈ es.toList, ∃ n, e.key = .int .i64 n) ∧ w.heap[r]? = some (.mapIter (some b) since seen c0) ∧ (∀ x ∈ es.toList, x.born < since) ∧ (leftOf es seen).size = cnt ∧
    (∀ x ∈ es.toList, ∀ n, x.key = .int .i64 n → left n = !seen.contains x.born) ∧ (∀ n, left n = true → ∃ x ∈ es.toList, x.key = .int .i64 n) ∧ since ≤ c0 ∧ since ≤ clock

section
variable {w w' : World} {b r : Nat} {left : Int → Bool} {cnt : Nat} {P : Program}

theorem Rng.isM (h : Rng w b r left cnt) : IsM w b := by
  obtain ⟨es, clock, since, seen, c0, hb, hs, hk, _⟩ := h
  exact isM_iff_entries.2 ⟨es, clock, hb, hs, hk⟩
theorem Rng.rlt (h : Rng w b r left cnt) : r < w.heap.size := by
  obtain ⟨es, clock, since, seen, c0, _, _, _, hr, _⟩ := h
  exact (Array.getElem?_eq_some_iff.1 hr).1
theorem Rng.ne (h : Rng w b r left cnt) : r ≠ b := by
  obtain ⟨es, clock, since, seen, c0, hb, _, _, hr, _⟩ := h
  intro e
  rw [e, hb] at hr
  cases hr
theorem Rng.of_heap (h : Rng w b r left cnt) (hb : w'.heap[b]? = w.heap[b]?) (hr : w'.heap[r]? = w.heap[r]?) : Rng w' b r left cnt := by
  obtain ⟨es, clock, since, seen, c0, h1, hs, hk, h2, rest⟩ := h
  exact ⟨es, clock, since, seen, c0, hb.trans h1, hs, hk, hr.trans h2, rest⟩

/-- 'range m'. -/
theorem IsM.range (h : IsM w b) {t k e : TypeId} (ht : P.underlying t = some (.map k e)) :
    ∃ w', (Instr.range t (.map (some b))).run P w = .ok (.pointer (some ⟨w.heap.size, 0, none⟩)) w' ∧ Rng w' b w.heap.size (fun n => (mget w b n).isSome) (mlen w b) ∧ Mod [] w w' := by
  have hlt := h.lt
  obtain ⟨es, clock, hb, hs, hk⟩ := isM_iff_entries.1 h
  have him := h.imap
  refine ⟨_, run_range_map w t k e b es clock ht hb, ⟨es, clock, clock, #[], clock, ((MapKept.heap_alloc w _).2 b hlt).trans hb, hs, hk, (MapKept.heap_alloc w _).1, hs.1, ?_, ?_, ?_, Nat.le_refl _, Nat.le_refl _⟩, (Mod.refl _ _).alloc _⟩
  · simp [leftOf, mlen, hb]
  · intro x hx n hn
    obtain ⟨es', c', hb', _, _, hf⟩ := him
    rw [hb] at hb'
    injection hb' with hb'
    injection hb' with he hc
    subst he
    have := (hf n x.val).2 ⟨x, hx, hn, rfl⟩
    simp [this]
  · intro n hn
    obtain ⟨v, hv⟩ := Option.isSome_iff_exists.1 hn
    obtain ⟨es', c', hb', _, _, hf⟩ := him
    rw [hb] at hb'
    injection hb' with hb'
    injection hb' with he hc
    subst he
    obtain ⟨x, hx, hxk, _⟩ := (hf n v).1 hv
    exact ⟨x, hx, hxk⟩

theorem key_inj {es : Array MapEntry} {clock : Nat} (hs : Stamped es clock) {x e : MapEntry} (hx : x ∈ es.toList) (he : e ∈ es.toList) {n : Int} (hxk : x.key = .int .i64 n) (hek : e.key = .int .i64 n) : x = e :=
  IMap.uniq hs hx he (hxk.trans hek.symm)

/-- The step. -/
theorem Rng.next (h : Rng w b r left cnt) (ty : TypeId) :
    ((∀ n, left n = false) ∧ (Instr.next (.pointer (some ⟨r, 0, none⟩)) false ty).run P w = .ok (.tuple #[.bool false]) w) ∨
    ∃ n v w' cnt', left n = true ∧ mget w b n = some v ∧ (Instr.next (.pointer (some ⟨r, 0, none⟩)) false ty).run P w = .ok (.tuple #[.bool true, .int .i64 n, v]) w' ∧
      Rng w' b r (fun m => left m && !(m == n)) cnt' ∧ cnt' < cnt ∧ Mod [r] w w' ∧ (Instr.entry (.pointer (some ⟨r, 0, none⟩))).run P w' = .ok (.tuple #[.int .i64 n, v]) w' := by
  have hne := h.ne
  have him := h.isM.imap
  obtain ⟨es, clock, since, seen, c0, hb, hs, hk, hr, hold, rfl, hl1, hl2, hsc, hsk⟩ := h
  rcases run_next_at (P := P) w ty r b since c0 seen es clock hr hb hold hsc with ⟨h0, hrun⟩ | ⟨e, he, w1, hal, hrun⟩
  · refine Or.inl ⟨fun n => ?_, hrun⟩
    cases hn : left n
    · rfl
    · obtain ⟨x, hx, hxk⟩ := hl2 n hn
      rw [hl1 x hx n hxk, all_seen es seen h0 x hx] at hn
      cases hn
  · right
    obtain ⟨hem, hes⟩ := mem_left he
    obtain ⟨n, hn⟩ := hk e hem
    have hv : mget w b n = some e.val := by
      obtain ⟨es', c', hb', _, _, hf⟩ := him
      rw [hb] at hb'
      injection hb' with hb'
      injection hb' with h1 h2
      subst h1
      exact (hf n e.val).2 ⟨e, hem, hn, rfl⟩
    have hr1 : w1.heap[r]? = some (.mapIter (some b) since seen c0) := by rcases hal with rfl | rfl <;> exact hr
    have hb1 : w1.heap[b]? = some (.map es clock) := by rcases hal with rfl | rfl <;> exact hb
    have hset := heap_set (o' := .mapIter (some b) since (seen.push e.born) clock) hr1
    have hb' : (setBlock w1 r (.mapIter (some b) since (seen.push e.born) clock)).heap[b]? = some (.map es clock) := (hset.2 b (fun e1 => hne e1.symm)).trans hb1
    have hst := (stamped_iff es clock).1 hs
    refine ⟨n, e.val, _, _, by rw [hl1 e hem n hn, hes]; rfl, hv, by rw [← hn]; exact hrun,
      ⟨es, clock, since, seen.push e.born, clock, hb', hs, hk, hset.1, hold, rfl, fun x hx m hm => ?_, fun m hm => hl2 m (by simp at hm; exact hm.1), hsk, hsk⟩, left_shrinks es seen e he, ?_,
      by rw [← hn]; exact run_entry_at _ r b since seen es clock e hset.1 hb' hem hst.2.1⟩
    · show (left m && !(m == n)) = _
      rw [hl1 x hx m hm, contains_push]
      have hbe : (m == n) = (x.born == e.born) := by
        by_cases hmn : m = n
        · subst hmn
          have := key_inj hs hx hem hm hn
          subst this
          simp
        · have h2 : x.born ≠ e.born := fun h => by
            have := born_inj hst.2.1 hx hem h
            subst this
            rw [hm] at hn
            injection hn with _ hn
            exact hmn hn
          rw [beq_eq_false_iff_ne.2 hmn, beq_eq_false_iff_ne.2 h2]
      rw [hbe]
      cases seen.contains x.born <;> cases (x.born == e.born) <;> rfl
    · rcases hal with rfl | rfl <;> exact ⟨rfl, rfl, rfl, by simp [setBlock], fun i _ hi => hset.2 i (fun e1 => hi (by rw [e1]; simp))⟩

/-- 'delete(m, n)' in the round. -/
theorem Rng.drop (h : Rng w b r left cnt) (n : Int) : ∃ cnt', Rng (mdel w b n) b r (fun m => left m && !(m == n)) cnt' ∧ cnt' ≤ cnt := by
  have hne := h.ne
  obtain ⟨es, clock, since, seen, c0, hb, hs, hk, hr, hold, rfl, hl1, hl2, hsc, hsk⟩ := h
  have hh : (mdel w b n).heap[b]? = some (mdelE es clock n) := by simp [mdel, Array.getElem?_modify, hb]
  have hr' : (mdel w b n).heap[r]? = some (.mapIter (some b) since seen c0) := (mdel_heap_other w b n hne).trans hr
  rcases find_spec n es.toList 0 hk with ⟨h1, _, h3⟩ | ⟨i, e0, h1, _, h3, h4⟩
  · refine ⟨_, ⟨es, clock, since, seen, c0, by rw [hh, mdelE, h1], hs, hk, hr', hold, rfl, fun x hx m hm => ?_, fun m hm => hl2 m (by simp at hm; exact hm.1), hsc, hsk⟩, Nat.le_refl _⟩
    have hmn : m ≠ n := fun e => h3 x hx (by rw [hm, e])
    simp [hl1 x hx m hm, hmn]
  · have hil : i < es.toList.length := (List.getElem?_eq_some_iff.1 h3).1
    have his : i < es.size := by simpa using hil
    have hsub : (es.eraseIdxIfInBounds i).toList = es.toList.eraseIdx i := by
      unfold Array.eraseIdxIfInBounds
      rw [dif_pos his]
      simp
    have hwho : ∀ x, x ∈ (es.eraseIdxIfInBounds i).toList ↔ (x ∈ es.toList ∧ x.key ≠ .int .i64 n) := fun x => by
      rw [hsub, List.mem_eraseIdx_iff_getElem?]
      constructor
      · rintro ⟨j, hj, hx⟩
        refine ⟨List.mem_of_getElem? hx, fun hkx => hj ?_⟩
        have hjl := (List.getElem?_eq_some_iff.1 hx).1
        have hxe : x = e0 := key_inj hs (List.mem_of_getElem? hx) (List.mem_of_getElem? h3) hkx h4
        have hst := (stamped_iff es clock).1 hs
        rcases Nat.lt_trichotomy j i with hlt | heq | hgt
        · exfalso
          have := List.pairwise_iff_getElem.1 hst.2.2 j i hjl hil hlt
          rw [(List.getElem?_eq_some_iff.1 hx).2, (List.getElem?_eq_some_iff.1 h3).2, hxe] at this
          exact this rfl
        · exact heq
        · exfalso
          have := List.pairwise_iff_getElem.1 hst.2.2 i j hil hjl hgt
          rw [(List.getElem?_eq_some_iff.1 hx).2, (List.getElem?_eq_some_iff.1 h3).2, hxe] at this
          exact this rfl
      · rintro ⟨hx, hkx⟩
        obtain ⟨j, hj⟩ := List.getElem?_of_mem hx
        refine ⟨j, fun e1 => hkx ?_, hj⟩
        rw [e1, h3] at hj
        injection hj with hj
        rw [← hj, h4]
    refine ⟨_, ⟨es.eraseIdxIfInBounds i, clock, since, seen, c0, by rw [hh, mdelE, h1], stamped_erase hs i, fun x hx => hk x ((hwho x).1 hx).1, hr', fun x hx => hold x ((hwho x).1 hx).1, rfl, fun x hx m hm => ?_, fun m hm => ?_, hsc, hsk⟩, ?_⟩
    · obtain ⟨hx1, hx2⟩ := (hwho x).1 hx
      have hmn : m ≠ n := fun e => hx2 (by rw [hm, e])
      simp [hl1 x hx1 m hm, hmn]
    · simp only [Bool.and_eq_true, Bool.not_eq_true', beq_eq_false_iff_ne] at hm
      obtain ⟨x, hx, hxk⟩ := hl2 m hm.1
      refine ⟨x, (hwho x).2 ⟨hx, fun e => hm.2 ?_⟩, hxk⟩
      rw [hxk] at e
      injection e with _ e
    · have e1 : ∀ a : Array MapEntry, (leftOf a seen).size = (a.toList.filter fun e => !seen.contains e.born).length := fun a => by
        unfold leftOf
        rw [← Array.toList_filter, Array.length_toList]
      rw [e1, e1, hsub]
      exact ((List.eraseIdx_sublist _ _).filter _).length_le

end

section
variable {P : Program} (w : World) {ops : Array Oper} {rest : List Oper} {o : Oper} {a : Act} {Q : Exit → Act → World → Prop}
theorem wpList_range_rng (hg : o.guard = none) (m : Operand) (t : TypeId) (hop : o.op = Op.range t m) {k e : TypeId} (ht : P.underlying t = some (.map k e)) {b : Nat} (hm : a.eval m = .map (some b)) (h : IsM w b)
    (hK : ∀ w', Rng w' b w.heap.size (fun n => (mget w b n).isSome) (mlen w b) → Mod [] w w' → wpList P ops Q rest (a.put o.dst (.pointer (some ⟨w.heap.size, 0, none⟩))) w') : wpList P ops Q (o :: rest) a w := by
  refine wpList_plain hg fun K' hK' => ?_
  obtain ⟨w', hrun, r1, r2⟩ := h.range ht
  unfold Oper.wp
  simp [execOp, hop, hm, hrun, Result.andThen]
  exact hK' _ _ (hK w' r1 r2)

theorem wpList_next_rng (hg : o.guard = none) (it : Operand) (hop : o.op = Op.next it false) {b r : Nat} {left : Int → Bool} {cnt : Nat} (hit : a.eval it = .pointer (some ⟨r, 0, none⟩)) (h : Rng w b r left cnt)
    (hDone : (∀ n, left n = false) → wpList P ops Q rest (a.put o.dst (.tuple #[.bool false])) w)
    (hMore : ∀ n v w' cnt', left n = true → mget w b n = some v → Rng w' b r (fun m => left m && !(m == n)) cnt' → cnt' < cnt → Mod [r] w w' → (Instr.entry (.pointer (some ⟨r, 0, none⟩))).run P w' = .ok (.tuple #[.int .i64 n, v]) w' →
      wpList P ops Q rest (a.put o.dst (.tuple #[.bool true, .int .i64 n, v])) w') : wpList P ops Q (o :: rest) a w := by
  refine wpList_plain hg fun K' hK' => ?_
  unfold Oper.wp
  rcases h.next (P := P) o.type with ⟨hl, hrun⟩ | ⟨n, v, w', cnt', hl, hv, hrun, hrg, hlt, hm, hen⟩
  · simp [execOp, hop, hit, hrun, Result.andThen]
    exact hK' _ _ (hDone hl)
  · simp [execOp, hop, hit, hrun, Result.andThen]
    exact hK' _ _ (hMore n v w' cnt' hl hv hrg hlt hm hen)
end
end Go.Tn
