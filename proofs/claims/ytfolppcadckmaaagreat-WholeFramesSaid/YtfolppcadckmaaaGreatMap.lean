/-
  Maps keyed by ints, as functions from Int to values: what look-ups, stores, deletions and len do, over any program. Plain lemmas of this claim; no Go function is named here.
-/
import Derived.WalkKit
import Derived.MapKept
import Derived.ChangeMaps5
import Derived.Deep.Draws
namespace Go.Tn
open Go.MapKept Go.RowKit

/-- Block b of w is a map keyed by ints whose entry at n is f n. -/
def IMap (w : World) (b : Nat) (f : Int → Option Value) : Prop :=
  ∃ es clock, w.heap[b]? = some (.map es clock) ∧ Stamped es clock ∧ (∀ e ∈ es.toList, ∃ n, e.key = .int .i64 n) ∧
    ∀ n v, f n = some v ↔ ∃ e ∈ es.toList, e.key = .int .i64 n ∧ e.val = v

def keyIs (n : Int) (e : MapEntry) : Bool := match e.key with | .int .i64 m => m == n | _ => false

theorem key_of_keyIs {n : Int} {e : MapEntry} (h : keyIs n e = true) : e.key = .int .i64 n := by
  unfold keyIs at h
  split at h
  · rename_i m hk
    rw [hk]
    simp only [beq_iff_eq] at h
    rw [h]
  · cases h

theorem keyIs_of {n m : Int} {e : MapEntry} (h : e.key = .int .i64 m) : keyIs n e = (m == n) := by simp [keyIs, h]

def mputE (es : Array MapEntry) (clock : Nat) (n : Int) (v : Value) : Obj :=
  match es.toList.findIdx? (keyIs n) with
  | some i => .map (es.modify i fun e => { e with key := .int .i64 n, val := v }) clock
  | none => .map (es.push { key := .int .i64 n, val := v, born := clock }) (clock + 1)

def mdelE (es : Array MapEntry) (clock : Nat) (n : Int) : Obj :=
  match es.toList.findIdx? (keyIs n) with
  | some i => .map (es.eraseIdxIfInBounds i) clock
  | none => .map es clock

/-- The world behind 'm[n] = v'. -/
def mput (w : World) (b : Nat) (n : Int) (v : Value) : World :=
  { w with heap := w.heap.modify b fun | .map es clock => mputE es clock n v | o => o }

/-- The world behind 'delete(m, n)'. -/
def mdel (w : World) (b : Nat) (n : Int) : World :=
  { w with heap := w.heap.modify b fun | .map es clock => mdelE es clock n | o => o }

section
variable {w : World} {b : Nat} {f : Int → Option Value}

theorem isKey_int (n : Int) : IsKey (.int .i64) (.int .i64 n) := by simp [IsKey]

theorem IMap.lt (h : IMap w b f) : b < w.heap.size := by
  obtain ⟨es, c, hb, _⟩ := h
  exact (Array.getElem?_eq_some_iff.1 hb).1

theorem IMap.of_heap {w' : World} (h : IMap w b f) (hh : w'.heap[b]? = w.heap[b]?) : IMap w' b f := by
  obtain ⟨es, c, hb, r⟩ := h
  exact ⟨es, c, hh.trans hb, r⟩

theorem IMap.uniq {es : Array MapEntry} {clock : Nat} (hs : Stamped es clock) {e e' : MapEntry} (he : e ∈ es.toList) (he' : e' ∈ es.toList) (hk : e.key = e'.key) : e = e' := by
  have hn := ((stamped_iff es clock).1 hs).2.2
  obtain ⟨i, hi, rfl⟩ := List.getElem_of_mem he
  obtain ⟨j, hj, rfl⟩ := List.getElem_of_mem he'
  rcases Nat.lt_trichotomy i j with h | h | h
  · exact absurd hk (List.pairwise_iff_getElem.1 hn i j hi hj h)
  · subst h; rfl
  · exact absurd hk.symm (List.pairwise_iff_getElem.1 hn j i hj hi h)

theorem find_spec (n : Int) : ∀ (l : List MapEntry) (k : Nat), (∀ e ∈ l, ∃ m, e.key = .int .i64 m) →
    (l.findIdx? (keyIs n) = none ∧ Instr.findNow (.int .i64) (.int .i64 n) l k = some none ∧ ∀ e ∈ l, e.key ≠ .int .i64 n) ∨
    ∃ i e, l.findIdx? (keyIs n) = some i ∧ Instr.findNow (.int .i64) (.int .i64 n) l k = some (some (k + i, e.val)) ∧ l[i]? = some e ∧ e.key = .int .i64 n
  | [], k, _ => by left; simp [Instr.findNow]
  | x :: r, k, h => by
    obtain ⟨m, hm⟩ := h x (by simp)
    have hr : ∀ e ∈ r, ∃ m, e.key = .int .i64 m := fun e he => h e (by simp [he])
    by_cases hmn : m = n
    · right
      refine ⟨0, x, ?_, ?_, rfl, by rw [hm, hmn]⟩
      · simp [List.findIdx?_cons, keyIs_of hm, hmn]
      · simp [Instr.findNow, Instr.sameNow, hm, hmn]
    · have hnm : ¬ n = m := fun e => hmn e.symm
      rcases find_spec n r (k + 1) hr with ⟨h1, h2, h3⟩ | ⟨i, e, h1, h2, h3, h4⟩
      · left
        refine ⟨?_, ?_, ?_⟩
        · simp [List.findIdx?_cons, keyIs_of hm, hmn, h1]
        · have hb : (n == m) = false := by simpa using hnm
          simp [Instr.findNow, Instr.sameNow, hm, hb, h2]
        · intro e he
          rcases List.mem_cons.1 he with rfl | he
          · rw [hm]; intro e; injection e with _ e; exact hmn e
          · exact h3 e he
      · right
        refine ⟨i + 1, e, ?_, ?_, by simpa using h3, h4⟩
        · simp [List.findIdx?_cons, keyIs_of hm, hmn, h1]
        · have hb : (n == m) = false := by simpa using hnm
          simp [Instr.findNow, Instr.sameNow, hm, hb, h2]; omega

/-! ### the runs -/
variable {P : Program} {t kt et : TypeId}

theorem IMap.find (h : IMap w b f) (hk : P.underlying kt = some (.int .i64)) (n : Int) : ∃ es clock, w.heap[b]? = some (.map es clock) ∧
    ((es.toList.findIdx? (keyIs n) = none ∧ f n = none ∧ (Instr.findKey kt (.int .i64 n) es.toList).run P w = .ok none w) ∨
     ∃ i e, es.toList.findIdx? (keyIs n) = some i ∧ es[i]? = some e ∧ e.key = .int .i64 n ∧ f n = some e.val ∧ (Instr.findKey kt (.int .i64 n) es.toList).run P w = .ok (some (i, e.val)) w) := by
  obtain ⟨es, c, hb, hs, hks, hf⟩ := h
  refine ⟨es, c, hb, ?_⟩
  rcases find_spec n es.toList 0 hks with ⟨h1, h2, h3⟩ | ⟨i, e, h1, h2, h3, h4⟩
  · left
    refine ⟨h1, ?_, run_findKey hk h2⟩
    cases hfn : f n with
    | none => rfl
    | some v =>
      obtain ⟨e, he, hk', _⟩ := (hf n v).1 hfn
      exact absurd hk' (h3 e he)
  · right
    refine ⟨i, e, h1, by simpa using h3, h4, (hf n e.val).2 ⟨e, List.mem_of_getElem? h3, h4, rfl⟩, ?_⟩
    have := run_findKey (w := w) hk h2
    simpa using this

/-- 'm[n]', 'v, ok := m[n]'. -/
theorem IMap.look (h : IMap w b f) (ht : P.underlying t = some (.map kt et)) (hk : P.underlying kt = some (.int .i64)) {z : Value} (hz : (zeroValue et).run P w = .ok z w) (n : Int) (c : Bool) :
    (Instr.lookup t (.map (some b)) (.int .i64 n) c).run P w = .ok (if c then .tuple #[(f n).getD z, .bool (f n).isSome] else (f n).getD z) w := by
  obtain ⟨es, cl, hb, h⟩ := h.find hk n
  have hck : ∀ em, (Instr.checkKey em 10000 kt (.int .i64 n)).run P w = .ok () w := fun em => run_checkKey (n := 9999) hk (isKey_int n) em
  rcases h with ⟨_, h2, h3⟩ | ⟨i, e, _, _, _, h4, h5⟩
  · simp [Instr.lookup, run_underlying ht, MapKept.run_getObj_map hb, hck, h3, hz, h2, Result.andThen]
  · simp [Instr.lookup, run_underlying ht, MapKept.run_getObj_map hb, hck, h5, h4, Result.andThen]

theorem heap_modify_set {w : World} {b : Nat} {es : Array MapEntry} {clock : Nat} (hb : w.heap[b]? = some (.map es clock)) (g : Obj → Obj) : w.heap.modify b g = w.heap.setIfInBounds b (g (.map es clock)) := by
  apply Array.ext_getElem?
  intro i
  rw [Array.getElem?_modify, Array.getElem?_setIfInBounds]
  by_cases hi : b = i
  · subst hi
    have hlt := (Array.getElem?_eq_some_iff.1 hb).1
    rw [if_pos rfl, if_pos rfl, if_pos hlt, hb]; rfl
  · simp [hi]

/-- 'm[n] = v'. -/
theorem IMap.store (h : IMap w b f) (ht : P.underlying t = some (.map kt et)) (hk : P.underlying kt = some (.int .i64)) (n : Int) (v : Value) :
    (Instr.mapUpdate t (.map (some b)) (.int .i64 n) v).run P w = .ok () (mput w b n v) := by
  obtain ⟨es, cl, hb, h⟩ := h.find hk n
  have hck : ∀ em, (Instr.checkKey em 10000 kt (.int .i64 n)).run P w = .ok () w := fun em => run_checkKey (n := 9999) hk (isKey_int n) em
  rcases h with ⟨h1, _, h3⟩ | ⟨i, e, h1, h2, h3, _, h5⟩
  · simp [Instr.mapUpdate, run_underlying ht, MapKept.run_getObj_map hb, hck, h3, run_setObj_map _ hb, Result.andThen, mput, heap_modify_set hb, mputE, h1]
  · have hst := run_keyThatStays (P := P) (w := w) (isKey_int n)
    simp [Instr.mapUpdate, run_underlying ht, MapKept.run_getObj_map hb, hck, h5, h2, h3, hst, run_setObj_map _ hb, Result.andThen, mput, heap_modify_set hb, mputE, h1]

/-- 'delete(m, n)'. -/
theorem IMap.delete (h : IMap w b f) (ht : P.underlying t = some (.map kt et)) (hk : P.underlying kt = some (.int .i64)) (n : Int) (ty : TypeId) :
    (Builtin.delete_ #[t, kt] ty #[.map (some b), .int .i64 n]).run P w = .ok (.tuple #[]) (mdel w b n) := by
  obtain ⟨es, cl, hb, h⟩ := h.find hk n
  have hck : ∀ em, (Instr.checkKey em 10000 kt (.int .i64 n)).run P w = .ok () w := fun em => run_checkKey (n := 9999) hk (isKey_int n) em
  rcases h with ⟨h1, _, h3⟩ | ⟨i, e, h1, h2, h3, _, h5⟩
  · simp [Builtin.delete_, run_underlying ht, MapKept.run_getObj_map hb, hck, h3, run_setObj_map _ hb, Result.andThen, mdel, heap_modify_set hb, mdelE, h1]
  · simp [Builtin.delete_, run_underlying ht, MapKept.run_getObj_map hb, hck, h5, run_setObj_map _ hb, Result.andThen, mdel, heap_modify_set hb, mdelE, h1]

end

/-! ### what the worlds behind hold -/
section
variable (w : World) (b : Nat) (n : Int) (v : Value)

theorem mput_heap_other {i : Nat} (h : i ≠ b) : (mput w b n v).heap[i]? = w.heap[i]? := by
  simp only [mput, Array.getElem?_modify]; rw [if_neg (fun e => h e.symm)]
theorem mdel_heap_other {i : Nat} (h : i ≠ b) : (mdel w b n).heap[i]? = w.heap[i]? := by
  simp only [mdel, Array.getElem?_modify]; rw [if_neg (fun e => h e.symm)]
@[simp, go_sem] theorem mput_size : (mput w b n v).heap.size = w.heap.size := by simp [mput]
@[simp, go_sem] theorem mdel_size : (mdel w b n).heap.size = w.heap.size := by simp [mdel]
@[simp, go_sem] theorem mput_tape : (mput w b n v).tape = w.tape := rfl
@[simp, go_sem] theorem mdel_tape : (mdel w b n).tape = w.tape := rfl
@[simp, go_sem] theorem mput_drawn : (mput w b n v).drawn = w.drawn := rfl
@[simp, go_sem] theorem mdel_drawn : (mdel w b n).drawn = w.drawn := rfl
@[go_sem] theorem mput_drew : mput w.drew b n v = (mput w b n v).drew := rfl
@[go_sem] theorem mdel_drew : mdel w.drew b n = (mdel w b n).drew := rfl
@[go_sem] theorem mput_drewN (k : Nat) : mput (w.drewN k) b n v = (mput w b n v).drewN k := rfl
@[go_sem] theorem mdel_drewN (k : Nat) : mdel (w.drewN k) b n = (mdel w b n).drewN k := rfl

@[simp, go_sem] theorem mput_cell (a : Addr) : (mput w b n v).cell? a = w.cell? a := by
  simp only [mput, World.cell?, Array.getElem?_modify]
  by_cases hb : b = a.block
  · simp only [hb, if_true]
    cases hh : w.heap[a.block]? with
    | none => simp
    | some x =>
      cases x <;> simp
      rename_i es c
      simp only [mputE]
      cases es.toList.findIdx? (keyIs n) <;> rfl
  · simp [hb]
@[simp, go_sem] theorem mdel_cell (a : Addr) : (mdel w b n).cell? a = w.cell? a := by
  simp only [mdel, World.cell?, Array.getElem?_modify]
  by_cases hb : b = a.block
  · simp only [hb, if_true]
    cases hh : w.heap[a.block]? with
    | none => simp
    | some x =>
      cases x <;> simp
      rename_i es c
      simp only [mdelE]
      cases es.toList.findIdx? (keyIs n) <;> rfl
  · simp [hb]
@[simp, go_sem] theorem mput_frozen (a : Addr) : (mput w b n v).frozen? a = w.frozen? a := by
  simp only [mput, World.frozen?, Array.getElem?_modify]
  by_cases hb : b = a.block
  · simp only [hb, if_true]
    cases hh : w.heap[a.block]? with
    | none => simp
    | some x =>
      cases x <;> simp
      rename_i es c
      simp only [mputE]
      cases es.toList.findIdx? (keyIs n) <;> rfl
  · simp [hb]
@[simp, go_sem] theorem mdel_frozen (a : Addr) : (mdel w b n).frozen? a = w.frozen? a := by
  simp only [mdel, World.frozen?, Array.getElem?_modify]
  by_cases hb : b = a.block
  · simp only [hb, if_true]
    cases hh : w.heap[a.block]? with
    | none => simp
    | some x =>
      cases x <;> simp
      rename_i es c
      simp only [mdelE]
      cases es.toList.findIdx? (keyIs n) <;> rfl
  · simp [hb]

end

/-- f with v at n. -/
def upd (f : Int → Option Value) (n : Int) (v : Option Value) : Int → Option Value := fun m => if m = n then v else f m

section
variable {w : World} {b : Nat} {f : Int → Option Value}

theorem mem_modify {es : Array MapEntry} {i : Nat} {g : MapEntry → MapEntry} {e : MapEntry} (he : es[i]? = some e) (x : MapEntry) :
    x ∈ (es.modify i g).toList ↔ x = g e ∨ ∃ j, j ≠ i ∧ es[j]? = some x := by
  rw [List.mem_iff_getElem?]
  constructor
  · rintro ⟨j, hj⟩
    rw [Array.getElem?_toList, Array.getElem?_modify] at hj
    by_cases hij : i = j
    · subst hij; rw [if_pos rfl, he] at hj; left; simpa using hj.symm
    · rw [if_neg hij] at hj; right; exact ⟨j, fun e => hij e.symm, hj⟩
  · rintro (rfl | ⟨j, hj, hx⟩)
    · exact ⟨i, by rw [Array.getElem?_toList, Array.getElem?_modify, if_pos rfl, he]; rfl⟩
    · exact ⟨j, by rw [Array.getElem?_toList, Array.getElem?_modify, if_neg (fun e => hj e.symm)]; exact hx⟩

theorem IMap.mput (h : IMap w b f) (n : Int) (v : Value) : IMap (mput w b n v) b (upd f n (some v)) := by
  obtain ⟨es, c, hb, hs, hks, hf⟩ := h
  have hbl := (Array.getElem?_eq_some_iff.1 hb).1
  have hh : (Tn.mput w b n v).heap[b]? = some (mputE es c n v) := by
    simp [Tn.mput, Array.getElem?_modify, hb]
  rcases find_spec n es.toList 0 hks with ⟨h1, _, h3⟩ | ⟨i, e, h1, _, h3, h4⟩
  · refine ⟨es.push { key := .int .i64 n, val := v, born := c }, c + 1, by rw [hh, mputE, h1], stamped_push hs (fun x hx => h3 x hx), ?_, ?_⟩
    · intro e he
      simp at he
      rcases he with he | rfl
      · exact hks e (by simpa using he)
      · exact ⟨n, rfl⟩
    · intro m u
      unfold upd
      by_cases hm : m = n
      · subst hm
        rw [if_pos rfl]
        constructor
        · intro hu
          injection hu with hu
          exact ⟨{ key := .int .i64 m, val := v, born := c }, by simp, rfl, hu⟩
        · rintro ⟨e, he, hk, hv⟩
          simp at he
          rcases he with he | rfl
          · exact absurd hk (h3 e (by simpa using he))
          · rw [← hv]
      · rw [if_neg hm, hf]
        constructor
        · rintro ⟨e, he, r⟩
          exact ⟨e, by simp; left; simpa using he, r⟩
        · rintro ⟨e, he, hk, hv⟩
          simp at he
          rcases he with he | rfl
          · exact ⟨e, by simpa using he, hk, hv⟩
          · injection hk with _ hk; exact absurd hk.symm hm
  · have hei : es[i]? = some e := by simpa using h3
    refine ⟨es.modify i fun e => { e with key := .int .i64 n, val := v }, c, by rw [hh, mputE, h1], ?_, ?_, ?_⟩
    · refine stamped_modify hs i _ (fun _ _ => rfl) (fun e' _ he' => ?_)
      rw [hei] at he'
      injection he' with he'
      subst he'
      exact h4.symm
    · intro x hx
      rcases (mem_modify hei x).1 hx with rfl | ⟨j, _, hj⟩
      · exact ⟨n, rfl⟩
      · exact hks x (List.mem_of_getElem? (by simpa using hj))
    · intro m u
      unfold upd
      by_cases hm : m = n
      · subst hm
        rw [if_pos rfl]
        constructor
        · intro hu
          injection hu with hu
          exact ⟨_, (mem_modify hei _).2 (.inl rfl), rfl, hu⟩
        · rintro ⟨x, hx, hk, hv⟩
          rcases (mem_modify hei x).1 hx with rfl | ⟨j, hj, hx'⟩
          · rw [← hv]
          · exfalso
            have hn := ((stamped_iff es c).1 hs).2.2
            have hj' : es.toList[j]? = some x := by simpa using hx'
            obtain ⟨hjl, hjx⟩ := List.getElem?_eq_some_iff.1 hj'
            obtain ⟨hil, hie⟩ := List.getElem?_eq_some_iff.1 h3
            rcases Nat.lt_or_gt_of_ne hj with h | h
            · exact (List.pairwise_iff_getElem.1 hn j i hjl hil h) (by rw [hjx, hie, hk, h4])
            · exact (List.pairwise_iff_getElem.1 hn i j hil hjl h) (by rw [hjx, hie, hk, h4])
      · rw [if_neg hm, hf]
        constructor
        · rintro ⟨x, hx, hk, hv⟩
          obtain ⟨j, hj⟩ := List.mem_iff_getElem?.1 hx
          refine ⟨x, (mem_modify hei x).2 (.inr ⟨j, ?_, by simpa using hj⟩), hk, hv⟩
          rintro rfl
          rw [h3] at hj
          injection hj with hj
          subst hj
          rw [h4] at hk
          injection hk with _ hk
          exact hm hk.symm
        · rintro ⟨x, hx, hk, hv⟩
          rcases (mem_modify hei x).1 hx with rfl | ⟨j, _, hj⟩
          · injection hk with _ hk; exact absurd hk.symm hm
          · exact ⟨x, List.mem_of_getElem? (by simpa using hj), hk, hv⟩

theorem IMap.mdel (h : IMap w b f) (n : Int) : IMap (mdel w b n) b (upd f n none) := by
  obtain ⟨es, c, hb, hs, hks, hf⟩ := h
  have hh : (Tn.mdel w b n).heap[b]? = some (mdelE es c n) := by
    simp [Tn.mdel, Array.getElem?_modify, hb]
  rcases find_spec n es.toList 0 hks with ⟨h1, _, h3⟩ | ⟨i, e, h1, _, h3, h4⟩
  · refine ⟨es, c, by rw [hh, mdelE, h1], hs, hks, ?_⟩
    intro m u
    unfold upd
    by_cases hm : m = n
    · subst hm
      rw [if_pos rfl]
      constructor
      · intro hu; cases hu
      · rintro ⟨e, he, hk, _⟩; exact absurd hk (h3 e he)
    · rw [if_neg hm, hf]
  · have hmem : ∀ x, x ∈ (es.eraseIdxIfInBounds i).toList ↔ ∃ j, j ≠ i ∧ es.toList[j]? = some x := by
      intro x
      have hil := (List.getElem?_eq_some_iff.1 h3).1
      have e1 : (es.eraseIdxIfInBounds i).toList = es.toList.eraseIdx i := by
        have : i < es.size := by simpa using hil
        simp [Array.eraseIdxIfInBounds, this]
      rw [e1, List.mem_eraseIdx_iff_getElem?]
    refine ⟨es.eraseIdxIfInBounds i, c, by rw [hh, mdelE, h1], stamped_erase hs i, ?_, ?_⟩
    · intro x hx
      obtain ⟨j, _, hj⟩ := (hmem x).1 hx
      exact hks x (List.mem_of_getElem? hj)
    · intro m u
      unfold upd
      by_cases hm : m = n
      · subst hm
        rw [if_pos rfl]
        constructor
        · intro hu; cases hu
        · rintro ⟨x, hx, hk, _⟩
          exfalso
          obtain ⟨j, hj, hx'⟩ := (hmem x).1 hx
          have hn := ((stamped_iff es c).1 hs).2.2
          obtain ⟨hjl, hjx⟩ := List.getElem?_eq_some_iff.1 hx'
          obtain ⟨hil, hie⟩ := List.getElem?_eq_some_iff.1 h3
          rcases Nat.lt_or_gt_of_ne hj with h | h
          · exact (List.pairwise_iff_getElem.1 hn j i hjl hil h) (by rw [hjx, hie, hk, h4])
          · exact (List.pairwise_iff_getElem.1 hn i j hil hjl h) (by rw [hjx, hie, hk, h4])
      · rw [if_neg hm, hf]
        constructor
        · rintro ⟨x, hx, hk, hv⟩
          obtain ⟨j, hj⟩ := List.mem_iff_getElem?.1 hx
          refine ⟨x, (hmem x).2 ⟨j, ?_, hj⟩, hk, hv⟩
          rintro rfl
          rw [h3] at hj
          injection hj with hj
          subst hj
          rw [h4] at hk
          injection hk with _ hk
          exact hm hk.symm
        · rintro ⟨x, hx, r⟩
          obtain ⟨j, _, hj⟩ := (hmem x).1 hx
          exact ⟨x, List.mem_of_getElem? hj, r⟩

theorem IMap.made (w : World) : IMap (w.alloc (.map #[] 0)) w.heap.size (fun _ => none) :=
  ⟨#[], 0, (MapKept.heap_alloc w _).1, stamped_empty 0, by simp, by simp⟩

end

/-! ### the same by functions of the world: a fact with no unknown in it -/

/-- Block b is a map keyed by ints. -/
def IsM (w : World) (b : Nat) : Prop := ∃ f, IMap w b f
/-- Its entry at n. -/
def mget (w : World) (b : Nat) (n : Int) : Option Value := match w.heap[b]? with | some (.map es _) => (es.toList.find? (keyIs n)).map (·.val) | _ => none
/-- How many entries it has. -/
def mlen (w : World) (b : Nat) : Nat := match w.heap[b]? with | some (.map es _) => es.size | _ => 0
/-- The stamp that the entry at n has, or would get. -/
def mstamp (w : World) (b : Nat) (n : Int) : Int := match w.heap[b]? with | some (.map es clock) => (match es.toList.find? (keyIs n) with | some e => (e.born : Int) | none => (clock : Int)) | _ => 0

theorem find?_of_findIdx? {p : MapEntry → Bool} : ∀ (l : List MapEntry), (l.findIdx? p = none → l.find? p = none) ∧ ∀ i e, l.findIdx? p = some i → l[i]? = some e → l.find? p = some e
  | [] => ⟨fun _ => rfl, by simp⟩
  | x :: r => by
    obtain ⟨h1, h2⟩ := find?_of_findIdx? (p := p) r
    by_cases hx : p x = true
    · refine ⟨by simp [List.findIdx?_cons, hx], fun i e hi he => ?_⟩
      simp [List.findIdx?_cons, hx] at hi
      subst hi
      simp at he
      subst he
      simp only [List.find?_cons, hx]
    · simp only [Bool.not_eq_true] at hx
      refine ⟨fun h => ?_, fun i e hi he => ?_⟩
      · simp [List.findIdx?_cons, hx] at h
        simp only [List.find?_cons, hx]
        exact h1 (by simpa using h)
      · simp [List.findIdx?_cons, hx] at hi
        obtain ⟨j, hj, rfl⟩ := hi
        simp at he
        simp only [List.find?_cons, hx]
        exact h2 j e hj he

section
variable {w : World} {b : Nat} {f : Int → Option Value}

theorem IMap.get (h : IMap w b f) (n : Int) : mget w b n = f n := by
  obtain ⟨es, c, hb, hs, hks, hf⟩ := h
  rcases find_spec n es.toList 0 hks with ⟨h1, _, h3⟩ | ⟨i, e, h1, _, h3, h4⟩
  · simp only [mget, hb, (find?_of_findIdx? es.toList).1 h1, Option.map_none]
    cases hfn : f n with
    | none => rfl
    | some v =>
      obtain ⟨e, he, hk, _⟩ := (hf n v).1 hfn
      exact absurd hk (h3 e he)
  · simp only [mget, hb, (find?_of_findIdx? es.toList).2 i e h1 h3, Option.map_some]
    exact ((hf n e.val).2 ⟨e, List.mem_of_getElem? h3, h4, rfl⟩).symm

theorem IMap.is (h : IMap w b f) : IsM w b := ⟨f, h⟩
theorem IsM.imap (h : IsM w b) : IMap w b (mget w b) := by
  obtain ⟨f, hf⟩ := h
  have : mget w b = f := funext hf.get
  rw [this]; exact hf
theorem imap_iff : IMap w b f ↔ IsM w b ∧ ∀ n, mget w b n = f n :=
  ⟨fun h => ⟨h.is, h.get⟩, fun ⟨h, hf⟩ => by
    have : mget w b = f := funext hf
    rw [← this]; exact h.imap⟩
theorem IsM.lt (h : IsM w b) : b < w.heap.size := h.imap.lt
theorem IsM.of_heap {w' : World} (h : IsM w b) (hh : w'.heap[b]? = w.heap[b]?) : IsM w' b := (h.imap.of_heap hh).is
theorem mget_of_heap {w' : World} (hh : w'.heap[b]? = w.heap[b]?) (n : Int) : mget w' b n = mget w b n := by simp only [mget, hh]
theorem mlen_of_heap {w' : World} (hh : w'.heap[b]? = w.heap[b]?) : mlen w' b = mlen w b := by simp only [mlen, hh]
theorem mstamp_of_heap {w' : World} (hh : w'.heap[b]? = w.heap[b]?) (n : Int) : mstamp w' b n = mstamp w b n := by simp only [mstamp, hh]

theorem IsM.mput_same (h : IsM w b) (n : Int) (v : Value) : IsM (mput w b n v) b := (h.imap.mput n v).is
theorem IsM.mdel_same (h : IsM w b) (n : Int) : IsM (mdel w b n) b := (h.imap.mdel n).is
theorem mget_mput_same (h : IsM w b) (n m : Int) (v : Value) : mget (mput w b n v) b m = if m = n then some v else mget w b m := (h.imap.mput n v).get m
theorem mget_mdel_same (h : IsM w b) (n m : Int) : mget (mdel w b n) b m = if m = n then none else mget w b m := (h.imap.mdel n).get m

theorem IsM.len (h : IsM w b) : ∃ es clock, w.heap[b]? = some (.map es clock) ∧ mlen w b = es.size := by
  obtain ⟨es, c, hb, _⟩ := h.imap
  exact ⟨es, c, hb, by simp [mlen, hb]⟩

theorem mlen_mput_same (h : IsM w b) (n : Int) (v : Value) : mlen (mput w b n v) b = if (mget w b n).isSome then mlen w b else mlen w b + 1 := by
  obtain ⟨es, c, hb, hs, hks, hf⟩ := h.imap
  have hh : (Tn.mput w b n v).heap[b]? = some (mputE es c n v) := by simp [Tn.mput, Array.getElem?_modify, hb]
  rcases find_spec n es.toList 0 hks with ⟨h1, _, h3⟩ | ⟨i, e, h1, _, h3, h4⟩
  · simp [mlen, hh, mputE, h1, mget, hb, (find?_of_findIdx? es.toList).1 h1]
  · simp [mlen, hh, mputE, h1, mget, hb, (find?_of_findIdx? es.toList).2 i e h1 h3]

theorem mlen_mdel_same (h : IsM w b) (n : Int) : mlen (mdel w b n) b = if (mget w b n).isSome then mlen w b - 1 else mlen w b := by
  obtain ⟨es, c, hb, hs, hks, hf⟩ := h.imap
  have hh : (Tn.mdel w b n).heap[b]? = some (mdelE es c n) := by simp [Tn.mdel, Array.getElem?_modify, hb]
  rcases find_spec n es.toList 0 hks with ⟨h1, _, h3⟩ | ⟨i, e, h1, _, h3, h4⟩
  · simp [mlen, hh, mdelE, h1, mget, hb, (find?_of_findIdx? es.toList).1 h1]
  · have hil : i < es.size := by simpa using (List.getElem?_eq_some_iff.1 h3).1
    simp [mlen, hh, mdelE, h1, mget, hb, (find?_of_findIdx? es.toList).2 i e h1 h3, Array.eraseIdxIfInBounds, hil]

theorem mlen_made (w : World) : mlen (w.alloc (.map #[] 0)) w.heap.size = 0 := by
  simp only [mlen, (MapKept.heap_alloc w (.map #[] 0)).1]; rfl

end

section
variable (w : World) (b : Nat) (n m : Int) (v : Value) {b' : Nat}
theorem isM_mput_other (h : b' ≠ b) : IsM (mput w b n v) b' ↔ IsM w b' :=
  ⟨fun k => k.of_heap (mput_heap_other w b n v h).symm, fun k => k.of_heap (mput_heap_other w b n v h)⟩
theorem isM_mdel_other (h : b' ≠ b) : IsM (mdel w b n) b' ↔ IsM w b' :=
  ⟨fun k => k.of_heap (mdel_heap_other w b n h).symm, fun k => k.of_heap (mdel_heap_other w b n h)⟩
theorem mget_mput_other (h : b' ≠ b) : mget (mput w b n v) b' m = mget w b' m := mget_of_heap (mput_heap_other w b n v h) m
theorem mget_mdel_other (h : b' ≠ b) : mget (mdel w b n) b' m = mget w b' m := mget_of_heap (mdel_heap_other w b n h) m
theorem mlen_mput_other (h : b' ≠ b) : mlen (mput w b n v) b' = mlen w b' := mlen_of_heap (mput_heap_other w b n v h)
theorem mlen_mdel_other (h : b' ≠ b) : mlen (mdel w b n) b' = mlen w b' := mlen_of_heap (mdel_heap_other w b n h)
theorem mstamp_mput_other (h : b' ≠ b) : mstamp (mput w b n v) b' m = mstamp w b' m := mstamp_of_heap (mput_heap_other w b n v h) m
theorem mstamp_mdel_other (h : b' ≠ b) : mstamp (mdel w b n) b' m = mstamp w b' m := mstamp_of_heap (mdel_heap_other w b n h) m

theorem IsM.mput (h : IsM w b') : IsM (Tn.mput w b n v) b' := by
  by_cases hb : b' = b
  · subst hb; exact h.mput_same n v
  · exact (isM_mput_other w b n v hb).2 h
theorem IsM.mdel (h : IsM w b') : IsM (Tn.mdel w b n) b' := by
  by_cases hb : b' = b
  · subst hb; exact h.mdel_same n
  · exact (isM_mdel_other w b n hb).2 h

theorem isM_iff_entries {w : World} {b : Nat} : IsM w b ↔ ∃ es clock, w.heap[b]? = some (.map es clock) ∧ Stamped es clock ∧ ∀ e ∈ es.toList, ∃ n, e.key = .int .i64 n := by
  constructor
  · rintro ⟨f, es, c, hb, hs, hk, _⟩
    exact ⟨es, c, hb, hs, hk⟩
  · rintro ⟨es, c, hb, hs, hk⟩
    refine ⟨fun n => (es.toList.find? (keyIs n)).map (·.val), es, c, hb, hs, hk, fun n v => ?_⟩
    constructor
    · intro h
      simp only [Option.map_eq_some_iff] at h
      obtain ⟨e, he, hv⟩ := h
      exact ⟨e, List.mem_of_find?_eq_some he, key_of_keyIs (List.find?_some he), hv⟩
    · rintro ⟨e, he, hke, hv⟩
      have : es.toList.find? (keyIs n) = some e := by
        cases hf : es.toList.find? (keyIs n) with
        | none =>
          have := List.find?_eq_none.1 hf e he
          simp [keyIs_of hke] at this
        | some e' =>
          rw [IMap.uniq hs (List.mem_of_find?_eq_some hf) he ((key_of_keyIs (List.find?_some hf)).trans hke.symm)]
      simp [this, hv]

theorem isM_mput_back {w : World} {b : Nat} {n : Int} {v : Value} (h : IsM (Tn.mput w b n v) b) : IsM w b := by
  cases hb : w.heap[b]? with
  | none =>
    have := h.lt
    simp at this
    simp at hb
    omega
  | some o =>
    by_cases hm : ∃ es c, o = .map es c
    · obtain ⟨es, c, rfl⟩ := hm
      have hh : (Tn.mput w b n v).heap[b]? = some (mputE es c n v) := by simp [Tn.mput, Array.getElem?_modify, hb]
      obtain ⟨es', c', hb', hs', hk'⟩ := isM_iff_entries.1 h
      rw [hh] at hb'
      injection hb' with hb'
      refine isM_iff_entries.2 ⟨es, c, hb, ?_⟩
      cases hf : es.toList.findIdx? (keyIs n) with
      | none =>
        simp only [mputE, hf, Obj.map.injEq] at hb'
        obtain ⟨rfl, rfl⟩ := hb'
        obtain ⟨h1, h2, h3⟩ := (stamped_iff _ _).1 hs'
        simp only [Array.toList_push] at h1 h2 h3 hk'
        refine ⟨(stamped_iff _ _).2 ⟨fun x hx => ?_, ?_, ?_⟩, fun e he => hk' e (by simp [he])⟩
        · have h4 := h1 x (by simp [hx])
          have h5 : x.born ≠ c := by
            simp only [List.map_append, List.map_cons, List.map_nil, List.nodup_append] at h2
            exact h2.2.2 x.born (List.mem_map.2 ⟨x, hx, rfl⟩) c (by simp)
          omega
        · simp only [List.map_append, List.nodup_append] at h2
          exact h2.1
        · exact (List.pairwise_append.1 h3).1
      | some i =>
        simp only [mputE, hf, Obj.map.injEq] at hb'
        obtain ⟨rfl, rfl⟩ := hb'
        obtain ⟨hil, hp, _⟩ := List.findIdx?_eq_some_iff_getElem.1 hf
        have hke := key_of_keyIs hp
        have hil' : i < es.size := by simpa using hil
        have hmap : ∀ {β : Type} (g : MapEntry → β), (∀ e : MapEntry, e.key = .int .i64 n → g { e with key := .int .i64 n, val := v } = g e) →
            (es.modify i fun e => { e with key := .int .i64 n, val := v }).toList.map g = es.toList.map g := by
          intro β g hg
          apply List.ext_getElem?
          intro j
          simp only [List.getElem?_map, Array.getElem?_toList, Array.getElem?_modify]
          by_cases hj : i = j
          · subst hj
            have he : es[i]? = some es[i] := Array.getElem?_eq_getElem hil'
            simp only [if_true, he, Option.map_some]
            rw [hg _ (by simpa using hke)]
          · simp [hj]
        have hb1 := hmap (·.born) (fun _ _ => rfl)
        have hk1 := hmap (·.key) (fun e he => he.symm)
        refine ⟨⟨fun x hx => ?_, by rw [← hb1]; exact hs'.2.1, by rw [← hk1]; exact hs'.2.2⟩, fun e he => ?_⟩
        · have : x.born ∈ (es.modify i fun e => { e with key := Value.int .i64 n, val := v }).toList.map (·.born) := by rw [hb1]; exact List.mem_map.2 ⟨x, hx, rfl⟩
          obtain ⟨y, hy, hyb⟩ := List.mem_map.1 this
          rw [← hyb]; exact hs'.1 y hy
        · have : e.key ∈ (es.modify i fun e => { e with key := Value.int .i64 n, val := v }).toList.map (·.key) := by rw [hk1]; exact List.mem_map.2 ⟨e, he, rfl⟩
          obtain ⟨y, hy, hyk⟩ := List.mem_map.1 this
          rw [← hyk]; exact hk' y hy
    · have hh : (Tn.mput w b n v).heap[b]? = w.heap[b]? := by
        simp only [Tn.mput, Array.getElem?_modify, if_true, hb, Option.map_some]
        cases o <;> first | rfl | exact absurd ⟨_, _, rfl⟩ hm
      exact h.of_heap hh.symm

@[simp, go_sem] theorem isM_mput : IsM (Tn.mput w b n v) b' ↔ IsM w b' := by
  by_cases hb : b' = b
  · subst hb; exact ⟨isM_mput_back, fun h => h.mput_same n v⟩
  · exact isM_mput_other w b n v hb

theorem heap_setCell_map {es : Array MapEntry} {clock : Nat} (a : Addr) (u : Value) (hb : w.heap[b]? = some (.map es clock)) : (w.setCell a u).heap[b]? = w.heap[b]? := by
  simp only [World.setCell, Array.getElem?_modify]
  by_cases h : a.block = b
  · subst h; simp [hb]
  · simp [h]

theorem IsM.setCell (h : IsM w b) (a : Addr) (u : Value) : IsM (w.setCell a u) b := by
  obtain ⟨es, c, hb, _⟩ := h.imap
  exact h.of_heap (heap_setCell_map w b a u hb)
theorem mget_setCell (h : IsM w b) (a : Addr) (u : Value) : mget (w.setCell a u) b m = mget w b m := by
  obtain ⟨es, c, hb, _⟩ := h.imap
  exact mget_of_heap (heap_setCell_map w b a u hb) m
theorem mlen_setCell (h : IsM w b) (a : Addr) (u : Value) : mlen (w.setCell a u) b = mlen w b := by
  obtain ⟨es, c, hb, _⟩ := h.imap
  exact mlen_of_heap (heap_setCell_map w b a u hb)
theorem IsM.alloc (h : IsM w b) (o : Obj) : IsM (w.alloc o) b := h.of_heap ((MapKept.heap_alloc w o).2 b h.lt)
theorem mget_alloc (h : IsM w b) (o : Obj) : mget (w.alloc o) b m = mget w b m := mget_of_heap ((MapKept.heap_alloc w o).2 b h.lt) m
theorem mlen_alloc (h : IsM w b) (o : Obj) : mlen (w.alloc o) b = mlen w b := mlen_of_heap ((MapKept.heap_alloc w o).2 b h.lt)
end

/-! ### the runs, by these -/
section
variable {w : World} {b : Nat} {P : Program} {t kt et : TypeId}

theorem IsM.look (h : IsM w b) (ht : P.underlying t = some (.map kt et)) (hk : P.underlying kt = some (.int .i64)) {z : Value} (hz : ∀ w, (zeroValue et).run P w = .ok z w) (n : Int) (c : Bool) :
    (Instr.lookup t (.map (some b)) (.int .i64 n) c).run P w = .ok (if c then .tuple #[(mget w b n).getD z, .bool (mget w b n).isSome] else (mget w b n).getD z) w :=
  h.imap.look ht hk (hz w) n c

theorem IsM.store (h : IsM w b) (ht : P.underlying t = some (.map kt et)) (hk : P.underlying kt = some (.int .i64)) (n : Int) (v : Value) :
    (Instr.mapUpdate t (.map (some b)) (.int .i64 n) v).run P w = .ok () (Tn.mput w b n v) := h.imap.store ht hk n v

theorem IsM.delete (h : IsM w b) (ht : P.underlying t = some (.map kt et)) (hk : P.underlying kt = some (.int .i64)) (n : Int) (ty : TypeId) :
    (Builtin.delete_ #[t, kt] ty #[.map (some b), .int .i64 n]).run P w = .ok (.tuple #[]) (Tn.mdel w b n) := h.imap.delete ht hk n ty

theorem IsM.runLen (h : IsM w b) (ht : P.underlying t = some (.map kt et)) (ty : TypeId) : (Builtin.len_ #[t] ty #[.map (some b)]).run P w = .ok (.int .i64 (mlen w b)) w := by
  obtain ⟨es, c, hb, hl⟩ := h.len
  rw [hl]
  simp [Builtin.len_, run_underlying ht, MapKept.run_getObj_map hb, goInt, Result.andThen]

theorem modify_same {es : Array MapEntry} {i : Nat} {g : MapEntry → MapEntry} (hg : ∀ e, es[i]? = some e → g e = e) : es.modify i g = es := by
  apply Array.ext_getElem?
  intro j
  rw [Array.getElem?_modify]
  by_cases hj : i = j
  · subst hj
    rw [if_pos rfl]
    cases he : es[i]? with
    | none => rfl
    | some e => simp [hg e he]
  · rw [if_neg hj]

theorem IsM.entry (h : IsM w b) (ht : P.underlying t = some (.map kt et)) (hk : P.underlying kt = some (.int .i64)) {z : Value} (hz : ∀ w, (zeroValue et).run P w = .ok z w) (n : Int) :
    (Instr.mapEntry t (.map (some b)) (.int .i64 n)).run P w = .ok (.tuple #[(mget w b n).getD z, .int .i64 (mstamp w b n)]) (Tn.mput w b n ((mget w b n).getD z)) := by
  obtain ⟨es, cl, hb, h⟩ := h.imap.find hk n
  have hck : ∀ em, (Instr.checkKey em 10000 kt (.int .i64 n)).run P w = .ok () w := fun em => run_checkKey (n := 9999) hk (isKey_int n) em
  rcases h with ⟨h1, h2, h3⟩ | ⟨i, e, h1, h2, h3, h4, h5⟩
  · have hst : mstamp w b n = (cl : Int) := by simp [mstamp, hb, (find?_of_findIdx? es.toList).1 h1]
    rw [hst]
    simp [Instr.mapEntry, run_underlying ht, MapKept.run_getObj_map hb, hck, h3, hz, run_setObj_map _ hb, Result.andThen, Tn.mput, heap_modify_set hb, mputE, h1, h2, goInt]
  · have hst : mstamp w b n = (e.born : Int) := by simp [mstamp, hb, (find?_of_findIdx? es.toList).2 i e h1 (by simpa using h2)]
    have hky := run_keyThatStays (P := P) (w := w) (isKey_int n)
    have hm1 : (es.modify i fun e => { e with key := .int .i64 n }) = es := modify_same fun e' he' => by rw [h2] at he'; injection he' with he'; subst he'; rw [← h3]
    have hm2 : (es.modify i fun e' => { e' with key := .int .i64 n, val := e.val }) = es := modify_same fun e' he' => by rw [h2] at he'; injection he' with he'; subst he'; rw [← h3]
    rw [hst]
    simp [Instr.mapEntry, run_underlying ht, MapKept.run_getObj_map hb, hck, h5, h2, h3, hky, run_setObj_map _ hb, Result.andThen, Tn.mput, heap_modify_set hb, mputE, h1, h4, hm1, hm2, goInt]

theorem nodup_born_idx {es : Array MapEntry} {clock : Nat} (hs : Stamped es clock) {i : Nat} {e : MapEntry} (he : es[i]? = some e) : es.findIdx? (fun x => (x.born : Int) == (e.born : Int)) = some i := by
  have hil := (Array.getElem?_eq_some_iff.1 he).1
  have hie := (Array.getElem?_eq_some_iff.1 he).2
  rw [Array.findIdx?_eq_some_iff_getElem]
  refine ⟨hil, by simp [hie], fun j hj => ?_⟩
  have hn := ((stamped_iff es clock).1 hs).2.1
  have hjl : j < es.size := by omega
  have := List.pairwise_iff_getElem.1 (List.pairwise_map.1 hn) j i (by simpa using hjl) (by simpa using hil) hj
  simp only [Array.getElem_toList] at this
  rw [hie] at this
  simp only [beq_eq_false_iff_ne, ne_eq, Bool.not_eq_true]
  intro h
  exact this (by exact_mod_cast h)

theorem IsM.entrySt (h : IsM w b) {n : Int} (hn : (mget w b n).isSome = true) {st : Int} (hst : st = mstamp w b n) (v : Value) :
    (Instr.entryStore t (.map (some b)) (.int .i64 st) v).run P w = .ok () (Tn.mput w b n v) := by
  subst hst
  obtain ⟨es, c, hb, hs, hks, hf⟩ := h.imap
  rcases find_spec n es.toList 0 hks with ⟨h1, _, h3⟩ | ⟨i, e, h1, _, h3, h4⟩
  · exfalso
    simp [mget, hb, (find?_of_findIdx? es.toList).1 h1] at hn
  · have hei : es[i]? = some e := by simpa using h3
    have hst : mstamp w b n = (e.born : Int) := by simp [mstamp, hb, (find?_of_findIdx? es.toList).2 i e h1 h3]
    have hm : (es.modify i fun e => { e with val := v }) = es.modify i fun e => { e with key := .int .i64 n, val := v } := by
      apply Array.ext_getElem?
      intro j
      rw [Array.getElem?_modify, Array.getElem?_modify]
      by_cases hj : i = j
      · subst hj; simp [hei, h4]
      · simp [hj]
    rw [hst]
    simp only [Instr.entryStore, Sem.run_bind, MapKept.run_getObj_map hb, Result.andThen]
    simp [asInt, asIntOf, Result.andThen, nodup_born_idx hs hei, run_setObj_map _ hb, Tn.mput, heap_modify_set hb, mputE, h1, hm]

theorem mstamp_mput_same (h : IsM w b) (n : Int) (v : Value) : mstamp (Tn.mput w b n v) b n = mstamp w b n := by
  obtain ⟨es, c, hb, hs, hks, hf⟩ := h.imap
  have hh : (Tn.mput w b n v).heap[b]? = some (mputE es c n v) := by simp [Tn.mput, Array.getElem?_modify, hb]
  rcases find_spec n es.toList 0 hks with ⟨h1, _, h3⟩ | ⟨i, e, h1, _, h3, h4⟩
  · have : es.toList.find? (keyIs n) = none := (find?_of_findIdx? es.toList).1 h1
    simp [mstamp, hh, mputE, h1, hb, this, List.find?_append, keyIs]
  · have h5 : es.toList.find? (keyIs n) = some e := (find?_of_findIdx? es.toList).2 i e h1 h3
    have hei : es[i]? = some e := by simpa using h3
    obtain ⟨hil, hp, hlt⟩ := List.findIdx?_eq_some_iff_getElem.1 h1
    have h6 : (es.modify i fun e => { e with key := .int .i64 n, val := v }).toList.findIdx? (keyIs n) = some i := by
      rw [List.findIdx?_eq_some_iff_getElem]
      refine ⟨by simpa using hil, ?_, fun j hj => ?_⟩
      · simp [keyIs, Array.getElem_modify]
      · have hne : i ≠ j := by omega
        have := hlt j hj
        simpa [Array.getElem_modify, hne] using this
    have h7 : (es.modify i fun e => { e with key := .int .i64 n, val := v }).toList[i]? = some { e with key := .int .i64 n, val := v } := by
      simp [Array.getElem?_modify, hei]
    have h8 := (find?_of_findIdx? (es.modify i fun e => { e with key := .int .i64 n, val := v }).toList).2 i _ h6 h7
    simp only [mstamp, hh, mputE, h1, hb, h5, h8]

end

/-- Two stores at one place: the last one holds. -/
theorem mput_mput {w : World} {b : Nat} (h : IsM w b) (n : Int) (u v : Value) : Tn.mput (Tn.mput w b n u) b n v = Tn.mput w b n v := by
  obtain ⟨es, c, hb, hs, hks, hf⟩ := h.imap
  have hbl := (Array.getElem?_eq_some_iff.1 hb).1
  have hh : ∀ x : Value, (Tn.mput w b n x).heap[b]? = some (mputE es c n x) := fun x => by simp [Tn.mput, Array.getElem?_modify, hb]
  suffices hs : (Tn.mput (Tn.mput w b n u) b n v).heap = (Tn.mput w b n v).heap by
    unfold Tn.mput at hs ⊢
    simp only at hs
    simp only [hs]
  apply Array.ext_getElem?
  intro j
  by_cases hj : j = b
  · subst hj
    rw [hh v]
    rcases find_spec n es.toList 0 hks with ⟨h1, _, h3⟩ | ⟨i, e, h1, _, h3, h4⟩
    · have h2 : (Tn.mput w j n u).heap[j]? = some (.map (es.push { key := .int .i64 n, val := u, born := c }) (c + 1)) := by rw [hh u]; simp [mputE, h1]
      have h5 : (es.push { key := Value.int .i64 n, val := u, born := c }).toList.findIdx? (keyIs n) = some es.size := by
        simp [List.findIdx?_append, h1, keyIs]
      have h6 : (Tn.mput (Tn.mput w j n u) j n v).heap[j]? = some (mputE (es.push { key := .int .i64 n, val := u, born := c }) (c + 1) n v) := by
        rw [show (Tn.mput (Tn.mput w j n u) j n v).heap = (Tn.mput w j n u).heap.modify j (fun | .map es clock => mputE es clock n v | o => o) from rfl, Array.getElem?_modify, if_pos rfl, h2]; rfl
      rw [h6]
      simp only [mputE, h1, h5]
      congr 2
      apply Array.ext_getElem?
      intro k
      rw [Array.getElem?_modify, Array.getElem?_push, Array.getElem?_push]
      by_cases hk : k = es.size
      · subst hk; simp
      · simp [hk]; intro hk'; exact absurd hk'.symm hk
    · have hei : es[i]? = some e := by simpa using h3
      have h2 : (Tn.mput w j n u).heap[j]? = some (.map (es.modify i fun e => { e with key := .int .i64 n, val := u }) c) := by rw [hh u]; simp [mputE, h1]
      obtain ⟨hil, hp, hlt⟩ := List.findIdx?_eq_some_iff_getElem.1 h1
      have h5 : (es.modify i fun e => { e with key := .int .i64 n, val := u }).toList.findIdx? (keyIs n) = some i := by
        rw [List.findIdx?_eq_some_iff_getElem]
        refine ⟨by simpa using hil, ?_, fun j hj => ?_⟩
        · simp [keyIs, Array.getElem_modify]
        · have hne : i ≠ j := by omega
          have := hlt j hj
          simpa [Array.getElem_modify, hne] using this
      have h6 : (Tn.mput (Tn.mput w j n u) j n v).heap[j]? = some (mputE (es.modify i fun e => { e with key := .int .i64 n, val := u }) c n v) := by
        rw [show (Tn.mput (Tn.mput w j n u) j n v).heap = (Tn.mput w j n u).heap.modify j (fun | .map es clock => mputE es clock n v | o => o) from rfl, Array.getElem?_modify, if_pos rfl, h2]; rfl
      rw [h6]
      simp only [mputE, h1, h5]
      congr 2
      apply Array.ext_getElem?
      intro k
      simp only [Array.getElem?_modify]
      by_cases hk : i = k
      · subst hk; simp [hei]
      · simp [hk]
  · rw [mput_heap_other _ _ _ _ hj, mput_heap_other _ _ _ _ hj, mput_heap_other _ _ _ _ hj]

/-- Stores into two maps: their order makes no odds. -/
theorem mput_comm {w : World} {b b' : Nat} (hb : b ≠ b') (n n' : Int) (v v' : Value) : Tn.mput (Tn.mput w b n v) b' n' v' = Tn.mput (Tn.mput w b' n' v') b n v := by
  unfold Tn.mput
  congr 1
  apply Array.ext_getElem?
  intro j
  simp only [Array.getElem?_modify]
  by_cases h1 : b = j
  · subst h1
    have hb' : ¬ b' = b := fun e => hb e.symm
    simp [hb']
  · simp [h1]

section
variable (w : World) (b : Nat) (n : Int) (k : Nat)
-- (none of these is by a bare 'rfl': a side goal that simp turns by such a law is not closed by the fact behind it)
@[simp, go_sem] theorem isM_drew : IsM w.drew b ↔ IsM w b := ⟨fun h => h.of_heap rfl, fun h => h.of_heap rfl⟩
@[simp, go_sem] theorem isM_drewN : IsM (w.drewN k) b ↔ IsM w b := ⟨fun h => h.of_heap rfl, fun h => h.of_heap rfl⟩
@[simp, go_sem] theorem mget_drew : mget w.drew b n = mget w b n := mget_of_heap rfl n
@[simp, go_sem] theorem mget_drewN : mget (w.drewN k) b n = mget w b n := mget_of_heap rfl n
@[simp, go_sem] theorem mlen_drew : mlen w.drew b = mlen w b := mlen_of_heap rfl
@[simp, go_sem] theorem mlen_drewN : mlen (w.drewN k) b = mlen w b := mlen_of_heap rfl
@[simp, go_sem] theorem mstamp_drew : mstamp w.drew b n = mstamp w b n := mstamp_of_heap rfl n
@[simp, go_sem] theorem mstamp_drewN : mstamp (w.drewN k) b n = mstamp w b n := mstamp_of_heap rfl n
end

attribute [go_sem] mget_mput_same mget_mput_other mget_mdel_same mget_mdel_other mstamp_mput_same mstamp_mput_other mstamp_mdel_other mput_mput isM_mdel_other mlen_mput_same mlen_mput_other mlen_mdel_same mlen_mdel_other

end Go.Tn
