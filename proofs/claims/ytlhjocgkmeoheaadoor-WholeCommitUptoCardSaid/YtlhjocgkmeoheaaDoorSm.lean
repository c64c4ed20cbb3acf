/-
  Maps keyed by strings, as functions from strings to values: what look-ups, stores, deletions and len do, over any program. Plain lemmas of this claim; no Go function is named here.
-/
import Derived.WalkKit
import Derived.MapKept
import Derived.ChangeMaps5
import Derived.Deep.Draws
namespace Go.Tn
instance : LawfulBEq ByteArray where
  eq_of_beq {a b} h := by
    cases a; cases b
    simp only [ByteArray.mk.injEq]
    exact eq_of_beq (α := Array UInt8) h
  rfl {a} := by
    cases a with | mk d => exact beq_self_eq_true (α := Array UInt8) d
open Go.MapKept Go.RowKit

/-- Block b of w is a map keyed by ints whose entry at n is f n. -/
def SMap (w : World) (b : Nat) (f : ByteArray → Option Value) : Prop :=
  ∃ es clock, w.heap[b]? = some (.map es clock) ∧ Stamped es clock ∧ (∀ e ∈ es.toList, ∃ n, e.key = .string n) ∧
    ∀ n v, f n = some v ↔ ∃ e ∈ es.toList, e.key = .string n ∧ e.val = v

def keyIsS (n : ByteArray) (e : MapEntry) : Bool := match e.key with | .string m => m == n | _ => false

theorem key_of_keyIsS {n : ByteArray} {e : MapEntry} (h : keyIsS n e = true) : e.key = .string n := by
  unfold keyIsS at h
  split at h
  · rename_i m hk
    rw [hk]
    simp only [beq_iff_eq] at h
    rw [h]
  · cases h

theorem keyIsS_of {n m : ByteArray} {e : MapEntry} (h : e.key = .string m) : keyIsS n e = (m == n) := by simp [keyIsS, h]

def sputE (es : Array MapEntry) (clock : Nat) (n : ByteArray) (v : Value) : Obj :=
  match es.toList.findIdx? (keyIsS n) with
  | some i => .map (es.modify i fun e => { e with key := .string n, val := v }) clock
  | none => .map (es.push { key := .string n, val := v, born := clock }) (clock + 1)

def sdelE (es : Array MapEntry) (clock : Nat) (n : ByteArray) : Obj :=
  match es.toList.findIdx? (keyIsS n) with
  | some i => .map (es.eraseIdxIfInBounds i) clock
  | none => .map es clock

/-- The world behind 'm[n] = v'. -/
def sput (w : World) (b : Nat) (n : ByteArray) (v : Value) : World :=
  { w with heap := w.heap.modify b fun | .map es clock => sputE es clock n v | o => o }

/-- The world behind 'delete(m, n)'. -/
def sdel (w : World) (b : Nat) (n : ByteArray) : World :=
  { w with heap := w.heap.modify b fun | .map es clock => sdelE es clock n | o => o }

section
variable {w : World} {b : Nat} {f : ByteArray → Option Value}

theorem isKey_str (n : ByteArray) : IsKey .string (.string n) := by simp [IsKey]

theorem SMap.lt (h : SMap w b f) : b < w.heap.size := by
  obtain ⟨es, c, hb, _⟩ := h
  exact (Array.getElem?_eq_some_iff.1 hb).1

theorem SMap.of_heap {w' : World} (h : SMap w b f) (hh : w'.heap[b]? = w.heap[b]?) : SMap w' b f := by
  obtain ⟨es, c, hb, r⟩ := h
  exact ⟨es, c, hh.trans hb, r⟩

theorem SMap.uniq {es : Array MapEntry} {clock : Nat} (hs : Stamped es clock) {e e' : MapEntry} (he : e ∈ es.toList) (he' : e' ∈ es.toList) (hk : e.key = e'.key) : e = e' := by
  have hn := ((stamped_iff es clock).1 hs).2.2
  obtain ⟨i, hi, rfl⟩ := List.getElem_of_mem he
  obtain ⟨j, hj, rfl⟩ := List.getElem_of_mem he'
  rcases Nat.lt_trichotomy i j with h | h | h
  · exact absurd hk (List.pairwise_iff_getElem.1 hn i j hi hj h)
  · subst h; rfl
  · exact absurd hk.symm (List.pairwise_iff_getElem.1 hn j i hj hi h)

theorem find_specS (n : ByteArray) : ∀ (l : List MapEntry) (k : Nat), (∀ e ∈ l, ∃ m, e.key = .string m) →
    (l.findIdx? (keyIsS n) = none ∧ Instr.findNow .string (.string n) l k = some none ∧ ∀ e ∈ l, e.key ≠ .string n) ∨
    ∃ i e, l.findIdx? (keyIsS n) = some i ∧ Instr.findNow .string (.string n) l k = some (some (k + i, e.val)) ∧ l[i]? = some e ∧ e.key = .string n
  | [], k, _ => by left; simp [Instr.findNow]
  | x :: r, k, h => by
    obtain ⟨m, hm⟩ := h x (by simp)
    have hr : ∀ e ∈ r, ∃ m, e.key = .string m := fun e he => h e (by simp [he])
    by_cases hmn : m = n
    · right
      refine ⟨0, x, ?_, ?_, rfl, by rw [hm, hmn]⟩
      · simp [List.findIdx?_cons, keyIsS_of hm, hmn]
      · simp [Instr.findNow, Instr.sameNow, hm, hmn]
    · have hnm : ¬ n = m := fun e => hmn e.symm
      rcases find_specS n r (k + 1) hr with ⟨h1, h2, h3⟩ | ⟨i, e, h1, h2, h3, h4⟩
      · left
        refine ⟨?_, ?_, ?_⟩
        · simp [List.findIdx?_cons, keyIsS_of hm, hmn, h1]
        · have hb : (n == m) = false := by simpa using hnm
          simp [Instr.findNow, Instr.sameNow, hm, hb, h2]
        · intro e he
          rcases List.mem_cons.1 he with rfl | he
          · rw [hm]; intro e; injection e with e; exact hmn e
          · exact h3 e he
      · right
        refine ⟨i + 1, e, ?_, ?_, by simpa using h3, h4⟩
        · simp [List.findIdx?_cons, keyIsS_of hm, hmn, h1]
        · have hb : (n == m) = false := by simpa using hnm
          simp [Instr.findNow, Instr.sameNow, hm, hb, h2]; omega

/-! ### the runs -/
variable {P : Program} {t kt et : TypeId}

theorem SMap.find (h : SMap w b f) (hk : P.underlying kt = some .string) (n : ByteArray) : ∃ es clock, w.heap[b]? = some (.map es clock) ∧
    ((es.toList.findIdx? (keyIsS n) = none ∧ f n = none ∧ (Instr.findKey kt (.string n) es.toList).run P w = .ok none w) ∨
     ∃ i e, es.toList.findIdx? (keyIsS n) = some i ∧ es[i]? = some e ∧ e.key = .string n ∧ f n = some e.val ∧ (Instr.findKey kt (.string n) es.toList).run P w = .ok (some (i, e.val)) w) := by
  obtain ⟨es, c, hb, hs, hks, hf⟩ := h
  refine ⟨es, c, hb, ?_⟩
  rcases find_specS n es.toList 0 hks with ⟨h1, h2, h3⟩ | ⟨i, e, h1, h2, h3, h4⟩
  · left
    refine ⟨h1, ?_, run_findKey hk h2⟩
    cases hfn : f n with
    | none => rfl
    | some v =>
      obtain ⟨e, he, hk', _⟩ := (hf n v).1 hfn
      exact absurd hk' (h3 e he)
  · right
    refine ⟨i, e, h1, by simpa using h3, h4, (hf n e.val).2 ⟨e, List.mem_of_getElem? h3, h4, rfl⟩, ?_⟩
    have := run_findKey (w := w) hk h2
    simpa using this

/-- 'm[n]', 'v, ok := m[n]'. -/
theorem SMap.look (h : SMap w b f) (ht : P.underlying t = some (.map kt et)) (hk : P.underlying kt = some .string) {z : Value} (hz : (zeroValue et).run P w = .ok z w) (n : ByteArray) (c : Bool) :
    (Instr.lookup t (.map (some b)) (.string n) c).run P w = .ok (if c then .tuple #[(f n).getD z, .bool (f n).isSome] else (f n).getD z) w := by
  obtain ⟨es, cl, hb, h⟩ := h.find hk n
  have hck : ∀ em, (Instr.checkKey em 10000 kt (.string n)).run P w = .ok () w := fun em => run_checkKey (n := 9999) hk (isKey_str n) em
  rcases h with ⟨_, h2, h3⟩ | ⟨i, e, _, _, _, h4, h5⟩
  · simp [Instr.lookup, run_underlying ht, MapKept.run_getObj_map hb, hck, h3, hz, h2, Result.andThen]
  · simp [Instr.lookup, run_underlying ht, MapKept.run_getObj_map hb, hck, h5, h4, Result.andThen]

theorem heap_modify_setS {w : World} {b : Nat} {es : Array MapEntry} {clock : Nat} (hb : w.heap[b]? = some (.map es clock)) (g : Obj → Obj) : w.heap.modify b g = w.heap.setIfInBounds b (g (.map es clock)) := by
  apply Array.ext_getElem?
  intro i
  rw [Array.getElem?_modify, Array.getElem?_setIfInBounds]
  by_cases hi : b = i
  · subst hi
    have hlt := (Array.getElem?_eq_some_iff.1 hb).1
    rw [if_pos rfl, if_pos rfl, if_pos hlt, hb]; rfl
  · simp [hi]

/-- 'm[n] = v'. -/
theorem SMap.store (h : SMap w b f) (ht : P.underlying t = some (.map kt et)) (hk : P.underlying kt = some .string) (n : ByteArray) (v : Value) :
    (Instr.mapUpdate t (.map (some b)) (.string n) v).run P w = .ok () (sput w b n v) := by
  obtain ⟨es, cl, hb, h⟩ := h.find hk n
  have hck : ∀ em, (Instr.checkKey em 10000 kt (.string n)).run P w = .ok () w := fun em => run_checkKey (n := 9999) hk (isKey_str n) em
  rcases h with ⟨h1, _, h3⟩ | ⟨i, e, h1, h2, h3, _, h5⟩
  · simp [Instr.mapUpdate, run_underlying ht, MapKept.run_getObj_map hb, hck, h3, run_setObj_map _ hb, Result.andThen, sput, heap_modify_setS hb, sputE, h1]
  · have hst := run_keyThatStays (P := P) (w := w) (isKey_str n)
    simp [Instr.mapUpdate, run_underlying ht, MapKept.run_getObj_map hb, hck, h5, h2, h3, hst, run_setObj_map _ hb, Result.andThen, sput, heap_modify_setS hb, sputE, h1]

/-- 'delete(m, n)'. -/
theorem SMap.delete (h : SMap w b f) (ht : P.underlying t = some (.map kt et)) (hk : P.underlying kt = some .string) (n : ByteArray) (ty : TypeId) :
    (Builtin.delete_ #[t, kt] ty #[.map (some b), .string n]).run P w = .ok (.tuple #[]) (sdel w b n) := by
  obtain ⟨es, cl, hb, h⟩ := h.find hk n
  have hck : ∀ em, (Instr.checkKey em 10000 kt (.string n)).run P w = .ok () w := fun em => run_checkKey (n := 9999) hk (isKey_str n) em
  rcases h with ⟨h1, _, h3⟩ | ⟨i, e, h1, h2, h3, _, h5⟩
  · simp [Builtin.delete_, run_underlying ht, MapKept.run_getObj_map hb, hck, h3, run_setObj_map _ hb, Result.andThen, sdel, heap_modify_setS hb, sdelE, h1]
  · simp [Builtin.delete_, run_underlying ht, MapKept.run_getObj_map hb, hck, h5, run_setObj_map _ hb, Result.andThen, sdel, heap_modify_setS hb, sdelE, h1]

end

/-! ### what the worlds behind hold -/
section
variable (w : World) (b : Nat) (n : ByteArray) (v : Value)

theorem sput_heap_other {i : Nat} (h : i ≠ b) : (sput w b n v).heap[i]? = w.heap[i]? := by
  simp only [sput, Array.getElem?_modify]; rw [if_neg (fun e => h e.symm)]
theorem sdel_heap_other {i : Nat} (h : i ≠ b) : (sdel w b n).heap[i]? = w.heap[i]? := by
  simp only [sdel, Array.getElem?_modify]; rw [if_neg (fun e => h e.symm)]
@[simp, go_sem] theorem sput_size : (sput w b n v).heap.size = w.heap.size := by simp [sput]
@[simp, go_sem] theorem sdel_size : (sdel w b n).heap.size = w.heap.size := by simp [sdel]
@[simp, go_sem] theorem sput_tape : (sput w b n v).tape = w.tape := rfl
@[simp, go_sem] theorem sdel_tape : (sdel w b n).tape = w.tape := rfl
@[simp, go_sem] theorem sput_drawn : (sput w b n v).drawn = w.drawn := rfl
@[simp, go_sem] theorem sdel_drawn : (sdel w b n).drawn = w.drawn := rfl
@[go_sem] theorem sput_drew : sput w.drew b n v = (sput w b n v).drew := rfl
@[go_sem] theorem sdel_drew : sdel w.drew b n = (sdel w b n).drew := rfl
@[go_sem] theorem sput_drewN (k : Nat) : sput (w.drewN k) b n v = (sput w b n v).drewN k := rfl
@[go_sem] theorem sdel_drewN (k : Nat) : sdel (w.drewN k) b n = (sdel w b n).drewN k := rfl

@[simp, go_sem] theorem sput_cell (a : Addr) : (sput w b n v).cell? a = w.cell? a := by
  simp only [sput, World.cell?, Array.getElem?_modify]
  by_cases hb : b = a.block
  · simp only [hb, if_true]
    cases hh : w.heap[a.block]? with
    | none => simp
    | some x =>
      cases x <;> simp
      rename_i es c
      simp only [sputE]
      cases es.toList.findIdx? (keyIsS n) <;> rfl
  · simp [hb]
@[simp, go_sem] theorem sdel_cell (a : Addr) : (sdel w b n).cell? a = w.cell? a := by
  simp only [sdel, World.cell?, Array.getElem?_modify]
  by_cases hb : b = a.block
  · simp only [hb, if_true]
    cases hh : w.heap[a.block]? with
    | none => simp
    | some x =>
      cases x <;> simp
      rename_i es c
      simp only [sdelE]
      cases es.toList.findIdx? (keyIsS n) <;> rfl
  · simp [hb]
@[simp, go_sem] theorem sput_frozen (a : Addr) : (sput w b n v).frozen? a = w.frozen? a := by
  simp only [sput, World.frozen?, Array.getElem?_modify]
  by_cases hb : b = a.block
  · simp only [hb, if_true]
    cases hh : w.heap[a.block]? with
    | none => simp
    | some x =>
      cases x <;> simp
      rename_i es c
      simp only [sputE]
      cases es.toList.findIdx? (keyIsS n) <;> rfl
  · simp [hb]
@[simp, go_sem] theorem sdel_frozen (a : Addr) : (sdel w b n).frozen? a = w.frozen? a := by
  simp only [sdel, World.frozen?, Array.getElem?_modify]
  by_cases hb : b = a.block
  · simp only [hb, if_true]
    cases hh : w.heap[a.block]? with
    | none => simp
    | some x =>
      cases x <;> simp
      rename_i es c
      simp only [sdelE]
      cases es.toList.findIdx? (keyIsS n) <;> rfl
  · simp [hb]

end

/-- f with v at n. -/
def updS (f : ByteArray → Option Value) (n : ByteArray) (v : Option Value) : ByteArray → Option Value := fun m => if m = n then v else f m

section
variable {w : World} {b : Nat} {f : ByteArray → Option Value}

theorem mem_modifyS {es : Array MapEntry} {i : Nat} {g : MapEntry → MapEntry} {e : MapEntry} (he : es[i]? = some e) (x : MapEntry) :
    x ∈ (es.modify i g).toList ↔ x = g e ∨ ∃ j, j ≠ i ∧ es[j]? = some x := by
  rw [List.mem_iff_getElem?]
  constructor
  · rintro ⟨j, hj⟩
    rw [Array.getElem?_toList, Array.getElem?_modify] at hj
    by_cases hij : i = j
    · subst hij; rw [if_pos rfl, he] at hj; left; simpa using hj.symm
    · rw [if_neg hij] at hj; right; exact ⟨j, fun e => hij e.symm, hj⟩
  · rintro (rfl | ⟨j, hj, hx⟩)
    · exact ⟨i, by rw [Array.getElem?_toList, Array.getElem?_modify, if_pos rfl, he]; rfl⟩
    · exact ⟨j, by rw [Array.getElem?_toList, Array.getElem?_modify, if_neg (fun e => hj e.symm)]; exact hx⟩

theorem SMap.sput (h : SMap w b f) (n : ByteArray) (v : Value) : SMap (sput w b n v) b (updS f n (some v)) := by
  obtain ⟨es, c, hb, hs, hks, hf⟩ := h
  have hbl := (Array.getElem?_eq_some_iff.1 hb).1
  have hh : (Tn.sput w b n v).heap[b]? = some (sputE es c n v) := by
    simp [Tn.sput, Array.getElem?_modify, hb]
  rcases find_specS n es.toList 0 hks with ⟨h1, _, h3⟩ | ⟨i, e, h1, _, h3, h4⟩
  · refine ⟨es.push { key := .string n, val := v, born := c }, c + 1, by rw [hh, sputE, h1], stamped_push hs (fun x hx => h3 x hx), ?_, ?_⟩
    · intro e he
      simp at he
      rcases he with he | rfl
      · exact hks e (by simpa using he)
      · exact ⟨n, rfl⟩
    · intro m u
      unfold updS
      by_cases hm : m = n
      · subst hm
        rw [if_pos rfl]
        constructor
        · intro hu
          injection hu with hu
          exact ⟨{ key := .string m, val := v, born := c }, by simp, rfl, hu⟩
        · rintro ⟨e, he, hk, hv⟩
          simp at he
          rcases he with he | rfl
          · exact absurd hk (h3 e (by simpa using he))
          · rw [← hv]
      · rw [if_neg hm, hf]
        constructor
        · rintro ⟨e, he, r⟩
          exact ⟨e, by simp; left; simpa using he, r⟩
        · rintro ⟨e, he, hk, hv⟩
          simp at he
          rcases he with he | rfl
          · exact ⟨e, by simpa using he, hk, hv⟩
          · injection hk with hk; exact absurd hk.symm hm
  · have hei : es[i]? = some e := by simpa using h3
    refine ⟨es.modify i fun e => { e with key := .string n, val := v }, c, by rw [hh, sputE, h1], ?_, ?_, ?_⟩
    · refine stamped_modify hs i _ (fun _ _ => rfl) (fun e' _ he' => ?_)
      rw [hei] at he'
      injection he' with he'
      subst he'
      exact h4.symm
    · intro x hx
      rcases (mem_modifyS hei x).1 hx with rfl | ⟨j, _, hj⟩
      · exact ⟨n, rfl⟩
      · exact hks x (List.mem_of_getElem? (by simpa using hj))
    · intro m u
      unfold updS
      by_cases hm : m = n
      · subst hm
        rw [if_pos rfl]
        constructor
        · intro hu
          injection hu with hu
          exact ⟨_, (mem_modifyS hei _).2 (.inl rfl), rfl, hu⟩
        · rintro ⟨x, hx, hk, hv⟩
          rcases (mem_modifyS hei x).1 hx with rfl | ⟨j, hj, hx'⟩
          · rw [← hv]
          · exfalso
            have hn := ((stamped_iff es c).1 hs).2.2
            have hj' : es.toList[j]? = some x := by simpa using hx'
            obtain ⟨hjl, hjx⟩ := List.getElem?_eq_some_iff.1 hj'
            obtain ⟨hil, hie⟩ := List.getElem?_eq_some_iff.1 h3
            rcases Nat.lt_or_gt_of_ne hj with h | h
            · exact (List.pairwise_iff_getElem.1 hn j i hjl hil h) (by rw [hjx, hie, hk, h4])
            · exact (List.pairwise_iff_getElem.1 hn i j hil hjl h) (by rw [hjx, hie, hk, h4])
      · rw [if_neg hm, hf]
        constructor
        · rintro ⟨x, hx, hk, hv⟩
          obtain ⟨j, hj⟩ := List.mem_iff_getElem?.1 hx
          refine ⟨x, (mem_modifyS hei x).2 (.inr ⟨j, ?_, by simpa using hj⟩), hk, hv⟩
          rintro rfl
          rw [h3] at hj
          injection hj with hj
          subst hj
          rw [h4] at hk
          injection hk with hk
          exact hm hk.symm
        · rintro ⟨x, hx, hk, hv⟩
          rcases (mem_modifyS hei x).1 hx with rfl | ⟨j, _, hj⟩
          · injection hk with hk; exact absurd hk.symm hm
          · exact ⟨x, List.mem_of_getElem? (by simpa using hj), hk, hv⟩

theorem SMap.sdel (h : SMap w b f) (n : ByteArray) : SMap (sdel w b n) b (updS f n none) := by
  obtain ⟨es, c, hb, hs, hks, hf⟩ := h
  have hh : (Tn.sdel w b n).heap[b]? = some (sdelE es c n) := by
    simp [Tn.sdel, Array.getElem?_modify, hb]
  rcases find_specS n es.toList 0 hks with ⟨h1, _, h3⟩ | ⟨i, e, h1, _, h3, h4⟩
  · refine ⟨es, c, by rw [hh, sdelE, h1], hs, hks, ?_⟩
    intro m u
    unfold updS
    by_cases hm : m = n
    · subst hm
      rw [if_pos rfl]
      constructor
      · intro hu; cases hu
      · rintro ⟨e, he, hk, _⟩; exact absurd hk (h3 e he)
    · rw [if_neg hm, hf]
  · have hmem : ∀ x, x ∈ (es.eraseIdxIfInBounds i).toList ↔ ∃ j, j ≠ i ∧ es.toList[j]? = some x := by
      intro x
      have hil := (List.getElem?_eq_some_iff.1 h3).1
      have e1 : (es.eraseIdxIfInBounds i).toList = es.toList.eraseIdx i := by
        have : i < es.size := by simpa using hil
        simp [Array.eraseIdxIfInBounds, this]
      rw [e1, List.mem_eraseIdx_iff_getElem?]
    refine ⟨es.eraseIdxIfInBounds i, c, by rw [hh, sdelE, h1], stamped_erase hs i, ?_, ?_⟩
    · intro x hx
      obtain ⟨j, _, hj⟩ := (hmem x).1 hx
      exact hks x (List.mem_of_getElem? hj)
    · intro m u
      unfold updS
      by_cases hm : m = n
      · subst hm
        rw [if_pos rfl]
        constructor
        · intro hu; cases hu
        · rintro ⟨x, hx, hk, _⟩
          exfalso
          obtain ⟨j, hj, hx'⟩ := (hmem x).1 hx
          have hn := ((stamped_iff es c).1 hs).2.2
          obtain ⟨hjl, hjx⟩ := List.getElem?_eq_some_iff.1 hx'
          obtain ⟨hil, hie⟩ := List.getElem?_eq_some_iff.1 h3
          rcases Nat.lt_or_gt_of_ne hj with h | h
          · exact (List.pairwise_iff_getElem.1 hn j i hjl hil h) (by rw [hjx, hie, hk, h4])
          · exact (List.pairwise_iff_getElem.1 hn i j hil hjl h) (by rw [hjx, hie, hk, h4])
      · rw [if_neg hm, hf]
        constructor
        · rintro ⟨x, hx, hk, hv⟩
          obtain ⟨j, hj⟩ := List.mem_iff_getElem?.1 hx
          refine ⟨x, (hmem x).2 ⟨j, ?_, hj⟩, hk, hv⟩
          rintro rfl
          rw [h3] at hj
          injection hj with hj
          subst hj
          rw [h4] at hk
          injection hk with hk
          exact hm hk.symm
        · rintro ⟨x, hx, r⟩
          obtain ⟨j, _, hj⟩ := (hmem x).1 hx
          exact ⟨x, List.mem_of_getElem? hj, r⟩

theorem SMap.made (w : World) : SMap (w.alloc (.map #[] 0)) w.heap.size (fun _ => none) :=
  ⟨#[], 0, (MapKept.heap_alloc w _).1, stamped_empty 0, by simp, by simp⟩

end

/-! ### the same by functions of the world: a fact with no unknown in it -/

/-- Block b is a map keyed by ints. -/
def IsS (w : World) (b : Nat) : Prop := ∃ f, SMap w b f
/-- Its entry at n. -/
def sget (w : World) (b : Nat) (n : ByteArray) : Option Value := match w.heap[b]? with | some (.map es _) => (es.toList.find? (keyIsS n)).map (·.val) | _ => none
/-- How many entries it has. -/
def slen (w : World) (b : Nat) : Nat := match w.heap[b]? with | some (.map es _) => es.size | _ => 0
/-- The stamp that the entry at n has, or would get. -/
def sstamp (w : World) (b : Nat) (n : ByteArray) : Int := match w.heap[b]? with | some (.map es clock) => (match es.toList.find? (keyIsS n) with | some e => (e.born : Int) | none => (clock : Int)) | _ => 0

theorem find?S_of_findIdx? {p : MapEntry → Bool} : ∀ (l : List MapEntry), (l.findIdx? p = none → l.find? p = none) ∧ ∀ i e, l.findIdx? p = some i → l[i]? = some e → l.find? p = some e
  | [] => ⟨fun _ => rfl, by simp⟩
  | x :: r => by
    obtain ⟨h1, h2⟩ := find?S_of_findIdx? (p := p) r
    by_cases hx : p x = true
    · refine ⟨by simp [List.findIdx?_cons, hx], fun i e hi he => ?_⟩
      simp [List.findIdx?_cons, hx] at hi
      subst hi
      simp at he
      subst he
      simp only [List.find?_cons, hx]
    · simp only [Bool.not_eq_true] at hx
      refine ⟨fun h => ?_, fun i e hi he => ?_⟩
      · simp [List.findIdx?_cons, hx] at h
        simp only [List.find?_cons, hx]
        exact h1 (by simpa using h)
      · simp [List.findIdx?_cons, hx] at hi
        obtain ⟨j, hj, rfl⟩ := hi
        simp at he
        simp only [List.find?_cons, hx]
        exact h2 j e hj he

section
variable {w : World} {b : Nat} {f : ByteArray → Option Value}

theorem SMap.get (h : SMap w b f) (n : ByteArray) : sget w b n = f n := by
  obtain ⟨es, c, hb, hs, hks, hf⟩ := h
  rcases find_specS n es.toList 0 hks with ⟨h1, _, h3⟩ | ⟨i, e, h1, _, h3, h4⟩
  · simp only [sget, hb, (find?S_of_findIdx? es.toList).1 h1, Option.map_none]
    cases hfn : f n with
    | none => rfl
    | some v =>
      obtain ⟨e, he, hk, _⟩ := (hf n v).1 hfn
      exact absurd hk (h3 e he)
  · simp only [sget, hb, (find?S_of_findIdx? es.toList).2 i e h1 h3, Option.map_some]
    exact ((hf n e.val).2 ⟨e, List.mem_of_getElem? h3, h4, rfl⟩).symm

theorem SMap.is (h : SMap w b f) : IsS w b := ⟨f, h⟩
theorem IsS.smap (h : IsS w b) : SMap w b (sget w b) := by
  obtain ⟨f, hf⟩ := h
  have : sget w b = f := funext hf.get
  rw [this]; exact hf
theorem smap_iff : SMap w b f ↔ IsS w b ∧ ∀ n, sget w b n = f n :=
  ⟨fun h => ⟨h.is, h.get⟩, fun ⟨h, hf⟩ => by
    have : sget w b = f := funext hf
    rw [← this]; exact h.smap⟩
theorem IsS.lt (h : IsS w b) : b < w.heap.size := h.smap.lt
theorem IsS.of_heap {w' : World} (h : IsS w b) (hh : w'.heap[b]? = w.heap[b]?) : IsS w' b := (h.smap.of_heap hh).is
theorem sget_of_heap {w' : World} (hh : w'.heap[b]? = w.heap[b]?) (n : ByteArray) : sget w' b n = sget w b n := by simp only [sget, hh]
theorem slen_of_heap {w' : World} (hh : w'.heap[b]? = w.heap[b]?) : slen w' b = slen w b := by simp only [slen, hh]
theorem sstamp_of_heap {w' : World} (hh : w'.heap[b]? = w.heap[b]?) (n : ByteArray) : sstamp w' b n = sstamp w b n := by simp only [sstamp, hh]

theorem IsS.sput_same (h : IsS w b) (n : ByteArray) (v : Value) : IsS (sput w b n v) b := (h.smap.sput n v).is
theorem IsS.sdel_same (h : IsS w b) (n : ByteArray) : IsS (sdel w b n) b := (h.smap.sdel n).is
theorem sget_sput_same (h : IsS w b) (n m : ByteArray) (v : Value) : sget (sput w b n v) b m = if m = n then some v else sget w b m := (h.smap.sput n v).get m
theorem sget_sdel_same (h : IsS w b) (n m : ByteArray) : sget (sdel w b n) b m = if m = n then none else sget w b m := (h.smap.sdel n).get m

theorem IsS.len (h : IsS w b) : ∃ es clock, w.heap[b]? = some (.map es clock) ∧ slen w b = es.size := by
  obtain ⟨es, c, hb, _⟩ := h.smap
  exact ⟨es, c, hb, by simp [slen, hb]⟩

theorem slen_sput_same (h : IsS w b) (n : ByteArray) (v : Value) : slen (sput w b n v) b = if (sget w b n).isSome then slen w b else slen w b + 1 := by
  obtain ⟨es, c, hb, hs, hks, hf⟩ := h.smap
  have hh : (Tn.sput w b n v).heap[b]? = some (sputE es c n v) := by simp [Tn.sput, Array.getElem?_modify, hb]
  rcases find_specS n es.toList 0 hks with ⟨h1, _, h3⟩ | ⟨i, e, h1, _, h3, h4⟩
  · simp [slen, hh, sputE, h1, sget, hb, (find?S_of_findIdx? es.toList).1 h1]
  · simp [slen, hh, sputE, h1, sget, hb, (find?S_of_findIdx? es.toList).2 i e h1 h3]

theorem slen_sdel_same (h : IsS w b) (n : ByteArray) : slen (sdel w b n) b = if (sget w b n).isSome then slen w b - 1 else slen w b := by
  obtain ⟨es, c, hb, hs, hks, hf⟩ := h.smap
  have hh : (Tn.sdel w b n).heap[b]? = some (sdelE es c n) := by simp [Tn.sdel, Array.getElem?_modify, hb]
  rcases find_specS n es.toList 0 hks with ⟨h1, _, h3⟩ | ⟨i, e, h1, _, h3, h4⟩
  · simp [slen, hh, sdelE, h1, sget, hb, (find?S_of_findIdx? es.toList).1 h1]
  · have hil : i < es.size := by simpa using (List.getElem?_eq_some_iff.1 h3).1
    simp [slen, hh, sdelE, h1, sget, hb, (find?S_of_findIdx? es.toList).2 i e h1 h3, Array.eraseIdxIfInBounds, hil]

theorem slen_made (w : World) : slen (w.alloc (.map #[] 0)) w.heap.size = 0 := by
  simp only [slen, (MapKept.heap_alloc w (.map #[] 0)).1]; rfl

end

section
variable (w : World) (b : Nat) (n m : ByteArray) (v : Value) {b' : Nat}
theorem isS_sput_other (h : b' ≠ b) : IsS (sput w b n v) b' ↔ IsS w b' :=
  ⟨fun k => k.of_heap (sput_heap_other w b n v h).symm, fun k => k.of_heap (sput_heap_other w b n v h)⟩
theorem isS_sdel_other (h : b' ≠ b) : IsS (sdel w b n) b' ↔ IsS w b' :=
  ⟨fun k => k.of_heap (sdel_heap_other w b n h).symm, fun k => k.of_heap (sdel_heap_other w b n h)⟩
theorem sget_sput_other (h : b' ≠ b) : sget (sput w b n v) b' m = sget w b' m := sget_of_heap (sput_heap_other w b n v h) m
theorem sget_sdel_other (h : b' ≠ b) : sget (sdel w b n) b' m = sget w b' m := sget_of_heap (sdel_heap_other w b n h) m
theorem slen_sput_other (h : b' ≠ b) : slen (sput w b n v) b' = slen w b' := slen_of_heap (sput_heap_other w b n v h)
theorem slen_sdel_other (h : b' ≠ b) : slen (sdel w b n) b' = slen w b' := slen_of_heap (sdel_heap_other w b n h)
theorem sstamp_sput_other (h : b' ≠ b) : sstamp (sput w b n v) b' m = sstamp w b' m := sstamp_of_heap (sput_heap_other w b n v h) m
theorem sstamp_sdel_other (h : b' ≠ b) : sstamp (sdel w b n) b' m = sstamp w b' m := sstamp_of_heap (sdel_heap_other w b n h) m

theorem IsS.sput (h : IsS w b') : IsS (Tn.sput w b n v) b' := by
  by_cases hb : b' = b
  · subst hb; exact h.sput_same n v
  · exact (isS_sput_other w b n v hb).2 h
theorem IsS.sdel (h : IsS w b') : IsS (Tn.sdel w b n) b' := by
  by_cases hb : b' = b
  · subst hb; exact h.sdel_same n
  · exact (isS_sdel_other w b n hb).2 h

theorem isS_iff_entries {w : World} {b : Nat} : IsS w b ↔ ∃ es clock, w.heap[b]? = some (.map es clock) ∧ Stamped es clock ∧ ∀ e ∈ es.toList, ∃ n, e.key = .string n := by
  constructor
  · rintro ⟨f, es, c, hb, hs, hk, _⟩
    exact ⟨es, c, hb, hs, hk⟩
  · rintro ⟨es, c, hb, hs, hk⟩
    refine ⟨fun n => (es.toList.find? (keyIsS n)).map (·.val), es, c, hb, hs, hk, fun n v => ?_⟩
    constructor
    · intro h
      simp only [Option.map_eq_some_iff] at h
      obtain ⟨e, he, hv⟩ := h
      exact ⟨e, List.mem_of_find?_eq_some he, key_of_keyIsS (List.find?_some he), hv⟩
    · rintro ⟨e, he, hke, hv⟩
      have : es.toList.find? (keyIsS n) = some e := by
        cases hf : es.toList.find? (keyIsS n) with
        | none =>
          have := List.find?_eq_none.1 hf e he
          simp [keyIsS_of hke] at this
        | some e' =>
          rw [SMap.uniq hs (List.mem_of_find?_eq_some hf) he ((key_of_keyIsS (List.find?_some hf)).trans hke.symm)]
      simp [this, hv]

theorem isS_sput_back {w : World} {b : Nat} {n : ByteArray} {v : Value} (h : IsS (Tn.sput w b n v) b) : IsS w b := by
  cases hb : w.heap[b]? with
  | none =>
    have := h.lt
    simp at this
    simp at hb
    omega
  | some o =>
    by_cases hm : ∃ es c, o = .map es c
    · obtain ⟨es, c, rfl⟩ := hm
      have hh : (Tn.sput w b n v).heap[b]? = some (sputE es c n v) := by simp [Tn.sput, Array.getElem?_modify, hb]
      obtain ⟨es', c', hb', hs', hk'⟩ := isS_iff_entries.1 h
      rw [hh] at hb'
      injection hb' with hb'
      refine isS_iff_entries.2 ⟨es, c, hb, ?_⟩
      cases hf : es.toList.findIdx? (keyIsS n) with
      | none =>
        simp only [sputE, hf, Obj.map.injEq] at hb'
        obtain ⟨rfl, rfl⟩ := hb'
        obtain ⟨h1, h2, h3⟩ := (stamped_iff _ _).1 hs'
        simp only [Array.toList_push] at h1 h2 h3 hk'
        refine ⟨(stamped_iff _ _).2 ⟨fun x hx => ?_, ?_, ?_⟩, fun e he => hk' e (by simp [he])⟩
        · have h4 := h1 x (by simp [hx])
          have h5 : x.born ≠ c := by
            simp only [List.map_append, List.map_cons, List.map_nil, List.nodup_append] at h2
            exact h2.2.2 x.born (List.mem_map.2 ⟨x, hx, rfl⟩) c (by simp)
          omega
        · simp only [List.map_append, List.nodup_append] at h2
          exact h2.1
        · exact (List.pairwise_append.1 h3).1
      | some i =>
        simp only [sputE, hf, Obj.map.injEq] at hb'
        obtain ⟨rfl, rfl⟩ := hb'
        obtain ⟨hil, hp, _⟩ := List.findIdx?_eq_some_iff_getElem.1 hf
        have hke := key_of_keyIsS hp
        have hil' : i < es.size := by simpa using hil
        have hmap : ∀ {β : Type} (g : MapEntry → β), (∀ e : MapEntry, e.key = .string n → g { e with key := .string n, val := v } = g e) →
            (es.modify i fun e => { e with key := .string n, val := v }).toList.map g = es.toList.map g := by
          intro β g hg
          apply List.ext_getElem?
          intro j
          simp only [List.getElem?_map, Array.getElem?_toList, Array.getElem?_modify]
          by_cases hj : i = j
          · subst hj
            have he : es[i]? = some es[i] := Array.getElem?_eq_getElem hil'
            simp only [if_true, he, Option.map_some]
            rw [hg _ (by simpa using hke)]
          · simp [hj]
        have hb1 := hmap (·.born) (fun _ _ => rfl)
        have hk1 := hmap (·.key) (fun e he => he.symm)
        refine ⟨⟨fun x hx => ?_, by rw [← hb1]; exact hs'.2.1, by rw [← hk1]; exact hs'.2.2⟩, fun e he => ?_⟩
        · have : x.born ∈ (es.modify i fun e => { e with key := Value.string n, val := v }).toList.map (·.born) := by rw [hb1]; exact List.mem_map.2 ⟨x, hx, rfl⟩
          obtain ⟨y, hy, hyb⟩ := List.mem_map.1 this
          rw [← hyb]; exact hs'.1 y hy
        · have : e.key ∈ (es.modify i fun e => { e with key := Value.string n, val := v }).toList.map (·.key) := by rw [hk1]; exact List.mem_map.2 ⟨e, he, rfl⟩
          obtain ⟨y, hy, hyk⟩ := List.mem_map.1 this
          rw [← hyk]; exact hk' y hy
    · have hh : (Tn.sput w b n v).heap[b]? = w.heap[b]? := by
        simp only [Tn.sput, Array.getElem?_modify, if_true, hb, Option.map_some]
        cases o <;> first | rfl | exact absurd ⟨_, _, rfl⟩ hm
      exact h.of_heap hh.symm

@[simp, go_sem] theorem isS_sput : IsS (Tn.sput w b n v) b' ↔ IsS w b' := by
  by_cases hb : b' = b
  · subst hb; exact ⟨isS_sput_back, fun h => h.sput_same n v⟩
  · exact isS_sput_other w b n v hb

theorem heap_setCell_mapS {es : Array MapEntry} {clock : Nat} (a : Addr) (u : Value) (hb : w.heap[b]? = some (.map es clock)) : (w.setCell a u).heap[b]? = w.heap[b]? := by
  simp only [World.setCell, Array.getElem?_modify]
  by_cases h : a.block = b
  · subst h; simp [hb]
  · simp [h]

theorem IsS.setCell (h : IsS w b) (a : Addr) (u : Value) : IsS (w.setCell a u) b := by
  obtain ⟨es, c, hb, _⟩ := h.smap
  exact h.of_heap (heap_setCell_mapS w b a u hb)
theorem sget_setCell (h : IsS w b) (a : Addr) (u : Value) : sget (w.setCell a u) b m = sget w b m := by
  obtain ⟨es, c, hb, _⟩ := h.smap
  exact sget_of_heap (heap_setCell_mapS w b a u hb) m
theorem slen_setCell (h : IsS w b) (a : Addr) (u : Value) : slen (w.setCell a u) b = slen w b := by
  obtain ⟨es, c, hb, _⟩ := h.smap
  exact slen_of_heap (heap_setCell_mapS w b a u hb)
theorem IsS.alloc (h : IsS w b) (o : Obj) : IsS (w.alloc o) b := h.of_heap ((MapKept.heap_alloc w o).2 b h.lt)
theorem sget_alloc (h : IsS w b) (o : Obj) : sget (w.alloc o) b m = sget w b m := sget_of_heap ((MapKept.heap_alloc w o).2 b h.lt) m
theorem slen_alloc (h : IsS w b) (o : Obj) : slen (w.alloc o) b = slen w b := slen_of_heap ((MapKept.heap_alloc w o).2 b h.lt)
end

/-! ### the runs, by these -/
section
variable {w : World} {b : Nat} {P : Program} {t kt et : TypeId}

theorem IsS.look (h : IsS w b) (ht : P.underlying t = some (.map kt et)) (hk : P.underlying kt = some .string) {z : Value} (hz : ∀ w, (zeroValue et).run P w = .ok z w) (n : ByteArray) (c : Bool) :
    (Instr.lookup t (.map (some b)) (.string n) c).run P w = .ok (if c then .tuple #[(sget w b n).getD z, .bool (sget w b n).isSome] else (sget w b n).getD z) w :=
  h.smap.look ht hk (hz w) n c

theorem IsS.store (h : IsS w b) (ht : P.underlying t = some (.map kt et)) (hk : P.underlying kt = some .string) (n : ByteArray) (v : Value) :
    (Instr.mapUpdate t (.map (some b)) (.string n) v).run P w = .ok () (Tn.sput w b n v) := h.smap.store ht hk n v

theorem IsS.delete (h : IsS w b) (ht : P.underlying t = some (.map kt et)) (hk : P.underlying kt = some .string) (n : ByteArray) (ty : TypeId) :
    (Builtin.delete_ #[t, kt] ty #[.map (some b), .string n]).run P w = .ok (.tuple #[]) (Tn.sdel w b n) := h.smap.delete ht hk n ty

theorem IsS.runLen (h : IsS w b) (ht : P.underlying t = some (.map kt et)) (ty : TypeId) : (Builtin.len_ #[t] ty #[.map (some b)]).run P w = .ok (.int .i64 (slen w b)) w := by
  obtain ⟨es, c, hb, hl⟩ := h.len
  rw [hl]
  simp [Builtin.len_, run_underlying ht, MapKept.run_getObj_map hb, goInt, Result.andThen]

theorem modify_sameS {es : Array MapEntry} {i : Nat} {g : MapEntry → MapEntry} (hg : ∀ e, es[i]? = some e → g e = e) : es.modify i g = es := by
  apply Array.ext_getElem?
  intro j
  rw [Array.getElem?_modify]
  by_cases hj : i = j
  · subst hj
    rw [if_pos rfl]
    cases he : es[i]? with
    | none => rfl
    | some e => simp [hg e he]
  · rw [if_neg hj]

theorem IsS.entry (h : IsS w b) (ht : P.underlying t = some (.map kt et)) (hk : P.underlying kt = some .string) {z : Value} (hz : ∀ w, (zeroValue et).run P w = .ok z w) (n : ByteArray) :
    (Instr.mapEntry t (.map (some b)) (.string n)).run P w = .ok (.tuple #[(sget w b n).getD z, .int .i64 (sstamp w b n)]) (Tn.sput w b n ((sget w b n).getD z)) := by
  obtain ⟨es, cl, hb, h⟩ := h.smap.find hk n
  have hck : ∀ em, (Instr.checkKey em 10000 kt (.string n)).run P w = .ok () w := fun em => run_checkKey (n := 9999) hk (isKey_str n) em
  rcases h with ⟨h1, h2, h3⟩ | ⟨i, e, h1, h2, h3, h4, h5⟩
  · have hst : sstamp w b n = (cl : Int) := by simp [sstamp, hb, (find?S_of_findIdx? es.toList).1 h1]
    rw [hst]
    simp [Instr.mapEntry, run_underlying ht, MapKept.run_getObj_map hb, hck, h3, hz, run_setObj_map _ hb, Result.andThen, Tn.sput, heap_modify_setS hb, sputE, h1, h2, goInt]
  · have hst : sstamp w b n = (e.born : Int) := by simp [sstamp, hb, (find?S_of_findIdx? es.toList).2 i e h1 (by simpa using h2)]
    have hky := run_keyThatStays (P := P) (w := w) (isKey_str n)
    have hm1 : (es.modify i fun e => { e with key := .string n }) = es := modify_sameS fun e' he' => by rw [h2] at he'; injection he' with he'; subst he'; rw [← h3]
    have hm2 : (es.modify i fun e' => { e' with key := .string n, val := e.val }) = es := modify_sameS fun e' he' => by rw [h2] at he'; injection he' with he'; subst he'; rw [← h3]
    rw [hst]
    simp [Instr.mapEntry, run_underlying ht, MapKept.run_getObj_map hb, hck, h5, h2, h3, hky, run_setObj_map _ hb, Result.andThen, Tn.sput, heap_modify_setS hb, sputE, h1, h4, hm1, hm2, goInt]

theorem nodup_born_idxS {es : Array MapEntry} {clock : Nat} (hs : Stamped es clock) {i : Nat} {e : MapEntry} (he : es[i]? = some e) : es.findIdx? (fun x => (x.born : Int) == (e.born : Int)) = some i := by
  have hil := (Array.getElem?_eq_some_iff.1 he).1
  have hie := (Array.getElem?_eq_some_iff.1 he).2
  rw [Array.findIdx?_eq_some_iff_getElem]
  refine ⟨hil, by simp [hie], fun j hj => ?_⟩
  have hn := ((stamped_iff es clock).1 hs).2.1
  have hjl : j < es.size := by omega
  have := List.pairwise_iff_getElem.1 (List.pairwise_map.1 hn) j i (by simpa using hjl) (by simpa using hil) hj
  simp only [Array.getElem_toList] at this
  rw [hie] at this
  simp only [beq_eq_false_iff_ne, ne_eq, Bool.not_eq_true]
  intro h
  exact this (by exact_mod_cast h)

theorem IsS.entrySt (h : IsS w b) {n : ByteArray} (hn : (sget w b n).isSome = true) {st : Int} (hst : st = sstamp w b n) (v : Value) :
    (Instr.entryStore t (.map (some b)) (.int .i64 st) v).run P w = .ok () (Tn.sput w b n v) := by
  subst hst
  obtain ⟨es, c, hb, hs, hks, hf⟩ := h.smap
  rcases find_specS n es.toList 0 hks with ⟨h1, _, h3⟩ | ⟨i, e, h1, _, h3, h4⟩
  · exfalso
    simp [sget, hb, (find?S_of_findIdx? es.toList).1 h1] at hn
  · have hei : es[i]? = some e := by simpa using h3
    have hst : sstamp w b n = (e.born : Int) := by simp [sstamp, hb, (find?S_of_findIdx? es.toList).2 i e h1 h3]
    have hm : (es.modify i fun e => { e with val := v }) = es.modify i fun e => { e with key := .string n, val := v } := by
      apply Array.ext_getElem?
      intro j
      rw [Array.getElem?_modify, Array.getElem?_modify]
      by_cases hj : i = j
      · subst hj; simp [hei, h4]
      · simp [hj]
    rw [hst]
    simp only [Instr.entryStore, Sem.run_bind, MapKept.run_getObj_map hb, Result.andThen]
    simp [asInt, asIntOf, Result.andThen, nodup_born_idxS hs hei, run_setObj_map _ hb, Tn.sput, heap_modify_setS hb, sputE, h1, hm]

theorem sstamp_sput_same (h : IsS w b) (n : ByteArray) (v : Value) : sstamp (Tn.sput w b n v) b n = sstamp w b n := by
  obtain ⟨es, c, hb, hs, hks, hf⟩ := h.smap
  have hh : (Tn.sput w b n v).heap[b]? = some (sputE es c n v) := by simp [Tn.sput, Array.getElem?_modify, hb]
  rcases find_specS n es.toList 0 hks with ⟨h1, _, h3⟩ | ⟨i, e, h1, _, h3, h4⟩
  · have : es.toList.find? (keyIsS n) = none := (find?S_of_findIdx? es.toList).1 h1
    simp [sstamp, hh, sputE, h1, hb, this, List.find?_append, keyIsS]
  · have h5 : es.toList.find? (keyIsS n) = some e := (find?S_of_findIdx? es.toList).2 i e h1 h3
    have hei : es[i]? = some e := by simpa using h3
    obtain ⟨hil, hp, hlt⟩ := List.findIdx?_eq_some_iff_getElem.1 h1
    have h6 : (es.modify i fun e => { e with key := .string n, val := v }).toList.findIdx? (keyIsS n) = some i := by
      rw [List.findIdx?_eq_some_iff_getElem]
      refine ⟨by simpa using hil, ?_, fun j hj => ?_⟩
      · simp [keyIsS, Array.getElem_modify]
      · have hne : i ≠ j := by omega
        have := hlt j hj
        simpa [Array.getElem_modify, hne] using this
    have h7 : (es.modify i fun e => { e with key := .string n, val := v }).toList[i]? = some { e with key := .string n, val := v } := by
      simp [Array.getElem?_modify, hei]
    have h8 := (find?S_of_findIdx? (es.modify i fun e => { e with key := .string n, val := v }).toList).2 i _ h6 h7
    simp only [sstamp, hh, sputE, h1, hb, h5, h8]

end

/-- Two stores at one place: the last one holds. -/
theorem sput_sput {w : World} {b : Nat} (h : IsS w b) (n : ByteArray) (u v : Value) : Tn.sput (Tn.sput w b n u) b n v = Tn.sput w b n v := by
  obtain ⟨es, c, hb, hs, hks, hf⟩ := h.smap
  have hbl := (Array.getElem?_eq_some_iff.1 hb).1
  have hh : ∀ x : Value, (Tn.sput w b n x).heap[b]? = some (sputE es c n x) := fun x => by simp [Tn.sput, Array.getElem?_modify, hb]
  suffices hs : (Tn.sput (Tn.sput w b n u) b n v).heap = (Tn.sput w b n v).heap by
    unfold Tn.sput at hs ⊢
    simp only at hs
    simp only [hs]
  apply Array.ext_getElem?
  intro j
  by_cases hj : j = b
  · subst hj
    rw [hh v]
    rcases find_specS n es.toList 0 hks with ⟨h1, _, h3⟩ | ⟨i, e, h1, _, h3, h4⟩
    · have h2 : (Tn.sput w j n u).heap[j]? = some (.map (es.push { key := .string n, val := u, born := c }) (c + 1)) := by rw [hh u]; simp [sputE, h1]
      have h5 : (es.push { key := Value.string n, val := u, born := c }).toList.findIdx? (keyIsS n) = some es.size := by
        simp [List.findIdx?_append, h1, keyIsS]
      have h6 : (Tn.sput (Tn.sput w j n u) j n v).heap[j]? = some (sputE (es.push { key := .string n, val := u, born := c }) (c + 1) n v) := by
        rw [show (Tn.sput (Tn.sput w j n u) j n v).heap = (Tn.sput w j n u).heap.modify j (fun | .map es clock => sputE es clock n v | o => o) from rfl, Array.getElem?_modify, if_pos rfl, h2]; rfl
      rw [h6]
      simp only [sputE, h1, h5]
      congr 2
      apply Array.ext_getElem?
      intro k
      rw [Array.getElem?_modify, Array.getElem?_push, Array.getElem?_push]
      by_cases hk : k = es.size
      · subst hk; simp
      · simp [hk]; intro hk'; exact absurd hk'.symm hk
    · have hei : es[i]? = some e := by simpa using h3
      have h2 : (Tn.sput w j n u).heap[j]? = some (.map (es.modify i fun e => { e with key := .string n, val := u }) c) := by rw [hh u]; simp [sputE, h1]
      obtain ⟨hil, hp, hlt⟩ := List.findIdx?_eq_some_iff_getElem.1 h1
      have h5 : (es.modify i fun e => { e with key := .string n, val := u }).toList.findIdx? (keyIsS n) = some i := by
        rw [List.findIdx?_eq_some_iff_getElem]
        refine ⟨by simpa using hil, ?_, fun j hj => ?_⟩
        · simp [keyIsS, Array.getElem_modify]
        · have hne : i ≠ j := by omega
          have := hlt j hj
          simpa [Array.getElem_modify, hne] using this
      have h6 : (Tn.sput (Tn.sput w j n u) j n v).heap[j]? = some (sputE (es.modify i fun e => { e with key := .string n, val := u }) c n v) := by
        rw [show (Tn.sput (Tn.sput w j n u) j n v).heap = (Tn.sput w j n u).heap.modify j (fun | .map es clock => sputE es clock n v | o => o) from rfl, Array.getElem?_modify, if_pos rfl, h2]; rfl
      rw [h6]
      simp only [sputE, h1, h5]
      congr 2
      apply Array.ext_getElem?
      intro k
      simp only [Array.getElem?_modify]
      by_cases hk : i = k
      · subst hk; simp [hei]
      · simp [hk]
  · rw [sput_heap_other _ _ _ _ hj, sput_heap_other _ _ _ _ hj, sput_heap_other _ _ _ _ hj]

/-- Stores into two maps: their order makes no odds. -/
theorem sput_comm {w : World} {b b' : Nat} (hb : b ≠ b') (n n' : ByteArray) (v v' : Value) : Tn.sput (Tn.sput w b n v) b' n' v' = Tn.sput (Tn.sput w b' n' v') b n v := by
  unfold Tn.sput
  congr 1
  apply Array.ext_getElem?
  intro j
  simp only [Array.getElem?_modify]
  by_cases h1 : b = j
  · subst h1
    have hb' : ¬ b' = b := fun e => hb e.symm
    simp [hb']
  · simp [h1]

section
variable (w : World) (b : Nat) (n : ByteArray) (k : Nat)
-- (none of these is by a bare 'rfl': a side goal that simp turns by such a law is not closed by the fact behind it)
@[simp, go_sem] theorem isS_drew : IsS w.drew b ↔ IsS w b := ⟨fun h => h.of_heap rfl, fun h => h.of_heap rfl⟩
@[simp, go_sem] theorem isS_drewN : IsS (w.drewN k) b ↔ IsS w b := ⟨fun h => h.of_heap rfl, fun h => h.of_heap rfl⟩
@[simp, go_sem] theorem sget_drew : sget w.drew b n = sget w b n := sget_of_heap rfl n
@[simp, go_sem] theorem sget_drewN : sget (w.drewN k) b n = sget w b n := sget_of_heap rfl n
@[simp, go_sem] theorem slen_drew : slen w.drew b = slen w b := slen_of_heap rfl
@[simp, go_sem] theorem slen_drewN : slen (w.drewN k) b = slen w b := slen_of_heap rfl
@[simp, go_sem] theorem sstamp_drew : sstamp w.drew b n = sstamp w b n := sstamp_of_heap rfl n
@[simp, go_sem] theorem sstamp_drewN : sstamp (w.drewN k) b n = sstamp w b n := sstamp_of_heap rfl n
end

attribute [go_sem] sget_sput_same sget_sput_other sget_sdel_same sget_sdel_other sstamp_sput_same sstamp_sput_other sstamp_sdel_other sput_sput isS_sdel_other slen_sput_same slen_sput_other slen_sdel_same slen_sdel_other

end Go.Tn
