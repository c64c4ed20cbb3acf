/-
  Whole: bytes as a string; writes into the frames 2 and 3; what stays behind them.
-/
import Derived.Test.YthakplgehanopaaGb
import Derived.Test.YthakplgehanopaaArgs
import Derived.Laws.BytesString
namespace Go.Proofs.Ythakplgehanopaa
open Go.RowKit Go.Tn Go.MapKept
open Go.Proofs

def strG (g : Nat → Int) (len : Nat) : ByteArray := ((List.range len).map g).foldl (fun r n => r.push (UInt8.ofNat n.toNat)) ByteArray.empty
theorem strG_congr {g h : Nat → Int} {len : Nat} (e : ∀ j, j < len → g j = h j) : strG g len = strG h len := by
  unfold strG
  congr 1
  exact List.map_congr_left fun j hj => e j (List.mem_range.1 hj)
theorem str_of {w : World} {a : Option Addr} {len : Nat} {g : Nat → Int} (h : Bys w a len g) (c : Nat) : (convert 24 9 (.slice a len c)).run Try.prog w = .ok (.string (strG g len)) w := by
  rw [run_convert_bytes_string w 24 9 5 a len c Try.underlying24 Try.underlying5 Try.underlying9]
  by_cases h0 : 0 < len
  · obtain ⟨b, off, rfl, _, hc⟩ := h h0
    have hl : (loadCells ⟨b, off, none⟩ len).run Try.prog w = .ok (((List.range len).map g).map (Value.int .u8)).toArray w := by
      have := run_loadCells_list (P := Try.prog) w ⟨b, off, none⟩ (((List.range len).map g).map (Value.int .u8)) (fun j v hj => by
        rw [List.getElem?_map] at hj
        obtain ⟨n, hn, rfl⟩ := Option.map_eq_some_iff.1 hj
        rw [List.getElem?_map] at hn
        obtain ⟨j', hj', rfl⟩ := Option.map_eq_some_iff.1 hn
        obtain ⟨hjl, hje⟩ := List.getElem?_eq_some_iff.1 hj'
        rw [List.length_range] at hjl
        rw [List.getElem_range] at hje
        subst hje
        rw [Addr.add_lit]
        exact hc _ hjl)
      simpa using this
    exact run_bytesToString w _ len c _ hl
  · obtain rfl : len = 0 := by omega
    cases a with
    | none => simp [Conv.bytesToString, strG]
    | some ad => exact run_bytesToString w ad 0 c [] (by simp [loadCells, loadCellsFrom])

section
variable {w w' : World} {m fb x mb kb p1 bf bp v db r : Nat} {F F' : Nat → Nat → Int} {f : Int → Option Value} {es : Array MapEntry} {c : Nat}

theorem SG.stepf (h : SG w m fb x mb kb p1 bf bp F f es c) (hm : Tn.Mod [fb] w w') (hp : PH w' m fb F') (hn : ∀ i c, c < 4 → F' i c = F i c) : SG w' m fb x mb kb p1 bf bp F' f es c := by
  have hf := h.ph.fr
  refine ⟨hp, h.gh.mod hm ?_ ?_ ?_, h.pm.mod hm ?_ ?_ ?_, h.fo, (hn 2 0 (by omega)).trans h.o2, (hn 2 1 (by omega)).trans h.t2, (hn 3 0 (by omega)).trans h.o3⟩
  · simpa using h.gh.blk.ne_ hf (by decide)
  · simpa using fun e => hf.ne_map h.gh.mm.imap e.symm
  · simpa using ne_mapC hf h.gh.km
  · simpa using h.pm.blk.ne_ hf (by decide)
  · simpa using fun e => hf.ne_map h.pm.mf.imap e.symm
  · simpa using fun e => hf.ne_map h.pm.mp.imap e.symm
theorem FT.same (T : FT F) (hn : ∀ i c, c < 4 → F' i c = F i c) : FT F' :=
  ⟨(hn 2 0 (by omega)).trans T.a0, (hn 2 1 (by omega)).trans T.a1, (hn 2 2 (by omega)).trans T.a2, (hn 2 3 (by omega)).trans T.a3, (hn 3 0 (by omega)).trans T.b0, (hn 3 1 (by omega)).trans T.b1, (hn 3 2 (by omega)).trans T.b2, (hn 3 3 (by omega)).trans T.b3⟩
theorem wrB_num (F : Nat → Nat → Int) (i off len : Nat) (G : Nat → Int) (a c : Nat) (hc : c < 4) : wrB F i off len G a c = F a c := by
  unfold wrB
  rw [if_neg (by omega)]

/-- Bytes are laid at the head of frame 2 or 3. -/
theorem wr_g (s : SG w m fb x mb kb p1 bf bp F f es c) (T : FT F) (i len cp : Nat) (sa : Option Addr) (G : Nat → Int) (hi : i = 2 ∨ i = 3) (hl : len ≤ 256) (hB : Bys w sa len G) (z : Int) (hz : z = (i : Nat)) :
    Calls Try.prog 12 #[.pointer (some ⟨m, 0, none⟩), .int .i64 z, .int .i64 0, .slice sa len cp] w fun e w' => (∃ u, e = .returned u) ∧ SG w' m fb x mb kb p1 bf bp (wrB F i 0 len G) f es c ∧ FT (wrB F i 0 len G) ∧ Tn.Mod [fb] w w' := by
  subst hz
  have ho : F i 0 ≠ -1 := by rcases hi with rfl | rfl; rw [s.o2]; decide; rw [s.o3]; decide
  refine (write_f s.ph i 0 len cp sa G (by omega) (by omega) (by omega) ho hB).mono ?_
  rintro e w' ⟨he, hp, hm⟩
  exact ⟨⟨_, he⟩, s.stepf hm hp (fun a c hc => wrB_num _ _ _ _ _ _ _ hc), T.same (fun a c hc => wrB_num _ _ _ _ _ _ _ hc), hm⟩

theorem lies_wr (F : Nat → Nat → Int) (K : Int) (ro sub : Bool) (D P O L : Int) : Lies (wrB F 2 0 8 (gB K ro sub D P O L)) K ro sub D P O L := fun j hj => by
  unfold wrB
  rw [if_pos ⟨rfl, by omega, by omega⟩]
  congr 1
  omega
theorem Lies.wr3 {K : Int} {ro sub : Bool} {D P O L : Int} (h : Lies F K ro sub D P O L) (len : Nat) (G : Nat → Int) : Lies (wrB F 3 0 len G) K ro sub D P O L := fun j hj => by
  unfold wrB
  rw [if_neg (by omega)]
  exact h j hj
theorem rw2_zero (F : Nat → Nat → Int) (len : Nat) (G : Nat → Int) : rw2 F 0 len G = F := by unfold rw2; rw [if_pos rfl]
theorem rw2_three (F : Nat → Nat → Int) (N len : Nat) (G : Nat → Int) (c : Nat) : rw2 F N len G 3 c = F 3 c := by
  unfold rw2
  split
  · rfl
  · unfold wrB
    rw [if_neg (by omega)]

/-- What was pulled stays. -/
theorem Bys.pulled {a : Option Addr} {l : Nat} {g : Nat → Int} (h : Bys w a l g) (h0 : ∀ b off, a = some ⟨b, off, none⟩ → off = 0) (ph : PH w m fb F) (hv : VH w v m db r) {S : List Nat} (hS : ∀ s ∈ S, s = fb ∨ s = v) (hm : Tn.Mod S w w') : Bys w' a l g := by
  by_cases hl : 0 < l
  · obtain ⟨b, off, ha, hb, hc⟩ := h hl
    obtain rfl := h0 b off ha
    refine h.mod hm fun b' off' ha' hbS => ?_
    rw [ha] at ha'
    cases ha'
    have hc0 := hc 0 hl
    rw [Nat.add_zero] at hc0
    rcases hS b hbS with rfl | rfl
    · have := ph.num 0 0 (by omega) (by omega)
      rw [show 0 * 260 + 0 = 0 from rfl, hc0] at this
      cases this
    · have := hv.c0
      rw [hc0] at this
      cases this
  · exact fun h' => absurd h' hl
theorem Bys.keepf {a : Option Addr} {l : Nat} {g : Nat → Int} (h : Bys w a l g) (h0 : ∀ b off, a = some ⟨b, off, none⟩ → off = 0) (ph : PH w m fb F) (hm : Tn.Mod [fb] w w') : Bys w' a l g := by
  by_cases hl : 0 < l
  · obtain ⟨b, off, ha, hb, hc⟩ := h hl
    obtain rfl := h0 b off ha
    refine h.mod hm fun b' off' ha' hbS => ?_
    rw [ha] at ha'
    cases ha'
    have hc0 := hc 0 hl
    rw [Nat.add_zero] at hc0
    obtain rfl : b = fb := by simpa using hbS
    have := ph.num 0 0 (by omega) (by omega)
    rw [show 0 * 260 + 0 = 0 from rfl, hc0] at this
    cases this
  · exact fun h' => absurd h' hl

theorem conv24 (C : Array Value) (l c : Nat) (w : World) : (convert 24 24 (.slice (some ⟨w.heap.size, 0, none⟩) l c)).run Try.prog (w.alloc (.cells C 5)) = .ok (.slice (some ⟨w.heap.size, 0, none⟩) l c) (w.alloc (.cells C 5 (C.size, C.size + 1))) := by
  have hsh : (w.alloc (.cells C 5)).shape? w.heap.size = some (5, C.size) := by
    have : (w.alloc (.cells C 5)).heap[w.heap.size]? = some (.cells C 5) := by
      show (w.heap.push (.cells C 5))[w.heap.size]? = _
      simp
    unfold World.shape?
    rw [this]
  have hfr : (w.alloc (.cells C 5)).freeze ⟨w.heap.size, C.size, none⟩ 1 = w.alloc (.cells C 5 (C.size, C.size + 1)) := by
    have hm : ∀ (a : Array Obj) (x : Obj) (f : Obj → Obj), (a.push x).modify a.size f = a.push (f x) := by
      intro a x f
      apply Array.ext
      · simp
      · intro i h1 h2
        simp only [Array.getElem_modify, Array.getElem_push]
        by_cases h : a.size = i
        · subst h
          simp
        · have hi : i < a.size := by simp at h1; omega
          simp [h, hi]
    unfold World.freeze
    rw [if_neg (by decide)]
    show ({ w.alloc (.cells C 5) with heap := (w.heap.push (.cells C 5)).modify w.heap.size _ } : World) = _
    rw [hm]
    rfl
  simp [convert, run_underlying Try.underlying24, run_underlying Try.underlying5, markStringish, hsh]
  exact hfr
def pgL : List Nat := [116, 104, 101, 32, 103, 114, 97, 110, 116, 101, 100, 32, 112, 97, 103, 101]
def pgG (j : Nat) : Int := (pgL.getD j 0 : Nat)
theorem page_bys (w : World) (t : TypeId) (fz : Nat × Nat) : Bys (w.alloc (.cells #[.int .u8 116, .int .u8 104, .int .u8 101, .int .u8 32, .int .u8 103, .int .u8 114, .int .u8 97, .int .u8 110, .int .u8 116, .int .u8 101, .int .u8 100, .int .u8 32, .int .u8 112, .int .u8 97, .int .u8 103, .int .u8 101] t fz)) (some ⟨w.heap.size, 0, none⟩) 16 pgG := fun _ => by
  refine ⟨w.heap.size, 0, rfl, by simp, fun j hj => ?_⟩
  rw [Nat.zero_add, cell_of_row _ _ _ _ _ _ (heap_alloc_new w _)]
  have h : j = 0 ∨ j = 1 ∨ j = 2 ∨ j = 3 ∨ j = 4 ∨ j = 5 ∨ j = 6 ∨ j = 7 ∨ j = 8 ∨ j = 9 ∨ j = 10 ∨ j = 11 ∨ j = 12 ∨ j = 13 ∨ j = 14 ∨ j = 15 := by omega
  rcases h with rfl | rfl | rfl | rfl | rfl | rfl | rfl | rfl | rfl | rfl | rfl | rfl | rfl | rfl | rfl | rfl <;> rfl

theorem late_of {lb len cp : Nat} {t : TypeId} {sa : Option Addr} {G : Nat → Int} (h : Blk w lb t #[.int .i64 1, .int .i64 2, .int .i64 0, .slice sa len cp, .int .i64 2, .int .i64 2, .int .i64 0, .slice sa len cp]) (hB : Bys w sa len G) : Late w (some ⟨lb, 0, none⟩) 2 len G := ⟨fun _ =>
  ⟨lb, sa, cp, rfl, hB, fun k hk => by
    have h01 : k = 0 ∨ k = 1 := by omega
    rcases h01 with rfl | rfl
    · exact ⟨h.cell 0, h.cell 1, h.cell 2, h.cell 3⟩
    · exact ⟨h.cell 4, h.cell 5, h.cell 6, h.cell 7⟩⟩⟩
theorem u8s_bys {sa : Option Addr} {len : Nat} (h : IsU8s w sa len) : ∃ G, Bys w sa len G ∧ ∀ b off, 0 < len → sa = some ⟨b, off, none⟩ → b < w.heap.size := by
  by_cases h0 : 0 < len
  · obtain ⟨b, off, ha, hb, Y, hY⟩ := h.2 h0
    exact ⟨Y, fun _ => ⟨b, off, ha, hb, fun j hj => (hY j hj).1⟩, fun b' off' _ h' => by rw [ha] at h'; cases h'; exact hb⟩
  · exact ⟨fun _ => 0, fun h => absurd h h0, fun _ _ h => absurd h h0⟩

theorem page_step (s : SG w m fb x mb kb p1 bf bp F f es c) (T : FT F) :
    Calls Try.prog 12 #[.pointer (some ⟨m, 0, none⟩), .int .i64 3, .int .i64 0, .slice (some ⟨w.heap.size, 0, none⟩) 16 16] (w.alloc (.cells #[.int .u8 116, .int .u8 104, .int .u8 101, .int .u8 32, .int .u8 103, .int .u8 114, .int .u8 97, .int .u8 110, .int .u8 116, .int .u8 101, .int .u8 100, .int .u8 32, .int .u8 112, .int .u8 97, .int .u8 103, .int .u8 101] 5 (16, 17))) fun e w' => (∃ u, e = .returned u) ∧ SG w' m fb x mb kb p1 bf bp (wrB F 3 0 16 pgG) f es c ∧ FT (wrB F 3 0 16 pgG) ∧ Tn.Mod [fb] w w' := by
  have hm : Tn.Mod [] w (w.alloc (.cells #[.int .u8 116, .int .u8 104, .int .u8 101, .int .u8 32, .int .u8 103, .int .u8 114, .int .u8 97, .int .u8 110, .int .u8 116, .int .u8 101, .int .u8 100, .int .u8 32, .int .u8 112, .int .u8 97, .int .u8 103, .int .u8 101] 5 (16, 17))) := (Mod.refl [] w).alloc _
  refine (wr_g (s.mod0 hm) T 3 16 16 _ pgG (.inr rfl) (by omega) (page_bys w 5 (16, 17)) _ rfl).mono ?_
  rintro e w' ⟨h1, h2, h3, h4⟩
  exact ⟨h1, h2, h3, (hm.mono (by simp)).andThen h4⟩

/-- The view with the late rewrites. -/
theorem late_step {sa : Option Addr} {len cp : Nat} {G : Nat → Int} (h : PH w m fb F) (hB : Bys w sa len G) (hl : len ≤ 8) :
    Calls Try.prog 13 #[.pointer (some ⟨m, 0, none⟩), .slice (some ⟨w.heap.size, 0, none⟩) 2 2] (w.alloc (.cells #[.int .i64 1, .int .i64 2, .int .i64 0, .slice sa len cp, .int .i64 2, .int .i64 2, .int .i64 0, .slice sa len cp] 44)) fun e w' => ∃ v db, e = .returned (.tuple #[.pointer (some ⟨v, 0, none⟩), .int .i64 0]) ∧ VN w' v m db len G 1 ∧ w.heap.size < v ∧ w.heap.size < db ∧ Blk w' w.heap.size 44 #[.int .i64 1, .int .i64 2, .int .i64 0, .slice sa len cp, .int .i64 2, .int .i64 2, .int .i64 0, .slice sa len cp] ∧ Tn.Mod [] w w' := by
  have hm : Tn.Mod [] w (w.alloc (.cells #[.int .i64 1, .int .i64 2, .int .i64 0, .slice sa len cp, .int .i64 2, .int .i64 2, .int .i64 0, .slice sa len cp] 44)) := (Mod.refl [] w).alloc _
  have hbl := Blk.new w 44 #[.int .i64 1, .int .i64 2, .int .i64 0, .slice sa len cp, .int .i64 2, .int .i64 2, .int .i64 0, .slice sa len cp]
  refine (vnew_g (h.mod0 hm) _ 2 2 len G (.inr rfl) (late_of hbl (hB.mod hm (by simp))) (by omega)).mono ?_
  rintro e w' ⟨v, db, h1, h2, h3, h4, h5⟩
  rw [World.size_alloc] at h3 h4
  exact ⟨v, db, h1, h2, by omega, by omega, hbl.mod h5 (by simp), hm.andThen h5⟩
/-- The same list once more. -/
theorem late_again {sa : Option Addr} {len cp lb : Nat} {G : Nat → Int} (h : PH w m fb F) (hbl : Blk w lb 44 #[.int .i64 1, .int .i64 2, .int .i64 0, .slice sa len cp, .int .i64 2, .int .i64 2, .int .i64 0, .slice sa len cp]) (hB : Bys w sa len G) (hl : len ≤ 8) :
    Calls Try.prog 13 #[.pointer (some ⟨m, 0, none⟩), .slice (some ⟨lb, 0, none⟩) 2 2] w fun e w' => ∃ v db, e = .returned (.tuple #[.pointer (some ⟨v, 0, none⟩), .int .i64 0]) ∧ VN w' v m db len G 1 ∧ w.heap.size ≤ v ∧ w.heap.size ≤ db ∧ Tn.Mod [] w w' := by
  exact vnew_g h _ 2 2 len G (.inr rfl) (late_of hbl hB) (by omega)
/-- The view without rewrites. -/
theorem plain_step {len : Nat} {G : Nat → Int} (h : PH w m fb F) (hl : len ≤ 8) :
    Calls Try.prog 13 #[.pointer (some ⟨m, 0, none⟩), .slice none 0 0] w fun e w' => ∃ v db, e = .returned (.tuple #[.pointer (some ⟨v, 0, none⟩), .int .i64 0]) ∧ VN w' v m db len G 0 ∧ w.heap.size ≤ v ∧ w.heap.size ≤ db ∧ Tn.Mod [] w w' :=
  vnew_g h none 0 0 len G (.inl rfl) ⟨fun h => absurd h (by omega)⟩ (by omega)

/-- The two strings, and that they are one where frame 3 was read. -/
theorem two_strs {P o1 : Int} {n l1 l2 len N1 N2 : Nat} {G : Nat → Int} {a1 a2 : Option Addr} {g : Int} (k1 k2 : Nat) (h1 : Bys w a1 l1 (fun j => rw2 F N1 len G (2 + P).toNat (4 + o1.toNat + j))) (h2 : Bys w a2 l2 (fun j => rw2 F N2 len G (2 + P).toNat (4 + o1.toNat + j))) (e1 : l1 = if g = 0 then n else 0) (e2 : l2 = if g = 0 then n else 0) :
    ∃ s1 s2 : ByteArray, (convert 24 9 (.slice a1 l1 k1)).run Try.prog w = .ok (.string s1) w ∧ (convert 24 9 (.slice a2 l2 k2)).run Try.prog w = .ok (.string s2) w ∧ (P = 1 → s1 = s2) := by
  refine ⟨_, _, str_of h1 k1, str_of h2 k2, fun hP => ?_⟩
  subst hP
  rw [e1, e2]
  refine strG_congr fun j _ => ?_
  show rw2 F N1 len G 3 _ = rw2 F N2 len G 3 _
  rw [rw2_three, rw2_three]

theorem mE_1 {K D P : Int} {ro sub wr : Bool} (h : ¬ (K = 1 ∧ D = 0)) : mE K ro sub D P wr ≠ 0 := by unfold mE; rw [if_pos h]; decide
theorem mE_2 {K D P : Int} {ro wr : Bool} : mE K ro true D P wr ≠ 0 := by unfold mE; split; decide; rw [if_pos rfl]; decide
theorem mE_3 {K D P : Int} {sub : Bool} : mE K true sub D P true ≠ 0 := by unfold mE; split; decide; split; decide; rw [if_pos (show (true && true) = true from rfl)]; decide
theorem mE_4 {K D P : Int} {ro sub wr : Bool} (h : 2 ≤ P) : mE K ro sub D P wr ≠ 0 := by unfold mE; split; decide; split; decide; split; decide; rw [if_pos (by omega)]; decide
theorem mE_5 {P : Int} {ro wr : Bool} (h : (wr && ro) = false) (hP : P < 2) : mE 1 ro false 0 P wr = 0 := by unfold mE; rw [if_neg (by decide), if_neg (by decide), if_neg (by rw [h]; decide), if_neg (by simpa using hP)]
end
end Go.Proofs.Ythakplgehanopaa
