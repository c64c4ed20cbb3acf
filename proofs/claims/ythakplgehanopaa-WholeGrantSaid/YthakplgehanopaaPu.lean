/-
  Whole: grants: find, Pull.
-/
import Derived.Test.YthakplgehanopaaLe
namespace Go.Proofs.Ythakplgehanopaa
open Go.RowKit Go.Tn
open Go.Proofs

theorem assert118 (a : Array Value) (w : World) : (Instr.typeAssert (.iface 118 (.agg a)) 116 118 true).run Try.prog w = .ok (.tuple #[.agg a, .bool true]) w := by kernel_rfl
theorem method118 (a : Array Value) (w : World) : (method 242 118 (.agg a) "tenement/grant.find").run Try.prog w = .ok (73, .agg a) w := by kernel_rfl
attribute [local go_sem] assert118 method118

section
variable {w w' : World} {m fb x mb kb p1 bf bp v db r : Nat} {F F' : Nat → Nat → Int} {f : Int → Option Value} {es : Array MapEntry} {c : Nat}

set_option maxRecDepth 100000 in
set_option maxHeartbeats 4000000 in
theorem find_f {len : Nat} {G : Nat → Int} (s : SG w m fb x mb kb p1 bf bp F f es c) (hv : VH w v m db r) (d : Due w v db r len G 0) (hl : len ≤ 256) (hfv : fb < v) (hr : r ≤ 100)
    (K : Int) (ro sub : Bool) (D P O L : Int) (ok : GOk K D P O L) (hb : Lies F K ro sub D P O L) (off n : Nat) (ho : off ≤ 255) (hn : n ≤ 255) :
    Calls Try.prog 31 #[.pointer (some ⟨x, 0, none⟩), .pointer (some ⟨v, 0, none⟩), .int .i64 0, .agg #[.bool true, .int .i64 1, .int .i64 0, .int .i64 0, .int .i64 (off : Nat)], .int .i64 (n : Nat), .bool false] w fun e w' => LeOk e K sub D P O L off n ∧ SG w' m fb x mb kb p1 bf bp F f es c ∧ VH w' v m db (r + 1) ∧ Tn.Mod [fb, v] w w' := by
  obtain ⟨w1, hw1⟩ : ∃ w1, (w.alloc (.cells #[.bool true, .int .i64 1, .int .i64 0, .int .i64 0, .int .i64 (off : Nat)] 52)).alloc (.cells #[.int .i64 0, .int .i64 0] 93) = w1 := ⟨_, rfl⟩
  have hm1 : Tn.Mod [] w w1 := by rw [← hw1]; exact ((Mod.refl [] w).alloc _).alloc _
  have hm3 : Tn.Mod [] w (w1.alloc (.cells #[.int .i64 1, .int .i64 0, .int .i64 (off : Nat), .bool false] 118)) := hm1.alloc _
  have hE := lent_f (s.mod0 hm3) (hv.mod0 hm3) (d.mod hm3 (by simp) (by simp) hv.mm) hl hfv hr K ro sub D P O L ok hb off n ho hn
  have hsp : Blk w1 (w.heap.size + 1) 93 #[.int .i64 0, .int .i64 0] := by rw [← hw1]; have := Blk.new (w.alloc (.cells #[.bool true, .int .i64 1, .int .i64 0, .int .i64 0, .int .i64 (off : Nat)] 52)) 93 #[.int .i64 0, .int .i64 0]; rwa [World.size_alloc] at this
  have HSP := hid (hsp.mod ((Mod.refl [] w1).alloc (.cells #[.int .i64 1, .int .i64 0, .int .i64 (off : Nat), .bool false] 118)) (by simp))
  have HL := hid (show fb < w.heap.size ∧ v < w.heap.size from ⟨s.ph.fr.lt, hv.blk.lt⟩)
  have SE : Hid (∀ (w5 W : World) (T : List Nat), SG w5 m fb x mb kb p1 bf bp F f es c → VH w5 v m db (r + 1) → Tn.Mod [fb, v] w w5 → Tn.Mod T w5 W → (∀ t ∈ T, w.heap.size ≤ t) → SG W m fb x mb kb p1 bf bp F f es c ∧ VH W v m db (r + 1) ∧ Tn.Mod [fb, v] w W) := hid fun w5 W T hs hv5 h1 h3 hT => s.on hv hs hv5 h1 h3 hT
  have HE := hid hE
  have HM3 := hid hm3
  have HN := hid (gnone_f (s.mod0 hm1).gh)
  have HU := hid (unmade_f (hv.mod0 hm1))
  have HDm : Hid (∀ W : World, Calls Try.prog 25 #[.int .i64 0] W fun e w' => e = .returned (.bool true) ∧ W = w') := hid fun W => gdomain_f 0 (by omega) W
  have hn0 : decide ((n : Int) < 0) = false := by simp
  have ho0 : decide ((off : Int) < 0) = false := by simp
  subst hw1
  clear s hv d hl hfv hr ok hb ho hn hm1 hm3 hE hsp
  go_enter Try.func31, Try.ntmps31
  go_wp2_with (first
    | (go_at_call 23; refine HN.out.mono ?_; rintro e w' ⟨rfl, rfl⟩)
    | (go_at_call 33; refine HU.out.mono ?_; rintro e w' ⟨rfl, rfl⟩)
    | (go_at_call 25; refine (HDm.out _).mono ?_; rintro e w' ⟨rfl, rfl⟩)
    | (refine HE.out.mono ?_; rintro e w5 ⟨⟨a, b, g, rfl, hg⟩, hs5, hv5, hm5⟩
       have hk5 := HSP.out.mod hm5 (by have := HL.out; simp; omega)
       have z0 := hk5.cell 0
       have z1 := hk5.cell 1
       simp only [List.getElem?_toArray, List.getElem?_cons_zero, List.getElem?_cons_succ] at z0 z1
       have fz5 := hk5.frozen
       have hz5 := hk5.lt
       have HK5 := hid hk5
       have HS5 := hid hs5
       have HV5 := hid hv5
       have HM5 := hid ((HM3.out.mono (T := [fb, v]) (by simp)).andThen hm5)
       have HG5 := hid hg
       clear hs5 hv5 hm5 hk5 hg))
  have h9 := st2_row HK5.out (.int .i64 a) (.int .i64 b)
  exact bodyPost_ret (ret_row rfl rfl h9.1 _ Try.underlying93 size93) rfl ⟨⟨a, b, g, rfl, HG5.out⟩, SE.out _ _ _ HS5.out HV5.out HM5.out h9.2 (by simp)⟩

theorem rw2_num (F : Nat → Nat → Int) (N len : Nat) (G : Nat → Int) (i c : Nat) (hc : c < 4) : rw2 F N len G i c = F i c := by
  unfold rw2
  split
  · rfl
  · unfold wrB
    rw [if_neg (by omega)]

/-- What Pull gives, where it gives something. -/
def PuOk (e : Ending) (w' : World) (F' : Nat → Nat → Int) (P o : Int) (n : Nat) : Prop := ∃ q, e = .returned (.tuple #[.slice (some ⟨q, 0, none⟩) n n, .int .i64 0]) ∧ Bys w' (some ⟨q, 0, none⟩) n (fun j => F' (2 + P).toNat (4 + o.toNat + j))

set_option maxRecDepth 100000 in
set_option maxHeartbeats 4000000 in
theorem pull_no {len : Nat} {G : Nat → Int} (s : SG w m fb x mb kb p1 bf bp F f es c) (hv : VH w v m db r) (d : Due w v db r len G 0) (hl : len ≤ 256) (hfv : fb < v) (hr : r ≤ 100)
    (K : Int) (ro sub : Bool) (D P O L : Int) (ok : GOk K D P O L) (hb : Lies F K ro sub D P O L) (off n : Nat) (ho : off ≤ 255) (hn : n ≤ 255) (he : eF K sub D P L off n ≠ 0) :
    Calls Try.prog 14 #[.pointer (some ⟨x, 0, none⟩), .pointer (some ⟨v, 0, none⟩), .int .i64 0, .agg #[.bool true, .int .i64 1, .int .i64 0, .int .i64 0, .int .i64 (off : Nat)], .int .i64 (n : Nat)] w fun e w' => e = .returned (.tuple #[.slice none 0 0, .int .i64 (eF K sub D P L off n)]) ∧ SG w' m fb x mb kb p1 bf bp F f es c ∧ VH w' v m db (r + 1) ∧ Tn.Mod [fb, v] w w' := by
  have hm1 : Tn.Mod [] w (w.alloc (.cells #[.bool true, .int .i64 1, .int .i64 0, .int .i64 0, .int .i64 (off : Nat)] 52)) := (Mod.refl [] w).alloc _
  have hE := find_f (s.mod0 hm1) (hv.mod0 hm1) (d.mod hm1 (by simp) (by simp) hv.mm) hl hfv hr K ro sub D P O L ok hb off n ho hn
  have SE : Hid (∀ (w5 W : World) (T : List Nat), SG w5 m fb x mb kb p1 bf bp F f es c → VH w5 v m db (r + 1) → Tn.Mod [fb, v] w w5 → Tn.Mod T w5 W → (∀ t ∈ T, w.heap.size ≤ t) → SG W m fb x mb kb p1 bf bp F f es c ∧ VH W v m db (r + 1) ∧ Tn.Mod [fb, v] w W) := hid fun w5 W T hs hv5 h1 h3 hT => s.on hv hs hv5 h1 h3 hT
  have HE := hid hE
  have HM1 := hid hm1
  have hge : (eF K sub D P L off n == 0) = false := by simpa using he
  have hgn : (eF K sub D P L off n != 0) = true := by simpa using he
  generalize hgg : eF K sub D P L off n = gg at hge hgn ⊢
  have HGG := hid hgg
  clear s hv d hl hfv hr ok hb ho hn hm1 hE he hgg
  go_enter Try.func14, Try.ntmps14
  go_wp2_with (go_at_call 31; refine HE.out.mono ?_; rintro e w5 ⟨⟨a, b, g, rfl, hg, hg2⟩, hs5, hv5, hm5⟩
               obtain rfl := hg.trans HGG.out
               have HS5 := hid hs5
               have HV5 := hid hv5
               have HM5 := hid ((HM1.out.mono (T := [fb, v]) (by simp)).andThen hm5)
               clear hs5 hv5 hm5 hg hg2)
  go_ret2
  exact ⟨rfl, SE.out _ _ _ HS5.out HV5.out HM5.out ((Mod.refl [] w5).alloc _) (by simp)⟩

set_option maxRecDepth 100000 in
set_option maxHeartbeats 4000000 in
theorem pull_ok {len N : Nat} {G : Nat → Int} (s : SG w m fb x mb kb p1 bf bp F f es c) (hv : VH w v m db r) (d : Due w v db r len G 0) (d2 : Due w v db (r + 1 : Nat) len G N) (hl : len ≤ 256) (hfv : fb < v) (hr : r ≤ 99)
    (K : Int) (ro sub : Bool) (D P O L : Int) (ok : GOk K D P O L) (hb : Lies F K ro sub D P O L) (off n : Nat) (ho : off ≤ 255) (hn : n ≤ 255) (he : eF K sub D P L off n = 0) :
    Calls Try.prog 14 #[.pointer (some ⟨x, 0, none⟩), .pointer (some ⟨v, 0, none⟩), .int .i64 0, .agg #[.bool true, .int .i64 1, .int .i64 0, .int .i64 0, .int .i64 (off : Nat)], .int .i64 (n : Nat)] w fun e w' => PuOk e w' (rw2 F N len G) P (gOff sub O + off) n ∧ SG w' m fb x mb kb p1 bf bp (rw2 F N len G) f es c ∧ VH w' v m db (r + 1 + 1) ∧ Tn.Mod [fb, v] w w' := by
  have hm1 : Tn.Mod [] w (w.alloc (.cells #[.bool true, .int .i64 1, .int .i64 0, .int .i64 0, .int .i64 (off : Nat)] 52)) := (Mod.refl [] w).alloc _
  have hE := find_f (s.mod0 hm1) (hv.mod0 hm1) (d.mod hm1 (by simp) (by simp) hv.mm) hl hfv (by omega) K ro sub D P O L ok hb off n ho hn
  have hP : (P = 0 ∨ P = 1) ∧ wthn off n (gLen sub L) = true := by
    unfold eF at he
    have := ok.p0
    by_cases h1 : K = 1 ∧ D = 0
    · rw [if_neg (by simpa using h1)] at he
      by_cases h2 : P < 2
      · rw [if_neg (by simpa using h2)] at he
        refine ⟨by omega, ?_⟩
        cases hw : wthn off n (gLen sub L)
        · rw [if_pos hw] at he; cases he
        · rfl
      · rw [if_pos h2] at he; cases he
    · rw [if_pos h1] at he; cases he
  obtain ⟨hP, hw⟩ := hP
  have hw' : (off : Int) ≤ gLen sub L ∧ (n : Int) ≤ gLen sub L - off := by simpa [wthn] using hw
  have hol : 0 ≤ gOff sub O ∧ gOff sub O + gLen sub L ≤ 256 := by
    have h1 := ok.o0
    have h2 := ok.l1
    cases sub <;> simp [gOff, gLen] <;> omega
  have hR : Hid (∀ W, SG W m fb x mb kb p1 bf bp F f es c → VH W v m db (r + 1) → Tn.Mod [fb, v] w W → Calls Try.prog 32 #[.pointer (some ⟨v, 0, none⟩), .int .i64 (2 + P), .int .i64 (gOff sub O + off), .int .i64 (n : Nat)] W fun e w' =>
      ∃ q, e = .returned (.tuple #[.slice (some ⟨q, 0, none⟩) n n, .int .i64 0]) ∧ Bys w' (some ⟨q, 0, none⟩) n (fun j => rw2 F N len G (2 + P).toNat (4 + (gOff sub O + off).toNat + j)) ∧ PH w' m fb (rw2 F N len G) ∧ VH w' v m db (r + 1 + 1) ∧ Tn.Mod [fb, v] W w') := hid fun W hs hvW hmW => by
    have h := vread_f hvW hs.ph hs.o2 hs.t2 (d2.mod hmW (by simp; omega) (by simp; exact ⟨fun e => s.ph.fr.ne_map hv.mm.imap e.symm, fun e => hv.blk.ne_map hv.mm.imap e.symm⟩) hv.mm) hl hfv (by omega) (2 + P).toNat (gOff sub O + off).toNat n (by omega) (by omega)
    rw [show (((2 + P).toNat : Nat) : Int) = 2 + P by omega, show (((gOff sub O + off).toNat : Nat) : Int) = gOff sub O + off by omega] at h
    exact h
  have SE : Hid (∀ (w5 : World), PH w5 m fb (rw2 F N len G) → Tn.Mod [fb, v] w w5 → SG w5 m fb x mb kb p1 bf bp (rw2 F N len G) f es c) := hid fun w5 hp hm => s.step hv.blk hm hp (by rw [rw2_num _ _ _ _ _ _ (by omega)]; exact s.o2) (by rw [rw2_num _ _ _ _ _ _ (by omega)]; exact s.t2) (by rw [rw2_num _ _ _ _ _ _ (by omega)]; exact s.o3)
  have HE := hid hE
  have HM1 := hid hm1
  have HGG := hid he
  clear s hv d d2 hl hfv hr ok hb ho hn hm1 hE he hP hw hw' hol
  go_enter Try.func14, Try.ntmps14
  go_wp2_with (first
    | (go_at_call 31; refine HE.out.mono ?_; rintro e w5 ⟨⟨a, b, g, rfl, hg, hg2⟩, hs5, hv5, hm5⟩
       obtain rfl := hg.trans HGG.out
       obtain ⟨rfl, rfl⟩ := hg2 rfl
       have HR5 := hid (hR.out _ (hs5.mod0 ((Mod.refl [] w5).alloc (.cells #[.int .i64 (2 + P), .int .i64 (gOff sub O + off)] 93))) (hv5.mod0 ((Mod.refl [] w5).alloc _)) (((HM1.out.mono (T := [fb, v]) (by simp)).andThen hm5).alloc _))
       have HM5 := hid (((HM1.out.mono (T := [fb, v]) (by simp)).andThen hm5).alloc (.cells #[.int .i64 (2 + P), .int .i64 (gOff sub O + off)] 93))
       clear hs5 hv5 hm5 hg hg2)
    | (go_at_call 32; refine HR5.out.mono ?_; rintro e w7 ⟨q, rfl, hb7, hp7, hv7, hm7⟩
       have HB7 := hid hb7
       have HP7 := hid hp7
       have HV7 := hid hv7
       have HM7 := hid (HM5.out.andThen hm7)
       clear hb7 hp7 hv7 hm7))
  go_ret2
  exact ⟨⟨q, rfl, HB7.out⟩, SE.out _ HP7.out HM7.out, HV7.out, HM7.out⟩
end
end Go.Proofs.Ythakplgehanopaa
