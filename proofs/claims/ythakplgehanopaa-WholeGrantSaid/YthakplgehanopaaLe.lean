/-
  Whole: grants: the end of a copy that is a grant.
-/
import Derived.Test.YthakplgehanopaaFi
namespace Go.Proofs.Ythakplgehanopaa
open Go.RowKit Go.Tn
open Go.Proofs
attribute [local go_sem] look69 look69b field79_0 field79_1

theorem size93 : (Try.prog.info? 93).map (·.size) = some 2 := by kernel_rfl
def st2 (w : World) (b : Nat) (a0 a1 : Value) : World := (w.setCell ⟨b, 0, none⟩ a0).setCell ⟨b, 1, none⟩ a1
theorem st2_row {w : World} {b : Nat} {t : TypeId} {o0 o1 : Value} (h : Blk w b t #[o0, o1]) (a0 a1 : Value) : Blk (st2 w b a0 a1) b t #[a0, a1] ∧ Tn.Mod [b] w (st2 w b a0 a1) :=
  ⟨by
    have h1 := (h.set_ 0 a0).set_ 1 a1
    simp only [List.setIfInBounds_toArray, List.set_cons_zero, List.set_cons_succ] at h1
    exact h1, ((Mod.refl [b] w).setCell (p := ⟨b, 0, none⟩) (.inl (by simp)) a0).setCell (p := ⟨b, 1, none⟩) (.inl (by simp)) a1⟩

/-- Why a copy of n bytes from off on is refused (0: it is not). -/
def eF (K : Int) (sub : Bool) (D P L : Int) (off n : Nat) : Int := if ¬ (K = 1 ∧ D = 0) then 60 else if ¬ P < 2 then 60 else if wthn off n (gLen sub L) = false then 63 else 0
/-- What find answers. -/
def LeOk (e : Ending) (K : Int) (sub : Bool) (D P O L : Int) (off n : Nat) : Prop := ∃ a b g : Int, e = .returned (.tuple #[.agg #[.int .i64 a, .int .i64 b], .int .i64 g]) ∧ g = eF K sub D P L off n ∧ (g = 0 → a = 2 + P ∧ b = gOff sub O + off)

section
variable {w w' : World} {m fb x mb kb p1 bf bp v db r : Nat} {F F' : Nat → Nat → Int} {f : Int → Option Value} {es : Array MapEntry} {c : Nat}

/-- What stands behind a call that made new blocks: all as it was. -/
theorem SG.on (s : SG w m fb x mb kb p1 bf bp F f es c) (hv : VH w v m db r) {r' : Nat} {w5 W : World} {T : List Nat} (hs : SG w5 m fb x mb kb p1 bf bp F f es c) (hv5 : VH w5 v m db r') (h1 : Tn.Mod [fb, v] w w5) (h3 : Tn.Mod T w5 W) (hT : ∀ t ∈ T, w.heap.size ≤ t) :
    SG W m fb x mb kb p1 bf bp F f es c ∧ VH W v m db r' ∧ Tn.Mod [fb, v] w W := by
  have h4 := h1.trans h3 (fun t ht => .inr (hT t ht))
  have hl1 := s.ph.blk.lt
  have hl2 := s.ph.fr.lt
  have hl3 := hv.blk.lt
  have hl4 := hv.mm.lt
  have hn : ∀ b, b < w.heap.size → b ∉ T := fun b hb h => by have := hT b h; omega
  have hp7 : PH W m fb F := hs.ph.mod h3 (hn _ hl1) (hn _ hl2)
  exact ⟨s.step hv.blk h4 hp7 s.o2 s.t2 s.o3, hv5.mod h3 (hn _ hl3) (hn _ hl4), h4⟩

set_option maxRecDepth 100000 in
set_option maxHeartbeats 4000000 in
theorem lent_f {len : Nat} {G : Nat → Int} (s : SG w m fb x mb kb p1 bf bp F f es c) (hv : VH w v m db r) (d : Due w v db r len G 0) (hl : len ≤ 256) (hfv : fb < v) (hr : r ≤ 100)
    (K : Int) (ro sub : Bool) (D P O L : Int) (ok : GOk K D P O L) (hb : Lies F K ro sub D P O L) (off n : Nat) (ho : off ≤ 255) (hn : n ≤ 255) :
    Calls Try.prog 73 #[.agg #[.int .i64 1, .int .i64 0, .int .i64 (off : Nat), .bool false], .pointer (some ⟨x, 0, none⟩), .pointer (some ⟨v, 0, none⟩), .int .i64 0, .int .i64 (n : Nat)] w fun e w' => LeOk e K sub D P O L off n ∧ SG w' m fb x mb kb p1 bf bp F f es c ∧ VH w' v m db (r + 1) ∧ Tn.Mod [fb, v] w w' := by
  obtain ⟨w1, hw1⟩ : ∃ w1, (w.alloc (.cells #[.int .i64 1, .int .i64 0, .int .i64 (off : Nat), .bool false] 118)).alloc (.cells #[.int .i64 0, .int .i64 0] 93) = w1 := ⟨_, rfl⟩
  have hm1 : Tn.Mod [] w w1 := by rw [← hw1]; exact ((Mod.refl [] w).alloc _).alloc _
  have hE : ∀ W, Tn.Mod [] w1 W → Calls Try.prog 37 #[.pointer (some ⟨x, 0, none⟩), .pointer (some ⟨v, 0, none⟩), .int .i64 0, .int .i64 1, .int .i64 0] W fun e w' => ∃ g : Int, e = .returned (.tuple #[.agg #[.int .i64 K, .bool ro, .bool sub, .int .i64 D, .int .i64 P, .int .i64 (gOff sub O), .int .i64 (gLen sub L)], .int .i64 g]) ∧ g = (if K = 1 ∧ D = 0 then 0 else 60) ∧ SG w' m fb x mb kb p1 bf bp F f es c ∧ VH w' v m db (r + 1) ∧ Tn.Mod [fb, v] W w' := fun W hW => by
    refine (permit_f (s.mod0 (hm1.andThen hW)) (hv.mod0 (hm1.andThen hW)) (d.mod (hm1.andThen hW) (by simp) (by simp) hv.mm) hl hfv hr K ro sub D P O L ok hb).mono ?_
    rintro e w' ⟨⟨g, he, hg⟩, h⟩
    exact ⟨g, he, hg, h⟩
  have hlt : fb < w.heap.size ∧ v < w.heap.size := ⟨s.ph.fr.lt, hv.blk.lt⟩
  have hbx : Blk w1 w.heap.size 118 #[.int .i64 1, .int .i64 0, .int .i64 (off : Nat), .bool false] := by rw [← hw1]; exact (Blk.new w 118 _).mod ((Mod.refl [] _).alloc _) (by simp)
  have hsp : Blk w1 (w.heap.size + 1) 93 #[.int .i64 0, .int .i64 0] := by rw [← hw1]; have := Blk.new (w.alloc (.cells #[.int .i64 1, .int .i64 0, .int .i64 (off : Nat), .bool false] 118)) 93 #[.int .i64 0, .int .i64 0]; rwa [World.size_alloc] at this
  have hjo := joined_yes (s.mod0 hm1).gh 1 2 p1 s.fo
  have hGF := fun (W : World) (hs : SG W m fb x mb kb p1 bf bp F f es c) (h : P = 0 ∨ P = 1) => gframe_ok hs P h
  have hGN := fun (W : World) (hs : SG W m fb x mb kb p1 bf bp F f es c) (h : 2 ≤ P) => gframe_no hs P h
  have hO : 0 ≤ gOff sub O ∧ gOff sub O ≤ 255 := by unfold gOff; have := ok.o0; have := ok.o1; split <;> omega
  have hLn : 1 ≤ gLen sub L ∧ gLen sub L ≤ 256 := by unfold gLen; have := ok.o0; have := ok.l0; have := ok.l1; split <;> omega
  have hoI : (off : Int) ≤ 255 := by omega
  have hnI : (n : Int) ≤ 255 := by omega
  have p0 := ok.p0
  have p1' := ok.p1
  obtain ⟨o0, o1⟩ := hO
  obtain ⟨l0, l1⟩ := hLn
  have SE : Hid (∀ (w5 W : World) (T : List Nat), SG w5 m fb x mb kb p1 bf bp F f es c → VH w5 v m db (r + 1) → Tn.Mod [fb, v] w w5 → Tn.Mod T w5 W → (∀ t ∈ T, w.heap.size ≤ t) → SG W m fb x mb kb p1 bf bp F f es c ∧ VH W v m db (r + 1) ∧ Tn.Mod [fb, v] w W) := hid fun w5 W T hs hv5 h1 h3 hT => s.on hv hs hv5 h1 h3 hT
  have HJ := hid (show Calls Try.prog 34 #[.pointer (some ⟨x, 0, none⟩), .int .i64 1] w1 fun e w' => e = .returned (.bool true) ∧ Tn.Mod [] w1 w' from hjo)
  have HE := hid hE
  have HM1 := hid hm1
  have HBX := hid hbx
  have HSP := hid hsp
  have HL := hid hlt
  have HGF := hid hGF
  have HGN := hid hGN
  have HS1 := hid (s.mod0 hm1)
  have HSL : Hid (∀ W : World, Calls Try.prog 35 #[.int .i64 0] W fun e w' => e = .returned (.bool true) ∧ W = w') := hid fun W => slot_f 0 (by omega) W
  subst hw1
  clear s hv d hl hfv hr hb ok hm1 hE hlt hbx hsp hjo hGF hGN ho hn
  by_cases hKD : K = 1 ∧ D = 0
  · have HG := hid (show (if K = 1 ∧ D = 0 then (0 : Int) else 60) = 0 by rw [if_pos hKD])
    by_cases hP : 2 ≤ P
    · have HF := hid (show 60 = eF K sub D P L off n by unfold eF; rw [if_neg (by simpa using hKD), if_pos (by omega)])
      clear hKD
      go_enter Try.func73, Try.ntmps73
      go_wp2_with (first
        | (go_at_call 34; refine HJ.out.mono ?_; rintro e w2 ⟨rfl, hm2⟩
           have hb2 := HBX.out.mod hm2 (by simp)
           have b0 := hb2.cell 0
           have b1 := hb2.cell 1
           have b2 := hb2.cell 2
           have b3 := hb2.cell 3
           simp only [List.getElem?_toArray, List.getElem?_cons_zero, List.getElem?_cons_succ] at b0 b1 b2 b3
           have HM2 := hid hm2
           have lt2 := hb2.lt
           clear hm2 hb2)
        | (go_at_call 35; refine (HSL.out _).mono ?_; rintro e w' ⟨rfl, rfl⟩)
        | (go_at_call 37; refine (HE.out _ HM2.out).mono ?_; rintro e w5 ⟨g, rfl, hg, hs5, hv5, hm5⟩
           obtain rfl := hg.trans HG.out
           have hm15 := (HM2.out.mono (T := [fb, v]) (by simp)).andThen hm5
           have hb5 := HBX.out.mod hm15 (by have := HL.out; simp; omega)
           have hk5 := HSP.out.mod hm15 (by have := HL.out; simp; omega)
           have d0 := hb5.cell 0
           have d1 := hb5.cell 1
           have d2 := hb5.cell 2
           have d3 := hb5.cell 3
           have z0 := hk5.cell 0
           have z1 := hk5.cell 1
           simp only [List.getElem?_toArray, List.getElem?_cons_zero, List.getElem?_cons_succ] at d0 d1 d2 d3 z0 z1
           have fz5 := hk5.frozen
           have hz5 := hk5.lt
           have hq5 := hb5.lt
           have HK5 := hid hk5
           have HB5 := hid hb5
           have HS5 := hid hs5
           have HV5 := hid hv5
           have HM5 := hid ((HM1.out.mono (T := [fb, v]) (by simp)).andThen hm15)
           have HA5 := hid (Blk.new w5 23 #[.int .i64 K, .bool ro, .bool sub, .int .i64 D, .int .i64 P, .int .i64 (gOff sub O), .int .i64 (gLen sub L)])
           clear hs5 hv5 hm5 hm15 hk5 hb5 hg)
        | (go_at_call 38; refine (HGN.out _ (HS5.out.mod0 ((Mod.refl [] w5).alloc _)) hP).mono ?_; rintro e w7 ⟨rfl, hm7⟩
           have hm57 := ((Mod.refl [] w5).alloc (.cells #[.int .i64 K, .bool ro, .bool sub, .int .i64 D, .int .i64 P, .int .i64 (gOff sub O), .int .i64 (gLen sub L)] 23)).andThen hm7
           have hb7 := HB5.out.mod hm57 (by simp)
           have hk7 := HK5.out.mod hm57 (by simp)
           have ha7 := HA5.out.mod hm7 (by simp)
           have e0 := hb7.cell 0
           have e1 := hb7.cell 1
           have e2 := hb7.cell 2
           have e3 := hb7.cell 3
           have y0 := hk7.cell 0
           have y1 := hk7.cell 1
           have a0 := ha7.cell 0
           have a1 := ha7.cell 1
           have a2 := ha7.cell 2
           have a3 := ha7.cell 3
           have a4 := ha7.cell 4
           have a5 := ha7.cell 5
           have a6 := ha7.cell 6
           simp only [List.getElem?_toArray, List.getElem?_cons_zero, List.getElem?_cons_succ] at e0 e1 e2 e3 y0 y1 a0 a1 a2 a3 a4 a5 a6
           have fz7 := hk7.frozen
           have hz7 := hk7.lt
           have hq7 := hb7.lt
           have ha7' := ha7.lt
           have HK7 := hid hk7
           have HM57 := hid hm57
           clear hm7 hm57 hk7 hb7 ha7))
      have h9 := st2_row HK7.out (.int .i64 0) (.int .i64 0)
      refine bodyPost_ret (ret_row rfl rfl h9.1 _ Try.underlying93 size93) rfl ⟨⟨0, 0, _, rfl, HF.out, fun h => absurd h (by decide)⟩, SE.out _ _ _ HS5.out HV5.out HM5.out ((HM57.out.mono (T := [w.heap.size + 1]) (by simp)).andThen h9.2) (by simp)⟩
    · have hP' : P = 0 ∨ P = 1 := by omega
      cases hw : wthn off n (gLen sub L)
      · have HF := hid (show 63 = eF K sub D P L off n by unfold eF; rw [if_neg (by simpa using hKD), if_neg (by omega), if_pos hw])
        have HW := hid hw
        clear hKD hw
        replace hP := hP'
        clear hP'
        go_enter Try.func73, Try.ntmps73
        go_wp2_with (first
          | (go_at_call 34; refine HJ.out.mono ?_; rintro e w2 ⟨rfl, hm2⟩
             have hb2 := HBX.out.mod hm2 (by simp)
             have b0 := hb2.cell 0
             have b1 := hb2.cell 1
             have b2 := hb2.cell 2
             have b3 := hb2.cell 3
             simp only [List.getElem?_toArray, List.getElem?_cons_zero, List.getElem?_cons_succ] at b0 b1 b2 b3
             have HM2 := hid hm2
             have lt2 := hb2.lt
             clear hm2 hb2)
          | (go_at_call 35; refine (HSL.out _).mono ?_; rintro e w' ⟨rfl, rfl⟩)
          | (go_at_call 37; refine (HE.out _ HM2.out).mono ?_; rintro e w5 ⟨g, rfl, hg, hs5, hv5, hm5⟩
             obtain rfl := hg.trans HG.out
             have hm15 := (HM2.out.mono (T := [fb, v]) (by simp)).andThen hm5
             have hb5 := HBX.out.mod hm15 (by have := HL.out; simp; omega)
             have hk5 := HSP.out.mod hm15 (by have := HL.out; simp; omega)
             have d0 := hb5.cell 0
             have d1 := hb5.cell 1
             have d2 := hb5.cell 2
             have d3 := hb5.cell 3
             have z0 := hk5.cell 0
             have z1 := hk5.cell 1
             simp only [List.getElem?_toArray, List.getElem?_cons_zero, List.getElem?_cons_succ] at d0 d1 d2 d3 z0 z1
             have fz5 := hk5.frozen
             have hz5 := hk5.lt
             have hq5 := hb5.lt
             have HK5 := hid hk5
             have HB5 := hid hb5
             have HS5 := hid hs5
             have HV5 := hid hv5
             have HM5 := hid ((HM1.out.mono (T := [fb, v]) (by simp)).andThen hm15)
             have HA5 := hid (Blk.new w5 23 #[.int .i64 K, .bool ro, .bool sub, .int .i64 D, .int .i64 P, .int .i64 (gOff sub O), .int .i64 (gLen sub L)])
             clear hs5 hv5 hm5 hm15 hk5 hb5 hg)
          | (go_at_call 38; refine (HGF.out _ (HS5.out.mod0 ((Mod.refl [] w5).alloc _)) hP).mono ?_; rintro e w7 ⟨rfl, hm7⟩
             have hm57 := ((Mod.refl [] w5).alloc (.cells #[.int .i64 K, .bool ro, .bool sub, .int .i64 D, .int .i64 P, .int .i64 (gOff sub O), .int .i64 (gLen sub L)] 23)).andThen hm7
             have hb7 := HB5.out.mod hm57 (by simp)
             have hk7 := HK5.out.mod hm57 (by simp)
             have ha7 := HA5.out.mod hm7 (by simp)
             have e0 := hb7.cell 0
             have e1 := hb7.cell 1
             have e2 := hb7.cell 2
             have e3 := hb7.cell 3
             have y0 := hk7.cell 0
             have y1 := hk7.cell 1
             have a0 := ha7.cell 0
             have a1 := ha7.cell 1
             have a2 := ha7.cell 2
             have a3 := ha7.cell 3
             have a4 := ha7.cell 4
             have a5 := ha7.cell 5
             have a6 := ha7.cell 6
             simp only [List.getElem?_toArray, List.getElem?_cons_zero, List.getElem?_cons_succ] at e0 e1 e2 e3 y0 y1 a0 a1 a2 a3 a4 a5 a6
             have fz7 := hk7.frozen
             have hz7 := hk7.lt
             have hq7 := hb7.lt
             have ha7' := ha7.lt
             have HK7 := hid hk7
             have HM57 := hid hm57
             clear hm7 hm57 hk7 hb7 ha7)
          | (go_at_call 72; refine (within_n off n _ _ HW.out (by omega) (by omega)).mono ?_; rintro e w8 ⟨rfl, rfl⟩))
        have h9 := st2_row HK7.out (.int .i64 0) (.int .i64 0)
        refine bodyPost_ret (ret_row rfl rfl h9.1 _ Try.underlying93 size93) rfl ⟨⟨0, 0, _, rfl, HF.out, fun h => absurd h (by decide)⟩, SE.out _ _ _ HS5.out HV5.out HM5.out ((HM57.out.mono (T := [w.heap.size + 1]) (by simp)).andThen h9.2) (by simp)⟩
      · have HF := hid (show 0 = eF K sub D P L off n by unfold eF; rw [if_neg (by simpa using hKD), if_neg (by omega), if_neg (by simp [hw])])
        have HW := hid hw
        clear hKD hw
        replace hP := hP'
        clear hP'
        go_enter Try.func73, Try.ntmps73
        go_wp2_with (first
          | (go_at_call 34; refine HJ.out.mono ?_; rintro e w2 ⟨rfl, hm2⟩
             have hb2 := HBX.out.mod hm2 (by simp)
             have b0 := hb2.cell 0
             have b1 := hb2.cell 1
             have b2 := hb2.cell 2
             have b3 := hb2.cell 3
             simp only [List.getElem?_toArray, List.getElem?_cons_zero, List.getElem?_cons_succ] at b0 b1 b2 b3
             have HM2 := hid hm2
             have lt2 := hb2.lt
             clear hm2 hb2)
          | (go_at_call 35; refine (HSL.out _).mono ?_; rintro e w' ⟨rfl, rfl⟩)
          | (go_at_call 37; refine (HE.out _ HM2.out).mono ?_; rintro e w5 ⟨g, rfl, hg, hs5, hv5, hm5⟩
             obtain rfl := hg.trans HG.out
             have hm15 := (HM2.out.mono (T := [fb, v]) (by simp)).andThen hm5
             have hb5 := HBX.out.mod hm15 (by have := HL.out; simp; omega)
             have hk5 := HSP.out.mod hm15 (by have := HL.out; simp; omega)
             have d0 := hb5.cell 0
             have d1 := hb5.cell 1
             have d2 := hb5.cell 2
             have d3 := hb5.cell 3
             have z0 := hk5.cell 0
             have z1 := hk5.cell 1
             simp only [List.getElem?_toArray, List.getElem?_cons_zero, List.getElem?_cons_succ] at d0 d1 d2 d3 z0 z1
             have fz5 := hk5.frozen
             have hz5 := hk5.lt
             have hq5 := hb5.lt
             have HK5 := hid hk5
             have HB5 := hid hb5
             have HS5 := hid hs5
             have HV5 := hid hv5
             have HM5 := hid ((HM1.out.mono (T := [fb, v]) (by simp)).andThen hm15)
             have HA5 := hid (Blk.new w5 23 #[.int .i64 K, .bool ro, .bool sub, .int .i64 D, .int .i64 P, .int .i64 (gOff sub O), .int .i64 (gLen sub L)])
             clear hs5 hv5 hm5 hm15 hk5 hb5 hg)
          | (go_at_call 38; refine (HGF.out _ (HS5.out.mod0 ((Mod.refl [] w5).alloc _)) hP).mono ?_; rintro e w7 ⟨rfl, hm7⟩
             have hm57 := ((Mod.refl [] w5).alloc (.cells #[.int .i64 K, .bool ro, .bool sub, .int .i64 D, .int .i64 P, .int .i64 (gOff sub O), .int .i64 (gLen sub L)] 23)).andThen hm7
             have hb7 := HB5.out.mod hm57 (by simp)
             have hk7 := HK5.out.mod hm57 (by simp)
             have ha7 := HA5.out.mod hm7 (by simp)
             have e0 := hb7.cell 0
             have e1 := hb7.cell 1
             have e2 := hb7.cell 2
             have e3 := hb7.cell 3
             have y0 := hk7.cell 0
             have y1 := hk7.cell 1
             have a0 := ha7.cell 0
             have a1 := ha7.cell 1
             have a2 := ha7.cell 2
             have a3 := ha7.cell 3
             have a4 := ha7.cell 4
             have a5 := ha7.cell 5
             have a6 := ha7.cell 6
             simp only [List.getElem?_toArray, List.getElem?_cons_zero, List.getElem?_cons_succ] at e0 e1 e2 e3 y0 y1 a0 a1 a2 a3 a4 a5 a6
             have fz7 := hk7.frozen
             have hz7 := hk7.lt
             have hq7 := hb7.lt
             have ha7' := ha7.lt
             have HK7 := hid hk7
             have HM57 := hid hm57
             clear hm7 hm57 hk7 hb7 ha7)
          | (go_at_call 72; refine (within_y off n _ _ HW.out (by omega)).mono ?_; rintro e w8 ⟨rfl, rfl⟩))
        have h9 := st2_row HK7.out (.int .i64 (2 + P)) (.int .i64 (gOff sub O + off))
        refine bodyPost_ret (ret_row rfl rfl h9.1 _ Try.underlying93 size93) rfl ⟨⟨2 + P, gOff sub O + off, _, rfl, HF.out, fun _ => ⟨rfl, rfl⟩⟩, SE.out _ _ _ HS5.out HV5.out HM5.out ((HM57.out.mono (T := [w.heap.size + 1]) (by simp)).andThen h9.2) (by simp)⟩
  · have HG := hid (show (if K = 1 ∧ D = 0 then (0 : Int) else 60) = 60 by rw [if_neg hKD])
    have HF := hid (show 60 = eF K sub D P L off n by unfold eF; rw [if_pos hKD])
    clear hKD
    go_enter Try.func73, Try.ntmps73
    go_wp2_with (first
      | (go_at_call 34; refine HJ.out.mono ?_; rintro e w2 ⟨rfl, hm2⟩
         have hb2 := HBX.out.mod hm2 (by simp)
         have b0 := hb2.cell 0
         have b1 := hb2.cell 1
         have b2 := hb2.cell 2
         have b3 := hb2.cell 3
         simp only [List.getElem?_toArray, List.getElem?_cons_zero, List.getElem?_cons_succ] at b0 b1 b2 b3
         have HM2 := hid hm2
         have lt2 := hb2.lt
         clear hm2 hb2)
      | (go_at_call 35; refine (HSL.out _).mono ?_; rintro e w' ⟨rfl, rfl⟩)
      | (go_at_call 37; refine (HE.out _ HM2.out).mono ?_; rintro e w5 ⟨g, rfl, hg, hs5, hv5, hm5⟩
         obtain rfl := hg.trans HG.out
         have hm15 := (HM2.out.mono (T := [fb, v]) (by simp)).andThen hm5
         have hb5 := HBX.out.mod hm15 (by have := HL.out; simp; omega)
         have hk5 := HSP.out.mod hm15 (by have := HL.out; simp; omega)
         have d0 := hb5.cell 0
         have d1 := hb5.cell 1
         have d2 := hb5.cell 2
         have d3 := hb5.cell 3
         have z0 := hk5.cell 0
         have z1 := hk5.cell 1
         simp only [List.getElem?_toArray, List.getElem?_cons_zero, List.getElem?_cons_succ] at d0 d1 d2 d3 z0 z1
         have fz5 := hk5.frozen
         have hz5 := hk5.lt
         have hq5 := hb5.lt
         have HK5 := hid hk5
         have HB5 := hid hb5
         have HS5 := hid hs5
         have HV5 := hid hv5
         have HM5 := hid ((HM1.out.mono (T := [fb, v]) (by simp)).andThen hm15)
         have HA5 := hid (Blk.new w5 23 #[.int .i64 K, .bool ro, .bool sub, .int .i64 D, .int .i64 P, .int .i64 (gOff sub O), .int .i64 (gLen sub L)])
         clear hs5 hv5 hm5 hm15 hk5 hb5 hg))
    have h9 := st2_row HK5.out (.int .i64 0) (.int .i64 0)
    refine bodyPost_ret (ret_row rfl rfl (h9.1.mod ((Mod.refl [] _).alloc (.cells #[.int .i64 K, .bool ro, .bool sub, .int .i64 D, .int .i64 P, .int .i64 (gOff sub O), .int .i64 (gLen sub L)] 23)) (by simp)) _ Try.underlying93 size93) rfl ⟨⟨0, 0, _, rfl, HF.out, fun h => absurd h (by decide)⟩, SE.out _ _ _ HS5.out HV5.out HM5.out (h9.2.alloc (.cells #[.int .i64 K, .bool ro, .bool sub, .int .i64 D, .int .i64 P, .int .i64 (gOff sub O), .int .i64 (gLen sub L)] 23)) (by simp)⟩
end
end Go.Proofs.Ythakplgehanopaa
