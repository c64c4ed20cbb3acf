/-
  Commit: a path's parts; the iterator over them.
-/
import Derived.RangeFuncNested
import Derived.Shelf.Abstract
import Derived.Shelf.RegionOpen
import Derived.WalkKit
import Derived.OwnWalkIn
import Derived.TacticsInMore
import Derived.LoopNIn
import Derived.LoopIn
import Derived.Sort.QuietIn
import Derived.IntWalk
import Derived.WalkLawsBesides
import Derived.Lib.IndexLaws
import Derived.Test.YtlhjocgkmeoheaaDoorSh
import Derived.Test.YtlhjocgkmeoheaaDoorBx
namespace Go.Proofs.YtlhjocgkmeoheaaDoor
open Go.RowKit Go.Tn Go.Shelf
open Go.Proofs
attribute [local go_sem] Oper.semAt_some

/-- The parts between slashes. -/
def splitL : List UInt8 → List (List UInt8)
  | [] => [[]]
  | b :: r => if b = 47 then [] :: splitL r else match splitL r with | p :: ps => (b :: p) :: ps | [] => [[b]]
theorem splitL_ne (l : List UInt8) : splitL l ≠ [] := by
  cases l with
  | nil => simp [splitL]
  | cons b r =>
    unfold splitL
    split
    · simp
    · split <;> simp
theorem splitL_none : ∀ (l : List UInt8), Lib.indexByte l 47 = -1 → splitL l = [l]
  | [], _ => rfl
  | b :: r, h => by
    unfold Lib.indexByte at h
    by_cases hb : b = 47
    · subst hb; simp at h
    · have hb' : (b == 47) = false := by simpa using hb
      rw [hb'] at h
      simp only [Bool.false_eq_true, if_false] at h
      have hge := Lib.indexByte_ge r 47
      have hr : Lib.indexByte r 47 = -1 := by
        by_cases h1 : Lib.indexByte r 47 = -1
        · exact h1
        · rw [if_neg (by simpa using h1)] at h; omega
      unfold splitL
      rw [if_neg hb, splitL_none r hr]
theorem splitL_some : ∀ (l : List UInt8) (m : Nat), Lib.indexByte l 47 = m → m < l.length ∧ splitL l = l.take m :: splitL (l.drop (m + 1))
  | [], m, h => by simp [Lib.indexByte] at h
  | b :: r, m, h => by
    unfold Lib.indexByte at h
    by_cases hb : b = 47
    · subst hb
      simp at h
      obtain rfl : m = 0 := by omega
      simp [splitL]
    · have hb' : (b == 47) = false := by simpa using hb
      rw [hb'] at h
      simp only [Bool.false_eq_true, if_false] at h
      have hge := Lib.indexByte_ge r 47
      by_cases h1 : Lib.indexByte r 47 = -1
      · rw [if_pos (by simpa using h1)] at h; omega
      · rw [if_neg (by simpa using h1)] at h
        obtain ⟨m', rfl⟩ : ∃ m', m = m' + 1 := ⟨m - 1, by omega⟩
        obtain ⟨h2, h3⟩ := splitL_some r m' (by omega)
        refine ⟨by simp; omega, ?_⟩
        conv => lhs; unfold splitL
        rw [if_neg hb, h3]
        simp

def ba (l : List UInt8) : ByteArray := ⟨l.toArray⟩
theorem ba_toList (s : ByteArray) : ba s.data.toList = s := by unfold ba; simp
theorem toList_ba (l : List UInt8) : (ba l).data.toList = l := by unfold ba; simp

def boxLen (w : World) (b : Nat) : Nat := match w.cell? ⟨b, 0, none⟩ with | some (.string r) => r.size | _ => 0

set_option maxRecDepth 100000 in
set_option maxHeartbeats 4000000 in
theorem split_iter (n : Nat) (hn : 1 ≤ n) (s : ByteArray) (hs : s.size ≤ 256) (b1 b2 b3 : Nat) (T : List Nat) (w : World) (h1 : Blk w b1 9 #[.string ⟨#[47]⟩]) (h2 : Blk w b2 9 #[.string s]) (h3 : Blk w b3 3 #[.int .i64 0]) (h12 : b1 ≠ b2) (h1T : b1 ∉ T) (h2T : b2 ∉ T) (h3T : b3 ∉ T) :
    Iter n Tryd.prog 66 #[.pointer (some ⟨b1, 0, none⟩), .pointer (some ⟨b2, 0, none⟩), .pointer (some ⟨b3, 0, none⟩)] (fun k => #[.string (ba ((splitL s.data.toList).getD k []))]) (splitL s.data.toList).length b2 T w := by
  intro l J Jx W hW hJ hJx hY h0
  have hY2 : ∀ k W, k < (splitL s.data.toList).length → J k W → YieldAt Fence.wide (n - 1) Tryd.prog l #[.string (ba ((splitL s.data.toList).getD k []))] W fun e W' =>
      (∃ b : Bool, e = .returned (.bool b)) ∧ ((e = .returned (.bool true) ∧ J (k + 1) W' ∧ KeepT w.heap.size T W W') ∨ (e = .returned (.bool false) ∧ Jx W')) := by
    intro k W h1 h2
    obtain ⟨fn, tmps, assign, body, h3, h4⟩ := hY k W h1 h2
    refine ⟨fn, tmps, assign, body, h3, h4.mono ?_⟩
    rintro e W' (⟨rfl, h5⟩ | ⟨rfl, h5⟩)
    · exact ⟨⟨_, rfl⟩, .inl ⟨rfl, h5⟩⟩
    · exact ⟨⟨_, rfl⟩, .inr ⟨rfl, h5⟩⟩
  have hb1 := h1.lt
  have hb2 := h2.lt
  have hb3 := h3.lt
  have h32 : b3 ≠ b2 := (h2.ne_ h3 (by decide)).symm
  have g1 := h1.mod hW (by simp)
  have g2 := h2.mod hW (by simp)
  have g3 := h3.mod hW (by simp)
  refine callsIn_of_wp Tryd.func66 rfl trivial ?_ rfl
  simp only [Tryd.ntmps66, List.size_toArray, List.length_cons, List.length_nil, Nat.reduceAdd, Nat.reduceSub, Array.replicate_succ, Array.replicate_zero, List.push_toArray, List.append_toArray, List.nil_append, List.cons_append]
  have c1 := g1.cell 0
  simp only [List.getElem?_toArray, List.getElem?_cons_zero] at c1
  have H0 := hid h0
  have G1 := hid g1
  have G2 := hid g2
  have G3 := hid g3
  clear h0 g1 g2 g3 h1 h2 h3
  gi_wp2
  gi_loopw [] (fun wr => ∃ (k : Nat) (rest : ByteArray), k < (splitL s.data.toList).length ∧ Blk wr b1 9 #[.string ⟨#[47]⟩] ∧ Blk wr b2 9 #[.string rest] ∧ Blk wr b3 3 #[.int .i64 0] ∧ splitL rest.data.toList = (splitL s.data.toList).drop k ∧ rest.size ≤ 256 ∧ J k wr) (fun wr => boxLen wr b2)
  case atStart => exact ⟨0, s, List.length_pos_iff.2 (splitL_ne _), G1.out, G2.out, G3.out, rfl, hs, H0.out⟩
  case round =>
    obtain ⟨k, rest, hk, g1, g2, g3, hsp, hle, hj⟩ := hrel
    have hp := fun m => splitL_some rest.data.toList m
    have hq := splitL_none rest.data.toList
    have hge := Lib.indexByte_ge rest.data.toList 47
    have e1 := g1.cell 0
    have e2 := g2.cell 0
    have e3 := g3.cell 0
    simp only [List.getElem?_toArray, List.getElem?_cons_zero] at e1 e2 e3
    rcases Int.lt_or_le (Lib.indexByte rest.data.toList 47) 0 with hlt | hlt
    · have hneg : Lib.indexByte rest.data.toList 47 = -1 := by omega
      have hd : (splitL s.data.toList).drop k = [rest.data.toList] := by rw [← hsp, hq hneg]
      have hlen : k + 1 = (splitL s.data.toList).length := by
        have := congrArg List.length hd
        simp at this; omega
      have hgd : (splitL s.data.toList).getD k [] = rest.data.toList := by
        rw [List.getD_eq_getElem?_getD, ← Nat.add_zero k, ← List.getElem?_drop, hd]; rfl
      have hy0 := hY2 k wr hk hj
      rw [hgd, ba_toList] at hy0
      obtain ⟨fn, tmps, assign, body, hy, hR⟩ := hy0
      clear hY hY2 hp hq hge hneg hd hgd hsp
      have HJ := hid hj
      have HG1 := hid g1
      have HG2 := hid g2
      have HG3 := hid g3
      clear hj g1 g2 g3
      gi_wp2_with (refine ⟨trivial, ?_⟩; gi_at_call 51; refine (callsIn_wide.2 (Tryd.strings_Index_one rest 47 wr)).mono ?_; rintro e w' ⟨rfl, h⟩; obtain rfl : w' = wr := h)
      refine hR.mono ?_
      rintro e W3 ⟨⟨b, rfl⟩, hpost⟩
      clear hR
      gi_wp2
      go_end0
      refine ⟨⟨_, rfl⟩, ?_⟩
      rw [← hlen]
      rcases hpost with ⟨_, h, _⟩ | ⟨_, h⟩
      · exact .inl h
      · exact .inr h
    · obtain ⟨m, hm⟩ := Int.eq_ofNat_of_zero_le hlt
      obtain ⟨hml, hms⟩ := hp m hm
      have hd : (splitL s.data.toList).drop k = rest.data.toList.take m :: splitL (rest.data.toList.drop (m + 1)) := by rw [← hsp, hms]
      have hdl : k + 1 < (splitL s.data.toList).length := by
        have := congrArg List.length hd
        have h2 := List.length_pos_iff.2 (splitL_ne (rest.data.toList.drop (m + 1)))
        simp at this; omega
      have hd1 : splitL (rest.data.toList.drop (m + 1)) = (splitL s.data.toList).drop (k + 1) := by
        have := congrArg List.tail hd
        simpa [List.tail_drop] using this.symm
      have hgd : (splitL s.data.toList).getD k [] = rest.data.toList.take m := by
        rw [List.getD_eq_getElem?_getD, ← Nat.add_zero k, ← List.getElem?_drop, hd]; rfl
      have hml2 : m < rest.size := by simpa using hml
      have hx0 : ba (rest.data.toList.take m) = rest.extract 0 m := by
        unfold ba
        apply ByteArray.ext
        apply Array.ext'
        simp
      have hx1 : (rest.extract (m + 1) rest.size).data.toList = rest.data.toList.drop (m + 1) := by
        simp
        rw [List.take_of_length_le (by simp)]
      have hy0 := hY2 k wr hk hj
      rw [hgd, hx0] at hy0
      obtain ⟨fn, tmps, assign, body, hy, hR⟩ := hy0
      clear hY hY2 hp hq hge hms hd hgd hsp
      have HJ := hid hj
      have HG1 := hid g1
      have HG2 := hid g2
      have HG3 := hid g3
      clear hj g1 g2 g3
      gi_wp2_with (refine ⟨trivial, ?_⟩; gi_at_call 51; refine (callsIn_wide.2 (Tryd.strings_Index_one rest 47 wr)).mono ?_; rintro e w' ⟨rfl, h⟩; obtain rfl : w' = wr := h; rw [hm])
      refine hR.mono ?_
      rintro e W3 ⟨⟨b, rfl⟩, hpost⟩
      clear hR
      cases b
      · gi_wp2
        refine bodyPost_ret (results_none rfl _ _ _) rfl ?_
        rcases hpost with ⟨h, _⟩ | ⟨_, h⟩
        · simp at h
        · exact ⟨⟨_, rfl⟩, .inr h⟩
      · obtain ⟨hj3, hm3⟩ : J (k + 1) W3 ∧ KeepT w.heap.size T w' W3 := by
          rcases hpost with ⟨_, h1, h2⟩ | ⟨h, _⟩
          · exact ⟨h1, h2⟩
          · simp at h
        have k1 := hm3.blk HG1.out hb1 h1T
        have k2 := hm3.blk HG2.out hb2 h2T
        have k3 := hm3.blk HG3.out hb3 h3T
        have e2' := e2
        clear hpost HG1 HG2 HG3 e1 e2 e3
        have e1 := k1.cell 0
        have e2 := k2.cell 0
        have f2 := k2.frozen 0
        simp only [List.getElem?_toArray, List.getElem?_cons_zero] at e1 e2
        have K1 := hid k1
        have K2 := hid k2
        have K3 := hid k3
        have HJ3 := hid hj3
        clear k1 k2 k3 hj3
        gi_wp2
        have hmS : Mod [b2] W3 (W3.setCell ⟨b2, 0, none⟩ (.string (rest.extract (m + 1) rest.size))) := (Mod.refl [b2] W3).setCell (.inl (List.mem_singleton_self _)) _
        have s2 := K2.out.set_ 0 (.string (rest.extract (m + 1) rest.size))
        simp only [List.setIfInBounds_toArray, List.set_cons_zero] at s2
        refine ⟨⟨k + 1, rest.extract (m + 1) rest.size, hdl, K1.out.mod hmS (by simpa using h12), s2, K3.out.mod hmS (by simpa using h32), by rw [hx1, hd1], by simp; omega, hJ _ _ _ HJ3.out hmS⟩, ?_⟩
        have hc2 := s2.cell 0
        simp only [List.getElem?_toArray, List.getElem?_cons_zero] at hc2
        unfold boxLen
        rw [hc2, e2']
        simp
        omega
end Go.Proofs.YtlhjocgkmeoheaaDoor
