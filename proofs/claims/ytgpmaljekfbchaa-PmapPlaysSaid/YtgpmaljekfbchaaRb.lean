/-
  Layer 3, the reference's map: New, List, Copy; the law's helpers pairs, told, play, awake.
-/
import Derived.Test.YtgpmaljekfbchaaRa
import Derived.Test.YtgpmaljekfbchaaBackW
import Derived.Deep.RegionWith
namespace Go.Proofs.Ytgpmaljekfbchaa
open Go.RowKit Go.Tn Go.Tn.P3

theorem info3 : (Try.prog.info? 3).map (fun i => (i.zero, i.size, i.bytes)) = some (some (.int .i64 0), 1, 8) := by kernel_rfl
theorem zero58 (w : World) : (zeroValue 58).run Try.prog w = .ok (.agg #[.slice none 0 0]) w := by kernel_rfl

theorem ownsRow_weak {w : World} {base e size n : Nat} {v : Value} {xs : List Value} (h : w.ownsRow base e size v n xs) : w.ownsRow 0 e size v n xs :=
  ⟨h.1, h.2.imp id fun ⟨g, cap, cur, hv, _, r⟩ => ⟨g, cap, cur, hv, Nat.zero_le _, r⟩⟩

theorem own_slice {w : World} {base e size n : Nat} {v : Value} {xs : List Value} (h : w.ownsRow base e size v n xs) : ∃ A cap, v = .slice A n cap ∧ ∀ b, b ∈ rowB A → base ≤ b ∧ b < w.heap.size := by
  rcases h.2 with ⟨rfl, rfl⟩ | ⟨g, cap, cur, rfl, hb, hg, _⟩
  · exact ⟨none, 0, rfl, by simp [rowB]⟩
  · exact ⟨_, cap, rfl, fun b hb' => by simp [rowB] at hb'; subst hb'; exact ⟨hb, (Array.getElem?_eq_some_iff.1 hg).1⟩⟩

theorem ints_rep (k : Nat) : ints (List.replicate k (-1)) ++ [.int .i64 (-1)] = ints (List.replicate (k + 1) (-1)) := by
  simp [ints, List.replicate_succ']

set_option maxHeartbeats 1000000 in
/-- The reference's 'New'. -/
theorem rnew_ok (n : Nat) (w : World) (hn : n ≤ 48) :
    Calls Try.prog 16 #[.int .i64 n] w fun e w' => ∃ A cap, e = .returned (.tuple #[.pointer (some ⟨w.heap.size, 0, none⟩), .int .i64 0]) ∧ RM w' w.heap.size A cap (List.replicate n (-1)) ∧ Mod [] w w' ∧ (∀ b, b ∈ rowB A → w.heap.size < b) := by
  obtain ⟨i0, hi, hz0, hz1, hz2⟩ := info_parts info3
  go_enter Try.func16, Try.ntmps16
  go_wp2
  go_loopw [5] (fun i wr => ∃ (k : Nat) (A : Option Addr) (cap : Nat), k ≤ n ∧ i = .int .i64 k ∧ Hid (Blk wr w.heap.size 58 #[.slice A k cap]) ∧ Hid (wr.ownsRow (w.heap.size + 1) 3 1 (.slice A k cap) k (ints (List.replicate k (-1)))) ∧ Hid (Mod [] w wr) ∧ w.heap.size < wr.heap.size) (fun i _ => n - (intOf i).toNat)
  case atStart =>
    refine ⟨0, none, 0, Nat.zero_le _, rfl, ?_, World.ownsRow_nil _ _ _ _, (Mod.refl _ w).alloc _, by simp⟩
    have := Blk.new w 58 #[.slice none 0 0]
    exact this
  case round =>
    obtain ⟨k, A, cap, hk, rfl, hb, hown, hm, hsz⟩ := hrel
    have c0 : wr.cell? ⟨w.heap.size, 0, none⟩ = some (.slice A k cap) := hb.out.cell 0
    have f0 : wr.frozen? ⟨w.heap.size, 0, none⟩ = false := hb.out.frozen 0
    by_cases hlt : k < n
    · have hal := hid (hown.out.alloc (.cells #[.int .i64 (-1)] 3))
      go_wp2_with (at_builtin; refine wpList_append_own _ rfl _ _ 56 rfl (w.heap.size + 1) 3 i0 _ 1 8 Try.underlying56 hi hz0 hz1 hz2 rfl (by decide) _ _ _ rfl hal.out ⟨wr.heap.size, 0, none⟩ 1 1 [.int .i64 (-1)] rfl rfl ?c1 ?c2 ?c3 ?c4 ?c5 ?_)
      case c1 =>
        intro j u hj
        match j, hj with
        | 0, hj => simp at hj; subst hj; simp [Addr.add]
      case c2 => intro u hu; simp at hu; subst hu; rfl
      case c3 => unfold maxLen; omega
      case c4 => omega
      case c5 => simp; omega
      intro v' w1 hown' hgrow _
      rw [ints_rep] at hown'
      obtain ⟨A', cap', rfl, hAb⟩ := own_slice hown'
      have hne : ∀ b, (Value.slice A k cap).ownBlock = some b → w.heap.size < b := fun b hb' => by
        have := (hown.out.lt b hb').1; omega
      have hb1 : Blk w1 w.heap.size 58 #[.slice A k cap] := by
        refine (hb.out.of_heap (Below.heap_alloc wr _ _ hsz)).of_heap (hgrow.block _ (by simp; omega) (fun e => ?_))
        have := hne _ e.symm
        omega
      have c1 : w1.cell? ⟨w.heap.size, 0, none⟩ = some (.slice A k cap) := hb1.cell 0
      have f1 : w1.frozen? ⟨w.heap.size, 0, none⟩ = false := hb1.frozen 0
      have HB1 := hid hb1
      have HO := hid hown'
      have HG := hid hgrow
      have HA := hid hAb
      have HN := hid hne
      clear hb1 hown' hgrow hAb hne
      go_wp2
      go_roundw
      case rel =>
        refine ⟨k + 1, A', cap', by omega, by go_num, ?_, ?_, ?_, ?_⟩
        · have := HB1.out.set_ 0 (.slice A' (k + 1) cap')
          exact this
        · exact ownsRow_of_heap HO.out fun b hb' => Below.heap_setCell _ _ _ _ (by have := (HO.out.lt b hb').1; simp; omega)
        · exact ((hm.out.alloc _).grown HG.out fun b hb' => .inr (by have := HN.out b hb'; omega)).setCell (.inr (by simp)) _
        · have := HG.out.size; simp at this ⊢; omega
      case measure => simp [intOf]; omega
    · have hke : k = n := by omega
      subst hke
      go_wp2
      go_ret2
      refine ⟨A, cap, rfl, ⟨by simpa using hb.out, by simpa using ownsRow_weak hown.out, good_new k hn⟩, hm.out, fun b hb' => ?_⟩
      obtain ⟨A2, cap2, hv, hA2⟩ := own_slice hown.out
      injection hv with hv
      subst hv
      have := (hA2 b hb').1
      omega

theorem rnew_bad (n : Int) (w : World) (hn : n < 0 ∨ 48 < n) :
    Calls Try.prog 16 #[.int .i64 n] w fun e w' => e = .returned (.tuple #[.pointer none, .int .i64 1]) ∧ w = w' := by
  by_cases h : n < 0
  · clear hn
    go_enter Try.func16, Try.ntmps16
    go_wp2
    go_ret2
    exact ⟨rfl, rfl⟩
  · have h1 : 0 ≤ n := by omega
    have h2 : 48 < n := by omega
    clear hn h
    go_enter Try.func16, Try.ntmps16
    go_wp2
    go_ret2
    exact ⟨rfl, rfl⟩

end Go.Proofs.Ytgpmaljekfbchaa
