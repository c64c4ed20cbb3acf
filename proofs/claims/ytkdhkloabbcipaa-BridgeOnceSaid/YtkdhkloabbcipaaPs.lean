/-
  Layer 14: the law's helper play: a frame comes in.
-/
import Derived.Test.YtkdhkloabbcipaaPl
import Derived.IntWalk
import Derived.Deep.Cut
namespace Go.Proofs.Ytkdhkloabbcipaa
open Go.RowKit Go.Tn Go.Tn.P14

def U8s (cs : Array Value) (n : Nat) : Prop := ∀ j, j < n → ∃ y, cs[j]? = some (.int .u8 y) ∧ 0 ≤ y ∧ y ≤ 255
theorem U8s.set {cs : Array Value} {n k : Nat} (h : U8s cs n) {y : Int} (h0 : 0 ≤ y) (h1 : y ≤ 255) : U8s (cs.setIfInBounds k (.int .u8 y)) n := by
  intro j hj
  obtain ⟨z, hz, z0, z1⟩ := h j hj
  rw [Array.getElem?_setIfInBounds]
  by_cases e : k = j
  · subst e
    have := (Array.getElem?_eq_some_iff.1 hz).1
    exact ⟨y, by simp [this], h0, h1⟩
  · exact ⟨z, by simp [e, hz], z0, z1⟩

section
variable {w0 w w' : World} {Kp : List (Nat × Obj)} {p bp bk q rp ac : Nat} {A F : Option Addr} {S R S' R' : St} {fr : List Int} {M : Int} {cf : Nat}

theorem Two.kplt (h : Two w0 w Kp p bp bk q rp A ac S R) {x : Nat × Obj} (hx : x ∈ Kp) : x.1 < w.heap.size := (Array.getElem?_eq_some_iff.1 (h.blk (b := x.1) (o := x.2) hx)).1

theorem run_append_zero (w : World) (ty : TypeId) (g : Nat) (F : Option Addr) (cf : Nat) : (Builtin.append_ #[23, 23] ty #[.slice (some ⟨g, 0, none⟩) 0 0, .slice F 0 cf]).run Try.prog w = .ok (.slice (some ⟨g, 0, none⟩) 0 0) w := by
  obtain ⟨i5, hi5, hz0, hz1, hz2⟩ := info_parts info5
  cases F with
  | none => simp [Builtin.append_, run_underlying Try.underlying23, sizeOf, typeInfo, hi5, hz1, Builtin.lenOf, Builtin.firstCells, storeCells, Result.andThen]
  | some a =>
    have h := run_append_room_cells (P := Try.prog) w 23 ty 5 i5 Try.underlying23 hi5 g 0 0 0 a 0 cf [] (by simp) (by simp) (by simp) (by simp) (by simp) (by simp)
    simpa [World.setCells] using h
theorem wpList_append_zero {ops : Array Oper} {rest : List Oper} {o : Oper} {a : Act} {Q : Exit → Act → World → Prop} (hgd : o.guard = none) (s x : Operand)
    (ho : o.op = .call { callee := .builtin .append, args := #[s, x], argTypes := #[23, 23] }) {g : Nat} (hs : a.eval s = .slice (some ⟨g, 0, none⟩) 0 0) (hx : a.eval x = .slice F 0 cf)
    (hK : wpList Try.prog ops Q rest (a.put o.dst (.slice (some ⟨g, 0, none⟩) 0 0)) w) : wpList Try.prog ops Q (o :: rest) a w :=
  wpList_plain hgd fun _ hK' => by
    unfold Oper.wp execOp
    simp only [ho, resolve, invoke, builtin, Sem.run_bind, Sem.run_pure, Result.andThen_ok, List.map_toArray, List.map_cons, List.map_nil, hs, hx, run_append_zero]
    exact hK' _ _ hK

theorem u8s_frame {cs : Array Value} (hc : ∀ (j : Nat) (y : Int), fr[j]? = some y → cs[j]? = some (.int .u8 y)) (hb : ∀ y, y ∈ fr → 0 ≤ y ∧ y ≤ 255) : U8s cs fr.length := fun j hj => by
  have h1 := List.getElem?_eq_getElem hj
  obtain ⟨h2, h3⟩ := hb _ (List.getElem_mem hj)
  exact ⟨_, hc j _ h1, h2, h3⟩

set_option maxRecDepth 100000 in
set_option maxHeartbeats 4000000 in
theorem play_0 (h : Two w0 w Kp p bp bk q rp A ac S S) (G : Ok S M) (hM : M ≤ 1152921504606846000) (hF : Bytes w0 F fr) (hl : fr.length ≤ 140737488351232) (y z u : Int) (n : Bool) :
    Calls Try.prog 18 #[.pointer (some ⟨p, 0, none⟩), .pointer (some ⟨q, 0, none⟩), .agg #[.int .i64 0, .int .i64 y, .int .i64 z, .int .i64 u, .bool n, .slice F fr.length cf]] w fun e w' => e = .returned (.bool true) ∧ Two w0 w' Kp p bp bk q rp A ac (sendS S y fr) (sendS S y fr) := by
  have HK := hid (h.add ((Mod.refl [] w).alloc (.cells #[.int .i64 0, .int .i64 y, .int .i64 z, .int .i64 u, .bool n, .slice F fr.length cf] 49)) (heap_alloc_new w _) (Nat.le_refl _))
  have hsz := hid (show (w.alloc (.cells #[.int .i64 0, .int .i64 y, .int .i64 z, .int .i64 u, .bool n, .slice F fr.length cf] 49)).heap.size = w.heap.size + 1 by simp)
  have HL := hid (fun (x : Nat × Obj) (hx : x ∈ Kp) => h.kplt hx)
  have hw0 := h.mod.size
  have HG := hid G
  have HF := hid hF
  obtain ⟨i5, hi5, hz0, hz1, hz2⟩ := info_parts info5
  clear h G hF
  go_enter Try.func18, Try.ntmps18
  go_upto_region 3 with fail
  generalize w.alloc (.cells #[.int .i64 0, .int .i64 y, .int .i64 z, .int .i64 u, .bool n, .slice F fr.length cf] 49) = w1 at *
  have HKa := hid (HK.out.newer ((Mod.refl [] w1).alloc (.cells #[] 5)))
  have k1 : (w1.alloc (.cells #[] 5)).cell? ⟨w.heap.size, 1, none⟩ = some (.int .i64 y) := HKa.out.cell List.mem_cons_self 1
  have k5 : (w1.alloc (.cells #[] 5)).cell? ⟨w.heap.size, 5, none⟩ = some (.slice F fr.length cf) := HKa.out.cell List.mem_cons_self 5
  obtain ⟨m, hm⟩ : ∃ m, fr.length = m := ⟨_, rfl⟩
  by_cases hm0 : m = 0
  case pos =>
    have hfr : fr = [] := List.eq_nil_of_length_eq_zero (by omega)
    subst hfr
    subst hm0
    simp only [List.length_nil] at k5
    have HK8 := hid (HK.out.add ((Mod.refl [] w1).alloc (.cells #[] 5)) (heap_alloc_new w1 _) (Nat.le_refl _))
    have HB8 := hid (show Bytes (w1.alloc (.cells #[] 5)) (some ⟨w1.heap.size, 0, none⟩) [] from ⟨fun y hy => absurd hy (by simp), fun h => absurd h (by simp)⟩)
    clear hm
    go_wp2_with (at_builtin; refine wpList_append_zero rfl _ _ rfl rfl rfl ?_)
    go_wp2_with (go_at_call 11; refine (Two.send (fr := []) HK8.out HG.out hM HB8.out (by simp) y).mono ?_; rintro e w9 ⟨rfl, h9⟩; have H9 := hid h9; clear h9)
    refine wp_loop_rounds 1 ?_
    rw [rounds_succ]
    have j1 : w9.cell? ⟨w.heap.size, 1, none⟩ = some (.int .i64 y) := H9.out.cell (List.mem_cons_of_mem _ List.mem_cons_self) 1
    have j5 : w9.cell? ⟨w.heap.size, 5, none⟩ = some (.slice F 0 cf) := H9.out.cell (List.mem_cons_of_mem _ List.mem_cons_self) 5
    go_wp2_with (go_at_call 20; refine (Two.rsend (fr := []) H9.out HG.out hM HF.out hl y).mono ?_; rintro e w10 ⟨rfl, h10⟩; have H10 := hid h10; clear h10)
    go_ret
    exact ⟨by simp, H10.out.less.less⟩
  case neg =>
    have hpos : 0 < fr.length := by omega
    obtain ⟨fb, off, rfl, hfb, _⟩ := HF.out.2 hpos
    have HB1 := hid (HF.out.mod (HK.out.mod.alloc (.cells #[] 5)) (by simp))
    clear hm hm0 hfb
    go_wp2_with (at_builtin; refine wpList_append_lies _ rfl _ _ 23 rfl 0 5 i5 _ 1 1 Try.underlying23 hi5 hz0 hz1 hz2 rfl (by decide) (.slice (some ⟨w1.heap.size, 0, none⟩) 0 0) 0 [] rfl (own_empty w1) ⟨fb, off, none⟩ fr.length cf (bytesV fr) rfl (by simp [bytesV_len]) HB1.out.cells (bytesV_one fr) (by omega) (by unfold maxLen; omega) (by omega) (Nat.zero_le _) (w1.heap.size + 1) (by simp) ?_)
    intro g8 cap8 w8 hown8 hgr8 hat8 hlt8
    have hm8 : Mod [] w1 w8 := ((Mod.refl [] w1).alloc (.cells #[] 5)).grown hgr8 (by intro b hb; simp [Value.ownBlock] at hb; exact .inr (by omega))
    obtain ⟨cs, hb8, hc8⟩ := own_frame hown8
    have hg8 : w1.heap.size ≤ g8 := by
      rcases hat8 with h | h
      · simp [Value.ownBlock] at h; omega
      · omega
    have H8 := hid (HK.out.add hm8 hb8 hg8)
    have HG8 := hid hg8
    have HU8 := hid (u8s_frame hc8 HF.out.1)
    have HB8 := hid (show Bytes w8 (some ⟨g8, 0, none⟩) fr from ⟨HF.out.1, fun _ => ⟨g8, 0, rfl, hlt8, fun j y hj => by rw [Nat.zero_add, hb8.cell]; exact hc8 j y hj⟩⟩)
    have k1' : w8.cell? ⟨w.heap.size, 1, none⟩ = some (.int .i64 y) := H8.out.cell (List.mem_cons_of_mem _ List.mem_cons_self) 1
    clear hm8 hb8 hc8 hown8 hgr8 hat8 hlt8 k1 k5
    go_wp2_with (go_at_call 11; refine (Two.send H8.out HG.out hM HB8.out hl y).mono ?_; rintro e w9 ⟨rfl, h9⟩; have H9 := hid h9; clear h9)
    go_loopw [9] (fun i wr => ∃ (k : Nat) (cs' : Array Value), k ≤ fr.length ∧ i = .int .i64 k ∧ Hid (Two w0 wr ((g8, .cells cs' 5 (0, 0)) :: (w.heap.size, .cells #[.int .i64 0, .int .i64 y, .int .i64 z, .int .i64 u, .bool n, .slice (some ⟨fb, off, none⟩) fr.length cf] 49 (0, 0)) :: Kp) p bp bk q rp A ac (sendS S y fr) S) ∧ Hid (U8s cs' fr.length)) (fun i _ => fr.length - (intOf i).toNat)
    case atStart => exact ⟨0, cs, Nat.zero_le _, rfl, H9.out, HU8.out⟩
    case round =>
      obtain ⟨k, cs', hk, rfl, hT, hU⟩ := hrel
      by_cases hlt : k < fr.length
      case neg =>
        have hke : k = fr.length := by omega
        have j1 : wr.cell? ⟨w.heap.size, 1, none⟩ = some (.int .i64 y) := hT.out.cell (List.mem_cons_of_mem _ List.mem_cons_self) 1
        have j5 : wr.cell? ⟨w.heap.size, 5, none⟩ = some (.slice (some ⟨fb, off, none⟩) fr.length cf) := hT.out.cell (List.mem_cons_of_mem _ List.mem_cons_self) 5
        clear hlt hk
        subst hke
        go_wp2_with (go_at_call 20; refine (Two.rsend hT.out HG.out hM HF.out hl y).mono ?_; rintro e w10 ⟨rfl, h10⟩; have H10 := hid h10; clear h10)
        go_ret
        exact ⟨by simp, H10.out.less.less⟩
      case pos =>
        obtain ⟨v, hv, v0, v1⟩ := hU.out k hlt
        have hbk : Blk wr g8 5 cs' := hT.out.blk List.mem_cons_self
        have j : wr.cell? ⟨g8, k, none⟩ = some (.int .u8 v) := (hbk.cell k).trans hv
        have jf := hbk.frozen k
        have HBK := hid hbk
        clear hv hbk
        go_wp2
        go_roundw
        case rel =>
          have hm : Mod [g8] wr (wr.setCell ⟨g8, k, none⟩ (.int .u8 ((v + 1) % 256))) := (Mod.refl _ _).setCell (.inl (by simp)) _
          have hg8' := HG8.out
          refine ⟨k + 1, cs'.setIfInBounds k (.int .u8 ((v + 1) % 256)), by omega, by go_num, hT.out.turn hm (HBK.out.set_ k _) (fun x hx => ?_) (by have := hsz.out; omega), U8s.set hU.out (by omega) (by omega)⟩
          have := hsz.out
          rcases List.mem_cons.1 hx with rfl | hx
          · simp; omega
          · have := HL.out x hx; omega
        case measure => simp [intOf]; omega
end

end Go.Proofs.Ytkdhkloabbcipaa
