/-
  Commit: order, Nodes.
-/
import Derived.Test.YtlhjocgkmeoheaaDoorRp
import Derived.Test.YtlhjocgkmeoheaaDoorRv
import Derived.OwnWalk
import Derived.Lib.SplitLaws
namespace Go.Proofs.YtlhjocgkmeoheaaDoor
open Go.RowKit Go.Tn Go.MapKept
open Go.Proofs

theorem ba_size (l : List UInt8) : (ba l).size = l.length := rfl
theorem rep_size (n : ByteArray) : (rep n).size = n.size := by unfold rep; rw [ba_size, List.length_map]; exact (Lib.size_eq n).symm

theorem repl_f {w : World} {mx : Int} (hm : w.cell? ⟨0, 0, none⟩ = some (.int .i64 mx)) {a b : UInt8} (hab : a ≠ b) {s : ByteArray} (hs : s.size ≤ 256) :
    Calls Tryd.prog 27 #[.string s, .string ⟨#[a]⟩, .string ⟨#[b]⟩] w fun e w' => e = .returned (.string (ba (s.data.toList.map (swp a b)))) ∧ Tn.Mod [] w w' := by
  have hc : Lib.countB s ⟨#[a]⟩ ≤ s.size := Lib.countB_le ⟨#[a]⟩ (Nat.le_refl _) s.size s (Nat.le_refl _)
  refine (Tryd.strings_ReplaceAll s ⟨#[a]⟩ ⟨#[b]⟩ mx w (by omega) hm (Nat.le_refl _) (by rw [show (⟨#[b]⟩ : ByteArray).size = 1 from rfl, Nat.mul_one]; omega)).mono ?_
  rintro e w' ⟨rfl, hb⟩
  refine ⟨?_, Mod.of_below hb⟩
  have := repAll_one hab s.data.toList
  show Ending.returned (.string (ba (Lib.replaceAll s.data.toList [a] [b]))) = _
  rw [this]

/-- The order of a tree's paths. -/
def ordr (A : Tree) : List ByteArray := (((bls ((nms A).map rep)).mergeSort fun x y => decide (x ≤ y)).map ba).map unrep
theorem ordr_mem {A : Tree} (G : GT A) : ∀ n ∈ ordr A, n ∈ nms A := by
  intro n hn
  unfold ordr at hn
  obtain ⟨z, hz, rfl⟩ := List.mem_map.1 hn
  obtain ⟨y, hy, rfl⟩ := List.mem_map.1 hz
  rw [List.mem_mergeSort] at hy
  unfold bls at hy
  rw [List.map_map] at hy
  obtain ⟨n', hn', rfl⟩ := List.mem_map.1 hy
  simp only [Function.comp]
  rw [ba_toList, unrep_rep (G.val n' hn')]
  exact hn'
def sorted_ (A : Tree) : List ByteArray := ((bls ((nms A).map rep)).mergeSort fun x y => decide (x ≤ y)).map ba
theorem ordr_sorted (A : Tree) : ordr A = (sorted_ A).map unrep := rfl
theorem sorted_mem {A : Tree} (G : GT A) : ∀ z ∈ sorted_ A, z.size ≤ 256 := by
  intro z hz
  unfold sorted_ at hz
  obtain ⟨y, hy, rfl⟩ := List.mem_map.1 hz
  rw [List.mem_mergeSort] at hy
  unfold bls at hy
  rw [List.map_map] at hy
  obtain ⟨n', hn', rfl⟩ := List.mem_map.1 hy
  simp only [Function.comp]
  rw [ba_toList, rep_size]
  have := (G.val n' hn').len
  simpa using this
theorem sorted_length (A : Tree) : (sorted_ A).length = A.length := by simp [sorted_, bls, nms]
theorem sorted_perm {A : Tree} {ps : List ByteArray} (h : ps.Perm (nms A)) : ((bls (ps.map rep)).mergeSort fun x y => decide (x ≤ y)).map ba = sorted_ A := by
  unfold sorted_
  congr 1
  exact mergeSort_of_perm ((h.map rep).map _)
/-- A row half turned back. -/
theorem RowS.set_ {w : World} {q k : Nat} {zs : List ByteArray} (h : RowS w q ((zs.take k).map unrep ++ zs.drop k)) (hk : k < zs.length) : RowS (w.setCell ⟨q, k, none⟩ (.string (unrep (zs.getD k ByteArray.empty)))) q ((zs.take (k + 1)).map unrep ++ zs.drop (k + 1)) := by
  intro i hi
  have hl : ((zs.take k).map unrep ++ zs.drop k).length = zs.length := by simp; omega
  have hl2 : ((zs.take (k + 1)).map unrep ++ zs.drop (k + 1)).length = zs.length := by simp; omega
  obtain ⟨h1, h2⟩ := h i (by omega)
  refine ⟨?_, by simpa using h2⟩
  by_cases hik : i = k
  · subst hik
    have : ((zs.take (i + 1)).map unrep ++ zs.drop (i + 1)).getD i ByteArray.empty = unrep (zs.getD i ByteArray.empty) := by
      rw [List.getD_eq_getElem?_getD, List.getElem?_append_left (by simp; omega)]
      simp [List.getD_eq_getElem?_getD, List.getElem?_eq_getElem hk]
    rw [this]
    have hsome : (w.cell? ⟨q, i, none⟩).isSome = true := by rw [h1]; rfl
    simp [go_sem, hsome]
  · have : ((zs.take (k + 1)).map unrep ++ zs.drop (k + 1)).getD i ByteArray.empty = ((zs.take k).map unrep ++ zs.drop k).getD i ByteArray.empty := by
      rw [List.getD_eq_getElem?_getD, List.getD_eq_getElem?_getD]
      congr 1
      rcases Nat.lt_or_ge i k with hlt | hge
      · rw [List.getElem?_append_left (by simp; omega), List.getElem?_append_left (by simp; omega)]
        simp [List.getElem?_take, show i < k by omega, show i < k + 1 by omega]
      · rw [List.getElem?_append_right (by simp; omega), List.getElem?_append_right (by simp; omega)]
        simp
        congr 1
        omega
    rw [this, ← h1]
    simp [go_sem, hik, fun e : k = i => hik e.symm]
theorem ordr_length (A : Tree) : (ordr A).length = A.length := by simp [ordr, bls, nms]

section
variable {w : World} {m : Nat} {A : Tree}

/-- What has been collected while some are left. -/
structure Got (w wr : World) (m : Nat) (left : ByteArray → Bool) (vl : Value) (ps : List ByteArray) : Prop where
  row : wr.ownsRow (w.heap.size + 1) 9 1 vl ps.length ((ps.map rep).map .string)
  nd : ps.Nodup
  mem : ∀ n, n ∈ ps ↔ ((sget w m n).isSome = true ∧ left n = false)
  md : Tn.Mod [] w wr

theorem Got.len {wr : World} {left : ByteArray → Bool} {vl : Value} {ps : List ByteArray} (h : Got w wr m left vl ps) (hT : TH w m A) (G : GT A) : ps.length ≤ 256 := by
  have hp : ps.Perm ((nms A).filter (fun n => decide (n ∈ ps))) := (List.perm_ext_iff_of_nodup h.nd (hT.nd.filter _)).2 fun n => by
    rw [List.mem_filter]
    constructor
    · intro hn
      exact ⟨(hT.has n).1 ((h.mem n).1 hn).1, by simpa using hn⟩
    · rintro ⟨_, hn⟩
      simpa using hn
  have h1 := hp.length_eq
  have h2 := List.length_filter_le (fun n => decide (n ∈ ps)) (nms A)
  have h3 := G.len
  have h4 : (nms A).length = A.length := by simp [nms]
  omega

set_option maxRecDepth 100000 in
set_option maxHeartbeats 4000000 in
theorem order_f (h : TH w m A) (G : GT A) {mx : Int} (hm : w.cell? ⟨0, 0, none⟩ = some (.int .i64 mx)) :
    Calls Tryd.prog 17 #[.map (some m)] w fun e w' => ∃ q cap, e = .returned (.slice (some ⟨q, 0, none⟩) A.length cap) ∧ RowS w' q (ordr A) ∧ Tn.Mod [] w w' := by
  have h0lt : 0 < w.heap.size := Nat.lt_of_le_of_lt (Nat.zero_le _) h.is.lt
  have his := h.is
  have HH := hid h
  have HG := hid G
  obtain ⟨i0, hi0, hz0, hz1, hz2⟩ := info_parts info9
  clear h G
  go_enter Tryd.func17, Tryd.ntmps17
  go_wp2_with (at_range; refine wpList_range_rngS _ rfl _ 41 rfl Tryd.underlying41 rfl his ?_; intro w1 hr1 hm1)
  go_frame
  have HR1 := hid hr1
  have HM1 := hid hm1
  clear hr1 hm1 his
  go_loopw [3] (fun vl wr => ∃ left cnt ps, Hid (RngS wr m w.heap.size left cnt) ∧ Hid (Got w wr m left vl ps)) (fun _ wr => wr.rangeLeft m w.heap.size)
  case atStart => exact ⟨_, _, [], HR1, hid ⟨⟨rfl, .inl ⟨rfl, rfl⟩⟩, by simp, fun n => by cases hs : (sget w m n).isSome <;> simp [hs], HM1.out⟩⟩
  case round =>
    clear HR1 HM1
    obtain ⟨left, cnt, ps, hr, hg⟩ := hrel
    obtain ⟨vl, hvl⟩ : ∃ vl, vl = u3 := ⟨_, rfl⟩
    subst hvl
    go_wp2_with (at_next; go_loud (refine wpList_next_rngS _ rfl _ rfl rfl hr.out ?_ ?_))
    case refine_1 =>
      intro hl
      have hperm : ps.Perm (nms A) := (List.perm_ext_iff_of_nodup hg.out.nd HH.out.nd).2 fun n => by
        rw [hg.out.mem n, HH.out.has n, hl n]
        simp [nms]
      have hpl := hg.out.len HH.out HG.out
      have hpa : ps.length = A.length := by rw [hperm.length_eq]; simp [nms]
      have hp1 : 1 ≤ ps.length := by
        have := hperm.mem_iff.2 HG.out.root
        exact List.length_pos_of_mem this
      obtain ⟨q, cap, rfl⟩ : ∃ q cap, vl = .slice (some ⟨q, 0, none⟩) ps.length cap := by
        rcases hg.out.row.2 with ⟨_, h0⟩ | ⟨g2, cap2, cur2, h3, _⟩
        · omega
        · exact ⟨_, _, h3⟩
      have hqb := (hg.out.row.lt q rfl)
      have hrow : RowS wr q (ps.map rep) := fun i hi => by
        refine ⟨?_, hg.out.row.frozenAt i⟩
        have hi' : i < ps.length := by simpa using hi
        rw [hg.out.row.cellAt i (by omega)]
        simp [List.getD_eq_getElem?_getD, List.getElem?_eq_getElem hi']
      have HST := hid (show Calls Tryd.prog 28 #[.slice (some ⟨q, 0, none⟩) ps.length cap] wr fun e w' => e = .returned (.tuple #[]) ∧ RowS w' q (sorted_ A) ∧ Tn.Mod [q] wr w' from by
        have := sort_f (cap := cap) hrow hqb.2 (by simp; omega)
        rw [List.length_map, sorted_perm hperm] at this
        exact this)
      have HMD := hid hg.out.md
      have hslen := sorted_length A
      clear hr hg hrow
      rw [hpa] at HST hp1 hpl ⊢
      go_wp2_with (go_at_call 28; refine HST.out.mono ?_; rintro e w2 ⟨rfl, hrs, hms⟩; replace hrs := hid hrs; have HM2 := hid (HMD.out.trans hms (by simp; omega)); clear hms)
      go_loopw [21] (fun i wz => ∃ k : Nat, k ≤ A.length ∧ i = .int .i64 (k : Nat) ∧ Hid (RowS wz q (((sorted_ A).take k).map unrep ++ (sorted_ A).drop k)) ∧ Hid (Tn.Mod [] w wz)) (fun i _ => A.length - (intOf i).toNat)
      case atStart => exact ⟨0, Nat.zero_le _, rfl, hid (by simpa using hrs.out), HM2⟩
      case round =>
        obtain ⟨k, hk, rfl, hR, hM⟩ := hrel
        by_cases hlt : k < A.length
        · have hltI : (k : Int) < A.length := by omega
          have hll : (((sorted_ A).take k).map unrep ++ (sorted_ A).drop k).length = A.length := by simp; omega
          obtain ⟨r1, r2⟩ := hR.out k (by omega)
          have hget : (((sorted_ A).take k).map unrep ++ (sorted_ A).drop k).getD k ByteArray.empty = (sorted_ A).getD k ByteArray.empty := by
            rw [List.getD_eq_getElem?_getD, List.getD_eq_getElem?_getD, List.getElem?_append_right (by simp; omega)]
            simp
            congr 2
            omega
          rw [hget] at r1
          have hstep := hR.out.set_ (by omega)
          obtain ⟨z, hz⟩ : ∃ z, (sorted_ A).getD k ByteArray.empty = z := ⟨_, rfl⟩
          rw [hz] at r1 hstep
          have hzs : z.size ≤ 256 := sorted_mem HG.out z (by
            rw [← hz, List.getD_eq_getElem?_getD, List.getElem?_eq_getElem (by omega)]
            exact List.getElem_mem _)
          have HRP := hid (show Calls Tryd.prog 27 #[.string z, .string ⟨#[0]⟩, .string ⟨#[47]⟩] wr fun e w' => e = .returned (.string (unrep z)) ∧ Tn.Mod [] wr w' from repl_f ((hM.out.cell (p := ⟨0, 0, none⟩) h0lt (by simp)).trans hm) (by decide) hzs)
          have hql := cell_lt r1
          have HZ := hid hz
          clear hget hstep hz
          go_wp2_with (go_at_call 27; refine HRP.out.mono ?_; rintro e w4 ⟨rfl, hm4⟩
                       have R4 := hid (hR.out.mod hm4 (by simp))
                       have s1 := (R4.out k (by omega)).1
                       have s2 := (R4.out k (by omega)).2
                       replace hm4 := hid (hM.out.andThen hm4))
          go_roundw
          case rel =>
            have hst := R4.out.set_ (by omega)
            rw [HZ.out] at hst
            exact ⟨k + 1, by omega, by go_num, hid hst, hid (hm4.out.setCell (.inr (by simp; omega)) _)⟩
          case measure => simp [intOf]; omega
        · obtain rfl : A.length = k := by omega
          go_wp2
          go_ret
          refine ⟨q, cap, rfl, ?_, hM.out⟩
          have := hR.out
          rw [← hslen, List.take_length, List.drop_length, List.append_nil] at this
          rw [ordr_sorted]
          exact this
    case refine_2 =>
      intro n v w3 cnt' hln hgv hr3 hlt hm3 hen
      have hgw : sget w m n = some v := (sget_of_heap (hg.out.md.block m HH.out.is.lt (by simp)) n).symm.trans hgv
      have hnA : n ∈ nms A := (HH.out.has n).1 (by rw [hgw]; rfl)
      have hnv := HG.out.val n hnA
      have hns : n.size ≤ 256 := by simpa using hnv.len
      have hM3 := hg.out.md.trans hm3 (by simp)
      have HRP := hid (show Calls Tryd.prog 27 #[.string n, .string ⟨#[47]⟩, .string ⟨#[0]⟩] w3 fun e w' => e = .returned (.string (rep n)) ∧ Tn.Mod [] w3 w' from repl_f ((hM3.cell (p := ⟨0, 0, none⟩) h0lt (by simp)).trans hm) (by decide) hns)
      have hwr := hg.out.md.size
      have hrl := hr.out.rlt
      have hrow3 := ownsRow_of_heap' hg.out.row fun b hb => hm3.block b (hg.out.row.lt b hb).2 (by have := (hg.out.row.lt b hb).1; simp; omega)
      have hs3 := hm3.size
      have HR3 := hid hr3
      have HRO := hid hr.out
      have HLT := hid hlt
      have HM3 := hid hM3
      have HW := hid hgw
      have HLN := hid hln
      clear hr3 hr hlt hM3 hm3 hgw hgv hln hnv
      go_wp2_with (first
        | (go_at_call 27; refine HRP.out.mono ?_; rintro e w4 ⟨rfl, hm4⟩
           have hrow4 := (ownsRow_of_heap' hrow3 fun b hb => hm4.block b (hrow3.lt b hb).2 (by simp)).alloc (.cells #[.string (rep n)] 9)
           have hs4 := hm4.size
           replace hm4 := hid hm4)
        | (at_builtin; refine wpList_append_own _ rfl _ _ 22 rfl (w.heap.size + 1) 9 i0 _ 1 16 Tryd.underlying22 hi0 hz0 hz1 hz2 rfl (by decide) _ _ _ rfl hrow4 ⟨w4.heap.size, 0, none⟩ 1 1 [.string (rep n)] rfl ?c0 ?c1 ?c2 ?c3 ?c4 ?c5 ?_))
      case c0 => rfl
      case c1 =>
        intro j u' hj
        rw [Addr.add_lit, Nat.zero_add]
        rw [(Blk.new w4 9 #[.string (rep n)]).cell j]
        simpa using hj
      case c2 => intro u' hu'; simp at hu'; subst hu'; rfl
      case c3 => have := hg.out.len HH.out HG.out; unfold maxLen; omega
      case c4 => have := hg.out.len HH.out HG.out; omega
      case c5 => simp; omega
      intro v' w5 hown' hgrow _
      have hrows : ∀ b, vl.ownBlock = some b → w.heap.size + 1 ≤ b := fun b hb => (hg.out.row.lt b hb).1
      have hml := HH.out.is.lt
      obtain ⟨S, hSr, hSs⟩ : ∃ S : List Nat, (∀ b, vl.ownBlock = some b → b ∈ S) ∧ ∀ s ∈ S, vl.ownBlock = some s := by
        cases hr : vl.ownBlock with
        | none => exact ⟨[], by simp, by simp⟩
        | some r => exact ⟨[r], by simp, by simp⟩
      have hM5 : Tn.Mod S w3 w5 := ((hm4.out.mono (T := S) (by simp)).alloc _).grown hgrow (fun b hb => .inl (hSr b hb))
      have HR5 := hid (HR3.out.of_heap (hM5.block m (by omega) (fun hs => by have := hrows m (hSs m hs); omega)) (hM5.block w.heap.size (by omega) (fun hs => by have := hrows _ (hSs _ hs); omega)))
      have HG5 := hid (show Got w w5 m (fun m' => left m' && !(m' == n)) v' (ps ++ [n]) from by
        refine ⟨by simpa using hown', ?_, fun n' => ?_, HM3.out.trans hM5 (fun s hs => .inr (by have := hrows s (hSs s hs); omega))⟩
        · rw [List.nodup_append]
          refine ⟨hg.out.nd, by simp, ?_⟩
          intro a ha b hb e
          simp at hb
          subst hb
          subst e
          have := ((hg.out.mem a).1 ha).2
          rw [HLN.out] at this
          cases this
        · rw [List.mem_append, hg.out.mem n']
          by_cases hn' : n' = n
          · subst hn'; simp [HW.out]
          · simp [hn'])
      clear hown' hgrow hM5 hrow4 hrow3
      go_wp2
      go_roundw
      case rel => exact ⟨_, _, _, HR5, HG5⟩
      case measure =>
        rw [RngS_left HRO.out, RngS_left HR5.out]
        exact HLT.out
end
end Go.Proofs.YtlhjocgkmeoheaaDoor
