/- Volumes: cut. -/
import Derived.Test.YtekioplbfoonkaaGreatDoorReelB
import Derived.Test.YtekioplbfoonkaaGreatDoorClear
namespace Go.Proofs.YtekioplbfoonkaaGreatDoor
open Go.RowKit
set_option linter.unusedVariables false
set_option maxRecDepth 100000
set_option maxHeartbeats 20000000
set_option maxRecDepth 100000
section
variable {w0 w : World} {I : Part} {L : List HP} {p : Nat} {v : Vst}
def cutV (v : Vst) (n : Nat) : Vst := {v with bl := v.bl.take n, sure := min v.sure n, at_ := min v.at_ n}
def Vst.cellsU (v : Vst) (u : Int) (sv : Value) : List Value := [.int .i64 v.room, .int .i64 u, .bool v.lost, .int .i64 v.armed, .string v.label, sv, .int .i64 v.sure, .int .i64 v.at_, .int .i64 v.erased, .bool v.prot]
theorem used_cs {cs : List Value} {u : Int} (hu : cs[1]? = some (.int .i64 u)) (H : Sat w0 I (blk p 118 cs :: L) w) :
    Calls Tryz.prog 140 #[.pointer (some ⟨p, 0, none⟩)] w fun e w' => e = .returned (.int .i64 u) ∧ Sat w0 I (blk p 118 cs :: L) w' :=
  ret_sat (used_any w p 0 u (H.isBlk.cell 1 hu)) H
theorem give_cs {sv : Value} {U W U' N : Int} (hU : U = W + U') (hW : 0 ≤ W) (hU' : 0 ≤ U') (hm : U ≤ 9223372036854775807) (hN : N = W) (H : Sat w0 I (blk p 118 (v.cellsU U sv) :: L) w) :
    Calls Tryz.prog 139 #[.pointer (some ⟨p, 0, none⟩), .int .i64 N] w fun e w' => e = .returned (.int .i64 0) ∧ Sat w0 I (blk p 118 (v.cellsU U' sv) :: L) w' := by
  have hn : N = W := hN
  refine (give_eq w p 0 U N (E := 0) (U := U') (by unfold giveE; rw [if_neg (by omega)]) (by unfold giveU; rw [if_neg (by omega)]; omega) (H.isBlk.cell 1 rfl) (H.isBlk.frozen 1) (by omega) hm).mono ?_
  rintro e w' ⟨rfl, m, rfl⟩
  exact ⟨rfl, Sat.drewN (H.set 1 _ rfl) m⟩
theorem zeroBk : ∀ w, (zeroValue 186).run Tryz.prog w = .ok (.agg #[.string ⟨#[]⟩, .bool false, .bool false]) w := fun w => by simp [go_sem]
theorem zeroBk_one : ∀ v ∈ (Value.agg #[.string ⟨#[]⟩, .bool false, .bool false]).cells.toList, v.oneCell' = true := by
  intro v hv; simp [Value.cells] at hv; rcases hv with rfl | rfl | rfl <;> rfl
theorem wsum_split (l : List Bk) (n : Nat) : wsum (l.take n) + wsum (l.drop n) = wsum l := by rw [← wsum_app, List.take_append_drop]
theorem cut_le (hv : v.ok) (n k : Nat) : ((wsum (v.bl.take n) + wsum (v.bl.drop (n + k)) : Nat) : Int) ≤ 9223372036854775807 := by
  have h1 := wsum_split v.bl n
  have h2 := hv.used
  have h3 := hv.room
  have h4 := wsum_split (v.bl.drop n) k
  rw [List.drop_drop] at h4
  omega
theorem cut_next (n k : Nat) (h : n + k < v.bl.length) : ((wsum (v.bl.take n) + wsum (v.bl.drop (n + k)) : Nat) : Int) = (bwt v.bl[n + k] : Int) + ((wsum (v.bl.take n) + wsum (v.bl.drop (n + (k + 1))) : Nat) : Int) := by
  have hdr : v.bl.drop (n + k) = v.bl[n + k] :: v.bl.drop (n + k + 1) := List.drop_eq_getElem_cons h
  rw [hdr]; simp only [wsum, Nat.add_assoc]; omega
theorem vcut (n : Nat) (hv : v.ok) (hn : n ≤ v.bl.length) (H : Sat w0 I (volp p v :: L) w) :
    Calls Tryz.prog 100 #[.pointer (some ⟨p, 0, none⟩), .int .i64 (n : Int)] w fun e w' => e = .returned (.tuple #[]) ∧ Sat w0 I (volp p (cutV v n) :: L) w' := by
  obtain ⟨ad, cap, k1, k2, H1⟩ := H.volOpen
  have c5 := H1.isBlk.cell 5 rfl
  have hlen := hv.len
  have hI : (n : Int) ≤ (v.bl.length : Int) := by omega
  have hI2 : (v.bl.length : Int) ≤ (cap : Int) := by omega
  have h1 := H1.swap.isRow
  rcases h1 with ⟨hl, ⟨hx, h0⟩ | ⟨g, c', cur, hx, -, hh, -, -, -, -⟩⟩
  · simp only [Value.slice.injEq] at hx
    obtain ⟨rfl, _, rfl⟩ := hx
    obtain rfl : n = 0 := by omega
    have hnil : v.bl = [] := List.eq_nil_of_length_eq_zero (by omega)
    have hcut : cutV v 0 = {v with sure := 0, at_ := 0} := by unfold cutV; simp [hnil]
    have hs0 : v.sure = 0 := by have := hv.sure; omega
    have ha0 : v.at_ = 0 := by have := hv.at_; omega
    have hc : cutV v 0 = v := by rw [hcut]; cases v; simp_all
    rw [hc]
    have c6 : w.cell? ⟨p, 6, none⟩ = some (.int .i64 v.sure) := H1.isBlk.cell 6 rfl
    have c7 : w.cell? ⟨p, 7, none⟩ = some (.int .i64 v.at_) := H1.isBlk.cell 7 rfl
    have f5 := H1.isBlk.frozen 5
    have f6 := H1.isBlk.frozen 6
    have f7 := H1.isBlk.frozen 7
    have S6 := ((H1.set 5 (.slice none 0 0) rfl).set 6 (.int .i64 0) rfl).set 7 (.int .i64 0) rfl
    have S7 : Sat w0 I (volp p v :: L) (((w.setCell ⟨p, 5, none⟩ (.slice none 0 0)).setCell ⟨p, 6, none⟩ (.int .i64 0)).setCell ⟨p, 7, none⟩ (.int .i64 0)) := by
      refine Sat.volClose (v := v) (ad := none) (cap := 0) ?_
      rw [h0] at S6 ⊢
      unfold Vst.cells at S6 ⊢
      rw [hs0, ha0] at S6 ⊢
      exact S6
    rw [h0] at c5
    rw [hs0] at c6
    rw [ha0] at c7
    have HS7 := hid S7
    have hrun : ∀ w, Sem.run Tryz.prog (Builtin.clear_ #[116] 0 #[.slice none 0 0]) w = .ok (.tuple #[]) w := fun w => by simp [Builtin.clear_, run_underlying Tryz.underlying116]
    clear S6 S7 H H1 hc hcut hs0 ha0 h0 hl hnil hlen hI hI2 k1 k2 hn
    go_enter Tryz.func100, Tryz.ntmps100
    go_wp2_with fail
    go_loop [5, 13] (fun _ i => i = .int .i64 0) (fun _ _ => 0)
    case atStart => rfl
    case round =>
      subst hrel
      go_wp2_with fail
      go_returns
      exact ⟨rfl, HS7.out⟩
  · simp only [Value.slice.injEq, true_and] at hx
    obtain ⟨rfl, rfl⟩ := hx
    by_cases z1 : n < v.bl.length
    · have hc1 : ¬ cap = n := by omega
      have hm : ((v.bl.length - n : Nat) : Int) ≤ 1048576 := by omega
      have HS := hid H1
      clear H H1 hl hh
      go_enter Tryz.func100, Tryz.ntmps100
      go_wp2_with fail
      clear c5
      go_loopw [5, 13] (fun _ i wr => ∃ k : Nat, k ≤ v.bl.length - n ∧ i = .int .i64 k ∧ Sat w0 I (blk p 118 (v.cellsU ((wsum (v.bl.take n) + wsum (v.bl.drop (n + k)) : Nat) : Int) (.slice (some ⟨g, 0, none⟩) v.bl.length cap)) :: row 186 3 (.slice (some ⟨g, 0, none⟩) v.bl.length cap) v.bl.length (v.bl.flatMap bc) :: L) wr) (fun _ i _ => v.bl.length - n - (intOf i).toNat)
      case atStart =>
        refine ⟨0, Nat.zero_le _, rfl, ?_⟩
        rw [Nat.add_zero, wsum_split]
        exact HS.out
      case round =>
        obtain ⟨k, hk, rfl, S⟩ := hrel
        by_cases hlt : k < v.bl.length - n
        · obtain ⟨g', eg, e1, e2, e3⟩ := row_elem (i := n + k) (b := default) (l := v.bl) S.swap (by omega)
          cases eg
          rw [Nat.add_mul] at e1 e2 e3
          have hsz := hv.size (n + k) (by omega)
          have hU := cut_next (v := v) n k (by omega)
          have hUm := cut_le hv n k
          generalize ((wsum (v.bl.take n) + wsum (v.bl.drop (n + k)) : Nat) : Int) = U at *
          generalize hU' : ((wsum (v.bl.take n) + wsum (v.bl.drop (n + (k + 1))) : Nat) : Int) = U' at *
          have hU0 : 0 ≤ U' := by omega
          generalize v.bl[n + k] = x at *
          have HU := hid hU
          have HU' := hid hU'
          have HSZ := hid hsz
          have HUM := hid hUm
          have HS2 := hid S
          have hkI : (k : Int) < ((v.bl.length - n : Nat) : Int) := by omega
          clear hU hU' hsz S hUm
          go_wp2_with fail
          refine wp_gen (fun w2 => Sat w0 I (blk wr.heap.size 186 (bc x) :: blk p 118 (v.cellsU U (.slice (some ⟨g, 0, none⟩) v.bl.length cap)) :: row 186 3 (.slice (some ⟨g, 0, none⟩) v.bl.length cap) v.bl.length (v.bl.flatMap bc) :: L) w2) (HS2.out.alloc (b := wr.heap.size) rfl rfl) ?_
          clear e1 e2 e3
          intro w2 S2
          have d0 := S2.isBlk.cell 0 rfl
          have d1 := S2.isBlk.cell 1 rfl
          have d2 := S2.isBlk.cell 2 rfl
          have hwu : (if U < (bwt x : Int) then U else (bwt x : Int)) = (bwt x : Int) := if_neg (by have := HU.out; omega)
          have HS3 := hid S2
          have HLT := hid hlt
          have hkb : (k : Int) ≤ 1048576 := by omega
          clear S2 hlt hk hkI hm hI hI2 hc1 hlen hn z1 k1 k2
          go_region_with (first
            | (go_at_call 102; refine (weight_sat x HSZ.out HS3.out.drew).mono ?_; rintro e w3 ⟨rfl, S4'⟩; have S4 := hid S4'; clear S4')
            | (go_at_call 140; refine (used_cs (cs := v.cellsU U (.slice (some ⟨g, 0, none⟩) v.bl.length cap)) (u := U) rfl S4.out.swap).mono ?_; rintro e w4 ⟨rfl, S5'⟩; have S5 := hid S5'; clear S5')
            | (go_at_call 139; refine (give_cs HU.out (Int.natCast_nonneg _) hU0 HUM.out (N := (bwt x : Int)) rfl S5.out).mono ?_; rintro e w6 ⟨rfl, S6'⟩; have S6 := hid S6'; clear S6'))
          all_goals
            go_wp2_with fail
            go_roundw
            case rel => exact ⟨k + 1, by have := HLT.out; omega, by go_num, by rw [HU'.out]; exact S6.out.swap.drop⟩
            case measure => have := HLT.out; (simp [intOf] <;> omega)
        · obtain rfl : k = v.bl.length - n := by omega
          have hU : ((wsum (v.bl.take n) + wsum (v.bl.drop (n + (v.bl.length - n))) : Nat) : Int) = ((wsum (v.bl.take n) : Nat) : Int) := by
            rw [show n + (v.bl.length - n) = v.bl.length from by omega, List.drop_length]; simp [wsum]
          rw [hU] at S
          clear hU
          have c5 : wr.cell? ⟨p, 5, none⟩ = some (.slice (some ⟨g, 0, none⟩) v.bl.length cap) := S.isBlk.cell 5 rfl
          have HS2 := hid S.swap
          clear S
          obtain ⟨w5, hrun, S5⟩ := run_clear_sat (sz := 3) (t := 116) (ty := 0) (c := cap - n) Tryz.underlying116 zeroBk rfl zeroBk_one HS2.out hn rfl (some ⟨g, n * 3, none⟩) (fun _ => rfl) ⟨_, rfl⟩
          have c5 : w5.cell? ⟨p, 5, none⟩ = some (.slice (some ⟨g, 0, none⟩) v.bl.length cap) := S5.swap.isBlk.cell 5 rfl
          have c6 : w5.cell? ⟨p, 6, none⟩ = some (.int .i64 v.sure) := S5.swap.isBlk.cell 6 rfl
          have c7 : w5.cell? ⟨p, 7, none⟩ = some (.int .i64 v.at_) := S5.swap.isBlk.cell 7 rfl
          have f5 := S5.swap.isBlk.frozen 5
          have f6 := S5.swap.isBlk.frozen 6
          have f7 := S5.swap.isBlk.frozen 7
          have HS5 := hid S5
          clear S5 HS2
          go_wp2_with (first | (refine wpList_min (o := ⟨some 50, _, _, _, _, _⟩) rfl rfl rfl rfl (m := ((min v.sure n : Nat) : Int)) (by omega) ?_) | (refine wpList_min (o := ⟨some 59, _, _, _, _, _⟩) rfl rfl rfl rfl (m := ((min v.at_ n : Nat) : Int)) (by omega) ?_))
          go_returns
          refine ⟨rfl, ?_⟩
          have S6 := ((HS5.out.swap.set 5 (.slice (some ⟨g, 0, none⟩) n cap) rfl).set 6 (.int .i64 ((min v.sure n : Nat) : Int)) rfl).set 7 (.int .i64 ((min v.at_ n : Nat) : Int)) rfl
          rw [flat_take bc bc_len v.bl n] at S6
          have hln : (v.bl.take n).length = n := by rw [List.length_take]; omega
          refine Sat.volClose (v := cutV v n) (ad := some ⟨g, 0, none⟩) (cap := cap) ?_
          unfold cutV
          simp only [Vst.cells, hln]
          exact S6
    · by_cases hc1 : cap = n
      · obtain rfl : n = cap := hc1.symm
        clear hc1
        have HS := hid H1
        clear H H1 hl hh
        go_enter Tryz.func100, Tryz.ntmps100
        go_wp2_with fail
        clear c5
        go_loopw [5, 13] (fun _ i wr => ∃ k : Nat, k ≤ v.bl.length - n ∧ i = .int .i64 k ∧ Sat w0 I (blk p 118 (v.cellsU ((wsum (v.bl.take n) + wsum (v.bl.drop (n + k)) : Nat) : Int) (.slice (some ⟨g, 0, none⟩) v.bl.length n)) :: row 186 3 (.slice (some ⟨g, 0, none⟩) v.bl.length n) v.bl.length (v.bl.flatMap bc) :: L) wr) (fun _ i _ => v.bl.length - n - (intOf i).toNat)
        case atStart =>
          refine ⟨0, Nat.zero_le _, rfl, ?_⟩
          rw [Nat.add_zero, wsum_split]
          exact HS.out
        case round =>
          obtain ⟨k, hk, rfl, S⟩ := hrel
          by_cases hlt : k < v.bl.length - n
          · omega
          · obtain rfl : k = v.bl.length - n := by omega
            have hU : ((wsum (v.bl.take n) + wsum (v.bl.drop (n + (v.bl.length - n))) : Nat) : Int) = ((wsum (v.bl.take n) : Nat) : Int) := by
              rw [show n + (v.bl.length - n) = v.bl.length from by omega, List.drop_length]; simp [wsum]
            rw [hU] at S
            clear hU
            have c5 : wr.cell? ⟨p, 5, none⟩ = some (.slice (some ⟨g, 0, none⟩) v.bl.length n) := S.isBlk.cell 5 rfl
            have HS2 := hid S.swap
            clear S
            obtain ⟨w5, hrun, S5⟩ := run_clear_sat (sz := 3) (t := 116) (ty := 0) (c := 0) (m := 0) Tryz.underlying116 zeroBk rfl zeroBk_one HS2.out hn (by omega) (some ⟨g, 0, none⟩) (fun h => absurd h z1) ⟨_, rfl⟩
            have c5 : w5.cell? ⟨p, 5, none⟩ = some (.slice (some ⟨g, 0, none⟩) v.bl.length n) := S5.swap.isBlk.cell 5 rfl
            have c6 : w5.cell? ⟨p, 6, none⟩ = some (.int .i64 v.sure) := S5.swap.isBlk.cell 6 rfl
            have c7 : w5.cell? ⟨p, 7, none⟩ = some (.int .i64 v.at_) := S5.swap.isBlk.cell 7 rfl
            have f5 := S5.swap.isBlk.frozen 5
            have f6 := S5.swap.isBlk.frozen 6
            have f7 := S5.swap.isBlk.frozen 7
            have HS5 := hid S5
            clear S5 HS2
            go_wp2_with (first | (refine wpList_min (o := ⟨some 50, _, _, _, _, _⟩) rfl rfl rfl rfl (m := ((min v.sure n : Nat) : Int)) (by omega) ?_) | (refine wpList_min (o := ⟨some 59, _, _, _, _, _⟩) rfl rfl rfl rfl (m := ((min v.at_ n : Nat) : Int)) (by omega) ?_))
            go_returns
            refine ⟨rfl, ?_⟩
            have S6 := ((HS5.out.swap.set 5 (.slice (some ⟨g, 0, none⟩) n n) rfl).set 6 (.int .i64 ((min v.sure n : Nat) : Int)) rfl).set 7 (.int .i64 ((min v.at_ n : Nat) : Int)) rfl
            rw [flat_take bc bc_len v.bl n] at S6
            have hln : (v.bl.take n).length = n := by rw [List.length_take]; omega
            refine Sat.volClose (v := cutV v n) (ad := some ⟨g, 0, none⟩) (cap := n) ?_
            unfold cutV
            simp only [Vst.cells, hln]
            exact S6
      · skip
        have HS := hid H1
        clear H H1 hl hh
        go_enter Tryz.func100, Tryz.ntmps100
        go_wp2_with fail
        clear c5
        go_loopw [5, 13] (fun _ i wr => ∃ k : Nat, k ≤ v.bl.length - n ∧ i = .int .i64 k ∧ Sat w0 I (blk p 118 (v.cellsU ((wsum (v.bl.take n) + wsum (v.bl.drop (n + k)) : Nat) : Int) (.slice (some ⟨g, 0, none⟩) v.bl.length cap)) :: row 186 3 (.slice (some ⟨g, 0, none⟩) v.bl.length cap) v.bl.length (v.bl.flatMap bc) :: L) wr) (fun _ i _ => v.bl.length - n - (intOf i).toNat)
        case atStart =>
          refine ⟨0, Nat.zero_le _, rfl, ?_⟩
          rw [Nat.add_zero, wsum_split]
          exact HS.out
        case round =>
          obtain ⟨k, hk, rfl, S⟩ := hrel
          by_cases hlt : k < v.bl.length - n
          · omega
          · obtain rfl : k = v.bl.length - n := by omega
            have hU : ((wsum (v.bl.take n) + wsum (v.bl.drop (n + (v.bl.length - n))) : Nat) : Int) = ((wsum (v.bl.take n) : Nat) : Int) := by
              rw [show n + (v.bl.length - n) = v.bl.length from by omega, List.drop_length]; simp [wsum]
            rw [hU] at S
            clear hU
            have c5 : wr.cell? ⟨p, 5, none⟩ = some (.slice (some ⟨g, 0, none⟩) v.bl.length cap) := S.isBlk.cell 5 rfl
            have HS2 := hid S.swap
            clear S
            obtain ⟨w5, hrun, S5⟩ := run_clear_sat (sz := 3) (t := 116) (ty := 0) (c := cap - n) Tryz.underlying116 zeroBk rfl zeroBk_one HS2.out hn rfl (some ⟨g, n * 3, none⟩) (fun _ => rfl) ⟨_, rfl⟩
            have c5 : w5.cell? ⟨p, 5, none⟩ = some (.slice (some ⟨g, 0, none⟩) v.bl.length cap) := S5.swap.isBlk.cell 5 rfl
            have c6 : w5.cell? ⟨p, 6, none⟩ = some (.int .i64 v.sure) := S5.swap.isBlk.cell 6 rfl
            have c7 : w5.cell? ⟨p, 7, none⟩ = some (.int .i64 v.at_) := S5.swap.isBlk.cell 7 rfl
            have f5 := S5.swap.isBlk.frozen 5
            have f6 := S5.swap.isBlk.frozen 6
            have f7 := S5.swap.isBlk.frozen 7
            have HS5 := hid S5
            clear S5 HS2
            go_wp2_with (first | (refine wpList_min (o := ⟨some 50, _, _, _, _, _⟩) rfl rfl rfl rfl (m := ((min v.sure n : Nat) : Int)) (by omega) ?_) | (refine wpList_min (o := ⟨some 59, _, _, _, _, _⟩) rfl rfl rfl rfl (m := ((min v.at_ n : Nat) : Int)) (by omega) ?_))
            go_returns
            refine ⟨rfl, ?_⟩
            have S6 := ((HS5.out.swap.set 5 (.slice (some ⟨g, 0, none⟩) n cap) rfl).set 6 (.int .i64 ((min v.sure n : Nat) : Int)) rfl).set 7 (.int .i64 ((min v.at_ n : Nat) : Int)) rfl
            rw [flat_take bc bc_len v.bl n] at S6
            have hln : (v.bl.take n).length = n := by rw [List.length_take]; omega
            refine Sat.volClose (v := cutV v n) (ad := some ⟨g, 0, none⟩) (cap := cap) ?_
            unfold cutV
            simp only [Vst.cells, hln]
            exact S6
end
end Go.Proofs.YtekioplbfoonkaaGreatDoor
