/- Volumes: Crash. -/
import Derived.Test.YtekioplbfoonkaaGreatDoorReelD
namespace Go.Proofs.YtekioplbfoonkaaGreatDoor
open Go.RowKit
set_option linter.unusedVariables false
set_option maxRecDepth 100000
set_option maxHeartbeats 20000000
set_option maxRecDepth 100000
section
variable {w0 w : World} {I : Part} {L : List HP} {p : Nat} {v : Vst}
theorem pickM_bd (zs : List Int) (a n : Int) : 0 ≤ pickM zs a n ∧ (1 ≤ n → pickM zs a n < n) ∧ (n < 1 → pickM zs a n = 0) := by
  unfold pickM
  split
  · exact ⟨Int.le_refl _, fun h => by omega, fun _ => rfl⟩
  · rename_i h
    have h1 : 1 ≤ n := by omega
    generalize (zs[a.toNat]?.getD 0) = z
    have hlo : -n < z.tmod n := by
      have := Int.lt_tmod_of_pos z (by omega : 0 < n); omega
    have hhi : z.tmod n < n := Int.tmod_lt_of_pos z (by omega)
    refine ⟨?_, fun _ => ?_, fun h2 => by omega⟩
    · show 0 ≤ if z.tmod n < 0 then z.tmod n + n else z.tmod n
      split <;> omega
    · show (if z.tmod n < 0 then z.tmod n + n else z.tmod n) < n
      split <;> omega
theorem pick_q {a : Option Addr} {cap m : Nat} {zs : List Int} {at_ n V : Int} (hV : pickM zs at_ n = V) (hm : zs.length = m) (hz : Rd I a (zs.map (Value.int .i64))) (hlen : m ≤ 9223372036854775807)
    (hb : ∀ z ∈ zs, -9223372036854775808 ≤ z ∧ z ≤ 9223372036854775807) (hn2 : n ≤ 9223372036854775807) (H : Sat w0 I L w) :
    Calls Tryz.prog 99 #[.slice a m cap, .int .i64 at_, .int .i64 n] w fun e w' => e = .returned (.int .i64 V) ∧ ∃ k, w' = w.drewN k := by
  subst hV hm
  exact pick_any w a cap zs at_ n (hz.ints H) hlen hb hn2
/-- how much of the loose blocks is left. -/
def crashN (v : Vst) (zs : List Int) : Nat := v.sure + (pickM zs 0 ((v.bl.length : Int) - v.sure + 1)).toNat
def crashJ (v : Vst) (zs : List Int) : Nat := if h : crashN v zs < v.bl.length then (pickM zs 1 (v.bl[crashN v zs].s.size : Int)).toNat else 0
def crashB (v : Vst) (zs : List Int) : List Bk := if h : crashN v zs < v.bl.length then (if crashJ v zs = 0 then [] else [⟨v.bl[crashN v zs].s.extract 0 (crashJ v zs), false, true⟩]) else []
def crashV (v : Vst) (zs : List Int) : Vst := {v with bl := v.bl.take (crashN v zs) ++ crashB v zs, sure := crashN v zs + (crashB v zs).length, at_ := 0}
theorem crashN_le (hv : v.ok) (zs : List Int) : v.sure ≤ crashN v zs ∧ crashN v zs ≤ v.bl.length := by
  have h1 := hv.sure
  have := pickM_bd zs 0 ((v.bl.length : Int) - v.sure + 1)
  unfold crashN
  omega
theorem crashJ_le (v : Vst) (zs : List Int) (h : crashN v zs < v.bl.length) : crashJ v zs ≤ v.bl[crashN v zs].s.size ∧ (crashJ v zs : Int) = pickM zs 1 (v.bl[crashN v zs].s.size : Int) := by
  unfold crashJ
  rw [dif_pos h]
  have := pickM_bd zs 1 (v.bl[crashN v zs].s.size : Int)
  omega
theorem cutV_ok (hv : v.ok) (n : Nat) (hn : n ≤ v.bl.length) : (cutV v n).ok := by
  have h1 := wsum_split v.bl n
  have h2 : (v.bl.take n).length = n := by rw [List.length_take]; omega
  have := hv.used; have := hv.len; have := hv.sure; have := hv.at_
  refine ⟨hv.room0, hv.room, ?_, hv.armed0, hv.armed, ?_, ?_, ?_, hv.erased0, hv.erased⟩ <;> (simp only [cutV, h2]; omega)
theorem vtakeU {cs : Value} (u U n : Int) (hT : takeE v.room u n = 0) (hU : takeU v.room u n = U) (hu : 0 ≤ u) (hur : u ≤ v.room) (hr : v.room ≤ 9223372036854775807) (H : Sat w0 I (blk p 118 (v.cellsU u cs) :: L) w) :
    Calls Tryz.prog 101 #[.pointer (some ⟨p, 0, none⟩), .int .i64 n] w fun e w' => e = .returned (.int .i64 0) ∧ Sat w0 I (blk p 118 (v.cellsU U cs) :: L) w' := by
  have h := vtake (cs := v.cellsU u cs) v.room u n rfl rfl hu hur hr H
  rw [hT, hU] at h
  exact h
theorem weight_satE (b : Bk) {W : Int} (hW : (bwt b : Int) = W) (hb : (b.s.size : Int) + 4 ≤ 9223372036854775807) (H : Sat w0 I L w) :
    Calls Tryz.prog 102 #[.agg #[.string b.s, .bool b.mark, .bool b.torn]] w fun e w' => e = .returned (.int .i64 W) ∧ Sat w0 I L w' := hW ▸ weight_sat b hb H
theorem vcrash (ca : Option Addr) (cc zl : Nat) (zs : List Int) (hzl : zs.length = zl) (hzm : zl ≤ 9223372036854775807) (hz : Rd I ca (zs.map (Value.int .i64))) (hb : ∀ z ∈ zs, -9223372036854775808 ≤ z ∧ z ≤ 9223372036854775807)
    (hv : v.ok) {V : Vst} (hA : crashV v zs = V) (H : Sat w0 I (volp p v :: L) w) :
    Calls Tryz.prog 46 #[.pointer (some ⟨p, 0, none⟩), .slice ca zl cc] w fun e w' => e = .returned (.tuple #[]) ∧ Sat w0 I (volp p V :: L) w' := by
  obtain ⟨ad, cap, k1, k2, H1⟩ := H.volOpen
  have c5 := H1.isBlk.cell 5 rfl
  have c6 := H1.isBlk.cell 6 rfl
  have hlen := hv.len
  have hsure := hv.sure
  have HZ := hid hz
  have HB := hid hb
  have hN := crashN_le hv zs
  have q1 : pickM zs 0 ((v.bl.length : Int) - v.sure + 1) = ((crashN v zs - v.sure : Nat) : Int) := by
    have := pickM_bd zs 0 ((v.bl.length : Int) - v.sure + 1)
    unfold crashN; omega
  have hJ := crashJ_le v zs
  unfold crashV at hA
  unfold crashB at hA
  generalize crashN v zs = n at *
  generalize crashJ v zs = j at *
  obtain ⟨q, hq⟩ : ∃ q, n = v.sure + q := ⟨n - v.sure, by omega⟩
  rw [show n - v.sure = q from by omega] at q1
  have Q1 := hid q1
  have hHI := k1
  clear q1 hz hb k1
  by_cases hn : n < v.bl.length
  · rw [dif_pos hn] at hA
    replace hJ := hJ hn
    have hnI : decide (n < v.bl.length) = true := by simp; omega
    have hn1 : (n : Int) < (v.bl.length : Int) := by omega
    have hn0 : (0 : Int) ≤ (n : Int) := by omega
    obtain ⟨g, rfl, e1, e2, e3⟩ := row_elem (i := n) (b := default) (l := v.bl) H1.swap hn
    have hsz := hv.size n hn
    have hwt : wsum (v.bl.take n) + bwt v.bl[n] ≤ wsum v.bl := by
      have h1 := wsum_split v.bl n
      have hdr : v.bl.drop n = v.bl[n] :: v.bl.drop (n + 1) := List.drop_eq_getElem_cons hn
      rw [hdr] at h1; simp only [wsum] at h1; omega
    obtain ⟨s, hs⟩ : ∃ s, v.bl[n].s = s := ⟨_, rfl⟩
    unfold bwt at hwt
    rw [hs] at hA hJ e1 hsz hwt
    have hs := hid hs
    have hwt := hid hwt
    have hj1 : (j : Int) ≤ (s.size : Int) := by omega
    have hj0 : (0 : Int) ≤ (j : Int) := by omega
    have J1 := hid hJ.2.symm
    have hszI : (s.size : Int) ≤ 9223372036854775807 := by omega
    obtain ⟨t, ht⟩ : ∃ t, s.extract 0 j = t := ⟨_, rfl⟩
    have htz : t.size = j := by rw [← ht, ByteArray.size_extract]; omega
    have htw := hid htz
    rw [ht] at hA
    have ht := hid ht
    have HA := hid hA
    clear hJ hA e2 e3 htz
    have HS := hid H1
    have HS0 := hid H
    clear H1 H
    have HL := hid (show n ≤ v.bl.length ∧ (cutV v n).bl.length = n from ⟨by omega, by simp only [cutV, List.length_take]; omega⟩)
    have HN2 := hid (show (v.bl.length : Int) - (v.sure : Int) + 1 ≤ 9223372036854775807 by omega)
    have s1 : IntKind.i64.wrap ((v.bl.length : Int) - (v.sure : Int)) = (v.bl.length : Int) - (v.sure : Int) := IntWalk.i64_in _ (by omega)
    have s2 : IntKind.i64.wrap ((v.bl.length : Int) - (v.sure : Int) + 1) = (v.bl.length : Int) - (v.sure : Int) + 1 := IntWalk.i64_in _ (by omega)
    have s3 : IntKind.i64.wrap ((v.sure : Int) + (q : Int)) = (n : Int) := by rw [IntWalk.i64_in _ (by omega)]; omega
    clear hq hlen hsure hN
    go_enter Tryz.func46, Tryz.ntmps46
    go_wp2_with fail
    go_quiet ((go_at_call 99; exact Calls.quiet_of (pick_q Q1.out hzl HZ.out hzm HB.out HN2.out (HS0.out.drewN _))))
    clear s1 s2 s3
    go_wp2_with fail
    refine (pick_q J1.out hzl HZ.out hzm HB.out (by omega) (HS0.out.drewN _)).mono ?_; rintro e w2 ⟨rfl, m, rfl⟩
    go_wp2_with fail
    try rw [ht.out]
    refine (vcut_at n rfl hv HL.out.1 (HS0.out.drewN _)).mono ?_; rintro e w3 ⟨rfl, S3⟩
    obtain ⟨ad3, cap3, k3, k4, S4⟩ := S3.volOpen
    rw [HL.out.2] at S4
    have d5 : w3.cell? ⟨p, 5, none⟩ = some (.slice ad3 n cap3) := S4.isBlk.cell 5 rfl
    have f5 := S4.isBlk.frozen 5
    have f6 := S4.isBlk.frozen 6
    have d6 : w3.cell? ⟨p, 6, none⟩ = some (.int .i64 ((min v.sure n : Nat) : Int)) := S4.isBlk.cell 6 rfl
    have f7 := S4.isBlk.frozen 7
    have d7 : w3.cell? ⟨p, 7, none⟩ = some (.int .i64 ((min v.at_ n : Nat) : Int)) := S4.isBlk.cell 7 rfl
    have HS4 := hid S4
    clear S3 S4 k3
    by_cases hj : j = 0
    · obtain rfl : t = ⟨#[]⟩ := by
        have h := htw.out
        rw [hj] at h
        exact ByteArray.ext (Array.eq_empty_of_size_eq_zero h)
      have HA := HA.out
      rw [if_pos hj] at HA
      have HA := hid HA
      clear hj
      go_wp2_with fail
      go_returns
      refine ⟨rfl, ?_⟩
      rw [← HA.out]
      refine Sat.volClose (ad := ad3) (cap := cap3) ?_
      have S5 := (HS4.out.set 6 (.int .i64 (n : Int)) rfl).set 7 (.int .i64 0) rfl
      have hl : (v.bl.take n).length = n := by have := HL.out.1; simp only [List.length_take]; omega
      simp only [Vst.cells, cutV, List.append_nil, List.length_nil, Nat.add_zero, hl] at S5 ⊢
      exact S5
    · obtain ⟨x, xs, rfl⟩ : ∃ (x : UInt8) (xs : List UInt8), t = ⟨(x :: xs).toArray⟩ := by
        obtain ⟨⟨l⟩⟩ := t
        cases l with
        | nil => exact absurd htw.out.symm hj
        | cons x xs => exact ⟨x, xs, rfl⟩
      obtain ⟨B, hB⟩ : ∃ B : Bk, (⟨⟨(x :: xs).toArray⟩, false, true⟩ : Bk) = B := ⟨_, rfl⟩
      obtain ⟨W, hW⟩ : ∃ W : Int, (bwt B : Int) = W := ⟨_, rfl⟩
      have hWj : W = (j : Int) + 4 := by rw [← hW, ← hB, ← htw.out]; rfl
      have hBs : (B.s.size : Int) + 4 ≤ 9223372036854775807 := by
        have := htw.out; rw [← hB]; show ((⟨(x :: xs).toArray⟩ : ByteArray).size : Int) + 4 ≤ _; rw [this]; omega
      have hus := hv.used
      have hrm := hv.room
      have hcw : wsum (cutV v n).bl = wsum (v.bl.take n) := rfl
      have hwt2 := hwt.out
      have TE := hid (show takeE v.room ((wsum (v.bl.take n) : Nat) : Int) W = 0 by unfold takeE; rw [if_neg (by omega), if_pos (by omega)])
      have TU := hid (show takeU v.room ((wsum (v.bl.take n) : Nat) : Int) W = ((wsum (v.bl.take n ++ [B]) : Nat) : Int) by unfold takeU; rw [if_neg (by omega), if_pos (by omega), wsum_app]; simp only [wsum]; omega)
      have hur : ((wsum (v.bl.take n) : Nat) : Int) ≤ v.room := by omega
      have HUR := hid hur
      have HRM := hid hrm
      have HW := hid hW
      have HB2 := hid hB
      have HBs := hid hBs
      have hnb : n + 1 ≤ 1048577 := by have := hv.len; omega
      have HA := HA.out
      rw [if_neg hj, hB] at HA
      have HA := hid HA
      clear hW hB hwt2 hBs hus hrm hcw hur hWj
      go_wp2_with fail
      refine wp_gen (fun w5 => Sat w0 I (blk w3.heap.size 186 [.string ⟨(x :: xs).toArray⟩, .bool false, .bool true] :: blk p 118 ((cutV v n).cellsU ((wsum (v.bl.take n) : Nat) : Int) (.slice ad3 n cap3)) :: row 186 3 (.slice ad3 n cap3) n ((v.bl.take n).flatMap bc) :: L) w5) (HS4.out.alloc (b := w3.heap.size) rfl rfl) ?_
      clear d5 d6 d7 f5 f6 f7
      intro w5 S5
      have d0 := S5.isBlk.cell 0 rfl
      have d1 := S5.isBlk.cell 1 rfl
      have d2 := S5.isBlk.cell 2 rfl
      have HS5 := hid S5
      clear S5
      rename Hid (Sat w0 I _ w5) => HS5
      go_region_with (first
        | (go_at_call 102; go_loud (refine (weight_satE ⟨⟨(x :: xs).toArray⟩, false, true⟩ (W := W) (by rw [HB2.out]; exact HW.out) (by rw [HB2.out]; exact HBs.out) HS5.out.drew).mono ?_); rintro e w6 ⟨rfl, S6'⟩; have S6 := hid S6'; clear S6')
        | (go_at_call 101; refine (vtakeU (v := cutV v n) _ _ _ TE.out TU.out (Int.natCast_nonneg _) HUR.out HRM.out S6.out.swap).mono ?_; rintro e w7 ⟨rfl, S7'⟩; have S7 := hid S7'; clear S7'))
      all_goals
        have S8 := S7.out
        have c5 : w7.cell? ⟨p, 5, none⟩ = some (.slice ad3 n cap3) := S8.isBlk.cell 5 rfl
        have f5 := S8.isBlk.frozen 5
        have d0 := S8.swap.isBlk.cell 0 rfl
        have d1 := S8.swap.isBlk.cell 1 rfl
        have d2 := S8.swap.isBlk.cell 2 rfl
        have c5' : ∀ o, (w7.alloc o).cell? ⟨p, 5, none⟩ = some (.slice ad3 n cap3) := fun o => (S8.alloc_ o).isBlk.cell 5 rfl
        clear S8
        go_wp2_with fail
        go_region_law (refine step_appS (w := w7.drew) slBlk (by rfl) (.tmp 64) (.tmp 66) (by rfl) (S7.out.pick 2).drew (bc ⟨⟨(x :: xs).toArray⟩, false, true⟩) (by rfl) (by rfl) (by rfl) (by rfl) (bc_one1 _) (by omega) (by omega) ?_; intro ad4 cap4 w8 k5 k6 S9; have q5 := S9.swap.isBlk.cell 5 rfl; have z5 := S9.swap.isBlk.frozen 5; have q6 := S9.swap.isBlk.cell 6 rfl; have z6 := S9.swap.isBlk.frozen 6; have q7 := S9.swap.isBlk.cell 7 rfl; have z7 := S9.swap.isBlk.frozen 7)
      all_goals
        have S10 := hid (((S9.set1 5 (.slice ad4 (n + 1) cap4) rfl).set1 6 (.int .i64 ((n + 1 : Nat) : Int)) rfl).set1 7 (.int .i64 0) rfl)
        clear S9
        go_wp2_with fail
        go_returns
        refine ⟨rfl, ?_⟩
        rw [← HA.out]
        have S11 := (S10.out.pick 2).drop.swap
        have hl : (v.bl.take n ++ [B]).length = n + 1 := by have := HL.out.1; simp only [List.length_append, List.length_take, List.length_singleton]; omega
        have hfm : (v.bl.take n ++ [B]).flatMap bc = (v.bl.take n).flatMap bc ++ bc ⟨⟨(x :: xs).toArray⟩, false, true⟩ := by rw [List.flatMap_append, HB2.out]; simp
        refine Sat.volClose (ad := ad4) (cap := cap4) ?_
        simp only [Vst.cells, Vst.cellsU, cutV, hl, hfm, List.length_singleton] at S11 ⊢
        exact S11
  · rw [dif_neg hn] at hA
    clear hJ
    have HA := hid hA
    have hnI : decide (n < v.bl.length) = false := by simp; omega
    clear hA hn
    have HS := hid H1
    have HS0 := hid H
    clear H1 H
    have HL := hid (show n ≤ v.bl.length ∧ (cutV v n).bl.length = n from ⟨by omega, by simp only [cutV, List.length_take]; omega⟩)
    have HN2 := hid (show (v.bl.length : Int) - (v.sure : Int) + 1 ≤ 9223372036854775807 by omega)
    have s1 : IntKind.i64.wrap ((v.bl.length : Int) - (v.sure : Int)) = (v.bl.length : Int) - (v.sure : Int) := IntWalk.i64_in _ (by omega)
    have s2 : IntKind.i64.wrap ((v.bl.length : Int) - (v.sure : Int) + 1) = (v.bl.length : Int) - (v.sure : Int) + 1 := IntWalk.i64_in _ (by omega)
    have s3 : IntKind.i64.wrap ((v.sure : Int) + (q : Int)) = (n : Int) := by rw [IntWalk.i64_in _ (by omega)]; omega
    clear hq hlen hsure hN
    go_enter Tryz.func46, Tryz.ntmps46
    go_wp2_with fail
    go_quiet ((go_at_call 99; exact Calls.quiet_of (pick_q Q1.out hzl HZ.out hzm HB.out HN2.out (HS0.out.drewN _))))
    clear s1 s2 s3
    go_wp2_with fail
    refine (vcut_at n rfl hv HL.out.1 (HS0.out.drewN _)).mono ?_; rintro e w3 ⟨rfl, S3⟩
    obtain ⟨ad3, cap3, k3, k4, S4⟩ := S3.volOpen
    rw [HL.out.2] at S4
    have d5 : w3.cell? ⟨p, 5, none⟩ = some (.slice ad3 n cap3) := S4.isBlk.cell 5 rfl
    have f5 := S4.isBlk.frozen 5
    have f6 := S4.isBlk.frozen 6
    have d6 : w3.cell? ⟨p, 6, none⟩ = some (.int .i64 ((min v.sure n : Nat) : Int)) := S4.isBlk.cell 6 rfl
    have f7 := S4.isBlk.frozen 7
    have d7 : w3.cell? ⟨p, 7, none⟩ = some (.int .i64 ((min v.at_ n : Nat) : Int)) := S4.isBlk.cell 7 rfl
    have HS4 := hid S4
    clear S3 S4 k3
    go_wp2_with fail
    go_returns
    refine ⟨rfl, ?_⟩
    rw [← HA.out]
    refine Sat.volClose (ad := ad3) (cap := cap3) ?_
    have S5 := (HS4.out.set 6 (.int .i64 (n : Int)) rfl).set 7 (.int .i64 0) rfl
    have hl : (v.bl.take n).length = n := by have := HL.out.1; simp only [List.length_take]; omega
    simp only [Vst.cells, cutV, List.append_nil, List.length_nil, Nat.add_zero, hl] at S5 ⊢
    exact S5
end
end Go.Proofs.YtekioplbfoonkaaGreatDoor
