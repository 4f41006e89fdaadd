/- LibraryMoves, walked. -/
import Derived.Test.YtcogjlfdhiomnaaLibE
import Derived.Deep.CutBlock
import Derived.Deep.DeepCutAuto
namespace Go.Proofs.Ytcogjlfdhiomnaa
open Go.RowKit
set_option linter.unusedVariables false
theorem Sat.sizeEx' {w0 w : World} {I : Part} {L : List HP} (h : Sat w0 I L w) : ∃ g, w.heap.size = g := ⟨_, rfl⟩
theorem vsN_len (ps : List Nat) (V : Nat) (h : ps.length = V) : (ps.zip ((List.replicate V (0 : Int)).map vNew)).length = V := by simp [h]
theorem vsN_fine (ps : List Nat) (V : Nat) : fineV (ps.zip ((List.replicate V (0 : Int)).map vNew)) := by
  intro x hx
  have := (List.of_mem_zip hx).2
  simp at this
  rw [this.2]; rfl
/-- a number made one of 0 .. V - 1. -/
def modV (z V : Int) : Int := (z.tmod V + V).tmod V
theorem modV_bd {z V : Int} (h : 1 ≤ V) : -V < z.tmod V ∧ z.tmod V < V ∧ 0 ≤ modV z V ∧ modV z V < V := by
  have h1 := Int.lt_tmod_of_pos z (by omega : 0 < V)
  have h2 : z.tmod V < V := Int.tmod_lt_of_pos z (by omega)
  refine ⟨h1, h2, ?_, ?_⟩
  · exact Int.tmod_nonneg _ (by omega)
  · exact Int.tmod_lt_of_pos _ (by omega)
set_option maxRecDepth 100000 in
set_option maxHeartbeats 400000 in
theorem libraryMoves_walk (vols : Int) (la : Option Addr) (len cap : Nat) (w : World) (hv : (Lit.int .i64 vols).wf = true) (hl : OkT Try.prog w 6 22 [.slice la len cap]) :
    Calls Try.prog 3 #[.int .i64 vols, .slice la len cap] w (RetB (.bool true) w.heap.size w) := by
  obtain ⟨hlc, hcm, zs, hzl, hrd, hzw⟩ := okT_intl hl
  clear hl hv
  have H0 := hid (Sat.start w)
  by_cases h1 : vols < 1
  · go_enter Try.func3, Try.ntmps3
    go_wp2_with fail
    refine (lawake_sat H0.out).mono ?_; rintro e w1 ⟨rfl, S1⟩
    have H1 := hid S1
    clear S1
    go_wp2_with fail
    refine (lawake_sat H1.out).mono ?_; rintro e w2 ⟨rfl, S2⟩
    have H2 := hid S2
    clear S2
    go_wp2_with fail
    go_ret
    exact ⟨rfl, H2.out.toBelow (Part.le_refl _)⟩
  · by_cases h2 : 3 < vols
    · go_enter Try.func3, Try.ntmps3
      go_wp2_with fail
      refine (lawake_sat H0.out).mono ?_; rintro e w1 ⟨rfl, S1⟩
      have H1 := hid S1
      clear S1
      go_wp2_with fail
      refine (lawake_sat H1.out).mono ?_; rintro e w2 ⟨rfl, S2⟩
      have H2 := hid S2
      clear S2
      go_wp2_with fail
      go_ret
      exact ⟨rfl, H2.out.toBelow (Part.le_refl _)⟩
    · obtain ⟨V, rfl⟩ : ∃ V : Nat, vols = (V : Int) := ⟨vols.toNat, by omega⟩
      have v1 : 1 ≤ V := by omega
      have v3 : V ≤ 3 := by omega
      obtain ⟨N, hN⟩ : ∃ N, min len 30 = N := ⟨_, rfl⟩
      have hN1 : N ≤ len := by omega
      have hN2 : N ≤ 30 := by omega
      have hNe : N = len ∨ N = 30 := by omega
      have HNE := hid hNe
      have HRD := hid hrd
      have HZW := hid hzw
      have HZL := hid hzl
      clear hN hrd hzw hzl hNe
      have hmm := @run_makeMap Try.prog
      go_enter Try.func3, Try.ntmps3
      go_wp2_with fail
      refine (lawake_sat H0.out).mono ?_; rintro e w1 ⟨rfl, S1⟩
      have H1 := hid S1
      clear S1 H0
      go_upto_region 3 with fail
      go_cut [5, 6] (fun a b wx => ∃ (qa qb : Nat) (psa psb : List Nat), a = .pointer (some ⟨qa, 0, none⟩) ∧ b = .pointer (some ⟨qb, 0, none⟩) ∧ psa.length = V ∧ psb.length = V ∧
        Sat w (wpart w) [libp qa ⟨psa.zip ((List.replicate V (0 : Int)).map vNew), [⟨-1, 0, 0, false⟩], 0, 0⟩, libp qb ⟨psb.zip ((List.replicate V (0 : Int)).map vNew), [⟨-1, 0, 0, false⟩, ⟨-1, 0, 0, false⟩, ⟨-1, 0, 0, false⟩], 0, 0⟩] wx)
      case first =>
        have HC := H1
        clear H1
        have hmk := run_mkInts V (by omega)
        have hz0 : ∀ z ∈ List.replicate V (0 : Int), -9223372036854775808 ≤ z ∧ z ≤ 9223372036854775807 := by simp
        have hzn : (List.replicate V (0 : Int)).length = V := by simp
        have HZ0 := hid hz0
        have HZN := hid hzn
        have HB9 : Below 0 w1 w1 := Below.refl _ _
        clear hz0 hzn
        go_region_with (first
          | (go_at_call 6; (with_reducible refine (lnew_fr (cs := zsL V) (zs := List.replicate V (0 : Int)) rfl 1 1 (by omega) HZN.out HZ0.out (by omega) (by (repeat' (first | ((with_reducible refine Blk.new' _ _ _ _ ?_); (first | rfl | (simp; done))) | with_reducible refine Blk.drew ?_ | with_reducible refine Blk.drewN ?_ _ | with_reducible refine Blk.alloc ?_ _ | ((with_reducible refine Blk.below ?_ HB9 ?_); rotate_left; focus (simp; done)) | ((with_reducible refine Blk.below ?_ HB9 ?_); rotate_left; focus (simp; omega)))))).mono ?_); rintro e w9 ⟨qa, psa, rfl, hpa, K9⟩; have HB9 := K9.toBelow (Part.le_refl _); have K8 := Sat.frame (w0 := w) (I := wpart w) (L := []) (by (repeat' (first | with_reducible exact HC.out | with_reducible refine Sat.drew ?_ | with_reducible refine Sat.drewN ?_ _ | with_reducible refine Sat.alloc_ ?_ _))) K9; have HC : Hid (Sat w (wpart w) [libp qa ⟨psa.zip ((List.replicate V (0 : Int)).map vNew), List.replicate 1 ⟨-1, 0, 0, false⟩, 0, 0⟩] w9) := hid K8; clear K8; clear K9)
          | (go_at_call 6; (with_reducible refine (lnew_fr (cs := zsL V) (zs := List.replicate V (0 : Int)) rfl 3 3 (by omega) HZN.out HZ0.out (by omega) (by (repeat' (first | ((with_reducible refine Blk.new' _ _ _ _ ?_); (first | rfl | (simp; done))) | with_reducible refine Blk.drew ?_ | with_reducible refine Blk.drewN ?_ _ | with_reducible refine Blk.alloc ?_ _ | ((with_reducible refine Blk.below ?_ HB9 ?_); rotate_left; focus (simp; done)) | ((with_reducible refine Blk.below ?_ HB9 ?_); rotate_left; focus (simp; omega)))))).mono ?_); rintro e w9 ⟨qb, psb, rfl, hpb, K9⟩; have HC := hid (Sat.frame (w0 := w) (I := wpart w) (L := [libp qa ⟨psa.zip ((List.replicate V (0 : Int)).map vNew), List.replicate 1 ⟨-1, 0, 0, false⟩, 0, 0⟩]) (by (repeat' (first | with_reducible exact HC.out | with_reducible refine Sat.drew ?_ | with_reducible refine Sat.drewN ?_ _ | with_reducible refine Sat.alloc_ ?_ _))) K9); clear K9))
        all_goals
          go_wp2_with fail
          go_meet
          exact ⟨qa, qb, psa, psb, rfl, rfl, hpa, hpb, HC.out.swap⟩
      case rest =>
        obtain ⟨qa, qb, psa, psb, rfl, rfl, hpa, hpb, S3⟩ := hcut
        have FA := hid (vsN_fine psa V)
        have FB := hid (vsN_fine psb V)
        have LA := hid (vsN_len psa V hpa)
        have LB := hid (vsN_len psb V hpb)
        generalize psa.zip ((List.replicate V (0 : Int)).map vNew) = va at *
        generalize psb.zip ((List.replicate V (0 : Int)).map vNew) = vb at *
        have H3 := hid S3
        clear S3 hpa hpb
        obtain ⟨mq, hmq⟩ := H3.out.sizeEx'
        go_wp2_with fail
        refine wp_gen (fun w2 => Sat w (wpart w) [bmap mq 0 [], libp qa ⟨va, [⟨-1, 0, 0, false⟩], 0, 0⟩, libp qb ⟨vb, [⟨-1, 0, 0, false⟩, ⟨-1, 0, 0, false⟩, ⟨-1, 0, 0, false⟩], 0, 0⟩] w2) (H3.out.mapNew hmq.symm) ?_
        clear H3 hmq hmm
        intro w2 S2
        go_loopw [7, 8, 10, 11, 12, 13, 14, 15] (fun want last i _ _ _ _ _ wr => ∃ (k : Nat) (last' want' : Int) (c : Nat) (seen : List Int) (SA SB : Lst), k ≤ N ∧ i = .int .i64 k ∧ last = .int .i64 last' ∧ want = .int .i64 want' ∧ c ≤ k ∧ 0 ≤ want' ∧ want' ≤ k ∧ seen.length ≤ k ∧ -1 ≤ last' ∧ last' < (V : Int) ∧ MA va last' want' SA ∧ MB vb seen SB ∧ SA.mounts = k ∧ SB.mounts = k ∧ Sat w (wpart w) [bmap mq c seen, libp qa SA, libp qb SB] wr) (fun _ _ i _ _ _ _ _ _ => N - (intOf i).toNat)
        case atStart => exact ⟨0, -1, 0, 0, [], _, _, Nat.zero_le _, rfl, rfl, rfl, Nat.le_refl _, by omega, by omega, by simp, by omega, by omega, ⟨rfl, ⟨0, rfl⟩, rfl⟩, ⟨rfl, Or.inl ⟨rfl, rfl⟩, by simp, rfl, Int.le_refl _⟩, rfl, rfl, S2⟩
        case round =>
          clear S2
          obtain ⟨k, last, want, c, seen, SA, SB, hk, rfl, rfl, rfl, hc, hw0, hwk, hsk, hl0, hl1, hMA, hMB, hma, hmb, Sr⟩ := hrel
          have HS := hid Sr
          clear Sr
          by_cases hlt : k < N
          · have hzk : k < zs.length := by have := HZL.out; omega
            obtain ⟨b', off, rfl, c9⟩ := HRD.out.get HS.out k (u := .int .i64 zs[k]) (by simp [hzk])
            have hzb := HZW.out zs[k] (List.getElem_mem hzk)
            generalize zs[k] = z at *
            have hV1 : (1 : Int) ≤ (V : Int) := by omega
            obtain ⟨m1, m2, m3, m4⟩ := modV_bd (z := z) hV1
            have hk0 : (0 : Int) ≤ (k : Int) := by omega
            have hk1 : (k : Int) < (len : Int) := by omega
            have hk2 : (k : Int) < 30 := by omega
            obtain ⟨v, hv1⟩ : ∃ v, (z.tmod (V : Int) + (V : Int)) % (V : Int) = v := ⟨_, rfl⟩
            have hv2 : z.tmod (V : Int) % (V : Int) = v := by rw [← hv1, Int.add_emod_right]
            have hv3 : 0 ≤ v := by rw [← hv1]; exact Int.emod_nonneg _ (by omega)
            have hv4 : v < (V : Int) := by rw [← hv1]; exact Int.emod_lt_of_pos _ (by omega)
            have hwf : wfI v := by unfold wfI; omega
            have HWF := hid hwf
            have hva : v < (va.length : Int) := by rw [LA.out]; exact hv4
            have hvb : v < (vb.length : Int) := by rw [LB.out]; exact hv4
            obtain ⟨SA', hA1, hA2, hA3⟩ := hMA.mount FA.out hv3 hva
            obtain ⟨nb, SB', hB1, hB2, hB3⟩ := hMB.mount FB.out (by rw [LB.out]; exact v3) hv3 hvb
            have okA : SA.ok := ⟨by rw [hMA.moves]; exact hw0, by rw [hMA.moves]; omega, by omega, by omega⟩
            have okB : SB.ok := ⟨by rw [hMB.moves]; omega, by rw [hMB.moves]; omega, by omega, by omega⟩
            have hsl : (setAdd seen v).length ≤ k + 1 := by
              unfold setAdd; split
              · omega
              · simp; omega
            have HA1 := hid hA1
            have HA2 := hid hA2
            have HB1 := hid hB1
            have HB2 := hid hB2
            have OKA := hid okA
            have OKB := hid okB
            have HSL := hid hsl
            have HMA := hid (show SA'.mounts = ((k + 1 : Nat) : Int) by omega)
            have HMB := hid (show SB'.mounts = ((k + 1 : Nat) : Int) by omega)
            clear hA1 hA2 hB1 hB2 okA okB hsl hMA hMB hva hvb hma hmb hA3 hB3 hwf m3 m4
            by_cases hvl : v = last
            · have HA2 : Hid (MA va v want SA') := hid (by have h := HA2.out; rw [if_pos hvl] at h; exact h)
              subst hvl
              go_wp2_with (at_mapUpdate; refine wpList_mapPut rfl _ _ _ rfl rfl (by rw [← hv1]; rfl) rfl HS.out HWF.out (by omega) ?_)
              intro w5 S5
              have H5 := hid (S5.pick 1)
              clear S5 HS
              go_wp2_with fail
              refine (lmount_sat OKA.out HA1.out H5.out).mono ?_; rintro e w6 ⟨rfl, S6⟩
              have H6 := hid (S6.pick 2)
              clear S6 H5
              go_wp2_with fail
              refine (lmount_sat OKB.out HB1.out H6.out).mono ?_; rintro e w7 ⟨rfl, S7⟩
              have H7 := hid S7
              clear S7 H6
              go_wp2_with fail
              go_roundw
              case rel => exact ⟨k + 1, v, want, c + 1, setAdd seen v, SA', SB', by omega, by go_num, by (first | rfl | rw [hv1]), rfl, by omega, by omega, by omega, HSL.out, by omega, by omega, HA2.out, HB2.out, HMA.out, HMB.out, H7.out.swap.pick 2⟩
              case measure => (simp [intOf] <;> omega)
            · have HA2 : Hid (MA va v (want + 1) SA') := hid (by have h := HA2.out; rw [if_neg hvl] at h; exact h)
              go_wp2_with (at_mapUpdate; refine wpList_mapPut rfl _ _ _ rfl rfl (by rw [← hv1]; rfl) rfl HS.out HWF.out (by omega) ?_)
              intro w5 S5
              have H5 := hid (S5.pick 1)
              clear S5 HS
              go_wp2_with fail
              refine (lmount_sat OKA.out HA1.out H5.out).mono ?_; rintro e w6 ⟨rfl, S6⟩
              have H6 := hid (S6.pick 2)
              clear S6 H5
              go_wp2_with fail
              refine (lmount_sat OKB.out HB1.out H6.out).mono ?_; rintro e w7 ⟨rfl, S7⟩
              have H7 := hid S7
              clear S7 H6
              go_wp2_with fail
              go_roundw
              case rel => exact ⟨k + 1, v, want + 1, c + 1, setAdd seen v, SA', SB', by omega, by go_num, by (first | rfl | rw [hv1]), by go_num, by omega, by omega, by omega, HSL.out, by omega, by omega, HA2.out, HB2.out, HMA.out, HMB.out, H7.out.swap.pick 2⟩
              case measure => (simp [intOf] <;> omega)
          · obtain rfl : k = N := by omega
            rcases HNE.out with hN | hN
            · have hx : ¬ (k : Int) < (len : Int) := by omega
              clear hN
              have HMAM := hid hMA.moves
              have HMBM := hid hMB.moves
              clear hMA hMB hma hmb
              go_wp2_with fail
              refine (lmoves_sat (N := want) HMAM.out (HS.out.pick 1)).mono ?_; rintro e w5 ⟨rfl, S5⟩
              have H5 := hid (S5.pick 2)
              clear S5 HS
              go_wp2_with fail
              refine (lmoves_sat (N := (seen.length : Int)) HMBM.out H5.out).mono ?_; rintro e w6 ⟨rfl, S6⟩
              have H6 := hid (S6.pick 2)
              clear S6 H5
              go_wp2_with (at_len; refine wpList_mapLenG (by rfl) _ rfl rfl H6.out ?_)
              go_wp2_with fail
              go_ret
              exact ⟨rfl, H6.out.toBelow (Part.le_refl _)⟩
            · have hx : ¬ (k : Int) < 30 := by omega
              clear hN
              by_cases hx2 : (k : Int) < (len : Int)
              · skip
                have HMAM := hid hMA.moves
                have HMBM := hid hMB.moves
                clear hMA hMB hma hmb
                go_wp2_with fail
                refine (lmoves_sat (N := want) HMAM.out (HS.out.pick 1)).mono ?_; rintro e w5 ⟨rfl, S5⟩
                have H5 := hid (S5.pick 2)
                clear S5 HS
                go_wp2_with fail
                refine (lmoves_sat (N := (seen.length : Int)) HMBM.out H5.out).mono ?_; rintro e w6 ⟨rfl, S6⟩
                have H6 := hid (S6.pick 2)
                clear S6 H5
                go_wp2_with (at_len; refine wpList_mapLenG (by rfl) _ rfl rfl H6.out ?_)
                go_wp2_with fail
                go_ret
                exact ⟨rfl, H6.out.toBelow (Part.le_refl _)⟩
              · skip
                have HMAM := hid hMA.moves
                have HMBM := hid hMB.moves
                clear hMA hMB hma hmb
                go_wp2_with fail
                refine (lmoves_sat (N := want) HMAM.out (HS.out.pick 1)).mono ?_; rintro e w5 ⟨rfl, S5⟩
                have H5 := hid (S5.pick 2)
                clear S5 HS
                go_wp2_with fail
                refine (lmoves_sat (N := (seen.length : Int)) HMBM.out H5.out).mono ?_; rintro e w6 ⟨rfl, S6⟩
                have H6 := hid (S6.pick 2)
                clear S6 H5
                go_wp2_with (at_len; refine wpList_mapLenG (by rfl) _ rfl rfl H6.out ?_)
                go_wp2_with fail
                go_ret
                exact ⟨rfl, H6.out.toBelow (Part.le_refl _)⟩
end Go.Proofs.Ytcogjlfdhiomnaa
