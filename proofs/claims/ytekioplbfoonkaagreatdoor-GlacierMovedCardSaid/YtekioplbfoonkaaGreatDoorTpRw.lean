/- Layer 7: Read, walked. -/
import Derived.Test.YtekioplbfoonkaaGreatDoorTpR
import Derived.BigQuiet
import Derived.Lib.SlicesS
import Derived.IntWalk
import Derived.Deep.CutBlock
import Derived.Deep.RegionHeld3
import Derived.Deep.DeepCutAuto
namespace Go.Proofs.YtekioplbfoonkaaGreatDoor
open Go.RowKit
set_option linter.unusedVariables false
set_option maxRecDepth 100000
set_option maxHeartbeats 1000000
theorem wsum_mem {l : List Bk} {b : Bk} (h : b ∈ l) : b.s.size ≤ wsum l := by
  induction l with
  | nil => cases h
  | cons a l ih =>
    unfold wsum bwt
    rcases List.mem_cons.1 h with rfl | h
    · omega
    · have := ih h; omega
theorem readS_size {v V : Vst} (h : v.fit) {s : ByteArray} {m : Bool} {E : Int} (hA : readS v = ((s, m, E), V)) : s.size ≤ 9223372036854775807 := by
  unfold readS at hA
  have := h.ok.used; have := h.room
  split at hA
  · split at hA
    · rename_i hlt
      split at hA
      · cases hA; decide
      · cases hA
        have := wsum_mem (List.getElem_mem hlt)
        omega
    · cases hA; decide
  · cases hA; decide
section
variable {w0 w : World} {I : Part} {L : List HP} {p : Nat} {v : Vst}
theorem blenF_sat {b : Nat} {l : List UInt8} (H : Sat w0 I (bldF b l :: L) w) {N : Int} (hN : (l.length : Int) = N) :
    Calls Tryz.prog 108 #[.pointer (some ⟨b, 0, none⟩)] w fun e w' => e = .returned (.int .i64 N) ∧ Sat w0 I (bldF b l :: L) w' := by
  subst hN
  obtain ⟨ad, cp, c1⟩ : ∃ ad cp, w.cell? ⟨b, 1, none⟩ = some (.slice ad l.length cp) := by
    obtain ⟨h, hg, ⟨pv, sv, hh⟩, r⟩ := H.sep
    rcases hh with ⟨h0, hsv, hb⟩ | ⟨h0, hs⟩
    · subst h0 hsv
      have S : Sat w0 I (blk b 190 [pv, .slice none 0 0] :: L) w := ⟨H.os, H.tape, H.output, H.size, H.imm, h, hg, hb, r⟩
      exact ⟨_, _, S.isBlk.cell 1 rfl⟩
    · have S : Sat w0 I (blk b 190 [pv, sv] :: frz sv l :: L) w := Sat.flat (M := [_, _]) ⟨H.os, H.tape, H.output, H.size, H.imm, h, hg, hs, r⟩
      obtain ⟨x, ⟨g, cap, cur, fr, rfl, k1, k2, hx, k3, k4⟩, hle, kk⟩ := S.swap.elim
      exact ⟨_, _, S.isBlk.cell 1 rfl⟩
  refine ret_sat ?_ H
  clear H
  go_enter Tryz.func108, Tryz.ntmps108
  go_wp2
  go_ret
  exact ⟨rfl, 0, rfl⟩
set_option maxHeartbeats 12000000 in
theorem tread_sat (hT : Rd I (some ⟨0, 0, none⟩) tabV) (hv : v.fit) {lab : ByteArray} (hlab : v.label = lab) (frm : Int) (hfrm : -9223372036854775808 ≤ frm ∧ frm ≤ 1000000000) (blob : Nat) {e1 : Int} {v1 : Vst} (hs : seekS v frm = (e1, v1)) {N : Nat} (hN : N ≤ 4000) {R : List UInt8 × Int × Vst}
    (hR : e1 = 0 → RdR lab frm blob N v1 0 [] R) (hE : e1 ≠ 0 → R = ([], e1, v1)) (H : Sat w0 I (volp p v :: L) w) :
    Calls Tryz.prog 51 #[.pointer (some ⟨p, 0, none⟩), .int .i64 frm, .int .u64 (blob : Int)] w fun e w' => e = .returned (.tuple #[.string ⟨R.1.toArray⟩, .int .i64 R.2.1]) ∧ Sat w0 I (volp p R.2.2 :: L) w' := by
  have HT := hid hT
  have HS := hid H
  have HV := hid hv
  have HSK := hid hs
  obtain ⟨f1, l1⟩ := hv.seek frm
  rw [hs] at f1 l1
  have HF1 := hid f1
  have HL1 := hid (l1.trans hlab)
  clear hT H hv hs f1 l1 hlab
  by_cases z1 : e1 = 0
  · subst z1
    have HR := hid (hR rfl)
    clear hR hE
    go_enter Tryz.func51, Tryz.ntmps51
    go_wp2_with fail
    refine (vseek frm HV.out.ok HSK.out HS.out).mono ?_; rintro e w1 ⟨rfl, S1⟩
    obtain ⟨q, hq⟩ := S1.sizeEx
    have H1 := hid S1
    clear S1 HS
    have S2 := H1.out.bldNew (b := q) hq.symm
    have H2 := hid S2
    clear S2 H1
    go_wp2_with fail
    refine wp_gen (fun w2 => Sat w0 I (bld q [] :: volp p v1 :: L) w2) H2.out ?_
    try rw [hq]
    clear H2 hq
    intro w2 S2
    go_loopw [10, 11, 12] (fun i _ _ wr => ∃ (k n : Nat) (acc : List UInt8) (vk : Vst), k + n = N ∧ acc.length ≤ 200 * k ∧ i = .int .i64 (k : Int) ∧ RdR lab frm blob n vk k acc R ∧ vk.fit ∧ vk.label = lab ∧ Sat w0 I (bld q acc :: volp p vk :: L) wr) (fun i _ _ _ => N - (intOf i).toNat)
    case atStart => exact ⟨0, N, [], v1, by omega, by simp, rfl, HR.out, HF1.out, HL1.out, S2⟩
    case round =>
      clear S2 HR HF1 HL1
      obtain ⟨k, n, acc, vk, hkn, hacc, rfl, hrd, hfk, hlk, Sr⟩ := hrel
      have HFK := hid hfk
      have HFA : ∀ {x} {y : Vst}, readS vk = (x, y) → Hid (y.label = lab) := fun h => hid (by have := hfk.read.2; rw [h] at this; exact this.trans hlk)
      have HLK := hid hlk
      have HR := hid Sr.swap
      clear Sr hfk hlk
      cases hrd with
      | @err _ va _ _ s m E hA hE =>
        have hE1 : (E == 0) = false := by simpa using hE
        go_wp2_with fail
        refine (tnext_err HFK.out.ok hA hE HR.out).mono ?_; rintro e w3 ⟨rfl, S3⟩
        have H3 := hid S3
        clear S3 HR
        unfold pc0
        go_wp2_with fail
        go_returns
        exact ⟨rfl, H3.out.swap.drop.alloc_ _⟩
      | @mark _ va _ _ s hA =>
        go_wp2_with fail
        refine (tnext_mark HFK.out.ok hA HR.out).mono ?_; rintro e w3 ⟨rfl, S3⟩
        have H3 := hid S3
        clear S3 HR
        unfold pc0
        go_wp2_with fail
        go_returns
        exact ⟨rfl, H3.out.swap.drop.alloc_ _⟩
      | @bad _ va _ _ c s E hA hO hE =>
        have hE1 : (E == 0) = false := by simpa using hE
        have hs := readS_size HFK.out hA
        go_wp2_with fail
        refine (tnext_bad HT.out HFK.out.ok hs hO hE hA HR.out).mono ?_; rintro e w3 ⟨rfl, S3⟩
        have H3 := hid S3
        clear S3 HR hO
        unfold pc0
        go_wp2_with fail
        go_returns
        exact ⟨rfl, H3.out.swap.drop.alloc_ _⟩
      | @other _ va _ _ P hA hok hn =>
        have HN := hid hn
        have HF1 := HFA hA
        clear hn HFA
        go_wp2_with fail
        refine (tnext_ok HT.out HFK.out.ok P hok (s := spellB P) rfl hA HR.out).mono ?_; rintro e w3 ⟨rfl, S3⟩
        obtain ⟨g, hg⟩ := S3.sizeEx
        have H3 := hid S3
        clear S3 HR hA
        have ep : (pcc P).toArray = #[.string P.label, .int .i64 (P.block : Int), .int .u64 (P.blob : Int), .int .i64 (P.part : Int), .int .i64 (P.parts : Int), .int .i64 (P.size : Int), .int .u32 (P.sum : Int), .string P.data] := rfl
        rw [ep]
        go_wp2_with fail
        refine wp_gen (fun w4 => Sat w0 I (blk g 181 (pcc P) :: volp p va :: bld q acc :: L) w4) (by first | (rw [hg]; exact H3.out.alloc rfl hg.symm) | exact H3.out.alloc rfl hg.symm) ?_
        try rw [hg]
        clear H3 hg
        intro w4 S4
        have z0 := S4.isBlk.cell 0 (v := .string P.label) rfl
        have z1 := S4.isBlk.cell 1 (v := .int .i64 (P.block : Int)) rfl
        have z2 := S4.isBlk.cell 2 (v := .int .u64 (P.blob : Int)) rfl
        have z3 := S4.isBlk.cell 3 (v := .int .i64 (P.part : Int)) rfl
        have z4 := S4.isBlk.cell 4 (v := .int .i64 (P.parts : Int)) rfl
        have z5 := S4.isBlk.cell 5 (v := .int .i64 (P.size : Int)) rfl
        have z7 := S4.isBlk.cell 7 (v := .string P.data) rfl
        have H4 := hid S4
        clear S4
        obtain ⟨B, hB⟩ : ∃ B : Int, frm + (k : Int) = B := ⟨_, rfl⟩
        obtain ⟨M, hM⟩ : ∃ M : Int, (nparts P.size : Int) = M := ⟨_, rfl⟩
        have hw : IntKind.i64.wrap B = B := by rw [← hB]; exact IntWalk.i64_in _ (by omega)
        by_cases n0 : P.label = lab
        · have n0q : (P.label.toList == lab.toList) = true := (Go.Lib.bytes_beq_iff _ _).2 n0
          by_cases n1 : (P.block : Int) = B
          · have n1q : ((P.block : Int) == B) = true := by simpa using n1
            by_cases n2 : P.blob = blob
            · subst n2
              by_cases n3 : P.part = k
              · subst n3
                have n4 : ¬ (P.parts : Int) = M := fun h => HN.out ⟨n0, by rw [n1, ← hB], rfl, rfl, by omega⟩
                have n4q : ((P.parts : Int) == M) = false := by simpa using n4
                go_wp2_with fail
                go_quiet (first
                  | (go_at_call 94; exact Calls.quiet_of (vlabel_q (lab := lab) HF1.out (H4.out.swap.drewN _)))
                  | (go_at_call 37; exact Calls.quiet_of (parts_q _ P.size (by have := hok.size; omega) hM)))
                go_wp2_with fail
                go_returns
                exact ⟨rfl, H4.out.drop.swap.drop.drewN _⟩
              · obtain ⟨PV, hPV⟩ : ∃ x : Int, (P.part : Int) = x := ⟨_, rfl⟩
                have n3r : ¬ PV = (k : Int) := by omega
                have n3q : (PV == (k : Int)) = false := by simpa using n3r
                go_wp2_with fail
                go_quiet (first
                  | (go_at_call 94; exact Calls.quiet_of (vlabel_q (lab := lab) HF1.out (H4.out.swap.drewN _)))
                  | (go_at_call 37; exact Calls.quiet_of (parts_q _ P.size (by have := hok.size; omega) hM)))
                go_wp2_with fail
                go_returns
                exact ⟨rfl, H4.out.drop.swap.drop.drewN _⟩
            · obtain ⟨PV, hPV⟩ : ∃ x : Int, (P.blob : Int) = x := ⟨_, rfl⟩
              have n2r : ¬ PV = (blob : Int) := by omega
              have n2q : (PV == (blob : Int)) = false := by simpa using n2r
              go_wp2_with fail
              go_quiet (first
                | (go_at_call 94; exact Calls.quiet_of (vlabel_q (lab := lab) HF1.out (H4.out.swap.drewN _)))
                | (go_at_call 37; exact Calls.quiet_of (parts_q _ P.size (by have := hok.size; omega) hM)))
              go_wp2_with fail
              go_returns
              exact ⟨rfl, H4.out.drop.swap.drop.drewN _⟩
          · have n1q : ((P.block : Int) == B) = false := by simpa using n1
            go_wp2_with fail
            go_quiet (first
              | (go_at_call 94; exact Calls.quiet_of (vlabel_q (lab := lab) HF1.out (H4.out.swap.drewN _)))
              | (go_at_call 37; exact Calls.quiet_of (parts_q _ P.size (by have := hok.size; omega) hM)))
            go_wp2_with fail
            go_returns
            exact ⟨rfl, H4.out.drop.swap.drop.drewN _⟩
        · have n0q : (P.label.toList == lab.toList) = false := (Go.Lib.bytes_beq_false_iff _ _).2 n0
          go_wp2_with fail
          go_quiet (first
            | (go_at_call 94; exact Calls.quiet_of (vlabel_q (lab := lab) HF1.out (H4.out.swap.drewN _)))
            | (go_at_call 37; exact Calls.quiet_of (parts_q _ P.size (by have := hok.size; omega) hM)))
          go_wp2_with fail
          go_returns
          exact ⟨rfl, H4.out.drop.swap.drop.drewN _⟩
      | @more _ va n2 _ _ P R2 hA hok hp hm hr =>
        have HRR := hid hr
        have HF1 := HFA hA
        have hvf := HFK.out.read.1
        rw [hA] at hvf
        have HVA := hid hvf
        clear hr HFA hvf
        go_wp2_with fail
        refine (tnext_ok HT.out HFK.out.ok P hok (s := spellB P) rfl hA HR.out).mono ?_; rintro e w3 ⟨rfl, S3⟩
        obtain ⟨g, hg⟩ := S3.sizeEx
        have H3 := hid S3
        clear S3 HR hA
        have ep : (pcc P).toArray = #[.string P.label, .int .i64 (P.block : Int), .int .u64 (P.blob : Int), .int .i64 (P.part : Int), .int .i64 (P.parts : Int), .int .i64 (P.size : Int), .int .u32 (P.sum : Int), .string P.data] := rfl
        rw [ep]
        go_wp2_with fail
        refine wp_gen (fun w4 => Sat w0 I (blk g 181 (pcc P) :: volp p va :: bld q acc :: L) w4) (by first | (rw [hg]; exact H3.out.alloc rfl hg.symm) | exact H3.out.alloc rfl hg.symm) ?_
        try rw [hg]
        clear H3 hg
        intro w4 S4
        have z0 := S4.isBlk.cell 0 (v := .string P.label) rfl
        have z1 := S4.isBlk.cell 1 (v := .int .i64 (P.block : Int)) rfl
        have z2 := S4.isBlk.cell 2 (v := .int .u64 (P.blob : Int)) rfl
        have z3 := S4.isBlk.cell 3 (v := .int .i64 (P.part : Int)) rfl
        have z4 := S4.isBlk.cell 4 (v := .int .i64 (P.parts : Int)) rfl
        have z5 := S4.isBlk.cell 5 (v := .int .i64 (P.size : Int)) rfl
        have z7 := S4.isBlk.cell 7 (v := .string P.data) rfl
        have H4 := hid S4
        clear S4
        obtain ⟨m0, m1, m2, m3, m4⟩ := hp
        subst m2 m3
        have hB : frm + (P.part : Int) = (P.block : Int) := m1.symm
        have hM : (nparts P.size : Int) = (P.parts : Int) := by rw [m4]
        have hw : IntKind.i64.wrap (P.block : Int) = (P.block : Int) := IntWalk.i64_in _ (by have := hok.block; omega)
        have n0q : (P.label.toList == lab.toList) = true := (Go.Lib.bytes_beq_iff _ _).2 m0
        clear m0 m1 m4
        go_wp2_with fail
        go_quiet (first
          | (go_at_call 94; exact Calls.quiet_of (vlabel_q (lab := lab) HF1.out (H4.out.swap.drewN _)))
          | (go_at_call 37; exact Calls.quiet_of (parts_q _ P.size (by have := hok.size; omega) hM)))
        go_wp2_with fail
        have S4b : Sat w0 I (bld q acc :: blk g 181 (pcc P) :: volp p va :: L) w4 := H4.out.pick 2
        refine (bwrite_sat P.data (by have := hok.data; omega) (S4b.drewN _)).mono ?_; rintro e w5 ⟨rfl, S5⟩
        have y4 : w5.cell? ⟨g, 4, none⟩ = some (.int .i64 (P.parts : Int)) := S5.swap.isBlk.cell 4 rfl
        clear z0 z1 z2 z3 z4 z5 z7 n0q hw hB H4 S4b
        have H5 := hid S5
        have hmm : (P.part : Int) + 1 < (P.parts : Int) := by omega
        clear S5
        go_wp2_with fail
        go_roundw
        case rel => exact ⟨P.part + 1, n2, acc ++ P.data.data.toList, va, by omega, by have := hok.data; simp; omega, by simp, HRR.out, HVA.out, HF1.out, H5.out.swap.drop⟩
        case measure => simp [intOf]; omega
      | @wrong _ va _ _ P hA hok hp hm hw =>
        have HW := hid hw
        have HF1 := HFA hA
        clear hw HFA
        go_wp2_with fail
        refine (tnext_ok HT.out HFK.out.ok P hok (s := spellB P) rfl hA HR.out).mono ?_; rintro e w3 ⟨rfl, S3⟩
        obtain ⟨g, hg⟩ := S3.sizeEx
        have H3 := hid S3
        clear S3 HR hA
        have ep : (pcc P).toArray = #[.string P.label, .int .i64 (P.block : Int), .int .u64 (P.blob : Int), .int .i64 (P.part : Int), .int .i64 (P.parts : Int), .int .i64 (P.size : Int), .int .u32 (P.sum : Int), .string P.data] := rfl
        rw [ep]
        go_wp2_with fail
        refine wp_gen (fun w4 => Sat w0 I (blk g 181 (pcc P) :: volp p va :: bld q acc :: L) w4) (by first | (rw [hg]; exact H3.out.alloc rfl hg.symm) | exact H3.out.alloc rfl hg.symm) ?_
        try rw [hg]
        clear H3 hg
        intro w4 S4
        have z0 := S4.isBlk.cell 0 (v := .string P.label) rfl
        have z1 := S4.isBlk.cell 1 (v := .int .i64 (P.block : Int)) rfl
        have z2 := S4.isBlk.cell 2 (v := .int .u64 (P.blob : Int)) rfl
        have z3 := S4.isBlk.cell 3 (v := .int .i64 (P.part : Int)) rfl
        have z4 := S4.isBlk.cell 4 (v := .int .i64 (P.parts : Int)) rfl
        have z5 := S4.isBlk.cell 5 (v := .int .i64 (P.size : Int)) rfl
        have z7 := S4.isBlk.cell 7 (v := .string P.data) rfl
        have H4 := hid S4
        clear S4
        obtain ⟨m0, m1, m2, m3, m4⟩ := hp
        subst m2 m3
        have hB : frm + (P.part : Int) = (P.block : Int) := m1.symm
        have hM : (nparts P.size : Int) = (P.parts : Int) := by rw [m4]
        have hw : IntKind.i64.wrap (P.block : Int) = (P.block : Int) := IntWalk.i64_in _ (by have := hok.block; omega)
        have n0q : (P.label.toList == lab.toList) = true := (Go.Lib.bytes_beq_iff _ _).2 m0
        clear m0 m1 m4
        go_wp2_with fail
        go_quiet (first
          | (go_at_call 94; exact Calls.quiet_of (vlabel_q (lab := lab) HF1.out (H4.out.swap.drewN _)))
          | (go_at_call 37; exact Calls.quiet_of (parts_q _ P.size (by have := hok.size; omega) hM)))
        go_wp2_with fail
        have S4b : Sat w0 I (bld q acc :: blk g 181 (pcc P) :: volp p va :: L) w4 := H4.out.pick 2
        refine (bwrite_sat P.data (by have := hok.data; omega) (S4b.drewN _)).mono ?_; rintro e w5 ⟨rfl, S5⟩
        have y4 : w5.cell? ⟨g, 4, none⟩ = some (.int .i64 (P.parts : Int)) := S5.swap.isBlk.cell 4 rfl
        clear z0 z1 z2 z3 z4 z5 z7 n0q hw hB H4 S4b
        have HCV : ∃ cv, cv = true := ⟨_, rfl⟩
        obtain ⟨cv, hcv⟩ := HCV
        have HM := hid hm
        have hmm : ¬ ((P.part : Int) + 1 < (P.parts : Int)) := by omega
        obtain ⟨acc2, hac2⟩ : ∃ l, acc ++ P.data.data.toList = l := ⟨_, rfl⟩
        have HAC := hid hac2
        have hl2 : acc2.length ≤ 1000000 := by rw [← hac2]; have := hok.data; simp; omega
        have HSZ := hid (show ∀ t ∈ [(⟨acc2.toArray⟩ : ByteArray)], t.size ≤ 9223372036854775806 by
          intro t ht; obtain rfl := List.mem_singleton.1 ht; show acc2.toArray.size ≤ _; rw [List.size_toArray]; omega)
        rw [hac2] at S5
        have S6 := S5.bldToF
        have y5 : w5.drew.cell? ⟨g, 5, none⟩ = some (.int .i64 (P.size : Int)) := S6.swap.isBlk.drew.cell 5 rfl
        have y6 : w5.drew.cell? ⟨g, 6, none⟩ = some (.int .u32 (P.sum : Int)) := S6.swap.isBlk.drew.cell 6 rfl
        have H6 := hid S6
        clear S6 S5
        go_upto_region 14 with fail
        go_cut [81] (fun c wx => c = .bool cv ∧ Sat w0 I (bldF q acc2 :: blk g 181 (pcc P) :: volp p va :: L) wx)
        case first =>
          obtain ⟨X, hX⟩ : ∃ X, crc acc2 = X := ⟨_, rfl⟩
          have HX := hid (show crcS [(⟨acc2.toArray⟩ : ByteArray)] = X by rw [crcS_eq, ← hX]; simp)
          clear hac2
          by_cases hlen : acc2.length = P.size
          · have hne : ¬ X = P.sum := fun e => by
              have := HW.out; rw [HAC.out] at this
              rcases this with h | h
              · exact h hlen
              · exact h (by rw [hX]; exact e)
            have hb : ((X : Int) != (P.sum : Int)) = true := by simp; omega
            clear hne
            have HLN := hid (show (acc2.length : Int) = (P.size : Int) by omega)
            clear hX hlen
            go_region_with (first
              | (go_at_call 108; refine (blenF_sat H6.out.drew (N := (P.size : Int)) HLN.out).mono ?_; rintro e w6 ⟨rfl, S7⟩; have x5 : w6.cell? ⟨g, 5, none⟩ = some (.int .i64 (P.size : Int)) := S7.swap.isBlk.cell 5 rfl; have x6 : w6.cell? ⟨g, 6, none⟩ = some (.int .u32 (P.sum : Int)) := S7.swap.isBlk.cell 6 rfl; have H7 := hid S7; clear S7)
              | (go_at_call 109; refine (bstr_sat hl2 H7.out).mono ?_; rintro e w7 ⟨rfl, S8⟩; obtain ⟨g7, hg7⟩ := S8.sizeEx; have u5 : w7.cell? ⟨g, 5, none⟩ = some (.int .i64 (P.size : Int)) := S8.swap.isBlk.cell 5 rfl; have u6 : w7.cell? ⟨g, 6, none⟩ = some (.int .u32 (P.sum : Int)) := S8.swap.isBlk.cell 6 rfl; have S9 := S8.alloc (b := g7) (T := 9) (cs := [Value.string ⟨acc2.toArray⟩]) rfl hg7.symm; have t6 := (S9.pick 2).isBlk.cell 6 (v := .int .u32 (P.sum : Int)) rfl; obtain ⟨J, hJ, S10, hrd⟩ := S9.freezeBlk; have H10 := hid S10; have HRD := hid (show Rd J (some ⟨g7, 0, none⟩) ([(⟨acc2.toArray⟩ : ByteArray)].map Value.string) from hrd); clear S8 S9 S10 hrd)
              | (go_at_call 36; refine (sum_eq (HT.out.mono hJ) (some ⟨g7, 0, none⟩) 1 1 [⟨acc2.toArray⟩] rfl HRD.out (by omega) (by omega) HSZ.out (V := X) HX.out H10.out).mono ?_; rintro e w11 ⟨rfl, S11⟩; have v6 : w11.cell? ⟨g, 6, none⟩ = some (.int .u32 (P.sum : Int)) := S11.swap.isBlk.cell 6 rfl; have H11 := hid S11; clear S11))
            all_goals
              go_wp2_with fail
              go_meet
              exact ⟨by rw [hcv], H11.out.thaw hJ⟩
          · obtain ⟨LV, hLV⟩ : ∃ x : Int, (acc2.length : Int) = x := ⟨_, rfl⟩
            have hb : (LV != (P.size : Int)) = true := by simp; omega
            have HLN := hid hLV
            clear hX HX hLV hlen
            first
              | (go_region_with ((go_at_call 108; refine (blenF_sat H6.out.drew (N := LV) HLN.out).mono ?_; rintro e w6 ⟨rfl, S7⟩; have x5 : w6.cell? ⟨g, 5, none⟩ = some (.int .i64 (P.size : Int)) := S7.swap.isBlk.cell 5 rfl; have H7 := hid S7; clear S7)))
              | fail
            all_goals
              go_wp2_with fail
              go_meet
              exact ⟨by rw [hcv], H7.out⟩

        case rest =>
          obtain ⟨rfl, S7⟩ := hcut
          have H7 := hid S7
          clear S7 H6
          subst hcv
          go_wp2_with fail
          go_returns
          exact ⟨rfl, H7.out.drop.drop⟩
      | @done _ va _ _ P hA hok hp hm hw hc =>
        have HW := hid hw
        have HC := hid hc
        have HF1 := HFA hA
        clear hw hc HFA
        go_wp2_with fail
        refine (tnext_ok HT.out HFK.out.ok P hok (s := spellB P) rfl hA HR.out).mono ?_; rintro e w3 ⟨rfl, S3⟩
        obtain ⟨g, hg⟩ := S3.sizeEx
        have H3 := hid S3
        clear S3 HR hA
        have ep : (pcc P).toArray = #[.string P.label, .int .i64 (P.block : Int), .int .u64 (P.blob : Int), .int .i64 (P.part : Int), .int .i64 (P.parts : Int), .int .i64 (P.size : Int), .int .u32 (P.sum : Int), .string P.data] := rfl
        rw [ep]
        go_wp2_with fail
        refine wp_gen (fun w4 => Sat w0 I (blk g 181 (pcc P) :: volp p va :: bld q acc :: L) w4) (by first | (rw [hg]; exact H3.out.alloc rfl hg.symm) | exact H3.out.alloc rfl hg.symm) ?_
        try rw [hg]
        clear H3 hg
        intro w4 S4
        have z0 := S4.isBlk.cell 0 (v := .string P.label) rfl
        have z1 := S4.isBlk.cell 1 (v := .int .i64 (P.block : Int)) rfl
        have z2 := S4.isBlk.cell 2 (v := .int .u64 (P.blob : Int)) rfl
        have z3 := S4.isBlk.cell 3 (v := .int .i64 (P.part : Int)) rfl
        have z4 := S4.isBlk.cell 4 (v := .int .i64 (P.parts : Int)) rfl
        have z5 := S4.isBlk.cell 5 (v := .int .i64 (P.size : Int)) rfl
        have z7 := S4.isBlk.cell 7 (v := .string P.data) rfl
        have H4 := hid S4
        clear S4
        obtain ⟨m0, m1, m2, m3, m4⟩ := hp
        subst m2 m3
        have hB : frm + (P.part : Int) = (P.block : Int) := m1.symm
        have hM : (nparts P.size : Int) = (P.parts : Int) := by rw [m4]
        have hw : IntKind.i64.wrap (P.block : Int) = (P.block : Int) := IntWalk.i64_in _ (by have := hok.block; omega)
        have n0q : (P.label.toList == lab.toList) = true := (Go.Lib.bytes_beq_iff _ _).2 m0
        clear m0 m1 m4
        go_wp2_with fail
        go_quiet (first
          | (go_at_call 94; exact Calls.quiet_of (vlabel_q (lab := lab) HF1.out (H4.out.swap.drewN _)))
          | (go_at_call 37; exact Calls.quiet_of (parts_q _ P.size (by have := hok.size; omega) hM)))
        go_wp2_with fail
        have S4b : Sat w0 I (bld q acc :: blk g 181 (pcc P) :: volp p va :: L) w4 := H4.out.pick 2
        refine (bwrite_sat P.data (by have := hok.data; omega) (S4b.drewN _)).mono ?_; rintro e w5 ⟨rfl, S5⟩
        have y4 : w5.cell? ⟨g, 4, none⟩ = some (.int .i64 (P.parts : Int)) := S5.swap.isBlk.cell 4 rfl
        clear z0 z1 z2 z3 z4 z5 z7 n0q hw hB H4 S4b
        obtain ⟨cv, hcv⟩ : ∃ cv, cv = false := ⟨_, rfl⟩
        have HM := hid hm
        have hmm : ¬ ((P.part : Int) + 1 < (P.parts : Int)) := by omega
        obtain ⟨acc2, hac2⟩ : ∃ l, acc ++ P.data.data.toList = l := ⟨_, rfl⟩
        have HAC := hid hac2
        have hl2 : acc2.length ≤ 1000000 := by rw [← hac2]; have := hok.data; simp; omega
        have HSZ := hid (show ∀ t ∈ [(⟨acc2.toArray⟩ : ByteArray)], t.size ≤ 9223372036854775806 by
          intro t ht; obtain rfl := List.mem_singleton.1 ht; show acc2.toArray.size ≤ _; rw [List.size_toArray]; omega)
        rw [hac2] at S5
        have S6 := S5.bldToF
        have y5 : w5.drew.cell? ⟨g, 5, none⟩ = some (.int .i64 (P.size : Int)) := S6.swap.isBlk.drew.cell 5 rfl
        have y6 : w5.drew.cell? ⟨g, 6, none⟩ = some (.int .u32 (P.sum : Int)) := S6.swap.isBlk.drew.cell 6 rfl
        have H6 := hid S6
        clear S6 S5
        go_upto_region 14 with fail
        go_cut [81] (fun c wx => c = .bool cv ∧ Sat w0 I (bldF q acc2 :: blk g 181 (pcc P) :: volp p va :: L) wx)
        case first =>
          obtain ⟨X, hX⟩ : ∃ X, crc acc2 = X := ⟨_, rfl⟩
          have HX := hid (show crcS [(⟨acc2.toArray⟩ : ByteArray)] = X by rw [crcS_eq, ← hX]; simp)
          clear hac2
          have hlen : acc2.length = P.size := by rw [← HAC.out]; exact HW.out
          have hXs : X = P.sum := by rw [← hX, ← HAC.out]; exact HC.out
          have hb : ((X : Int) != (P.sum : Int)) = false := by simp; omega
          clear hXs
          have HLN := hid (show (acc2.length : Int) = (P.size : Int) by omega)
          clear hX hlen
          go_region_with (first
            | (go_at_call 108; refine (blenF_sat H6.out.drew (N := (P.size : Int)) HLN.out).mono ?_; rintro e w6 ⟨rfl, S7⟩; have x5 : w6.cell? ⟨g, 5, none⟩ = some (.int .i64 (P.size : Int)) := S7.swap.isBlk.cell 5 rfl; have x6 : w6.cell? ⟨g, 6, none⟩ = some (.int .u32 (P.sum : Int)) := S7.swap.isBlk.cell 6 rfl; have H7 := hid S7; clear S7)
            | (go_at_call 109; refine (bstr_sat hl2 H7.out).mono ?_; rintro e w7 ⟨rfl, S8⟩; obtain ⟨g7, hg7⟩ := S8.sizeEx; have u5 : w7.cell? ⟨g, 5, none⟩ = some (.int .i64 (P.size : Int)) := S8.swap.isBlk.cell 5 rfl; have u6 : w7.cell? ⟨g, 6, none⟩ = some (.int .u32 (P.sum : Int)) := S8.swap.isBlk.cell 6 rfl; have S9 := S8.alloc (b := g7) (T := 9) (cs := [Value.string ⟨acc2.toArray⟩]) rfl hg7.symm; have t6 := (S9.pick 2).isBlk.cell 6 (v := .int .u32 (P.sum : Int)) rfl; obtain ⟨J, hJ, S10, hrd⟩ := S9.freezeBlk; have H10 := hid S10; have HRD := hid (show Rd J (some ⟨g7, 0, none⟩) ([(⟨acc2.toArray⟩ : ByteArray)].map Value.string) from hrd); clear S8 S9 S10 hrd)
            | (go_at_call 36; refine (sum_eq (HT.out.mono hJ) (some ⟨g7, 0, none⟩) 1 1 [⟨acc2.toArray⟩] rfl HRD.out (by omega) (by omega) HSZ.out (V := X) HX.out H10.out).mono ?_; rintro e w11 ⟨rfl, S11⟩; have v6 : w11.cell? ⟨g, 6, none⟩ = some (.int .u32 (P.sum : Int)) := S11.swap.isBlk.cell 6 rfl; have H11 := hid S11; clear S11))
          all_goals
            go_wp2_with fail
            go_meet
            exact ⟨by rw [hcv], H11.out.thaw hJ⟩

        case rest =>
          obtain ⟨rfl, S7⟩ := hcut
          have H7 := hid S7
          clear S7 H6
          subst hcv
          go_wp2_with fail
          refine (bstr_sat hl2 H7.out).mono ?_; rintro e w8 ⟨rfl, S8⟩
          have H8 := hid S8
          clear S8 H7
          go_wp2_with fail
          go_returns
          exact ⟨rfl, H8.out.drop.drop⟩
  · have hR2 := hE z1
    subst hR2
    have z1' : (e1 == 0) = false := by simpa using z1
    clear hR hE
    go_enter Tryz.func51, Tryz.ntmps51
    go_wp2_with fail
    refine (vseek frm HV.out.ok HSK.out HS.out).mono ?_; rintro e w1 ⟨rfl, S1⟩
    have H1 := hid S1
    clear S1 HS
    go_wp2_with fail
    go_returns
    exact ⟨rfl, H1.out⟩
end
end Go.Proofs.YtekioplbfoonkaaGreatDoor
