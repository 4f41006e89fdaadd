/- Layer 10, a node alone: elect, Tick, Propose. slices.Clone of entries; layer 10's State. -/
import Derived.Test.YtekioplbfoonkaaGreatDoorRfE
import Derived.BigQuiet
namespace Go.Proofs.YtekioplbfoonkaaGreatDoor
open Go.RowKit
set_option linter.unusedVariables false
set_option maxRecDepth 100000
set_option maxHeartbeats 4000000
/-- what a node keeps, elected in the next term. -/
def Nst.el (s : Nst) : Nst := {s with term := s.term + 1, vote := 1}
theorem Nst.elOk {s : Nst} (h : s.Ok) (ht : s.term < 100) : s.el.Ok := ⟨by show s.term + 1 ≤ 100; omega, by show 1 ≤ 5; omega, h.base, h.bterm, h.snap, h.log, h.len, h.idx⟩
/-- a leader whose entries are all committed. -/
def nodL (r p : Nat) (s : Nst) : HP := fun g => ∃ sv ma ne, sepL [blk r 129 (ncells p s sv 2 0 (lastI s : Int) (s.base : Int) 0 (.slice none 0 0) ma ne), row 73 3 sv s.log.length (s.log.flatMap Ent.cells), row 3 1 ma 1 [.int .i64 (lastI s : Int)]] g
section
variable {w0 w : World} {I : Part} {L : List HP} {p r : Nat} {d : Dst} {s : Nst} {sv vo ma ne : Value}
theorem Sat.nodLOpen (h : Sat w0 I (nodL r p s :: L) w) : ∃ sv ma ne, Sat w0 I (blk r 129 (ncells p s sv 2 0 (lastI s : Int) (s.base : Int) 0 (.slice none 0 0) ma ne) :: row 73 3 sv s.log.length (s.log.flatMap Ent.cells) :: row 3 1 ma 1 [.int .i64 (lastI s : Int)] :: L) w := by
  obtain ⟨g, hg, ⟨a, b, c, x⟩, r'⟩ := h.sep
  have h2 : Sat w0 I (sepL [_, _, _] :: L) w := ⟨h.os, h.tape, h.output, h.size, h.imm, g, hg, x, r'⟩
  exact ⟨a, b, c, h2.flat⟩
theorem Sat.nodLShut (h : Sat w0 I (blk r 129 (ncells p s sv 2 0 (lastI s : Int) (s.base : Int) 0 (.slice none 0 0) ma ne) :: row 73 3 sv s.log.length (s.log.flatMap Ent.cells) :: row 3 1 ma 1 [.int .i64 (lastI s : Int)] :: L) w) : Sat w0 I (nodL r p s :: L) w :=
  h.of (M := [_, _, _]) fun g x => ⟨sv, ma, ne, x⟩
theorem elect_sat (hT : Rd I (some ⟨0, 0, none⟩) tabV) {U C : Nat} (h : Dk d U C) (hk : Kd d s) (hok : s.Ok) (hl : s.log.length < 20) (ht : s.term < 100) (hU : U + 1066 ≤ 1048576) (hC : C ≤ 900) {timer : Int} (H : Sat w0 I (blk r 129 (ncells p s sv 0 (-1) (s.base : Int) (s.base : Int) timer vo ma ne) :: row 73 3 sv s.log.length (s.log.flatMap Ent.cells) :: dskp p d :: L) w) :
    Calls Tryz.prog 59 #[.pointer (some ⟨r, 0, none⟩)] w fun e w' => ∃ D, e = .returned (.tuple #[]) ∧ Dk D (U + 1066) (C + 4) ∧ Kd D (s.el.add ⟨#[]⟩) ∧ Sat w0 I (nodL r p (s.el.add ⟨#[]⟩) :: dskp p D :: L) w' := by
  have htm := hok.term
  obtain ⟨T, hTm⟩ : ∃ T, s.term + 1 = T := ⟨_, rfl⟩
  have hw : IntKind.i64.wrap ((s.term : Int) + 1) = (T : Int) := by rw [IntWalk.i64_in _ (by omega)]; omega
  have hel : s.el = {s with term := T, vote := 1} := by unfold Nst.el; rw [hTm]
  have hT100 : T ≤ 100 := by omega
  have HEL := hid hel
  have HOK := hid hok
  have HOKE := hid (show Nst.Ok {s with term := T, vote := 1} from hel ▸ Nst.elOk hok ht)
  have HT := hid hT
  have HD := hid h
  have HK := hid hk
  have HSF := hid (show Sf d kT ⟨(termB s.term s.vote).toArray⟩ from ⟨by rw [hk.t]; rfl, by rw [hk.t]; rfl⟩)
  have hsz : (⟨(termB s.term s.vote).toArray⟩ : ByteArray).size ≤ 1000000000 := by
    rw [baSz]
    have := termB_len s.term s.vote (by omega) (by have := hok.vote; omega)
    omega
  have c1 := H.drew.isBlk.cell 1 (v := .int .i64 0) rfl
  have c3 := H.drew.isBlk.cell 3 (v := .int .i64 (s.term : Int)) rfl
  have HH := hid ((H.pick 2).swap)
  clear hT h hk hok H hTm hel
  go_enter Tryz.func59, Tryz.ntmps59
  go_upto_region 0 with fail
  go_cut [18] (fun t wx => t = .bool false ∧ ∃ D, Dk D (U + 28) (C + 2) ∧ Upd d D kT ⟨(termB T 1).toArray⟩ ∧ Sat w0 I (blk r 129 (ncells p {s with term := T, vote := 1} sv 0 (-1) (s.base : Int) (s.base : Int) timer vo ma ne) :: dskp p D :: row 73 3 sv s.log.length (s.log.flatMap Ent.cells) :: L) wx)
  case first =>
    go_region_with (first
      | (go_at_call 119; refine (keepTerm_sat HT.out HD.out T 1 (by omega) (by omega) HSF.out hsz (by omega) (by omega) HH.out.drew).mono ?_; rintro e w5 ⟨D, rfl, k1, k2, S5⟩; have H5 := hid S5; have K1 := hid k1; have K2 := hid k2; clear S5 k1 k2))
    all_goals
      go_wp2_with fail
      go_meet
      exact ⟨rfl, D, K1.out, K2.out, H5.out⟩
  case rest =>
    obtain ⟨rfl, D, k1, k2, S5⟩ := hcut
    have HKD := hid (show Kd D {s with term := T, vote := 1} from ⟨k2.at_, by rw [k2.ne kSn kTS.symm]; exact HK.out.sn, by rw [k2.ne kLg kTL.symm]; exact HK.out.lg⟩)
    have K1 := hid k1
    have H5 := hid S5
    clear S5 k1 k2 HH c1 c3 HSF
    go_wp2_with fail
    refine (follow_sat (-1) H5.out).mono ?_; rintro e w6 ⟨rfl, S6⟩
    have c9 := S6.isBlk.cell 9 (v := .int .i64 0) rfl
    have c13 := S6.isBlk.cell 13 (v := .int .i64 timer) rfl
    have f9 := S6.isBlk.frozen 9
    have f13 := S6.isBlk.frozen 13
    have H6 := hid ((S6.set 9 (.int .i64 1) rfl).set 13 (.int .i64 0) (cs' := ncells p {s with term := T, vote := 1} sv 1 (-1) (s.base : Int) (s.base : Int) 0 (.slice none 0 0) (.slice none 0 0) (.slice none 0 0)) rfl)
    clear S6 H5
    go_upto_region 3 with fail
    clear c9 c13 f9 f13
    refine wp_gen (fun w1 => Sat w0 I (blk r 129 (ncells p {s with term := T, vote := 1} sv 1 (-1) (s.base : Int) (s.base : Int) 0 (.slice none 0 0) (.slice none 0 0) (.slice none 0 0)) :: dskp p D :: row 73 3 sv s.log.length (s.log.flatMap Ent.cells) :: L) w1) H6.out ?_
    clear H6
    intro w7 S7
    have c2 := S7.isBlk.cell 2 (v := .int .i64 1) rfl
    have c14 : ∀ o, (w7.alloc o).cell? ⟨r, 14, none⟩ = some (.slice none 0 0) := fun o => (S7.alloc_ o).isBlk.cell 14 rfl
    have f14 := fun o => (S7.alloc_ o).isBlk.frozen 14
    have mk := run_mkB1
    obtain ⟨gv, hgv⟩ := S7.sizeQ
    have H7 := hid (((S7.alloc (b := gv) (T := 4) (cs := [.bool false]) rfl hgv.symm).set1 14 (.slice (some ⟨gv, 0, none⟩) 1 1) (cs' := ncells p {s with term := T, vote := 1} sv 1 (-1) (s.base : Int) (s.base : Int) 0 (.slice (some ⟨gv, 0, none⟩) 1 1) (.slice none 0 0) (.slice none 0 0)) rfl).swap)
    clear S7
    go_upto_region 4 with fail
    try rw [hgv]
    clear c2 c14 f14 mk hgv
    refine wp_gen (fun w1 => Sat w0 I (blk r 129 (ncells p {s with term := T, vote := 1} sv 1 (-1) (s.base : Int) (s.base : Int) 0 (.slice (some ⟨gv, 0, none⟩) 1 1) (.slice none 0 0) (.slice none 0 0)) :: blk gv 4 [.bool false] :: dskp p D :: row 73 3 sv s.log.length (s.log.flatMap Ent.cells) :: L) w1) H7.out ?_
    clear H7
    intro w8 S8
    have c14 := S8.isBlk.cell 14 (v := .slice (some ⟨gv, 0, none⟩) 1 1) rfl
    have c1 := S8.isBlk.cell 1 (v := .int .i64 0) rfl
    have e0 := S8.swap.isBlk.cell 0 (v := .bool false) rfl
    have f0 := S8.swap.isBlk.frozen 0
    have H8 := hid (((S8.swap.set 0 (.bool true) (cs' := [.bool true]) rfl).oneRow.drew.pick 3).pick 2)
    clear S8
    go_region
    go_upto_region 5 with fail
    refine wp_gen (fun w1 => Sat w0 I (blk r 129 (ncells p {s with term := T, vote := 1} sv 1 (-1) (s.base : Int) (s.base : Int) 0 (.slice (some ⟨gv, 0, none⟩) 1 1) (.slice none 0 0) (.slice none 0 0)) :: row 73 3 sv s.log.length (s.log.flatMap Ent.cells) :: row 4 1 (.slice (some ⟨gv, 0, none⟩) 1 1) 1 [.bool true] :: dskp p D :: L) w1) H8.out ?_
    clear H8 c14 c1 e0 f0
    intro w9 S9
    have H9 := hid S9
    clear S9
    go_wp2_with fail
    refine (tlast_sat HOKE.out H9.out).mono ?_; rintro e w10 ⟨rfl, S10⟩
    have c2 := S10.isBlk.cell 2 (v := .int .i64 1) rfl
    have H10 := hid S10
    clear S10 H9
    go_wp2_with fail
    clear c2
    go_loopw [4, 55] (fun _ k wr => (k = .int .i64 0 ∨ k = .int .i64 1) ∧ Sat w0 I (blk r 129 (ncells p {s with term := T, vote := 1} sv 1 (-1) (s.base : Int) (s.base : Int) 0 (.slice (some ⟨gv, 0, none⟩) 1 1) (.slice none 0 0) (.slice none 0 0)) :: row 73 3 sv s.log.length (s.log.flatMap Ent.cells) :: row 4 1 (.slice (some ⟨gv, 0, none⟩) 1 1) 1 [.bool true] :: dskp p D :: L) wr) (fun _ k _ => 1 - (intOf k).toNat)
    case atStart => exact ⟨Or.inl rfl, H10.out⟩
    case round =>
      clear H10
      obtain ⟨hk, Sr⟩ := hrel
      have c1 := Sr.isBlk.cell 1 (v := .int .i64 0) rfl
      have HS := hid Sr
      clear Sr
      rcases hk with rfl | rfl
      · go_wp2_with fail
        go_roundw
        case rel => exact ⟨Or.inr rfl, HS.out⟩
        case measure => simp [intOf]
      · have hcm : (s.base : Int) < ((lastI {s with term := T, vote := 1} + 1 : Nat) : Int) := by
          show (s.base : Int) < ((s.base + s.log.length + 1 : Nat) : Int)
          omega
        have HCM := hid hcm
        clear hcm
        go_wp2_with fail
        refine (count_sat HT.out K1.out HKD.out HOKE.out hl (by omega) (by omega) HCM.out gv 1 (HS.out.pick 2).swap).mono ?_; rintro e w11 ⟨D2, sv2, ma2, ne2, rfl, k1, k2, S11⟩
        have S12 : Sat w0 I (nodL r p (s.el.add ⟨#[]⟩) :: dskp p D2 :: L) w11 := by
          rw [HEL.out]
          refine Sat.nodLShut (sv := sv2) (ma := ma2) (ne := ne2) ?_
          rw [lastI_add]; exact S11
        have k3 : Kd D2 (s.el.add ⟨#[]⟩) := by rw [HEL.out]; exact k2
        have H12 := hid S12
        have K2 := hid k3
        have K3 := hid (k1.mono (V := U + 1066) (B := C + 4) (by omega) (by omega))
        clear S11 S12 HS k1 k2 k3
        go_wp2_with fail
        go_returns
        first
          | exact ⟨D2, rfl, K3.out, K2.out, H12.out⟩
          | exact ⟨rfl, D2, K3.out, K2.out, H12.out⟩
theorem tickF_sat (tm : Nat) (htm : tm < 3) (H : Sat w0 I (nodF r p s tm :: L) w) :
    Calls Tryz.prog 22 #[.pointer (some ⟨r, 0, none⟩)] w fun e w' => e = .returned (.tuple #[]) ∧ Sat w0 I (nodF r p s (tm + 1) :: L) w' := by
  obtain ⟨sv, S1⟩ := H.nodFOpen
  have c18 := S1.isBlk.cell 18 (v := .int .i64 0) rfl
  have c9 := S1.isBlk.cell 9 (v := .int .i64 0) rfl
  have c13 := S1.isBlk.cell 13 (v := .int .i64 (tm : Int)) rfl
  have f13 := S1.isBlk.frozen 13
  have hw : IntKind.i64.wrap ((tm : Int) + 1) = ((tm + 1 : Nat) : Int) := by rw [IntWalk.i64_in _ (by omega)]; omega
  obtain ⟨N, hN⟩ : ∃ N, tm + 1 = N := ⟨_, rfl⟩
  rw [hN] at hw ⊢
  have HS := hid (S1.set 13 (.int .i64 (N : Int)) (cs' := ncells p s sv 0 (-1) (s.base : Int) (s.base : Int) (N : Int) (.slice none 0 0) (.slice none 0 0) (.slice none 0 0)) rfl)
  clear S1 H
  go_enter Tryz.func22, Tryz.ntmps22
  go_upto_region 4 with fail
  clear c18 c9 c13 f13
  refine wp_gen (fun w1 => Sat w0 I (blk r 129 (ncells p s sv 0 (-1) (s.base : Int) (s.base : Int) (N : Int) (.slice none 0 0) (.slice none 0 0) (.slice none 0 0)) :: row 73 3 sv s.log.length (s.log.flatMap Ent.cells) :: L) w1) HS.out ?_
  clear HS
  intro w1 S1
  have c13 := S1.isBlk.cell 13 (v := .int .i64 (N : Int)) rfl
  have c1 := S1.isBlk.cell 1 (v := .int .i64 0) rfl
  have hn : ¬ (4 : Int) ≤ (N : Int) := by omega
  have HS := hid S1
  clear S1
  go_quiet (fail)
  have H2 := hid (HS.out.drewN nq)
  clear HS c13 c1
  go_wp2_with fail
  go_returns
  exact ⟨rfl, Sat.nodFShut H2.out⟩
theorem tickE_sat (hT : Rd I (some ⟨0, 0, none⟩) tabV) {U C : Nat} (h : Dk d U C) (hk : Kd d s) (hok : s.Ok) (hl : s.log.length < 20) (ht : s.term < 100) (hU : U + 1066 ≤ 1048576) (hC : C ≤ 900) (H : Sat w0 I (nodF r p s 3 :: dskp p d :: L) w) :
    Calls Tryz.prog 22 #[.pointer (some ⟨r, 0, none⟩)] w fun e w' => ∃ D, e = .returned (.tuple #[]) ∧ Dk D (U + 1066) (C + 4) ∧ Kd D (s.el.add ⟨#[]⟩) ∧ Sat w0 I (nodL r p (s.el.add ⟨#[]⟩) :: dskp p D :: L) w' := by
  obtain ⟨sv, S1⟩ := H.nodFOpen
  have c18 := S1.isBlk.cell 18 (v := .int .i64 0) rfl
  have c9 := S1.isBlk.cell 9 (v := .int .i64 0) rfl
  have c13 := S1.isBlk.cell 13 (v := .int .i64 3) rfl
  have f13 := S1.isBlk.frozen 13
  have HT := hid hT
  have HD := hid h
  have HK := hid hk
  have HOK := hid hok
  have HS := hid (S1.set 13 (.int .i64 4) (cs' := ncells p s sv 0 (-1) (s.base : Int) (s.base : Int) 4 (.slice none 0 0) (.slice none 0 0) (.slice none 0 0)) rfl)
  clear S1 H hT h hk hok
  go_enter Tryz.func22, Tryz.ntmps22
  go_upto_region 4 with fail
  clear c18 c9 c13 f13
  refine wp_gen (fun w1 => Sat w0 I (blk r 129 (ncells p s sv 0 (-1) (s.base : Int) (s.base : Int) 4 (.slice none 0 0) (.slice none 0 0) (.slice none 0 0)) :: row 73 3 sv s.log.length (s.log.flatMap Ent.cells) :: dskp p d :: L) w1) HS.out ?_
  clear HS
  intro w1 S1
  have c13 := S1.isBlk.cell 13 (v := .int .i64 4) rfl
  have c1 := S1.isBlk.cell 1 (v := .int .i64 0) rfl
  have HS := hid S1
  clear S1
  go_quiet (fail)
  have H2 := hid (HS.out.drewN nq)
  clear HS c13 c1
  go_wp2_with fail
  refine (elect_sat HT.out HD.out HK.out HOK.out hl ht hU hC H2.out).mono ?_; rintro e w2 ⟨D, rfl, k1, k2, S2⟩
  have H3 := hid S2
  have K1 := hid k1
  have K2 := hid k2
  clear S2 k1 k2 H2
  go_wp2_with fail
  go_returns
  first
    | exact ⟨D, rfl, K1.out, K2.out, H3.out⟩
    | exact ⟨rfl, D, K1.out, K2.out, H3.out⟩
theorem propose_sat (hT : Rd I (some ⟨0, 0, none⟩) tabV) {U C : Nat} (h : Dk d U C) (hk : Kd d s) (hok : s.Ok) (cmd : ByteArray) (hc : cmd.size ≤ 1000) (hl : s.log.length < 20) (hU : U + 1038 ≤ 1048576) (hC : C ≤ 900) (H : Sat w0 I (nodL r p s :: dskp p d :: L) w) :
    Calls Tryz.prog 23 #[.pointer (some ⟨r, 0, none⟩), .string cmd] w fun e w' => ∃ D, e = .returned (.tuple #[.int .i64 ((lastI s + 1 : Nat) : Int), .int .i64 (s.term : Int), .int .i64 0]) ∧ Dk D (U + 1038) (C + 2) ∧ Kd D (s.add cmd) ∧ Sat w0 I (nodL r p (s.add cmd) :: dskp p D :: L) w' := by
  obtain ⟨sv, ma, ne, S1⟩ := H.nodLOpen
  have c18 := S1.isBlk.cell 18 (v := .int .i64 0) rfl
  have c9 := S1.isBlk.cell 9 (v := .int .i64 2) rfl
  have HT := hid hT
  have HD := hid h
  have HK := hid hk
  have HOK := hid hok
  have HS := hid S1
  have hcs : ¬ (100000 : Int) < (cmd.size : Int) := by omega
  have HCM := hid (show (lastI s : Int) < ((lastI s + 1 : Nat) : Int) by omega)
  clear S1 H hT h hk hok
  go_enter Tryz.func23, Tryz.ntmps23
  go_wp2_with fail
  refine (rappend_sat HT.out HD.out HK.out HOK.out cmd hc hl hU (by omega) _ HCM.out HS.out).mono ?_; rintro e w2 ⟨D, sv2, rfl, k1, k2, S2⟩
  have c18 := S2.isBlk.cell 18 (v := .int .i64 0) rfl
  have c3 := S2.isBlk.cell 3 (v := .int .i64 (s.term : Int)) rfl
  have S3 : Sat w0 I (nodL r p (s.add cmd) :: dskp p D :: L) w2 := by
    refine Sat.nodLShut (sv := sv2) (ma := ma) (ne := ne) ?_
    rw [lastI_add]; exact S2
  have H3 := hid S3
  have K1 := hid k1
  have K2 := hid k2
  clear S2 S3 k1 k2 HS c9
  go_wp2_with fail
  go_quiet (fail)
  have H4 := hid (H3.out.drewN nq)
  clear H3 c18 c3
  go_wp2_with fail
  go_returns
  first
    | exact ⟨D, rfl, K1.out, K2.out, H4.out⟩
    | exact ⟨rfl, D, K1.out, K2.out, H4.out⟩
end
end Go.Proofs.YtekioplbfoonkaaGreatDoor
namespace Go.Proofs.YtekioplbfoonkaaGreatDoor
open Go.RowKit
set_option linter.unusedVariables false
set_option maxRecDepth 100000
set_option maxHeartbeats 4000000
section
variable {w0 w : World} {I : Part} {L : List HP} {p r : Nat} {d : Dst} {s : Nst} {sv vo ma ne : Value}
theorem ent_one (l : List Ent) : ∀ u ∈ l.flatMap Ent.cells, u.oneCell' = true := fun u hu => by
  obtain ⟨x, _, hx⟩ := List.mem_flatMap.1 hu
  exact ent_one1 x u hx
theorem clone_sat (g n c : Nat) (l : List Ent) (hl : l.length = n) (hn : n ≤ 1000000) (hr : Rd I (some ⟨g, 0, none⟩) (l.flatMap Ent.cells)) (H : Sat w0 I L w) :
    Calls Tryz.prog 64 #[.slice (some ⟨g, 0, none⟩) n c] w fun e w' => ∃ ad cp, e = .returned (.slice (some ⟨ad, 0, none⟩) n cp) ∧ n ≤ cp ∧ cp ≤ 9223372036854775807 ∧ Sat w0 I (row 73 3 (.slice (some ⟨ad, 0, none⟩) n cp) n (l.flatMap Ent.cells) :: L) w' := by
  obtain ⟨q, hq⟩ := H.sizeQ
  have H1 := hid ((H.alloc (b := q) (T := 73) (cs := []) rfl hq.symm).emptyRow 3)
  have HR := hid hr
  have HL := hid (show (l.flatMap Ent.cells).length = n * 3 by rw [entCells_len, hl])
  have hnil : ∀ (w : World) (a : Option Addr) (n c n' c' : Nat), (binOp .eql 68 (.slice a n c) (.slice none n' c')).run Tryz.prog w = .ok (.bool a.isNone) w := fun w a n c n' c' => Lib.run_eql_slice_nil w _ _ a n c n' c' Tryz.underlying68
  have hsrc := Src.ofRd (c := c) slEnt H1.out HR.out HL.out (ent_one l)
  have key := hid (fun (a : Act) (o : Oper) (Q : Exit → Act → World → Prop) (ops : Array Oper) (rest : List Oper) (h1 : o.guard = none) (h2 : _) (h3 : a.eval (.tmp 5) = _) (h4 : a.eval (.tmp 6) = _) => wpList_appSrcS (a := a) (o := o) (Q := Q) (ops := ops) (rest := rest) slEnt h1 (.tmp 5) (.tmp 6) h2 H1.out h3 h4 hsrc (by omega) (by omega))
  clear H hr hl hsrc
  go_enter Tryz.func64, Tryz.ntmps64
  go_wp2_with (at_builtin; (try rw [hq]); refine key.out _ _ _ _ _ rfl rfl rfl rfl ?_)
  intro g2 cp2 w2 h1 h2 S2
  have H2 := hid S2
  clear S2 H1 hq
  go_wp2_with fail
  go_ret
  first
    | exact ⟨g2, cp2, rfl, h1, h2, H2.out⟩
    | exact ⟨rfl, h1, h2, H2.out⟩
theorem state_sat (hlp : 0 < s.log.length) (hll : s.log.length ≤ 1000) (H : Sat w0 I (nodL r p s :: L) w) :
    Calls Tryz.prog 25 #[.pointer (some ⟨r, 0, none⟩)] w fun e w' => ∃ J ad cp, e = .returned (.agg #[.int .i64 (s.term : Int), .int .i64 (s.vote : Int), .int .i64 (s.base : Int), .int .i64 (s.bterm : Int), .string s.snap, .slice (some ⟨ad, 0, none⟩) s.log.length cp]) ∧ I.le J ∧ Sat w0 J (row 73 3 (.slice (some ⟨ad, 0, none⟩) s.log.length cp) s.log.length (s.log.flatMap Ent.cells) :: L) w' := by
  obtain ⟨sv, ma, ne, S1⟩ := H.nodLOpen
  obtain ⟨al, cl, rfl, hl1, hl2⟩ := own_shape S1.swap.isRow
  have hal : ∃ g, al = some ⟨g, 0, none⟩ := by
    rcases S1.swap.isRow.2 with ⟨h, hn⟩ | ⟨g, cap, cur, h, _⟩
    · omega
    · cases h; exact ⟨g, rfl⟩
  obtain ⟨gl, rfl⟩ := hal
  obtain ⟨J, a2, c2, hJ, S2, hv, hc1, hc2, _, hrd⟩ := S1.swap.freezeRow
  cases hv
  have HJ := hid hJ
  have HRD := hid hrd
  obtain ⟨g, hg⟩ := S2.sizeQ
  have H2 := hid ((S2.alloc (b := g) (T := 70) (cs := st90) rfl hg.symm).swap)
  clear S1 S2 H hJ hrd
  obtain ⟨N, hN⟩ : ∃ N, s.log.length = N := ⟨_, rfl⟩
  rw [hN] at H2 hll hlp hl1 hc1 ⊢
  have HN := hid hN
  clear hN
  go_enter Tryz.func25, Tryz.ntmps25
  go_upto_region 1 with fail
  try rw [hg]
  refine wp_gen (fun w1 => Sat w0 J (blk r 129 (ncells p s (.slice (some ⟨gl, 0, none⟩) N cl) 2 0 (lastI s : Int) (s.base : Int) 0 (.slice none 0 0) ma ne) :: blk g 70 st90 :: row 3 1 ma 1 [.int .i64 (lastI s : Int)] :: L) w1) H2.out ?_
  clear H2 hg
  intro w3 S3
  have c3 := S3.isBlk.cell 3 (v := .int .i64 (s.term : Int)) rfl
  have c4 := S3.isBlk.cell 4 (v := .int .i64 (s.vote : Int)) rfl
  have c5 := S3.isBlk.cell 5 (v := .int .i64 (s.base : Int)) rfl
  have c6 := S3.isBlk.cell 6 (v := .int .i64 (s.bterm : Int)) rfl
  have c7 := S3.isBlk.cell 7 (v := .string s.snap) rfl
  have c8 := S3.isBlk.cell 8 (v := .slice (some ⟨gl, 0, none⟩) N cl) rfl
  obtain ⟨x, hx⟩ := S3.sizeQ
  have H4 := hid (((S3.alloc (b := x) (T := 70) (cs := stc9 s (.slice (some ⟨gl, 0, none⟩) N cl)) rfl hx.symm).swap.drop))
  clear S3
  go_wp2_with fail
  refine (clone_sat gl N cl s.log HN.out (by omega) HRD.out H4.out).mono ?_; rintro e w4 ⟨ad, cp, rfl, k1, k2, S5⟩
  have S6 := S5.swap
  have c5 := S6.isBlk.cell 5 (v := .slice (some ⟨gl, 0, none⟩) N cl) rfl
  have f5 := S6.isBlk.frozen 5
  have H6 := hid (S6.set 5 (.slice (some ⟨ad, 0, none⟩) N cp) (cs' := stc9 s (.slice (some ⟨ad, 0, none⟩) N cp)) rfl)
  have HC := hid (stc9_one s (sv := .slice (some ⟨ad, 0, none⟩) N cp) rfl)
  clear S5 S6 H4 c3 c4 c6 c7 c8 hx
  go_wp2_with (first
    | (refine wpList_loadS whSt rfl _ rfl rfl rfl H6.out ?_)
    | (refine wpList_storeS whSt rfl _ _ rfl rfl rfl rfl rfl HC.out (H6.out.pick 2) ?_; intro w5 S7))
  refine bodyPost_ret (ret_cell1S Tryz.results25 whSt _ rfl rfl S7) rfl ?_
  exact ⟨J, ad, cp, rfl, HJ.out, S7.drop.drop.swap.drop⟩
end
end Go.Proofs.YtekioplbfoonkaaGreatDoor
