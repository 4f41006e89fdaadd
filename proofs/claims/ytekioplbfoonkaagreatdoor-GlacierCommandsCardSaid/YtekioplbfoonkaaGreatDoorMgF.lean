/- Layer 10, a node alone: Last, stored, follow, sendAll, keepTerm. Layer 10, a node alone: stored, follow, sendAll, keepTerm, advance. Layer 10, a node alone: advance. -/
import Derived.Test.YtekioplbfoonkaaGreatDoorTmG
import Derived.Deep.CutBlock
import Derived.Deep.DeepCutAuto
namespace Go.Proofs.YtekioplbfoonkaaGreatDoor
open Go.RowKit
set_option linter.unusedVariables false
set_option maxRecDepth 100000
set_option maxHeartbeats 2000000
def lastI (s : Nst) : Nat := s.base + s.log.length
def lastT (s : Nst) : Nat := match s.log.getLast? with | none => s.bterm | some x => x.term
theorem entGetL (l : List Ent) (h : 0 < l.length) (x : Ent) (hx : l[l.length - 1]? = some x) (j : Nat) (v : Value) (hv : x.cells[j]? = some v) : (l.flatMap Ent.cells)[(l.length - 1) * 3 + j]? = some v := by
  obtain ⟨hlt, rfl⟩ := List.getElem?_eq_some_iff.1 hx
  exact entGet l hlt j v hv
section
variable {w0 w : World} {I : Part} {L : List HP} {p r : Nat} {d : Dst} {s : Nst} {sv vo ma ne : Value} {role leader commit applied timer : Int}
theorem tlast_sat (hok : s.Ok) (H : Sat w0 I (blk r 129 (ncells p s sv role leader commit applied timer vo ma ne) :: row 73 3 sv s.log.length (s.log.flatMap Ent.cells) :: L) w) :
    Calls Tryz.prog 121 #[.pointer (some ⟨r, 3, none⟩)] w fun e w' => e = .returned (.tuple #[.int .i64 (lastI s : Int), .int .i64 (lastT s : Int)]) ∧ Sat w0 I (blk r 129 (ncells p s sv role leader commit applied timer vo ma ne) :: row 73 3 sv s.log.length (s.log.flatMap Ent.cells) :: L) w' := by
  have hlen := hok.len
  obtain ⟨ad, cp, rfl, hq1, hq2⟩ := own_shape H.swap.isRow
  have c8 := H.isBlk.cell 8 (v := .slice ad s.log.length cp) rfl
  have c5 := H.isBlk.cell 5 (v := .int .i64 (s.base : Int)) rfl
  have c6 := H.isBlk.cell 6 (v := .int .i64 (s.bterm : Int)) rfl
  obtain ⟨n, hn⟩ : ∃ n, s.log.length = n := ⟨_, rfl⟩
  refine ret_sat ?_ H
  by_cases h0 : s.log.length = 0
  · have hnil : s.log = [] := List.eq_nil_of_length_eq_zero h0
    have e1 : lastI s = s.base := by unfold lastI; omega
    have e2 : lastT s = s.bterm := by unfold lastT; rw [hnil]; rfl
    rw [e1, e2]
    rw [h0] at c8
    clear hn hok h0 hnil
    go_enter Tryz.func121, Tryz.ntmps121
    go_wp2_with fail
    go_quiet (fail)
    go_wp2_with fail
    go_returns
    exact ⟨rfl, _, rfl⟩
  · obtain ⟨x, hx⟩ : ∃ x, s.log[s.log.length - 1]? = some x := ⟨_, List.getElem?_eq_getElem (by omega)⟩
    have hlt : s.log.length - 1 < s.log.length := by omega
    have hxe : s.log[s.log.length - 1] = x := (List.getElem?_eq_some_iff.1 hx).2
    have e1 : lastI s = x.idx := by
      have := hok.idx (s.log.length - 1) hlt
      rw [hxe] at this
      unfold lastI; omega
    have e2 : lastT s = x.term := by unfold lastT; rw [List.getLast?_eq_getElem?, hx]
    rw [e1, e2]
    have hrow := H.swap.isRow
    have had : ∃ g, ad = some ⟨g, 0, none⟩ := by
      rcases hrow.2 with ⟨h, hn⟩ | ⟨g, cap, cur, h, _⟩
      · omega
      · cases h; exact ⟨g, rfl⟩
    obtain ⟨g, rfl⟩ := had
    have k0 := own_cell hrow _ (entGetL s.log (by omega) x hx 0 _ rfl)
    have k1 := own_cell hrow _ (entGetL s.log (by omega) x hx 1 _ rfl)
    rw [hn] at k0 k1 c8 hq1 h0 hlen
    obtain ⟨m, rfl⟩ : ∃ m, n = m + 1 := ⟨n - 1, by omega⟩
    rw [Nat.add_sub_cancel] at k0 k1
    rw [Nat.add_zero] at k0
    have hm0 : (0 : Int) ≤ (m : Int) := by omega
    have hpos : (0 : Int) < ((m + 1 : Nat) : Int) := by omega
    have hw : IntKind.i64.wrap (((m + 1 : Nat) : Int) - 1) = (m : Int) := by rw [show ((m + 1 : Nat) : Int) - 1 = (m : Int) by omega]; exact IntWalk.i64_in _ (by omega)
    have hw2 : IntKind.i64.wrap ((m : Int) + 1 - 1) = (m : Int) := by rw [show (m : Int) + 1 - 1 = (m : Int) by omega]; exact IntWalk.i64_in _ (by omega)
    have hml : (m : Int) < ((m + 1 : Nat) : Int) := by omega
    have hml2 : (m : Int) < (m : Int) + 1 := by omega
    have hpos2 : (0 : Int) < (m : Int) + 1 := by omega
    clear hn hok h0 hx hxe e1 e2 hrow hlt H
    go_enter Tryz.func121, Tryz.ntmps121
    go_wp2_with fail
    go_quiet (fail)
    go_wp2_with fail
    go_returns
    exact ⟨rfl, _, rfl⟩
end
end Go.Proofs.YtekioplbfoonkaaGreatDoor
namespace Go.Proofs.YtekioplbfoonkaaGreatDoor
open Go.RowKit
set_option linter.unusedVariables false
set_option maxRecDepth 100000
set_option maxHeartbeats 2000000
section
variable {w0 w : World} {I : Part} {L : List HP} {p r : Nat} {d : Dst} {s : Nst} {sv vo ma ne : Value} {role leader commit applied timer : Int}
theorem rlast_sat (hok : s.Ok) (H : Sat w0 I (blk r 129 (ncells p s sv role leader commit applied timer vo ma ne) :: row 73 3 sv s.log.length (s.log.flatMap Ent.cells) :: L) w) :
    Calls Tryz.prog 124 #[.pointer (some ⟨r, 0, none⟩)] w fun e w' => e = .returned (.int .i64 (lastI s : Int)) ∧ Sat w0 I (blk r 129 (ncells p s sv role leader commit applied timer vo ma ne) :: row 73 3 sv s.log.length (s.log.flatMap Ent.cells) :: L) w' := by
  have HH := hid H
  clear H
  go_enter Tryz.func124, Tryz.ntmps124
  go_wp2_with fail
  refine (tlast_sat hok HH.out).mono ?_; rintro e w1 ⟨rfl, S1⟩
  have H1 := hid S1
  clear S1 HH
  go_wp2_with fail
  go_ret
  exact ⟨rfl, H1.out⟩
theorem stored_sat (H : Sat w0 I L w) : Calls Tryz.prog 125 #[.pointer (some ⟨r, 0, none⟩), .int .i64 0] w fun e w' => e = .returned (.bool true) ∧ Sat w0 I L w' := by
  refine ret_sat ?_ H
  go_enter Tryz.func125, Tryz.ntmps125
  go_wp2_with fail
  go_ret
  exact ⟨rfl, 0, rfl⟩
theorem follow_sat (l2 : Int) (H : Sat w0 I (blk r 129 (ncells p s sv role leader commit applied timer vo ma ne) :: L) w) :
    Calls Tryz.prog 120 #[.pointer (some ⟨r, 0, none⟩), .int .i64 l2] w fun e w' => e = .returned (.tuple #[]) ∧ Sat w0 I (blk r 129 (ncells p s sv 0 l2 commit applied timer (.slice none 0 0) (.slice none 0 0) (.slice none 0 0)) :: L) w' := by
  have c9 := H.isBlk.cell 9 (v := .int .i64 role) rfl
  have c10 := H.isBlk.cell 10 (v := .int .i64 leader) rfl
  have c14 := H.isBlk.cell 14 (v := vo) rfl
  have c15 := H.isBlk.cell 15 (v := ma) rfl
  have c16 := H.isBlk.cell 16 (v := ne) rfl
  have f9 := H.isBlk.frozen 9
  have f10 := H.isBlk.frozen 10
  have f14 := H.isBlk.frozen 14
  have f15 := H.isBlk.frozen 15
  have f16 := H.isBlk.frozen 16
  have HH := hid (((((H.set 9 (.int .i64 0) rfl).set 10 (.int .i64 l2) rfl).set 14 (.slice none 0 0) rfl).set 15 (.slice none 0 0) rfl).set 16 (.slice none 0 0) rfl)
  clear H
  go_enter Tryz.func120, Tryz.ntmps120
  go_wp2_with fail
  go_returns
  exact ⟨rfl, HH.out⟩
theorem sendAll_sat (H : Sat w0 I (blk r 129 (ncells p s sv role leader commit applied timer vo ma ne) :: L) w) :
    Calls Tryz.prog 58 #[.pointer (some ⟨r, 0, none⟩)] w fun e w' => e = .returned (.tuple #[]) ∧ Sat w0 I (blk r 129 (ncells p s sv role leader commit applied timer vo ma ne) :: L) w' := by
  have c2 := H.isBlk.cell 2 (v := .int .i64 1) rfl
  have HH := hid H
  clear H
  go_enter Tryz.func58, Tryz.ntmps58
  go_wp2_with fail
  clear c2
  go_loopw [2, 7] (fun _ i wr => (i = .int .i64 0 ∨ i = .int .i64 1) ∧ Sat w0 I (blk r 129 (ncells p s sv role leader commit applied timer vo ma ne) :: L) wr) (fun _ i _ => 1 - (intOf i).toNat)
  case atStart => exact ⟨Or.inl rfl, HH.out⟩
  case round =>
    clear HH
    obtain ⟨hi, Sr⟩ := hrel
    have c1 := Sr.isBlk.cell 1 (v := .int .i64 0) rfl
    have HS := hid Sr
    clear Sr
    rcases hi with rfl | rfl
    · go_wp2_with fail
      go_roundw
      case rel => exact ⟨Or.inr rfl, HS.out⟩
      case measure => simp [intOf]
    · go_wp2_with fail
      go_returns
      exact ⟨rfl, HS.out⟩
theorem keepTerm_sat (hT : Rd I (some ⟨0, 0, none⟩) tabV) {U C : Nat} (h : Dk d U C) (t v : Nat) (ht : t ≤ 1000) (hv : v ≤ 1000) {a : ByteArray} (hsf : Sf d kT a) (hsa : a.size ≤ 1000000000) (hU : U + 28 ≤ 1048576) (hC : C ≤ 1000) (H : Sat w0 I (blk r 129 (ncells p s sv role leader commit applied timer vo ma ne) :: dskp p d :: L) w) :
    Calls Tryz.prog 119 #[.pointer (some ⟨r, 0, none⟩), .int .i64 (t : Int), .int .i64 (v : Int)] w fun e w' => ∃ D, e = .returned (.bool true) ∧ Dk D (U + 28) (C + 2) ∧ Upd d D kT ⟨(termB t v).toArray⟩ ∧ Sat w0 I (blk r 129 (ncells p {s with term := t, vote := v} sv role leader commit applied timer vo ma ne) :: dskp p D :: L) w' := by
  have c0 := H.isBlk.cell 0 (v := .pointer (some ⟨p, 0, none⟩)) rfl
  have HH := hid H.swap
  have HT := hid hT
  have HD := hid h
  have HSF := hid hsf
  clear H hT h hsf
  go_enter Tryz.func119, Tryz.ntmps119
  go_wp2_with fail
  refine (saveTerm_sat HT.out HD.out t v ht hv HSF.out hsa hU hC HH.out).mono ?_; rintro e w1 ⟨D, rfl, k1, k2, S1⟩
  have H1 := hid S1.swap
  have K1 := hid k1
  have K2 := hid k2
  clear S1 HH k1 k2 c0
  go_wp2_with fail
  refine (stored_sat H1.out).mono ?_; rintro e w2 ⟨rfl, S2⟩
  have c3 := S2.isBlk.cell 3 (v := .int .i64 (s.term : Int)) rfl
  have c4 := S2.isBlk.cell 4 (v := .int .i64 (s.vote : Int)) rfl
  have f3 := S2.isBlk.frozen 3
  have f4 := S2.isBlk.frozen 4
  have H2 := hid ((S2.set 3 (.int .i64 (t : Int)) rfl).set 4 (.int .i64 (v : Int)) (cs' := ncells p {s with term := t, vote := v} sv role leader commit applied timer vo ma ne) rfl)
  clear S2 H1
  go_wp2_with fail
  go_ret
  exact ⟨D, rfl, K1.out, K2.out, H2.out⟩
end
end Go.Proofs.YtekioplbfoonkaaGreatDoor
namespace Go.Proofs.YtekioplbfoonkaaGreatDoor
open Go.RowKit
set_option linter.unusedVariables false
set_option maxRecDepth 100000
set_option maxHeartbeats 4000000
section
variable {w0 w : World} {I : Part} {L : List HP} {p r : Nat} {d : Dst} {s : Nst} {sv vo ma ne : Value} {role leader commit applied timer : Int}
theorem advance_sat (hok : s.Ok) (x : Ent) (hx : s.log[s.log.length - 1]? = some x) (hxt : x.term = s.term) (hxi : commit < (x.idx : Int)) (H : Sat w0 I (blk r 129 (ncells p s sv role leader commit applied timer vo ma ne) :: row 73 3 sv s.log.length (s.log.flatMap Ent.cells) :: row 3 1 ma 1 [.int .i64 (x.idx : Int)] :: L) w) :
    Calls Tryz.prog 127 #[.pointer (some ⟨r, 0, none⟩)] w fun e w' => e = .returned (.tuple #[]) ∧ Sat w0 I (blk r 129 (ncells p s sv role leader (x.idx : Int) applied timer vo ma ne) :: row 73 3 sv s.log.length (s.log.flatMap Ent.cells) :: row 3 1 ma 1 [.int .i64 (x.idx : Int)] :: L) w' := by
  have hlen := hok.len
  have hxo : x.Ok := hok.log x (List.mem_of_getElem? hx)
  have hxi2 := hxo.idx
  have hlt : s.log.length - 1 < s.log.length := (List.getElem?_eq_some_iff.1 hx).1
  obtain ⟨ad, cp, rfl, hq1, hq2⟩ := own_shape H.swap.isRow
  have had : ∃ g, ad = some ⟨g, 0, none⟩ := by
    rcases H.swap.isRow.2 with ⟨h, hn⟩ | ⟨g, cap, cur, h, _⟩
    · omega
    · cases h; exact ⟨g, rfl⟩
  obtain ⟨g, rfl⟩ := had
  obtain ⟨am, cm, rfl, hm1, hm2⟩ := own_shape (H.pick 2).isRow
  have ham : ∃ g, am = some ⟨g, 0, none⟩ := by
    rcases (H.pick 2).isRow.2 with ⟨h, hn⟩ | ⟨g, cap, cur, h, _⟩
    · cases hn
    · cases h; exact ⟨g, rfl⟩
  obtain ⟨gm, rfl⟩ := ham
  obtain ⟨n, hn⟩ : ∃ n, s.log.length = n := ⟨_, rfl⟩
  have k0 := entGetL s.log (by omega) x hx 0 _ rfl
  have k1 := entGetL s.log (by omega) x hx 1 _ rfl
  have k2 := entGetL s.log (by omega) x hx 2 _ rfl
  have HN := hid hn
  rw [hn] at k0 k1 k2 hlt hlen hq1 H ⊢
  obtain ⟨m, rfl⟩ : ∃ m, n = m + 1 := ⟨n - 1, by omega⟩
  rw [Nat.add_sub_cancel] at k0 k1 k2
  rw [hxt] at k1
  have K0 := hid k0
  have K1 := hid k1
  have K2 := hid k2
  obtain ⟨E, hE⟩ : ∃ E, s.log.flatMap Ent.cells = E := ⟨_, rfl⟩
  rw [hE] at K0 K1 K2 H ⊢
  have hw : IntKind.i64.wrap (((m + 1 : Nat) : Int) - 1) = (m : Int) := by rw [show ((m + 1 : Nat) : Int) - 1 = (m : Int) by omega]; exact IntWalk.i64_in _ (by omega)
  have hw2 : IntKind.i64.wrap ((m : Int) + 1 - 1) = (m : Int) := by rw [show (m : Int) + 1 - 1 = (m : Int) by omega]; exact IntWalk.i64_in _ (by omega)
  have c8 := H.isBlk.cell 8 (v := .slice (some ⟨g, 0, none⟩) (m + 1) cp) rfl
  have HH := hid H
  clear H hn hx hxt hok hE k0 k1 k2 hxo
  go_enter Tryz.func127, Tryz.ntmps127
  go_wp2_with fail
  clear c8
  go_loopw [2, 3, 4, 6, 48] (fun i _ _ _ _ wr => i = .int .i64 (m : Int) ∧ Sat w0 I (blk r 129 (ncells p s (.slice (some ⟨g, 0, none⟩) (m + 1) cp) role leader commit applied timer vo (.slice (some ⟨gm, 0, none⟩) 1 cm) ne) :: row 73 3 (.slice (some ⟨g, 0, none⟩) (m + 1) cp) (m + 1) E :: row 3 1 (.slice (some ⟨gm, 0, none⟩) 1 cm) 1 [.int .i64 (x.idx : Int)] :: L) wr) (fun _ _ _ _ _ _ => 0)
  case atStart => exact ⟨rfl, HH.out⟩
  case round =>
    clear HH
    obtain ⟨rfl, Sr⟩ := hrel
    have c8 := Sr.isBlk.cell 8 (v := .slice (some ⟨g, 0, none⟩) (m + 1) cp) rfl
    have e0 := own_cell Sr.swap.isRow _ K0.out
    have e1 := own_cell Sr.swap.isRow _ K1.out
    have e2 := own_cell Sr.swap.isRow _ K2.out
    rw [Nat.add_zero] at e0
    obtain ⟨xb, hxb⟩ := Sr.sizeQ
    have H1 := hid ((Sr.alloc (b := xb) (T := 73) (cs := [.int .i64 (x.idx : Int), .int .i64 (s.term : Int), .string x.cmd]) rfl hxb.symm).swap)
    have hm0 : (0 : Int) ≤ (m : Int) := by omega
    have hml : (m : Int) < ((m + 1 : Nat) : Int) := by omega
    have hml2 : (m : Int) < (m : Int) + 1 := by omega
    clear Sr
    go_upto_region 4 with fail
    try rw [hxb]
    refine wp_gen (fun w1 => Sat w0 I (blk r 129 (ncells p s (.slice (some ⟨g, 0, none⟩) (m + 1) cp) role leader commit applied timer vo (.slice (some ⟨gm, 0, none⟩) 1 cm) ne) :: blk xb 73 [.int .i64 (x.idx : Int), .int .i64 (s.term : Int), .string x.cmd] :: row 73 3 (.slice (some ⟨g, 0, none⟩) (m + 1) cp) (m + 1) E :: row 3 1 (.slice (some ⟨gm, 0, none⟩) 1 cm) 1 [.int .i64 (x.idx : Int)] :: L) w1) H1.out ?_
    clear H1 hxb c8 e0 e1 e2
    intro w1 S1
    have c3 := S1.isBlk.cell 3 (v := .int .i64 (s.term : Int)) rfl
    have c11 := S1.isBlk.cell 11 (v := .int .i64 commit) rfl
    have d0 := S1.swap.isBlk.cell 0 (v := .int .i64 (x.idx : Int)) rfl
    have d1 := S1.swap.isBlk.cell 1 (v := .int .i64 (s.term : Int)) rfl
    have H1 := hid S1
    clear S1
    have hnl : ¬ (x.idx : Int) ≤ commit := by omega
    go_quiet (fail)
    have H2 := hid (H1.out.drewN nq)
    clear H1 c3 c11 d0 d1 hnl
    have c15 := H2.out.isBlk.cell 15 (v := .slice (some ⟨gm, 0, none⟩) 1 cm) rfl
    go_wp2_with fail
    clear c15
    go_loopw [4, 6, 48] (fun n _ k wr => ((k = .int .i64 0 ∧ n = .int .i64 0) ∨ (k = .int .i64 1 ∧ n = .int .i64 1)) ∧ Sat w0 I (blk r 129 (ncells p s (.slice (some ⟨g, 0, none⟩) (m + 1) cp) role leader commit applied timer vo (.slice (some ⟨gm, 0, none⟩) 1 cm) ne) :: blk xb 73 [.int .i64 (x.idx : Int), .int .i64 (s.term : Int), .string x.cmd] :: row 73 3 (.slice (some ⟨g, 0, none⟩) (m + 1) cp) (m + 1) E :: row 3 1 (.slice (some ⟨gm, 0, none⟩) 1 cm) 1 [.int .i64 (x.idx : Int)] :: L) wr) (fun _ _ k _ => 1 - (intOf k).toNat)
    case atStart => exact ⟨Or.inl ⟨rfl, rfl⟩, H2.out⟩
    case round =>
      clear H2
      obtain ⟨hk, Sr⟩ := hrel
      have e0 := own_cell (Sr.pick 3).isRow 0 (u := .int .i64 (x.idx : Int)) rfl
      have d0 := Sr.swap.isBlk.cell 0 (v := .int .i64 (x.idx : Int)) rfl
      have c2 := Sr.isBlk.cell 2 (v := .int .i64 1) rfl
      have c11 := Sr.isBlk.cell 11 (v := .int .i64 commit) rfl
      have f11 := Sr.isBlk.frozen 11
      have HS := hid Sr
      have HE := hid (Sr.set 11 (.int .i64 (x.idx : Int)) (cs' := ncells p s (.slice (some ⟨g, 0, none⟩) (m + 1) cp) role leader (x.idx : Int) applied timer vo (.slice (some ⟨gm, 0, none⟩) 1 cm) ne) rfl)
      clear Sr
      rcases hk with ⟨rfl, rfl⟩ | ⟨rfl, rfl⟩
      · clear HE c2 c11 f11
        go_wp2_with fail
        go_roundw
        case rel => exact ⟨Or.inr ⟨rfl, rfl⟩, HS.out⟩
        case measure => simp [intOf]
      · clear HS
        go_wp2_with fail
        go_returns
        exact ⟨rfl, HE.out.swap.drop⟩
end
end Go.Proofs.YtekioplbfoonkaaGreatDoor
