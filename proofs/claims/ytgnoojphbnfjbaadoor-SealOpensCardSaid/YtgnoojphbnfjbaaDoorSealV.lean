/- Contracts of the reference of layer 2: Scan. -/
import Derived.Test.YtgnoojphbnfjbaaDoorSealU
import Derived.Test.YtgnoojphbnfjbaaDoorSealS
namespace Go.Proofs.YtgnoojphbnfjbaaDoor
open Go.RowKit
set_option linter.unusedVariables false
theorem refOpen_sat {w0 w : World} {I : Part} {L : List HP} (s : ByteArray) (hs : s.size ≤ 9223372036854775807) {c : List UInt8} {n : Nat} {E : Int} (hO : openR s.data.toList = (c, n, E)) (H : Sat w0 I L w) :
    Calls Tryd.prog 17 #[.string s] w fun e w' => e = .returned (.tuple #[.string ⟨c.toArray⟩, .int .i64 (n : Int), .int .i64 E]) ∧ Sat w0 I L w' :=
  retB_sat (refOpen_any w s hs hO) H
set_option maxRecDepth 100000 in
set_option maxHeartbeats 2000000 in
theorem refScan_sat {w0 w : World} {I : Part} {L : List HP} (s : ByteArray) (hs : s.size ≤ 1048576) {G : List (List UInt8)} {n : Nat} (hS : scanR s.data.toList = (G, n)) (H : Sat w0 I L w) :
    Calls Tryd.prog 18 #[.string s] w fun e w' => ∃ J ad cap, e = .returned (.tuple #[.slice ad G.length cap, .int .i64 (n : Int)]) ∧ G.length ≤ cap ∧ cap ≤ 9223372036854775807 ∧ I.le J ∧ Rd J ad (G.map lv) ∧ Sat w0 J L w' := by
  have H0 := hid H
  have hle := scanR_le (s.data.toList.length + 1) s.data.toList (by omega)
  rw [hS, openR_ba] at hle
  have HSC := hid hS
  obtain ⟨hl1, hl2⟩ := hle
  simp only at hl1 hl2
  clear H hS
  go_enter Tryd.func18, Tryd.ntmps18
  go_wp2_with fail
  go_loopw [4, 5, 6, 7, 8, 9] (fun l at_ t _ _ _ wr => ∃ (q a : Nat), a ≤ s.size ∧ at_ = .int .i64 (a : Int) ∧ t = .int .i64 (q : Int) ∧ 8 * q ≤ a ∧ q ≤ G.length ∧ scanR (s.data.toList.drop a) = (G.drop q, n - a) ∧ a ≤ n ∧ Sat w0 I (row 9 1 l q ((G.map lv).take q) :: L) wr) (fun _ at_ _ _ _ _ _ => s.size - (intOf at_).toNat)
  case atStart =>
    have HS2 := ((H0.out.alloc (cs := []) (vs := #[]) (T := 9) rfl rfl).emptyRow 1)
    exact ⟨0, 0, Nat.zero_le _, rfl, rfl, by omega, Nat.zero_le _, by simpa using HSC.out, Nat.zero_le _, by simpa using HS2⟩
  case round =>
    clear H0
    obtain ⟨q, a, ha, rfl, rfl, hqa, hq, hsc, han, Sr⟩ := hrel
    have HS := hid Sr
    clear Sr
    have ha1 : (a : Int) ≤ (s.size : Int) := by omega
    have ha0 : (0 : Int) ≤ (a : Int) := by omega
    have hq1 : (q : Int) ≤ (s.size : Int) := by omega
    have hq2 : ((q : Nat) : Int) + 1 ≤ 1048577 := by omega
    obtain ⟨t, ht⟩ : ∃ t, s.extract a s.size = t := ⟨_, rfl⟩
    have htl : t.data.toList = s.data.toList.drop a := by rw [← ht]; exact dropS s a
    have hts : t.size = s.size - a := by rw [← ht, ByteArray.size_extract]; omega
    obtain ⟨c1, n1, E1, ho⟩ : ∃ c n E, openR t.data.toList = (c, n, E) := ⟨_, _, _, rfl⟩
    have HO := hid ho
    rw [← htl] at hsc
    by_cases hE : E1 = 0
    · subst hE
      have hk := openR_ok ho
      rw [openR_ba, hts] at hk
      rw [scanR_ok ho, htl, List.drop_drop] at hsc
      simp only [Prod.mk.injEq] at hsc
      obtain ⟨hg, hn⟩ := hsc
      have hql : q < G.length := by
        rcases Nat.lt_or_ge q G.length with h | h
        · exact h
        · rw [List.drop_eq_nil_of_le h] at hg; cases hg
      rw [List.drop_eq_getElem_cons hql] at hg
      simp only [List.cons.injEq] at hg
      have hnew : scanR (s.data.toList.drop (a + n1)) = (G.drop (q + 1), n - (a + n1)) := by
        rw [← hg.2]
        refine Prod.ext rfl ?_
        show (scanR (s.data.toList.drop (a + n1))).2 = _
        omega
      have htk : (G.map lv).take (q + 1) = (G.map lv).take q ++ [.string ⟨c1.toArray⟩] := by
        rw [List.take_succ_eq_append_getElem (by simpa using hql), List.getElem_map, ← hg.1]; rfl
      have hle2 : a + n1 ≤ n := by omega
      have HNEW := hid hnew
      have HTK := hid htk
      have hn1 : a + n1 ≤ s.size := by omega
      have hnI : (a : Int) + (n1 : Int) ≤ 1048576 := by omega
      have hpos : 8 ≤ n1 := hk.1
      clear hg hn hnew htk ho hk htl
      go_wp2_with fail
      try rw [ht]
      refine (refOpen_sat t (by omega) HO.out HS.out).mono ?_; rintro e w4 ⟨rfl, S4⟩
      have H4 := hid S4
      clear S4 HS
      go_wp2_with (at_builtin; refine wpList_appS slStr rfl _ _ rfl H4.out [.string ⟨c1.toArray⟩] rfl rfl rfl rfl ?h1 ?hb ?hn ?_)
      case h1 => intro u hu; simp at hu; subst hu; rfl
      case hb => omega
      case hn => omega
      intro ad cap w5 hc1 hc2 S5
      have H5 := hid S5
      clear S5 H4
      go_wp2_with fail
      go_roundw
      case rel => exact ⟨q + 1, a + n1, hn1, by go_num, by go_num, by omega, hql, HNEW.out, hle2, by rw [HTK.out]; exact H5.out⟩
      case measure => (simp [intOf] <;> omega)
    · rw [scanR_no ho hE] at hsc
      simp only [Prod.mk.injEq] at hsc
      have hq2 : q = G.length := by
        rcases Nat.lt_or_ge q G.length with h | h
        · have := hsc.1; rw [List.drop_eq_getElem_cons h] at this; cases this
        · omega
      have ha2 : a = n := by omega
      subst hq2 ha2
      obtain ⟨J, ad, cp, hJ, S8, hval, hcp1, hcp2, _, hrd2⟩ := HS.out.freezeRow
      subst hval
      unfold maxLen at hcp2
      rw [List.take_of_length_le (by simp)] at hrd2
      have H8 := hid S8
      have HRD := hid hrd2
      have hEb : (E1 == 0) = false := by simpa using hE
      clear hsc ho htl S8 hrd2 HS hE
      go_wp2_with fail
      try rw [ht]
      refine (refOpen_sat t (by omega) HO.out H8.out).mono ?_; rintro e w4 ⟨rfl, S4⟩
      have H4 := hid S4
      have Hc := hid (And.intro hcp1 hcp2)
      clear S4 H8 hcp1 hcp2 hl1 hl2 hq1 hq2 hqa hts ht ha1 ha0 hq han ha
      go_wp2_with fail
      go_returns
      exact ⟨J, ad, cp, rfl, Hc.out.1, Nat.le_trans Hc.out.2 (by decide), hJ, HRD.out, H4.out⟩
end Go.Proofs.YtgnoojphbnfjbaaDoor
