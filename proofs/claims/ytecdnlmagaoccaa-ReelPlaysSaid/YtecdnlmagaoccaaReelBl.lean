/- What can be read of a volume from its beginning: the contract of layer 5's blocks. -/
import Derived.Test.YtecdnlmagaoccaaReelPv
namespace Go.Proofs.Ytecdnlmagaoccaa
open Go.RowKit
set_option linter.unusedVariables false
def txt (b : Bk) : ByteArray := if b.mark = true then ⟨#[109, 97, 114, 107]⟩ else b.s
def gotB : List Bk → List ByteArray
  | [] => []
  | b :: l => if b.torn = true then [] else txt b :: gotB l
theorem gotB_len : ∀ l : List Bk, (gotB l).length ≤ l.length
  | [] => by simp [gotB]
  | b :: l => by
    have := gotB_len l
    unfold gotB; split <;> simp; omega
theorem gotB_get : ∀ (l : List Bk) (q : Nat) (h : q < (gotB l).length), ∃ hq : q < l.length, l[q].torn = false ∧ (gotB l)[q] = txt l[q]
  | [], q, h => by simp [gotB] at h
  | b :: l, q, h => by
    by_cases ht : b.torn = true
    · simp [gotB, ht] at h
    · have e : gotB (b :: l) = txt b :: gotB l := by simp [gotB, ht]
      cases q with
      | zero => exact ⟨by simp, by simpa using ht, by simp [e]⟩
      | succ q =>
        have h' : q < (gotB l).length := by rw [e] at h; simpa using h
        obtain ⟨hq, h1, h2⟩ := gotB_get l q h'
        exact ⟨by simp; omega, by simpa using h1, by simp [e, h2]⟩
theorem gotB_end : ∀ (l : List Bk) (h : (gotB l).length < l.length), (l[(gotB l).length]'h).torn = true
  | [], h => by simp at h
  | b :: l, h => by
    by_cases ht : b.torn = true
    · have e : gotB (b :: l) = [] := by simp [gotB, ht]
      simp only [e, List.length_nil, List.getElem_cons_zero]; exact ht
    · have e : gotB (b :: l) = txt b :: gotB l := by simp [gotB, ht]
      have h' : (gotB l).length < l.length := by rw [e] at h; simpa using h
      have := gotB_end l h'
      simp only [e, List.length_cons, List.getElem_cons_succ]; exact this
theorem pv_read {room : Int} {bl : List Bk} {sure a : Nat} (h : a < bl.length) (ht : bl[a].torn = false) : readS (pv room bl sure a) = ((bl[a].s, bl[a].mark, 0), pv room bl sure (a + 1)) := by
  simp [readS, pv, tryV, tryE, tryA, h, ht]
theorem pv_readTorn {room : Int} {bl : List Bk} {sure a : Nat} (h : a < bl.length) (ht : bl[a].torn = true) : readS (pv room bl sure a) = ((⟨#[]⟩, false, 4), pv room bl sure a) := by
  simp [readS, pv, tryV, tryE, tryA, h, ht]
theorem pv_readEnd {room : Int} {bl : List Bk} {sure a : Nat} (h : ¬ a < bl.length) : readS (pv room bl sure a) = ((⟨#[]⟩, false, 2), pv room bl sure a) := by
  simp [readS, pv, tryV, tryE, tryA, h]
set_option maxRecDepth 100000 in
set_option maxHeartbeats 2000000 in
theorem blocks_sat {w0 w : World} {I : Part} {L : List HP} {p : Nat} {room : Int} {bl : List Bk} {sure a0 : Nat} (hok : ∀ a, a ≤ bl.length → (pv room bl sure a).ok) (hlen : bl.length < 100) (ha0 : a0 ≤ bl.length) (H : Sat w0 I (volp p (pv room bl sure a0) :: L) w) :
    Calls Try.prog 20 #[.pointer (some ⟨p, 0, none⟩)] w fun e w' => ∃ J ad cap, e = .returned (.slice ad (gotB bl).length cap) ∧ (gotB bl).length ≤ cap ∧ cap ≤ 9223372036854775807 ∧ I.le J ∧ Rd J ad ((gotB bl).map Value.string) ∧ Sat w0 J (volp p (pv room bl sure (gotB bl).length) :: L) w' := by
  have HOK := hid hok
  have hgl := gotB_len bl
  have HS := hid H
  have hS0 : seekS (pv room bl sure a0) 0 = (0, pv room bl sure 0) := by
    have := pv_seek (room := room) (bl := bl) (sure := sure) (at_ := a0) 0 (Nat.zero_le _)
    simpa using this
  have HS0 := hid hS0
  clear H hok hS0
  obtain ⟨G, hG⟩ : ∃ G, gotB bl = G := ⟨_, rfl⟩
  rw [hG] at hgl ⊢
  have HG := hid hG
  clear hG
  go_enter Try.func20, Try.ntmps20
  go_wp2_with fail
  obtain ⟨g, hg⟩ : ∃ g, w.heap.size = g := ⟨_, rfl⟩
  have S1 : Sat w0 I (blk g 9 [] :: volp p (pv room bl sure a0) :: L) _ := HS.out.alloc rfl hg.symm
  have H1 := hid (S1.emptyRow 1).swap
  rw [hg]
  clear S1 HS hg
  refine (vseek 0 (HOK.out _ ha0) HS0.out H1.out).mono ?_; rintro e w2 ⟨rfl, S2⟩
  have H2 := hid S2
  clear S2 H1 HS0
  go_wp2_with fail
  go_loopw [3, 4, 5, 6, 7] (fun out i _ _ _ wr => ∃ (q : Nat), q ≤ G.length ∧ i = .int .i64 (q : Int) ∧ Sat w0 I (row 9 1 out q ((G.map Value.string).take q) :: volp p (pv room bl sure q) :: L) wr) (fun _ i _ _ _ _ => 100 - (intOf i).toNat)
  case atStart => exact ⟨0, Nat.zero_le _, rfl, by simpa using H2.out.swap⟩
  case round =>
    clear H2
    obtain ⟨q, hq, rfl, Sr⟩ := hrel
    have H3 := hid Sr.swap
    clear Sr
    have hq1 : (q : Int) < 100 := by omega
    have hvo := HOK.out q (by omega)
    by_cases hlt : q < G.length
    · have hg2 := gotB_get bl q (by rw [HG.out]; exact hlt)
      obtain ⟨hqb, ht, hgt⟩ := hg2
      have hGq : G[q] = txt bl[q] := by
        have e := HG.out
        subst e
        exact hgt
      have htk : (G.map Value.string).take (q + 1) = (G.map Value.string).take q ++ [.string (txt bl[q])] := by rw [List.take_succ_eq_append_getElem (by simpa using hlt), List.getElem_map, hGq]
      have hr := pv_read (room := room) (sure := sure) hqb ht
      obtain ⟨x, hx⟩ : ∃ x, bl[q] = x := ⟨_, rfl⟩
      rw [hx] at htk hr
      have HR := hid hr
      clear hr hGq hgt ht hx
      cases hm : x.mark
      · rw [hm] at HR
        have htx : txt x = x.s := by unfold txt; rw [if_neg (by rw [hm]; decide)]
        rw [htx] at htk
        have HTK := hid htk
        clear htk htx
        go_wp2_with fail
        refine (vread hvo HR.out H3.out).mono ?_; rintro e w4 ⟨rfl, S4⟩
        have H4 := hid S4.swap
        clear S4 H3
        go_wp2_with (at_builtin; refine wpList_appS slStr rfl _ _ rfl H4.out [.string x.s] rfl rfl rfl rfl ?h1 ?hb ?hn ?_)
        case h1 => intro u hu; simp at hu; subst hu; rfl
        case hb => omega
        case hn => omega
        intro ad cap2 w8 hc1 hc2 S8
        have H8 := hid S8
        clear S8 H4
        go_wp2_with fail
        go_roundw
        case rel =>
          refine ⟨q + 1, by omega, by go_num, ?_⟩
          rw [HTK.out]
          exact H8.out
        case measure => (simp [intOf] <;> omega)
      · rw [hm] at HR
        have htx : txt x = ⟨#[109, 97, 114, 107]⟩ := by unfold txt; rw [if_pos hm]
        rw [htx] at htk
        have HTK := hid htk
        clear htk htx
        go_wp2_with fail
        refine (vread hvo HR.out H3.out).mono ?_; rintro e w4 ⟨rfl, S4⟩
        have H4 := hid S4.swap
        clear S4 H3
        go_wp2_with (at_builtin; refine wpList_appS slStr rfl _ _ rfl H4.out [.string ⟨#[109, 97, 114, 107]⟩] rfl rfl rfl rfl ?h1 ?hb ?hn ?_)
        case h1 => intro u hu; simp at hu; subst hu; rfl
        case hb => omega
        case hn => omega
        intro ad cap2 w8 hc1 hc2 S8
        have H8 := hid S8
        clear S8 H4
        go_wp2_with fail
        go_roundw
        case rel =>
          refine ⟨q + 1, by omega, by go_num, ?_⟩
          rw [HTK.out]
          exact H8.out
        case measure => (simp [intOf] <;> omega)
    · obtain rfl : q = G.length := by omega
      by_cases hend : G.length < bl.length
      · have ht : bl[G.length].torn = true := by
          have e := HG.out
          subst e
          exact gotB_end bl hend
        have HR := hid (pv_readTorn (room := room) (sure := sure) hend ht)
        clear ht
        go_wp2_with fail
        refine (vread hvo HR.out H3.out).mono ?_; rintro e w4 ⟨rfl, S4⟩
        have H5 := hid S4.swap
        clear S4 H3
        go_wp2_with fail
        go_ret
        obtain ⟨J, ad, cp, hJ, S8, hval, hcp1, hcp2, _, hrd2⟩ := H5.out.freezeRow
        subst hval
        unfold maxLen at hcp2
        rw [List.take_of_length_le (by simp)] at hrd2
        exact ⟨J, ad, cp, rfl, hcp1, by omega, hJ, hrd2, S8⟩
      · have HR := hid (pv_readEnd (room := room) (sure := sure) hend)
        go_wp2_with fail
        refine (vread hvo HR.out H3.out).mono ?_; rintro e w4 ⟨rfl, S4⟩
        have H5 := hid S4.swap
        clear S4 H3
        go_wp2_with fail
        go_ret
        obtain ⟨J, ad, cp, hJ, S8, hval, hcp1, hcp2, _, hrd2⟩ := H5.out.freezeRow
        subst hval
        unfold maxLen at hcp2
        rw [List.take_of_length_le (by simp)] at hrd2
        exact ⟨J, ad, cp, rfl, hcp1, by omega, hJ, hrd2, S8⟩
end Go.Proofs.Ytecdnlmagaoccaa
