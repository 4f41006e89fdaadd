/- Contracts of layer 2's laws: Laid. -/
import Derived.Test.YtgnoojphbnfjbaaDoorSealS
namespace Go.Proofs.YtgnoojphbnfjbaaDoor
open Go.RowKit
set_option linter.unusedVariables false
theorem Sat.blkRd {w0 w : World} {I : Part} {L : List HP} {g : Nat} {T : TypeId} {cs : List Value} (H : Sat w0 I (blk g T cs :: L) w) : Rd (wpart w) (some ⟨g, 0, none⟩) cs := fun i hi =>
  ⟨g, 0, rfl, by rw [Nat.zero_add]; exact cellI_start (H.isBlk.cell i (List.getElem?_eq_getElem hi))⟩
theorem frame1_sat {w0 w : World} {I : Part} {L : List HP} {g : Nat} (hT : Rd I (some ⟨0, 0, none⟩) tabV) (x : ByteArray) (hx : x.size ≤ 1048576) {C : List UInt8} (hC : x.data.toList = C) (H : Sat w0 I (blk g 9 [.string x] :: L) w) :
    Calls Tryd.prog 12 #[.slice (some ⟨g, 0, none⟩) 1 1] w fun e w' => e = .returned (.string ⟨(frameL C).toArray⟩) ∧ Sat w0 I L w' :=
  (retB_sat (frame_any w (hT.mono H.imm) (some ⟨g, 0, none⟩) 1 1 [x] rfl H.blkRd (by omega) (by omega) (by omega) (by omega) (C := C) (by rw [← hC]; simp [flatS]) (by rw [← hC, openR_ba]; exact hx)) H).mono fun e w' ⟨h1, h2⟩ => ⟨h1, h2.drop⟩
/-- frames, one behind the other. -/
def laidL (cs : List (List UInt8)) : List UInt8 := cs.flatMap frameL
theorem laidL_app (a b : List (List UInt8)) : laidL (a ++ b) = laidL a ++ laidL b := by simp [laidL]
theorem laidL_len (cs : List (List UInt8)) (h : ∀ c ∈ cs, c.length ≤ 50) : (laidL cs).length ≤ 58 * cs.length := by
  induction cs with
  | nil => simp [laidL]
  | cons c r ih =>
    have h1 := ih (fun x hx => h x (by simp [hx]))
    have h2 := h c (by simp)
    show (frameL c ++ laidL r).length ≤ _
    rw [List.length_append, frameL_len, List.length_cons]; omega
/-- where each ends. -/
def endL (cs : List (List UInt8)) (i : Nat) : Nat := (laidL (cs.take (i + 1))).length
def endsV (cs : List (List UInt8)) : List Value := (List.range cs.length).map fun i => .int .i64 (endL cs i : Int)
theorem endsV_len (cs : List (List UInt8)) : (endsV cs).length = cs.length := by simp [endsV]
theorem endsV_get (cs : List (List UInt8)) (i : Nat) (h : i < cs.length) : (endsV cs)[i]? = some (.int .i64 (endL cs i : Int)) := by
  simp [endsV, h]
/-- the first texts, each cut. -/
def cutsL (ss : List ByteArray) (k n : Nat) : List (List UInt8) := (ss.take k).map fun s => (s.extract 0 n).data.toList
theorem cutsL_len (ss : List ByteArray) (k n : Nat) : (cutsL ss k n).length = min k ss.length := by simp [cutsL]
theorem cutsL_get (ss : List ByteArray) (k n i : Nat) (h : i < min k ss.length) : (cutsL ss k n)[i]? = some ((ss[i]'(by omega)).extract 0 n).data.toList := by
  have h1 : i < k := by omega
  have h2 : i < ss.length := by omega
  simp [cutsL, h1, h2]
theorem cutsL_le (ss : List ByteArray) (k n : Nat) : ∀ c ∈ cutsL ss k n, c.length ≤ n := fun c hc => by
  obtain ⟨s, _, rfl⟩ := List.mem_map.1 hc
  rw [openR_ba]; exact cutSize s n
set_option maxRecDepth 100000 in
set_option maxHeartbeats 4000000 in
theorem laid_sat {w0 w : World} {I : Part} {L : List HP} (hT : Rd I (some ⟨0, 0, none⟩) tabV) (la : Option Addr) (len cap : Nat) (ss : List ByteArray) (hl : ss.length = len) (hr : Rd I la (ss.map Value.string)) (hss : ∀ s ∈ ss, s.size ≤ 9223372036854775807) (hcap : len ≤ cap) (hcm : cap ≤ 9223372036854775807) {cs : List (List UInt8)} (hcs : cutsL ss 6 50 = cs) (H : Sat w0 I L w) :
    Calls Tryd.prog 14 #[.slice la len cap] w fun e w' => ∃ J ad cp, e = .returned (.tuple #[.string ⟨(laidL cs).toArray⟩, .slice ad cs.length cp]) ∧ cs.length ≤ cp ∧ cp ≤ 9223372036854775807 ∧ I.le J ∧ Rd J ad (endsV cs) ∧ Sat w0 J L w' := by
  have HT := hid hT
  have HS := hid H
  have HR := hid hr
  obtain ⟨N, hN⟩ : ∃ N, cs.length = N := ⟨_, rfl⟩
  have hNm : N = min 6 len := by rw [← hN, ← hcs, cutsL_len, hl]
  have hN1 : N ≤ len := by omega
  have hN2 : N ≤ 6 := by omega
  have HNE := hid (show N = len ∨ (N = 6 ∧ N < len) by omega)
  have hel : ∀ q (h : q < N), ∃ (h1 : q < ss.length) (h2 : q < cs.length), ss[q].size ≤ 9223372036854775807 ∧ (ss[q].extract 0 50).data.toList = cs[q] := fun q h => by
    refine ⟨by omega, by omega, hss _ (List.getElem_mem _), ?_⟩
    have h3 := cutsL_get ss 6 50 q (by omega)
    rw [hcs, List.getElem?_eq_getElem (by omega)] at h3
    exact (Option.some.inj h3).symm
  have hc50 : ∀ c ∈ cs, c.length ≤ 50 := by rw [← hcs]; exact cutsL_le ss 6 50
  have HE := hid hel
  have HC50 := hid hc50
  have HN := hid hN
  clear hT H hr hel hc50 hNm hcs hl hss hN
  go_enter Tryd.func14, Tryd.ntmps14
  go_upto_block 0 with fail
  obtain ⟨g, hg⟩ := HS.out.sizeEx
  have S1 : Sat w0 I (blk g 3 [] :: L) _ := HS.out.alloc rfl hg.symm
  have H1 := hid (S1.emptyRow 1)
  rw [hg]
  clear S1 HS hg
  go_cut [4, 5] (fun sv ev wx => sv = .string ⟨(laidL cs).toArray⟩ ∧ Sat w0 I (row 3 1 ev N (endsV cs) :: L) wx)
  case first =>
    go_wp2_with fail
    go_loopw [4, 5, 6] (fun sv ev i wr => ∃ q : Nat, q ≤ N ∧ i = .int .i64 (q : Int) ∧ sv = .string ⟨(laidL (cs.take q)).toArray⟩ ∧ Sat w0 I (row 3 1 ev q ((endsV cs).take q) :: L) wr) (fun _ _ i _ => N - (intOf i).toNat)
    case atStart => exact ⟨0, Nat.zero_le _, rfl, rfl, by simpa using H1.out⟩
    case round =>
      clear H1
      obtain ⟨q, hq, rfl, rfl, Sr⟩ := hrel
      have HS := hid Sr
      clear Sr
      by_cases hlt : q < N
      · obtain ⟨hqs, hqC, hsm, hcq⟩ := HE.out q hlt
        obtain ⟨b', off, rfl, c0⟩ := HR.out.get HS.out q (u := .string ss[q]) (by simp [hqs])
        have hq1 : (q : Int) < (len : Int) := by omega
        have hq2 : (q : Int) < 6 := by omega
        have hq0 : (0 : Int) ≤ (q : Int) := by omega
        have h50 := HC50.out cs[q] (List.getElem_mem hqC)
        have hll := laidL_len (cs.take q) (fun c hc => HC50.out c (List.mem_of_mem_take hc))
        rw [List.length_take] at hll
        have hlq : laidL (cs.take (q + 1)) = laidL (cs.take q) ++ frameL cs[q] := by rw [List.take_succ_eq_append_getElem hqC, laidL_app]; simp [laidL]
        have hev : (endsV cs).take (q + 1) = (endsV cs).take q ++ [.int .i64 ((laidL (cs.take (q + 1))).length : Int)] := by
          have h1 : q < (endsV cs).length := by rw [endsV_len]; exact hqC
          have h2 := endsV_get cs q hqC
          rw [List.getElem?_eq_getElem h1] at h2
          rw [List.take_succ_eq_append_getElem h1, Option.some.inj h2]; rfl
        rw [hlq] at hev
        generalize ss[q] = s at *
        generalize cs[q] = c at *
        generalize laidL (cs.take q) = A at *
        have HLQ := hid hlq
        have HEV := hid hev
        have HCQ := hid hcq
        clear hlq hev hcq
        go_wp2_with fail
        refine (cut_sat s 50 (by omega) hsm HS.out).mono ?_; rintro e w6 ⟨rfl, S6⟩
        have hx := HCQ.out
        have hz := cutSize s 50
        generalize s.extract 0 50 = x at *
        have H6 := hid S6
        have HX := hid hx
        clear S6 HS c0 hx HCQ
        go_wp2_with fail
        obtain ⟨g2, hg2⟩ := H6.out.sizeEx
        have S7 : Sat w0 I (blk g2 9 [.string x] :: _ :: L) _ := H6.out.alloc rfl hg2.symm
        rw [hg2]
        clear hg2
        refine (frame1_sat HT.out x (by omega) HX.out S7).mono ?_; rintro e w8 ⟨rfl, S8⟩
        have H8 := hid S8
        clear S7 S8 H6
        obtain ⟨a, ha⟩ : ∃ a : ByteArray, (⟨A.toArray⟩ : ByteArray) = a := ⟨_, rfl⟩
        obtain ⟨f, hf⟩ : ∃ f : ByteArray, (⟨(frameL c).toArray⟩ : ByteArray) = f := ⟨_, rfl⟩
        have hal : a.size = A.length := by rw [← ha]; simp [ByteArray.size]
        have hfl : f.size = c.length + 8 := by rw [← hf]; simp [ByteArray.size, frameL_len]
        have haf : a ++ f = ⟨(A ++ frameL c).toArray⟩ := by rw [← ha, ← hf, baApp]
        have hafl : (A ++ frameL c).length = a.size + f.size := by rw [List.length_append, frameL_len, hal, hfl]
        rw [ha, hf]
        have hl1 : ¬ 9223372036854775807 < a.size + f.size := by omega
        have hl2 : ((a.size + f.size : Nat) : Int) ≤ 1048576 := by omega
        have HAF := hid haf
        have HAFL := hid hafl
        clear ha hf hal hfl haf hafl
        go_wp2_with (at_builtin; refine wpList_appS slInt rfl _ _ rfl H8.out [.int .i64 ((a.size : Int) + (f.size : Int))] rfl rfl rfl rfl ?h1 ?hb ?hn ?_)
        case h1 => intro u hu; simp at hu; subst hu; rfl
        case hb => omega
        case hn => omega
        intro ad cap2 w9 hc1 hc2 S9
        have H9 := hid S9
        clear S9 H8
        go_wp2_with fail
        go_roundw
        case rel =>
          refine ⟨q + 1, by omega, by go_num, ?_, ?_⟩
          · rw [HLQ.out, ← HAF.out]
          · rw [HEV.out, HAFL.out, Int.natCast_add]; exact H9.out
        case measure => (simp [intOf] <;> omega)
      · obtain rfl : N = q := by omega
        have hfull : (endsV cs).take N = endsV cs := by rw [← HN.out]; exact List.take_of_length_le (by rw [endsV_len]; exact Nat.le_refl _)
        have hcsf : cs.take N = cs := by rw [← HN.out, List.take_length]
        rw [hfull] at HS
        rw [hcsf]
        clear hfull hcsf
        have hx : ¬ (N : Int) < (len : Int) ∨ (¬ (N : Int) < 6 ∧ (N : Int) < (len : Int)) := by have := HNE.out; omega
        rcases hx with hx | ⟨hx, hx2⟩
        all_goals
          go_wp2_with fail
          go_meet
          exact ⟨rfl, HS.out⟩
  case rest =>
    obtain ⟨rfl, S5⟩ := hcut
    obtain ⟨J, ad, cp, hJ, S8, hval, hcp1, hcp2, _, hrd2⟩ := S5.freezeRow
    subst hval
    unfold maxLen at hcp2
    have H8 := hid S8
    have HRD := hid hrd2
    clear S5 S8 hrd2 H1
    go_wp2_with fail
    go_returns
    have hN := HN.out
    exact ⟨J, ad, cp, by rw [hN]; rfl, by omega, by omega, hJ, HRD.out, H8.out⟩
end Go.Proofs.YtgnoojphbnfjbaaDoor
