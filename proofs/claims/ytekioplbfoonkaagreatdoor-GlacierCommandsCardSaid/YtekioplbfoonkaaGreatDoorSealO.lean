/- Contracts of package seal: Open, Only. -/
import Derived.Test.YtekioplbfoonkaaGreatDoorSealF
import Derived.Deep.CutBlock
import Derived.Deep.DeepCutAuto
namespace Go.Proofs.YtekioplbfoonkaaGreatDoor
open Go.RowKit
set_option linter.unusedVariables false
set_option maxRecDepth 100000
def valS : List UInt8 → Nat
  | [a, b, c, d] => val4 a b c d
  | _ => 0
theorem valS_lt (l : List UInt8) : valS l < 4294967296 := by
  unfold valS; split
  · exact val4_lt _ _ _ _
  · omega
theorem valS_be4 (n : Nat) (h : n < 4294967296) : valS (be4 n) = n := val4_be4 n h
theorem value_str (w : World) (t : ByteArray) (ht : t.size = 4) :
    Calls Tryz.prog 173 #[.string t] w fun e w' => e = .returned (.int .u32 (valS t.data.toList : Int)) ∧ ∃ m, w' = w.drewN m := by
  obtain ⟨⟨l⟩⟩ := t
  match l, ht with
  | [a, b, c, d], _ => exact value_any w a b c d
theorem value_eq (w : World) (t : ByteArray) (ht : t.size = 4) {V : Nat} (hV : valS t.data.toList = V) :
    Calls Tryz.prog 173 #[.string t] w fun e w' => e = .returned (.int .u32 (V : Int)) ∧ ∃ m, w' = w.drewN m := hV ▸ value_str w t ht
/-- what is in the frame ahead of bytes, how long it is, the error. -/
def openR (s : List UInt8) : List UInt8 × Nat × Int :=
  if s.length < 8 then ([], 0, 2) else
  if 1048576 < valS (s.take 4) then ([], 0, 11) else
  if s.length < 8 + valS (s.take 4) then ([], 0, 2) else
  if crc (s.take 4 ++ (s.drop 8).take (valS (s.take 4))) = valS ((s.drop 4).take 4) then ((s.drop 8).take (valS (s.take 4)), 8 + valS (s.take 4), 0)
  else ([], 0, 4)
theorem ext_list (s : ByteArray) (a b : Nat) : (s.extract a b).data.toList = (s.data.toList.drop a).take (b - a) := by
  rw [ByteArray.data_extract, Array.toList_extract]
theorem openR_ba (s : ByteArray) : s.data.toList.length = s.size := by simp
set_option maxRecDepth 100000 in
set_option maxHeartbeats 4000000 in
theorem open_any (w : World) (hT : Rd (wpart w) (some ⟨0, 0, none⟩) tabV) (s : ByteArray) (hs : s.size ≤ 9223372036854775807) {c : List UInt8} {n : Nat} {E : Int} (hO : openR s.data.toList = (c, n, E)) :
    Calls Tryz.prog 134 #[.string s] w (RetB (.tuple #[.string ⟨c.toArray⟩, .int .i64 (n : Int), .int .i64 E]) w.heap.size w) := by
  have H0 := hid (Sat.start w)
  have HT := hid hT
  unfold openR at hO
  rw [openR_ba] at hO
  by_cases h1 : s.size < 8
  · rw [if_pos h1] at hO
    cases hO
    have h1' : (s.size : Int) < 8 := by omega
    go_enter Tryz.func134, Tryz.ntmps134
    go_wp2_with fail
    go_returns
    exact ⟨rfl, H0.out.toBelow (Part.le_refl _)⟩
  · rw [if_neg h1] at hO
    have h1' : ¬ (s.size : Int) < 8 := by omega
    have e4 : s.data.toList.take 4 = (s.extract 0 4).data.toList := by rw [ext_list]; simp
    have z4 : (s.extract 0 4).size = 4 := by rw [ByteArray.size_extract]; omega
    have e8 : (s.data.toList.drop 4).take 4 = (s.extract 4 8).data.toList := by rw [ext_list]
    have z8 : (s.extract 4 8).size = 4 := by rw [ByteArray.size_extract]; omega
    rw [e4, e8] at hO
    obtain ⟨V, hV⟩ : ∃ V, valS (s.extract 0 4).data.toList = V := ⟨_, rfl⟩
    obtain ⟨U, hU⟩ : ∃ U, valS (s.extract 4 8).data.toList = U := ⟨_, rfl⟩
    have hVl : V < 4294967296 := by rw [← hV]; exact valS_lt _
    have hUl : U < 4294967296 := by rw [← hU]; exact valS_lt _
    rw [hV, hU] at hO
    have HV := hid hV
    have HU := hid hU
    have Z4 := hid z4
    have Z8 := hid z8
    have m1 : (4 : Int) ≤ (s.size : Int) := by omega
    have m2 : (8 : Int) ≤ (s.size : Int) := by omega
    clear hV hU e4 e8 z4 z8 hT h1
    by_cases h2 : 1048576 < V
    · rw [if_pos h2] at hO
      cases hO
      have h2' : (1048576 : Int) < (V : Int) := by omega
      go_enter Tryz.func134, Tryz.ntmps134
      go_wp2_with fail
      refine (value_eq _ _ Z4.out HV.out).mono ?_; rintro e w1 ⟨rfl, m, rfl⟩
      go_wp2_with fail
      go_returns
      exact ⟨rfl, (H0.out.drewN m).toBelow (Part.le_refl _)⟩
    · rw [if_neg h2] at hO
      have h2' : ¬ (1048576 : Int) < (V : Int) := by omega
      have h2b : (V : Int) ≤ 1048576 := by omega
      by_cases h3 : s.size < 8 + V
      · rw [if_pos h3] at hO
        cases hO
        have h3' : (s.size : Int) < 8 + (V : Int) := by omega
        go_enter Tryz.func134, Tryz.ntmps134
        go_wp2_with fail
        refine (value_eq _ _ Z4.out HV.out).mono ?_; rintro e w1 ⟨rfl, m, rfl⟩
        go_wp2_with fail
        go_returns
        exact ⟨rfl, (H0.out.drewN m).toBelow (Part.le_refl _)⟩
      · rw [if_neg h3] at hO
        have h3' : ¬ (s.size : Int) < 8 + (V : Int) := by omega
        have h3b : 8 + (V : Int) ≤ (s.size : Int) := by omega
        obtain ⟨N, hN⟩ : ∃ N, 8 + V = N := ⟨_, rfl⟩
        have hNe : (8 : Int) + (V : Int) = (N : Int) := by omega
        have n1 : (8 : Int) ≤ (N : Int) := by omega
        have n2 : (N : Int) ≤ (s.size : Int) := by omega
        have n3 : ¬ (s.size : Int) < (N : Int) := by omega
        have e9 : (s.data.toList.drop 8).take V = (s.extract 8 (8 + V)).data.toList := by rw [ext_list]; congr 1; omega
        have z9 : (s.extract 8 (8 + V)).size = V := by rw [ByteArray.size_extract]; omega
        rw [hN] at e9 z9 hO
        rw [e9] at hO
        obtain ⟨D, hD⟩ : ∃ D, s.extract 8 N = D := ⟨_, rfl⟩
        obtain ⟨A, hA⟩ : ∃ A, s.extract 0 4 = A := ⟨_, rfl⟩
        obtain ⟨B, hB⟩ : ∃ B, s.extract 4 8 = B := ⟨_, rfl⟩
        have Z4 := Z4.out
        have Z8 := Z8.out
        have HV := HV.out
        have HU := HU.out
        rw [hD] at hO z9
        rw [hA] at hO Z4 HV
        rw [hB] at Z8 HU
        have Z4 := hid Z4
        have Z8 := hid Z8
        have HV := hid HV
        have HU := hid HU
        obtain ⟨R, hR⟩ : ∃ R, crcS [A, D] = R := ⟨_, rfl⟩
        have hRc : crc (A.data.toList ++ D.data.toList) = R := by rw [← hR, crcS_eq]; simp
        have hRl : R < 4294967296 := by rw [← hRc]; exact crc_lt _
        rw [hRc] at hO
        have HR := hid hR
        have Z9 := hid z9
        have HO := hid hO
        clear hR hRc z9 e9 hO h3' h3b h3 hN
        go_enter Tryz.func134, Tryz.ntmps134
        go_wp2_with fail
        refine (value_eq _ A Z4.out HV.out).mono ?_; rintro e w1 ⟨rfl, m, rfl⟩
        go_upto_region 10 with fail
        refine wp_gen (fun w1 => Sat w (wpart w) [] w1) (H0.out.drewN m) ?_
        intro w1 S1
        have H1 := hid S1
        clear S1
        obtain ⟨g, hg⟩ := H1.out.sizeEx
        have S3 : Sat w (wpart w) (blk g 9 [.string A, .string D] :: []) (w1.alloc (.cells #[.string A, .string D] 9)) := H1.out.alloc rfl hg.symm
        obtain ⟨J, hJ, S4, hrd⟩ := S3.freezeBlk
        have H4 := hid S4
        have HRD := hid (show Rd J (some ⟨g, 0, none⟩) ([A, D].map Value.string) from hrd)
        have hsz : ∀ s ∈ [A, D], s.size ≤ 9223372036854775806 := fun s hs => by
          have h1 := Z4.out; have h2 := Z9.out
          simp at hs; rcases hs with rfl | rfl <;> omega
        have HSZ := hid hsz
        have HG := hid hg
        obtain ⟨q, hq⟩ : ∃ q, ((R : Int) != (U : Int)) = q := ⟨_, rfl⟩
        clear S3 S4 hrd hg hsz
        go_cut [34] (fun c wx => c = .bool q ∧ Sat w J [] wx)
        case first =>
          go_region_with (first
            | (go_at_call 36; rw [HG.out]; refine (sum_any (HT.out.mono hJ) (some ⟨g, 0, none⟩) 2 2 [A, D] rfl HRD.out (by omega) (by omega) HSZ.out H4.out.drew).mono ?_; rintro e w3 ⟨rfl, rfl⟩; rw [HR.out])
            | (go_at_call 173; refine (value_eq _ B Z8.out HU.out).mono ?_; rintro e w5 ⟨rfl, m2, rfl⟩))
          all_goals
            go_wp2_with fail
            go_meet
            exact ⟨rfl, H4.out.drewN _⟩
        case rest =>
          obtain ⟨rfl, S5⟩ := hcut
          have H5 := hid S5
          have hO := HO.out
          clear S5 H4 HRD HSZ HG
          by_cases hRU : R = U
          · have hqf : q = false := by rw [← hq, hRU]; simp
            subst hqf
            rw [if_pos hRU] at hO
            cases hO
            clear hq hRU
            go_wp2_with fail
            go_returns
            exact ⟨rfl, H5.out.toBelow hJ⟩
          · have hqf : q = true := by rw [← hq]; simp; omega
            subst hqf
            rw [if_neg hRU] at hO
            cases hO
            clear hq hRU
            go_wp2_with fail
            go_returns
            exact ⟨rfl, H5.out.toBelow hJ⟩

theorem open_sat {w0 w : World} {I : Part} {L : List HP} (hT : Rd I (some ⟨0, 0, none⟩) tabV) (s : ByteArray) (hs : s.size ≤ 9223372036854775807) {c : List UInt8} {n : Nat} {E : Int} (hO : openR s.data.toList = (c, n, E)) (H : Sat w0 I L w) :
    Calls Tryz.prog 134 #[.string s] w fun e w' => e = .returned (.tuple #[.string ⟨c.toArray⟩, .int .i64 (n : Int), .int .i64 E]) ∧ Sat w0 I L w' :=
  retB_sat (open_any w (hT.mono H.imm) s hs hO) H
theorem frame_sat {w0 w : World} {I : Part} {L : List HP} (hT : Rd I (some ⟨0, 0, none⟩) tabV) (la : Option Addr) (n cap : Nat) (ss : List ByteArray) (hn : ss.length = n) (hr : Rd I la (ss.map Value.string)) (h0 : 0 < n) (hcap : n ≤ cap) (hcm : cap ≤ 9223372036854775807) (hnm : n ≤ 1048576) {C : List UInt8} (hC : flatS ss = C) (hsz : C.length ≤ 1048576) (H : Sat w0 I L w) :
    Calls Tryz.prog 113 #[.slice la n cap] w fun e w' => e = .returned (.string ⟨(frameL C).toArray⟩) ∧ Sat w0 I L w' :=
  retB_sat (frame_any w (hT.mono H.imm) la n cap ss hn (hr.mono H.imm) h0 hcap hcm hnm hC hsz) H
def onlyR (s : List UInt8) : List UInt8 × Int :=
  if (openR s).2.2 = 0 then (if (openR s).2.1 < s.length then ([], 3) else ((openR s).1, 0)) else ([], (openR s).2.2)
set_option maxHeartbeats 1000000 in
theorem only_sat {w0 w : World} {I : Part} {L : List HP} (hT : Rd I (some ⟨0, 0, none⟩) tabV) (s : ByteArray) (hs : s.size ≤ 9223372036854775807) {c : List UInt8} {E : Int} (hO : onlyR s.data.toList = (c, E)) (H : Sat w0 I L w) :
    Calls Tryz.prog 80 #[.string s] w fun e w' => e = .returned (.tuple #[.string ⟨c.toArray⟩, .int .i64 E]) ∧ Sat w0 I L w' := by
  have HS := hid H
  clear H
  obtain ⟨c1, n1, E1, h1⟩ : ∃ c1 n1 E1, openR s.data.toList = (c1, n1, E1) := ⟨_, _, _, rfl⟩
  unfold onlyR at hO
  rw [h1, openR_ba] at hO
  have HO := hid h1
  clear h1
  simp only at hO
  by_cases hE : E1 = 0
  · rw [if_pos hE] at hO
    subst hE
    by_cases hlt : n1 < s.size
    · rw [if_pos hlt] at hO
      cases hO
      have hd : (n1 : Int) < (s.size : Int) := by omega
      go_enter Tryz.func80, Tryz.ntmps80
      go_wp2_with fail
      refine (open_sat hT s hs HO.out HS.out).mono ?_; rintro e w1 ⟨rfl, S1⟩
      have H1 := hid S1
      clear S1 HS
      go_wp2_with fail
      go_returns
      exact ⟨rfl, H1.out⟩
    · rw [if_neg hlt] at hO
      cases hO
      have hd : ¬ (n1 : Int) < (s.size : Int) := by omega
      go_enter Tryz.func80, Tryz.ntmps80
      go_wp2_with fail
      refine (open_sat hT s hs HO.out HS.out).mono ?_; rintro e w1 ⟨rfl, S1⟩
      have H1 := hid S1
      clear S1 HS
      go_wp2_with fail
      go_returns
      exact ⟨rfl, H1.out⟩
  · rw [if_neg hE] at hO
    cases hO
    have hd : (E == 0) = false := by simpa using hE
    go_enter Tryz.func80, Tryz.ntmps80
    go_wp2_with fail
    refine (open_sat hT s hs HO.out HS.out).mono ?_; rintro e w1 ⟨rfl, S1⟩
    have H1 := hid S1
    clear S1 HS hE
    go_wp2_with fail
    go_returns
    exact ⟨rfl, H1.out⟩
end Go.Proofs.YtekioplbfoonkaaGreatDoor
