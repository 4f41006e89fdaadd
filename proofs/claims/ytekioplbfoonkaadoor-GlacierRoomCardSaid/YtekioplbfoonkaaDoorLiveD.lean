/- The top's live: answers that the document fixes (all that it needs, in one text). -/
import Derived.Test.YtekioplbfoonkaaDoorName
import Derived.Test.YtekioplbfoonkaaDoorSeal
import Derived.Test.YtekioplbfoonkaaDoorEncD
import Derived.Test.YtekioplbfoonkaaDoorMg1
namespace Go.Proofs.YtekioplbfoonkaaDoor
open Go.RowKit
set_option linter.unusedVariables false
set_option maxRecDepth 100000
set_option maxHeartbeats 2000000
def nparts (n : Nat) : Nat := (n - 1) / 200 + 1
theorem nparts_eq (n : Nat) : nparts n = (max n 1 - 1) / 200 + 1 := by
  unfold nparts
  rcases Nat.eq_zero_or_pos n with h | h
  · subst h; rfl
  · rw [Nat.max_eq_left h]
theorem crc9 : crcS [⟨#[49, 50, 51, 52, 53, 54, 55, 56, 57]⟩] = 3421780262 := by decide +kernel
theorem sum_eq {w0 w : World} {I : Part} {L : List HP} (hT : Rd I (some ⟨0, 0, none⟩) tabV) (la : Option Addr) (n cap : Nat) (ss : List ByteArray) (hn : ss.length = n) (hr : Rd I la (ss.map Value.string)) (hcap : n ≤ cap) (hcm : cap ≤ 9223372036854775807) (hsz : ∀ s ∈ ss, s.size ≤ 9223372036854775806) {V : Nat} (hV : crcS ss = V) (H : Sat w0 I L w) :
    Calls Tryd.prog 13 #[.slice la n cap] w fun e w' => e = .returned (.int .u32 (V : Int)) ∧ Sat w0 I L w' := by
  subst hV
  exact (sum_any hT la n cap ss hn hr hcap hcm hsz H).mono fun e w' ⟨h1, h2⟩ => ⟨h1, by subst h2; exact H⟩
section
variable {w0 w : World} {I : Part} {L : List HP}
theorem parts_sat (n : Nat) (hn : n ≤ 1000000) {N : Int} (hN : (nparts n : Int) = N) (H : Sat w0 I L w) :
    Calls Tryd.prog 14 #[.int .i64 (n : Int)] w fun e w' => e = .returned (.int .i64 N) ∧ Sat w0 I L w' := by
  have hm : max (n : Int) 1 = ((max n 1 : Nat) : Int) := by omega
  have HM := hid hm
  have h1 : 1 ≤ max n 1 := by omega
  have h2 : max n 1 ≤ 1000000 := by omega
  have hq := nparts_eq n
  generalize max n 1 = m at *
  have e1 : ((m : Int) - 1) = ((m - 1 : Nat) : Int) := by omega
  have e2 : (((m - 1) / 200 : Nat) : Int) + 1 = N := by omega
  have HN := hid e2
  have hsm : (m - 1) / 200 ≤ 1000000 := by omega
  have HS := hid H
  clear hm hq hN e2 H
  go_enter Tryd.func14, Tryd.ntmps14
  go_wp2_with (refine wpList_max (o := ⟨some 4, _, _, _, _, _⟩) rfl rfl rfl rfl HM.out ?_)
  go_ret
  refine ⟨ret_int ?_, HS.out⟩
  have := HN.out
  omega
end
theorem live_sat {w0 w : World} {I : Part} {L : List HP} (hT : Rd I (some ⟨0, 0, none⟩) tabV) (H : Sat w0 I L w) :
    Calls Tryd.prog 4 #[] w fun e w' => e = .returned (.bool true) ∧ Sat w0 I L w' := by
  obtain ⟨g, hg⟩ : ∃ g, w.heap.size = g := ⟨_, rfl⟩
  have S1 := H.encNew (b := g) hg.symm
  have H1 := hid S1
  have HT := hid hT
  clear S1 hT H
  go_enter Tryd.func4, Tryd.ntmps4
  go_wp2_with fail
  refine (encU1_sat 49 300 (g := g + 1) (by simp [hg]) H1.out (by omega) (by simp)).mono ?_; rintro e w2 ⟨rfl, S2⟩
  have hb : ([] : List UInt8) ++ encU (300 : Int).toNat = [130, 44] := by decide +kernel
  rw [hb] at S2
  have H2 := hid S2
  clear S2 H1 hg hb
  go_wp2_with fail
  refine (bytes_sat H2.out).mono ?_; rintro e w3 ⟨rfl, S3⟩
  obtain ⟨q, hq⟩ : ∃ q, w3.heap.size = q := ⟨_, rfl⟩
  obtain ⟨J, hJ, S4, hrd⟩ := ((S3.drop).alloc (b := q) (T := 9) (cs := [.string ⟨#[49, 50, 51, 52, 53, 54, 55, 56, 57]⟩]) rfl hq.symm).freezeBlk
  have HJ := hid hJ
  have HR := hid (show Rd J (some ⟨q, 0, none⟩) ([⟨#[49, 50, 51, 52, 53, 54, 55, 56, 57]⟩].map Value.string) from hrd)
  have H4 := hid S4
  clear S3 S4 hrd hJ H2
  go_wp2_with fail
  try rw [hq]
  refine (sum_eq (HT.out.mono HJ.out) (some ⟨q, 0, none⟩) 1 1 [⟨#[49, 50, 51, 52, 53, 54, 55, 56, 57]⟩] rfl HR.out (by omega) (by omega) (by intro s hs; simp at hs; subst hs; decide) crc9 H4.out).mono ?_; rintro e w5 ⟨rfl, S5⟩
  have H5 := hid S5
  clear S5 H4 hq
  go_wp2_with fail
  refine (parts_sat 401 (by omega) (N := 3) (by rfl) H5.out).mono ?_; rintro e w6 ⟨rfl, S6⟩
  have H6 := hid S6
  clear S6 H5
  go_wp2_with fail
  refine (name1 _).mono ?_; rintro e w7 ⟨rfl, n7, rfl⟩
  have H7 := hid (H6.out.drewN n7)
  clear H6
  go_wp2_with fail
  go_ret
  exact ⟨rfl, H7.out.thaw HJ.out⟩
end Go.Proofs.YtekioplbfoonkaaDoor
