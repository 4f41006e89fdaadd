/- WireCut, walked. -/
import Derived.Test.YtblkkcnllddkoaaWireTk
namespace Go.Proofs.Ytblkkcnllddkoaa
open Go.RowKit
set_option linter.unusedVariables false

set_option maxRecDepth 100000 in
set_option maxHeartbeats 8000000 in
theorem wireCut_walk (s : ByteArray) (cut : Int) (w : World) (hs : s.size ≤ 9223372036854775807) (hc : (Lit.int .i64 cut).wf = true) :
    Calls Try.prog 6 #[.string s, .int .i64 cut] w (RetB (.bool true) w.heap.size w) := by
  have hc' := wf_i64 hc
  clear hc
  have H0 := hid (Sat.start w)
  have hcs := cutSize s 200
  obtain ⟨t, ht⟩ : ∃ t, s.extract 0 200 = t := ⟨_, rfl⟩
  rw [ht] at hcs
  have HT := hid ht
  clear ht
  go_enter Try.func6, Try.ntmps6
  go_wp2_with fail
  refine (ret_sat (cut_any _ s 200 (by omega) hs) H0.out).mono ?_; rintro r w1 ⟨rfl, S1⟩
  rw [HT.out]
  have HS1 := hid S1
  clear S1
  go_wp2_with fail
  obtain ⟨e, he⟩ : ∃ e, w1.heap.size = e := ⟨_, rfl⟩
  have S2 := HS1.out.encNew he.symm
  rw [he]
  refine (encS1_sat _ _ (by simp; omega) S2 (by omega) (by simp; omega)).mono ?_; rintro r w2 ⟨rfl, S3⟩
  have HS3 := hid S3
  clear S3 S2 he HS1
  go_wp2_with fail
  refine (bytes_sat HS3.out).mono ?_; rintro r w3 ⟨rfl, S4⟩
  rw [List.nil_append] at S4
  have HS4 := hid S4
  clear S4 HS3
  have hel := encS_len t (by omega)
  have htake := takeS_cut t hcs
  obtain ⟨l, hl⟩ : ∃ l, encS t = l := ⟨_, rfl⟩
  rw [List.nil_append, hl]
  rw [hl] at HS4 hel htake
  have HTK := hid htake
  clear hl htake
  by_cases hA : cut < 0
  · go_wp2_with fail
    refine (awake_sat HS4.out).mono ?_; rintro r w5 ⟨rfl, S5⟩
    have HS5 := hid S5
    clear S5 HS4
    go_wp2_with fail
    refine (awake_sat HS5.out).mono ?_; rintro r w6 ⟨rfl, S6⟩
    have HS6 := hid S6
    clear S6 HS5
    go_wp2_with fail
    go_ret
    exact ⟨rfl, HS6.out.toBelow (Part.le_refl _)⟩
  obtain ⟨c, rfl⟩ := Int.eq_ofNat_of_zero_le (Int.not_lt.1 hA)
  by_cases hB : l.length ≤ c
  · have hB' : (l.length : Int) ≤ (c : Int) := by omega
    go_wp2_with fail
    refine (awake_sat HS4.out).mono ?_; rintro r w5 ⟨rfl, S5⟩
    have HS5 := hid S5
    clear S5 HS4
    go_wp2_with fail
    refine (awake_sat HS5.out).mono ?_; rintro r w6 ⟨rfl, S6⟩
    have HS6 := hid S6
    clear S6 HS5
    go_wp2_with fail
    go_ret
    exact ⟨rfl, HS6.out.toBelow (Part.le_refl _)⟩
  · have hB' : ¬ (l.length : Int) ≤ (c : Int) := by omega
    have hB2 : (c : Int) ≤ (l.length : Int) := by omega
    have htk := HTK.out c (by omega)
    have HTK2 := hid htk
    clear htk
    go_wp2_with fail
    refine (awake_sat HS4.out).mono ?_; rintro r w5 ⟨rfl, S5⟩
    have HS5 := hid S5
    clear S5 HS4
    go_wp2_with fail
    have hx : ((⟨l.toArray⟩ : ByteArray).extract 0 c).data.toList = l.take c := by
      rw [ByteArray.data_extract, Array.toList_extract]; simp [List.extract]
    have hxs : ((⟨l.toArray⟩ : ByteArray).extract 0 c).size ≤ 9223372036854775807 := by
      have := cutSize ⟨l.toArray⟩ c; omega
    refine (from_sat _ HS5.out hxs).mono ?_; rintro r w6 ⟨d, rfl, S6⟩
    rw [hx] at S6
    have HS6 := hid S6
    clear S6 HS5 hx hxs
    go_wp2_with fail
    refine (decS_sat 200 HS6.out (by omega)).mono ?_; rintro r w7 ⟨rfl, S7⟩
    rw [HTK2.out.1, HTK2.out.2] at *
    have HS7 := hid S7
    clear S7 HS6
    go_wp2_with fail
    refine (err_sat HS7.out).mono ?_; rintro r w8 ⟨rfl, S8⟩
    have HS8 := hid S8
    clear S8 HS7
    go_wp2_with fail
    go_ret
    exact ⟨rfl, HS8.out.toBelow (Part.le_refl _)⟩
end Go.Proofs.Ytblkkcnllddkoaa
