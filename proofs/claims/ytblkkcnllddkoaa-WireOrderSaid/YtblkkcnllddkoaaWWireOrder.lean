/- WireOrder, walked. -/
import Derived.Test.YtblkkcnllddkoaaWirePl
import Derived.WalkLawsBesides
namespace Go.Proofs.Ytblkkcnllddkoaa
open Go.RowKit
set_option linter.unusedVariables false

theorem baSize (l : List UInt8) : (ByteArray.mk l.toArray).size = l.length := by simp [ByteArray.size]
theorem baList (l : List UInt8) : (ByteArray.mk l.toArray).toList = l := by rw [Lib.toList_data]
theorem bytesOf (s : ByteArray) : ∃ l : List UInt8, s = ⟨l.toArray⟩ ∧ l.length = s.size := ⟨s.data.toList, rfl, Array.length_toList⟩

set_option maxRecDepth 100000 in
set_option maxHeartbeats 4000000 in
theorem wireOrder_walk (a b : Int) (w : World) (ha : (Lit.int .u64 a).wf = true) (hb : (Lit.int .u64 b).wf = true) :
    Calls Try.prog 3 #[.int .u64 a, .int .u64 b] w (RetB (.bool true) w.heap.size w) := by
  have ha' := wf_u64 ha
  have hb' := wf_u64 hb
  clear ha hb
  obtain ⟨a, rfl⟩ := Int.eq_ofNat_of_zero_le ha'.1
  obtain ⟨b, rfl⟩ := Int.eq_ofNat_of_zero_le hb'.1
  have hA : a < 18446744073709551616 := by omega
  have hB : b < 18446744073709551616 := by omega
  clear ha' hb'
  have hord := encU_order
  have S0 := Sat.start w
  have H0 := hid S0
  have HO := hid hord
  clear S0 hord
  go_enter Try.func3, Try.ntmps3
  go_wp2_with fail
  obtain ⟨e, he⟩ : ∃ e, w.heap.size = e := ⟨_, rfl⟩
  refine calls_gen (fun w1 => ∃ w2, w1 = w2.alloc (.cells #[.int .u64 (a : Int)] 22) ∧ w2.heap.size = e + 2 ∧ Sat w (wpart w) [enc (e + 1) [], enc e []] w2) ⟨_, rfl, by simp; omega, (H0.out.encNew (by omega)).encNew (by simp; omega)⟩ ?_
  rintro w1 ⟨w2, rfl, hs2, S2⟩
  rw [he, ← hs2]
  have S2 := S2.swap
  refine (encU1_sat _ _ S2 (by omega) (by simp)).mono ?_; rintro r w3 ⟨rfl, S3⟩
  rw [List.nil_append, Int.toNat_natCast] at S3
  have HS3 := hid S3
  clear S3 S2
  go_wp2_with fail
  refine (bytes_sat HS3.out).mono ?_; rintro r w4 ⟨rfl, S4⟩
  clear HS3
  have HS4 := hid S4.swap
  clear S4
  go_wp2_with fail
  refine (encU1_sat _ _ HS4.out (by omega) (by simp)).mono ?_; rintro r w5 ⟨rfl, S5⟩
  rw [List.nil_append, Int.toNat_natCast] at S5
  have HS5 := hid S5
  clear S5 HS4
  go_wp2_with fail
  refine (bytes_sat HS5.out).mono ?_; rintro r w6 ⟨rfl, S6⟩
  have HS6 := hid S6
  clear S6 HS5
  obtain ⟨s, hs⟩ : ∃ s, encU a = s := ⟨_, rfl⟩
  obtain ⟨t, ht⟩ : ∃ t, encU b = t := ⟨_, rfl⟩
  rw [hs, ht]
  have fin : ∀ w7, Sat w (wpart w) [enc (e + 1) (encU b), enc e (encU a)] w7 → Below w.heap.size w w7 := fun w7 S7 => S7.toBelow (Part.le_refl _)
  have HF := hid fin
  clear fin
  by_cases hab : b < a
  · have h1 := HO.out b a hA hab
    rw [hs, ht] at h1
    have HH := hid h1
    have HS := hid hs
    have HT := hid ht
    clear h1 hs ht
    have hab' : (b : Int) < (a : Int) := by omega
    by_cases hl : t.length < s.length
    · have hl' : (t.length : Int) < (s.length : Int) := by omega
      go_wp2_with fail
      refine (awake_sat HS6.out).mono ?_; rintro r w7 ⟨rfl, S7⟩
      have HS7 := hid S7
      clear S7 HS6
      go_wp2_with fail
      go_ret
      exact ⟨rfl, HF.out _ HS7.out⟩
    · have h2 := HH.out.resolve_left hl
      obtain ⟨h3, h4, h5, h6⟩ := h2
      have hl' : ¬ (t.length : Int) < (s.length : Int) := by omega
      have hl2 : ((s.length : Int) == (t.length : Int)) = true := by simp; omega
      have H5 := hid h5
      have H6 := hid h6
      clear h3 h4 h5 h6
      go_wp2_with fail
      refine (awake_sat HS6.out).mono ?_; rintro r w7 ⟨rfl, S7⟩
      have HS7 := hid S7
      clear S7 HS6
      go_wp2_with fail
      go_ret
      refine ⟨ret_bool ?_, HF.out _ HS7.out⟩
      have h6 : (s == t) = false := by rw [beq_eq_false_iff_ne]; exact fun e => H6.out e.symm
      show (!Op.bytesLess s t && !s == t) = true
      rw [H5.out, h6]; rfl
  · by_cases hab2 : a = b
    · subst hab2
      rw [hs] at ht
      subst ht
      have hl' : ¬ (s.length : Int) < (s.length : Int) := by omega
      have hb' : ¬ (a : Int) < (a : Int) := by omega
      have HS := hid hs
      clear hs
      go_wp2_with fail
      refine (awake_sat HS6.out).mono ?_; rintro r w7 ⟨rfl, S7⟩
      have HS7 := hid S7
      clear S7 HS6
      go_wp2_with fail
      go_ret
      refine ⟨ret_bool ?_, HF.out _ HS7.out⟩
      simp
    · have hlt : a < b := by omega
      have h1 := HO.out a b hB hlt
      rw [hs, ht] at h1
      have HH := hid h1
      have HS := hid hs
      have HT := hid ht
      clear h1 hs ht
      have hab' : (a : Int) < (b : Int) := by omega
      have hab3 : ((a : Int) == (b : Int)) = false := by simp; omega
      by_cases hl : s.length < t.length
      · have hl' : (s.length : Int) < (t.length : Int) := by omega
        have hne : s ≠ t := fun e => by rw [e] at hl; omega
        have H6 := hid hne
        clear hne
        go_wp2_with fail
        refine (awake_sat HS6.out).mono ?_; rintro r w7 ⟨rfl, S7⟩
        have HS7 := hid S7
        clear S7 HS6
        go_wp2_with fail
        go_ret
        refine ⟨ret_bool ?_, HF.out _ HS7.out⟩
        have h6 : (s == t) = false := by rw [beq_eq_false_iff_ne]; exact H6.out
        simp [H6.out]
      · have h2 := HH.out.resolve_left hl
        obtain ⟨h3, h4, h5, h6⟩ := h2
        have hl' : ¬ (s.length : Int) < (t.length : Int) := by omega
        have hl2 : ((s.length : Int) == (t.length : Int)) = true := by simp; omega
        have H5 := hid h4
        have H6 := hid h6
        clear h3 h4 h5 h6
        go_wp2_with fail
        refine (awake_sat HS6.out).mono ?_; rintro r w7 ⟨rfl, S7⟩
        have HS7 := hid S7
        clear S7 HS6
        go_wp2_with fail
        · go_ret
          refine ⟨ret_bool ?_, HF.out _ HS7.out⟩
          simp [H5.out, H6.out]
        · rename_i hx; exact absurd (Or.inl H5.out) hx
end Go.Proofs.Ytblkkcnllddkoaa
