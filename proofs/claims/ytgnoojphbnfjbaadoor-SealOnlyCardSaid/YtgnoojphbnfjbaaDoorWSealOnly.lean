/- SealOnly, walked. -/
import Derived.Test.YtgnoojphbnfjbaaDoorSealA
namespace Go.Proofs.YtgnoojphbnfjbaaDoor
open Go.RowKit
set_option linter.unusedVariables false
set_option maxRecDepth 100000 in
set_option maxHeartbeats 2000000 in
theorem sealOnly_walk (a t : ByteArray) (w : World) (hT : Rd (wpart w) (some ⟨0, 0, none⟩) tabV) (ha : a.size ≤ maxLen) (ht : t.size ≤ maxLen) :
    Calls Tryd.prog 4 #[.string a, .string t] w (RetB (.bool true) w.heap.size w) := by
  unfold maxLen at ha ht
  have H0 := hid (Sat.start w)
  have HT := hid hT
  clear hT
  have za := cutSize a 100
  have zt := cutSize t 20
  obtain ⟨x, hx⟩ : ∃ x, a.extract 0 100 = x := ⟨_, rfl⟩
  obtain ⟨y, hy⟩ : ∃ y, t.extract 0 20 = y := ⟨_, rfl⟩
  rw [hx] at za
  rw [hy] at zt
  have HX := hid hx
  have HY := hid hy
  clear hx hy
  go_enter Tryd.func4, Tryd.ntmps4
  go_wp2_with fail
  refine (cut_sat a 100 (by omega) ha H0.out).mono ?_; rintro e w1 ⟨rfl, S1⟩
  rw [HX.out]
  have H1 := hid S1
  clear S1 H0
  go_wp2_with fail
  refine (cut_sat t 20 (by omega) ht H1.out).mono ?_; rintro e w2 ⟨rfl, S2⟩
  rw [HY.out]
  have H2 := hid S2
  clear S2 H1 HX HY ha ht
  go_wp2_with fail
  obtain ⟨g, hg⟩ := H2.out.sizeEx
  have S3 : Sat w (wpart w) (blk g 9 [.string x] :: []) _ := H2.out.alloc rfl hg.symm
  rw [hg]
  clear hg
  obtain ⟨J, hJ, S4, hrd⟩ := S3.freezeBlk
  have H4 := hid S4
  have HRD := hid (show Rd J (some ⟨g, 0, none⟩) ([x].map Value.string) from hrd)
  have HTJ := hid (HT.out.mono hJ)
  clear S3 S4 hrd H2 HT
  have hfx : flatS [x] = x.data.toList := by simp [flatS]
  have hxl : x.data.toList.length = x.size := openR_ba x
  refine (frame_sat HTJ.out (some ⟨g, 0, none⟩) 1 1 [x] rfl HRD.out (by omega) (by omega) (by omega) (by omega) hfx (by omega) H4.out).mono ?_; rintro e w5 ⟨rfl, S5⟩
  have H5 := hid S5
  clear S5 H4 HRD hfx
  obtain ⟨f, hf⟩ : ∃ f : ByteArray, (⟨(frameL x.data.toList).toArray⟩ : ByteArray) = f := ⟨_, rfl⟩
  have hfl : f.data.toList = frameL x.data.toList := by rw [← hf]
  have hfs : f.size = x.size + 8 := by
    have h1 := openR_ba f
    rw [hfl, frameL_len, hxl] at h1; exact h1.symm
  rw [hf]
  have ho1 : onlyR f.data.toList = (x.data.toList, 0) := by rw [hfl]; exact onlyR_frame _ (by omega)
  have HO1 := hid ho1
  have HFL := hid hfl
  have HXL := hid hxl
  clear hf ho1 hfl hxl
  go_wp2_with fail
  refine (only_sat HTJ.out f (by omega) HO1.out H5.out).mono ?_; rintro e w6 ⟨rfl, S6⟩
  have H6 := hid S6
  clear S6 H5
  have hb : (⟨x.data.toList.toArray⟩ : ByteArray) = x := rfl
  rw [hb]
  clear hb
  have l1 : ¬ 9223372036854775807 < f.size + y.size := by omega
  by_cases hy0 : y.size = 0
  · obtain rfl : y = ⟨#[]⟩ := ByteArray.ext (Array.eq_empty_of_size_eq_zero hy0)
    have hfy : f ++ (⟨#[]⟩ : ByteArray) = f := by apply ByteArray.ext; simp
    have l3 : ¬ 9223372036854775807 < f.size := by omega
    clear hy0 zt
    go_wp2_with fail
    try rw [hfy]
    refine (only_sat HTJ.out f (by omega) HO1.out H6.out).mono ?_; rintro e w7 ⟨rfl, S7⟩
    have H7 := hid S7
    clear S7 H6
    have hb : (⟨x.data.toList.toArray⟩ : ByteArray) = x := rfl
    rw [hb]
    clear hb
    go_wp2_with fail
    refine (sawake_sat HTJ.out H7.out).mono ?_; rintro e w8 ⟨rfl, S8⟩
    have H8 := hid S8
    clear S8 H7
    go_wp2_with fail
    go_ret
    exact ⟨by simp, H8.out.toBelow hJ⟩
  · obtain ⟨b, l, rfl⟩ : ∃ (b : UInt8) (l : List UInt8), y = ⟨(b :: l).toArray⟩ := by
      obtain ⟨⟨l⟩⟩ := y
      cases l with
      | nil => exact absurd rfl hy0
      | cons b l => exact ⟨b, l, rfl⟩
    obtain ⟨z, hz⟩ : ∃ z : ByteArray, f ++ ⟨(b :: l).toArray⟩ = z := ⟨_, rfl⟩
    have hzl : z.data.toList = frameL x.data.toList ++ (b :: l) := by rw [← hz, ← HFL.out]; simp
    have hzs : z.size ≤ 9223372036854775807 := by
      rw [← hz]; simp; omega
    have ho2 : onlyR z.data.toList = ([], 3) := by rw [hzl]; exact onlyR_tail _ _ (by have := HXL.out; omega) (by simp)
    have HO2 := hid ho2
    have HZ := hid hz
    clear ho2 hzl hz hy0
    go_wp2_with fail
    rw [HZ.out]
    refine (only_sat HTJ.out z hzs HO2.out H6.out).mono ?_; rintro e w7 ⟨rfl, S7⟩
    have H7 := hid S7
    clear S7 H6
    go_wp2_with fail
    refine (sawake_sat HTJ.out H7.out).mono ?_; rintro e w8 ⟨rfl, S8⟩
    have H8 := hid S8
    clear S8 H7
    go_wp2_with fail
    go_ret
    exact ⟨by simp, H8.out.toBelow hJ⟩
end Go.Proofs.YtgnoojphbnfjbaaDoor
