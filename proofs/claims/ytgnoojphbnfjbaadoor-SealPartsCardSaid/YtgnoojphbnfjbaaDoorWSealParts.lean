/- SealParts, walked (its last statement, a drawn region, by an invariant; printed by tool/mkparts.py). -/
import Derived.Test.YtgnoojphbnfjbaaDoorInv
import Derived.Test.YtgnoojphbnfjbaaDoorSealA
import Derived.Laws.IdiomStrings
namespace Go.Proofs.YtgnoojphbnfjbaaDoor
open Go.RowKit
set_option linter.unusedVariables false
set_option maxRecDepth 100000
/-- what is known of the region, by the operations that are done. -/
inductive paPhi (w0 : World) (I : Part) (s fr : ByteArray) (A B X Y : Nat) (c : UInt8) (f : Nat → Bool) (w : World) : Act → Prop
  | mk (u4 u5 u6 u7 u10 u11 u12 u13 u14 u15 u16 u17 u18 u19 u20 u21 u22 u23 u24 u25 x0 x1 x2 x3 x4 x5 x6 x7 x8 x9 x10 x11 x12 x13 x14 x15 x16 x17 x18 x19 x20 x21 x22 x23 x24 x25 x26 x27 x28 x29 x30 x31 x32 x33 x34 x35 x36 x37 x38 x39 x40 x41 x42 x43 x44 x45 x46 x47 : Value) (g0 g1 g2 g3 g4 g5 g6 : Nat) (J : Part) (hIJ : I.le J) (F0 : Hid (f 0 = true → x0 = (.bool true : Value))) (F1 : Hid (f 1 = true → x1 = (.bool true : Value))) (F2 : Hid (f 2 = true → x2 = (.string s : Value))) (F3 : Hid (f 3 = true → x3 = (.int .i64 (A : Int) : Value))) (F4 : Hid (f 4 = true → x4 = (.string (s.extract 0 A) : Value))) (F5 : Hid (f 5 = true → x5 = (.string s : Value))) (F6 : Hid (f 6 = true → x6 = (.int .i64 (A : Int) : Value))) (F7 : Hid (f 7 = true → x7 = (.int .i64 (B : Int) : Value))) (F8 : Hid (f 8 = true → x8 = (.string (s.extract A B) : Value))) (F9 : Hid (f 9 = true → x9 = (.string s : Value))) (F10 : Hid (f 10 = true → x10 = (.int .i64 (B : Int) : Value))) (F11 : Hid (f 11 = true → x11 = (.string (s.extract B s.size) : Value))) (F12 : Hid (f 12 = true → x12 = (.slice (some ⟨g0, 0, none⟩) 3 3 : Value) ∧ Rd J (some ⟨g0, 0, none⟩) [.string (s.extract 0 A), .string (s.extract A B), .string (s.extract B s.size)])) (F13 : Hid (f 13 = true → x13 = (.int .u32 (X : Int) : Value))) (F14 : Hid (f 14 = true → x14 = (.int .u32 (X : Int) : Value))) (F15 : Hid (f 15 = true → x15 = (.bool true : Value))) (F16 : Hid (f 16 = true → x16 = (.bool true : Value))) (F17 : Hid (f 17 = true → x17 = (.bool true : Value))) (F18 : Hid (f 18 = true → x18 = (.string s : Value))) (F19 : Hid (f 19 = true → x19 = (.int .u8 (c.toNat : Int) : Value))) (F20 : Hid (f 20 = true → x20 = (.slice (some ⟨g1, 0, none⟩) 1 1 : Value) ∧ Rd J (some ⟨g1, 0, none⟩) [.int .u8 (c.toNat : Int)])) (F21 : Hid (f 21 = true → x21 = (.string (⟨#[c]⟩ : ByteArray) : Value))) (F22 : Hid (f 22 = true → x22 = (.slice (some ⟨g2, 0, none⟩) 2 2 : Value) ∧ Rd J (some ⟨g2, 0, none⟩) [.string s, .string (⟨#[c]⟩ : ByteArray)])) (F23 : Hid (f 23 = true → x23 = (.int .u32 (Y : Int) : Value))) (F24 : Hid (f 24 = true → x24 = (.string s : Value))) (F25 : Hid (f 25 = true → x25 = (.int .u8 (c.toNat : Int) : Value))) (F26 : Hid (f 26 = true → x26 = (.slice (some ⟨g3, 0, none⟩) 1 1 : Value) ∧ Rd J (some ⟨g3, 0, none⟩) [.int .u8 (c.toNat : Int)])) (F27 : Hid (f 27 = true → x27 = (.string (⟨#[c]⟩ : ByteArray) : Value))) (F28 : Hid (f 28 = true → x28 = (.string (s ++ (⟨#[c]⟩ : ByteArray)) : Value))) (F29 : Hid (f 29 = true → x29 = (.slice (some ⟨g4, 0, none⟩) 1 1 : Value) ∧ Rd J (some ⟨g4, 0, none⟩) [.string (s ++ (⟨#[c]⟩ : ByteArray))])) (F30 : Hid (f 30 = true → x30 = (.int .u32 (Y : Int) : Value))) (F31 : Hid (f 31 = true → x31 = (.bool true : Value))) (F32 : Hid (f 32 = true → x32 = (.bool true : Value))) (F33 : Hid (f 33 = true → x33 = (.bool true : Value))) (F34 : Hid (f 34 = true → x34 = (.string s : Value))) (F35 : Hid (f 35 = true → x35 = (.int .i64 (A : Int) : Value))) (F36 : Hid (f 36 = true → x36 = (.string (s.extract 0 A) : Value))) (F37 : Hid (f 37 = true → x37 = (.string s : Value))) (F38 : Hid (f 38 = true → x38 = (.int .i64 (A : Int) : Value))) (F39 : Hid (f 39 = true → x39 = (.string (s.extract A s.size) : Value))) (F40 : Hid (f 40 = true → x40 = (.slice (some ⟨g5, 0, none⟩) 2 2 : Value) ∧ Rd J (some ⟨g5, 0, none⟩) [.string (s.extract 0 A), .string (s.extract A s.size)])) (F41 : Hid (f 41 = true → x41 = (.string fr : Value))) (F42 : Hid (f 42 = true → x42 = (.string s : Value))) (F43 : Hid (f 43 = true → x43 = (.slice (some ⟨g6, 0, none⟩) 1 1 : Value) ∧ Rd J (some ⟨g6, 0, none⟩) [.string s])) (F44 : Hid (f 44 = true → x44 = (.string fr : Value))) (F45 : Hid (f 45 = true → x45 = (.bool true : Value))) (F46 : Hid (f 46 = true → x46 = (.bool true : Value))) (F47 : Hid (f 47 = true → x47 = (.bool true : Value)))
    (HS : Hid (Sat w0 J [] w)) : paPhi w0 I s fr A B X Y c f w ⟨#[.string s, .int .i64 (A : Int), .int .i64 (B : Int), .int .u8 (c.toNat : Int), u4, u5, u6, u7, x47, .int .u32 (X : Int), u10, u11, u12, u13, u14, u15, u16, u17, u18, u19, u20, u21, u22, u23, u24, u25, x0, x1, x2, x3, x4, x5, x6, x7, x8, x9, x10, x11, x12, x13, x14, x15, x16, x17, x18, x19, x20, x21, x22, x23, x24, x25, x26, x27, x28, x29, x30, x31, x32, x33, x34, x35, x36, x37, x38, x39, x40, x41, x42, x43, x44, x45, x46], []⟩

theorem flat3 (s : ByteArray) (A B : Nat) (hA : A ≤ B) (hB : B ≤ s.size) : flatS [s.extract 0 A, s.extract A B, s.extract B s.size] = s.data.toList := by
  have hl : s.data.toList.length = s.size := openR_ba s
  unfold flatS
  simp only [List.flatMap_cons, List.flatMap_nil, List.append_nil, ext_list, List.drop_zero, Nat.sub_zero]
  have e3 : (s.data.toList.drop B).take (s.size - B) = s.data.toList.drop B := List.take_of_length_le (by rw [List.length_drop]; omega)
  have e2 : (s.data.toList.drop A).take (B - A) ++ s.data.toList.drop B = s.data.toList.drop A := by
    have := List.take_append_drop (B - A) (s.data.toList.drop A)
    rw [List.drop_drop, show A + (B - A) = B by omega] at this
    exact this
  rw [e3, e2, List.take_append_drop]
theorem flat2 (s : ByteArray) (A : Nat) (hA : A ≤ s.size) : flatS [s.extract 0 A, s.extract A s.size] = s.data.toList := by
  have hl : s.data.toList.length = s.size := openR_ba s
  unfold flatS
  simp only [List.flatMap_cons, List.flatMap_nil, List.append_nil, ext_list, List.drop_zero, Nat.sub_zero]
  have e3 : (s.data.toList.drop A).take (s.size - A) = s.data.toList.drop A := List.take_of_length_le (by rw [List.length_drop]; omega)
  rw [e3, List.take_append_drop]
theorem flat1 (s : ByteArray) : flatS [s] = s.data.toList := by simp [flatS]
theorem flat_c (s : ByteArray) (c : UInt8) : flatS [s, ⟨#[c]⟩] = flatS [s ++ ⟨#[c]⟩] := by simp [flatS]
set_option maxHeartbeats 40000000 in
theorem sealParts_walk (s0 : ByteArray) (a0 b0 c0 : Int) (w : World) (hT : Rd (wpart w) (some ⟨0, 0, none⟩) tabV) (hs : s0.size ≤ maxLen) (ha : (Lit.int .i64 a0).wf = true) (hb : (Lit.int .i64 b0).wf = true) (hc : (Lit.int .u8 c0).wf = true) :
    Calls Tryd.prog 3 #[.string s0, .int .i64 a0, .int .i64 b0, .int .u8 c0] w (RetB (.bool true) w.heap.size w) := by
  unfold maxLen at hs
  have hc' := wf_u8 hc
  obtain ⟨c, rfl⟩ : ∃ c : UInt8, c0 = (c.toNat : Int) := ⟨UInt8.ofNat c0.toNat, by
    have : (UInt8.ofNat c0.toNat).toNat = c0.toNat := mod_toNat _ (by omega)
    omega⟩
  have za := cutSize s0 150
  obtain ⟨s, hx⟩ : ∃ x, s0.extract 0 150 = x := ⟨_, rfl⟩
  rw [hx] at za
  have HX := hid hx
  have H0 := hid (Sat.start w)
  have HT := hid hT
  obtain ⟨A, hA⟩ : ∃ A : Nat, min (max a0 0) (s.size : Int) = (A : Int) := ⟨(min (max a0 0) (s.size : Int)).toNat, by omega⟩
  have hAs : A ≤ s.size := by omega
  obtain ⟨B, hB⟩ : ∃ B : Nat, min (max b0 (A : Int)) (s.size : Int) = (B : Int) := ⟨(min (max b0 (A : Int)) (s.size : Int)).toNat, by omega⟩
  have hBs : B ≤ s.size := by omega
  have hAB : A ≤ B := by omega
  have HA := hid hA
  have HB := hid hB
  obtain ⟨X, hX⟩ : ∃ X, crcS [s] = X := ⟨_, rfl⟩
  obtain ⟨Y, hY⟩ : ∃ Y, crcS [s ++ ⟨#[c]⟩] = Y := ⟨_, rfl⟩
  obtain ⟨fr, hfr⟩ : ∃ fr : ByteArray, (⟨(frameL s.data.toList).toArray⟩ : ByteArray) = fr := ⟨_, rfl⟩
  have FR := hid hfr
  have E0 := hid hX
  have E1 := hid hY
  have hl := openR_ba s
  have E2 := hid (show crcS [s, ⟨#[c]⟩] = Y by rw [crcS_eq] at hY ⊢; rw [← hY]; exact congrArg crc (flat_c s c))
  have E3 := hid (show crcS [s.extract 0 A, s.extract A B, s.extract B s.size] = X by rw [crcS_eq] at hX ⊢; rw [← hX]; exact congrArg crc ((flat3 s A B hAB hBs).trans (flat1 s).symm))
  have L2 := hid (flat2 s A hAs)
  have L1 := hid (flat1 s)
  have SL := hid (show s.data.toList.length ≤ 150 by omega)
  have SZ3 := hid (show ∀ t ∈ [s.extract 0 A, s.extract A B, s.extract B s.size], t.size ≤ 9223372036854775806 by intro t ht; simp at ht; rcases ht with rfl | rfl | rfl <;> (rw [ByteArray.size_extract]; omega))
  have SZ2 := hid (show ∀ t ∈ [s, (⟨#[c]⟩ : ByteArray)], t.size ≤ 9223372036854775806 by intro t ht; simp at ht; rcases ht with rfl | rfl; omega; show (1 : Nat) ≤ _; omega)
  have SZ1 := hid (show ∀ t ∈ [s ++ (⟨#[c]⟩ : ByteArray)], t.size ≤ 9223372036854775806 by intro t ht; simp at ht; subst ht; rw [ByteArray.size_append]; show s.size + 1 ≤ _; omega)
  have SZ0 := hid (show ∀ t ∈ [s], t.size ≤ 9223372036854775806 by intro t ht; simp at ht; subst ht; omega)
  have hsum : ¬ 9223372036854775807 < s.size + (⟨#[c]⟩ : ByteArray).size := by show ¬ 9223372036854775807 < s.size + 1; omega
  have HSUM := hid hsum
  clear hT ha hb hc hc' hx hA hB hX hY hfr hl hsum
  go_enter Tryd.func3, Tryd.ntmps3
  go_wp2_with fail
  refine (cut_sat s0 150 (by omega) (by omega) H0.out).mono ?_; rintro e w1 ⟨rfl, S1⟩
  rw [HX.out]
  have H1 := hid S1
  clear S1 H0 HX hs
  go_wp2_with (first | (refine wpList_max (o := ⟨some 13, _, _, _, _, _⟩) rfl rfl rfl rfl rfl ?_) | (refine wpList_min (o := ⟨some 16, _, _, _, _, _⟩) rfl rfl rfl rfl HA.out ?_) | (refine wpList_max (o := ⟨some 19, _, _, _, _, _⟩) rfl rfl rfl rfl rfl ?_) | (refine wpList_min (o := ⟨some 22, _, _, _, _, _⟩) rfl rfl rfl rfl HB.out ?_))
  obtain ⟨g, hg⟩ := H1.out.sizeEx
  obtain ⟨J0, hJ0, S2, hrd0⟩ := (H1.out.alloc (b := g) (T := 9) (cs := [Value.string s]) rfl hg.symm).freezeBlk
  have H2 := hid S2
  have HR0 := hid (show Rd J0 (some ⟨g, 0, none⟩) ([s].map Value.string) from hrd0)
  have HT0 := hid (HT.out.mono hJ0)
  try rw [hg]
  clear S2 hrd0 H1 hg HT
  rename Hid (Rd J0 _ tabV) => HT
  refine (sum_eq HT.out (some ⟨g, 0, none⟩) 1 1 [s] rfl HR0.out (by omega) (by omega) SZ0.out (V := X) E0.out H2.out).mono ?_; rintro e w2 ⟨rfl, S3⟩
  have H3 := hid S3
  clear S3 H2 HR0
  go_upto_region 5 with fail
  rw [HA.out, HB.out]
  refine wp_region_inv (by kernel_rfl) (by kernel_rfl) (fun f a w' => paPhi w J0 s fr A B X Y c f w' a) ?h0 ?hs ?he
  case h0 => exact paPhi.mk (f := fun _ => false) _ _ _ _ _ _ _ _ _ _ _ _ _ _ _ _ _ _ _ _ _ _ _ _ _ _ _ _ _ _ _ _ _ _ _ _ _ _ _ _ _ _ _ _ _ _ _ _ _ _ _ _ _ _ _ _ _ _ _ _ _ _ _ _ _ _ _ _ 0 0 0 0 0 0 0 J0 (Part.le_refl _) (hid (fun h => by cases h)) (hid (fun h => by cases h)) (hid (fun h => by cases h)) (hid (fun h => by cases h)) (hid (fun h => by cases h)) (hid (fun h => by cases h)) (hid (fun h => by cases h)) (hid (fun h => by cases h)) (hid (fun h => by cases h)) (hid (fun h => by cases h)) (hid (fun h => by cases h)) (hid (fun h => by cases h)) (hid (fun h => by cases h)) (hid (fun h => by cases h)) (hid (fun h => by cases h)) (hid (fun h => by cases h)) (hid (fun h => by cases h)) (hid (fun h => by cases h)) (hid (fun h => by cases h)) (hid (fun h => by cases h)) (hid (fun h => by cases h)) (hid (fun h => by cases h)) (hid (fun h => by cases h)) (hid (fun h => by cases h)) (hid (fun h => by cases h)) (hid (fun h => by cases h)) (hid (fun h => by cases h)) (hid (fun h => by cases h)) (hid (fun h => by cases h)) (hid (fun h => by cases h)) (hid (fun h => by cases h)) (hid (fun h => by cases h)) (hid (fun h => by cases h)) (hid (fun h => by cases h)) (hid (fun h => by cases h)) (hid (fun h => by cases h)) (hid (fun h => by cases h)) (hid (fun h => by cases h)) (hid (fun h => by cases h)) (hid (fun h => by cases h)) (hid (fun h => by cases h)) (hid (fun h => by cases h)) (hid (fun h => by cases h)) (hid (fun h => by cases h)) (hid (fun h => by cases h)) (hid (fun h => by cases h)) (hid (fun h => by cases h)) (hid (fun h => by cases h)) (hid H3.out.drew)
  case hs =>
    clear H3
    rintro f a w i o ⟨u4, u5, u6, u7, u10, u11, u12, u13, u14, u15, u16, u17, u18, u19, u20, u21, u22, u23, u24, u25, x0, x1, x2, x3, x4, x5, x6, x7, x8, x9, x10, x11, x12, x13, x14, x15, x16, x17, x18, x19, x20, x21, x22, x23, x24, x25, x26, x27, x28, x29, x30, x31, x32, x33, x34, x35, x36, x37, x38, x39, x40, x41, x42, x43, x44, x45, x46, x47, g0, g1, g2, g3, g4, g5, g6, J, hIJ, F0, F1, F2, F3, F4, F5, F6, F7, F8, F9, F10, F11, F12, F13, F14, F15, F16, F17, F18, F19, F20, F21, F22, F23, F24, F25, F26, F27, F28, F29, F30, F31, F32, F33, F34, F35, F36, F37, F38, F39, F40, F41, F42, F43, F44, F45, F46, F47, HS⟩ ho hf hall K' hK
    have hi : i < 48 := (Array.getElem?_eq_some_iff.1 ho).1
    have hi2 : i = 0 ∨ i = 1 ∨ i = 2 ∨ i = 3 ∨ i = 4 ∨ i = 5 ∨ i = 6 ∨ i = 7 ∨ i = 8 ∨ i = 9 ∨ i = 10 ∨ i = 11 ∨ i = 12 ∨ i = 13 ∨ i = 14 ∨ i = 15 ∨ i = 16 ∨ i = 17 ∨ i = 18 ∨ i = 19 ∨ i = 20 ∨ i = 21 ∨ i = 22 ∨ i = 23 ∨ i = 24 ∨ i = 25 ∨ i = 26 ∨ i = 27 ∨ i = 28 ∨ i = 29 ∨ i = 30 ∨ i = 31 ∨ i = 32 ∨ i = 33 ∨ i = 34 ∨ i = 35 ∨ i = 36 ∨ i = 37 ∨ i = 38 ∨ i = 39 ∨ i = 40 ∨ i = 41 ∨ i = 42 ∨ i = 43 ∨ i = 44 ∨ i = 45 ∨ i = 46 ∨ i = 47 := by omega
    rcases hi2 with rfl | rfl | rfl | rfl | rfl | rfl | rfl | rfl | rfl | rfl | rfl | rfl | rfl | rfl | rfl | rfl | rfl | rfl | rfl | rfl | rfl | rfl | rfl | rfl | rfl | rfl | rfl | rfl | rfl | rfl | rfl | rfl | rfl | rfl | rfl | rfl | rfl | rfl | rfl | rfl | rfl | rfl | rfl | rfl | rfl | rfl | rfl | rfl

    · obtain rfl := Option.some.inj ho
      go_simp
      go_at_call 11
      refine (sawake_sat (HT.out.mono hIJ) HS.out).mono ?_
      rintro r w5 ⟨rfl, S5⟩
      have H5 := hid S5
      clear S5 HS
      exact hK _ _ (paPhi.mk u4 u5 u6 u7 u10 u11 u12 u13 u14 u15 u16 u17 u18 u19 u20 u21 u22 u23 u24 u25 _ x1 x2 x3 x4 x5 x6 x7 x8 x9 x10 x11 x12 x13 x14 x15 x16 x17 x18 x19 x20 x21 x22 x23 x24 x25 x26 x27 x28 x29 x30 x31 x32 x33 x34 x35 x36 x37 x38 x39 x40 x41 x42 x43 x44 x45 x46 x47 g0 g1 g2 g3 g4 g5 g6 J hIJ (hid (fun _ => rfl)) (F1) (F2) (F3) (F4) (F5) (F6) (F7) (F8) (F9) (F10) (F11) (F12) (F13) (F14) (F15) (F16) (F17) (F18) (F19) (F20) (F21) (F22) (F23) (F24) (F25) (F26) (F27) (F28) (F29) (F30) (F31) (F32) (F33) (F34) (F35) (F36) (F37) (F38) (F39) (F40) (F41) (F42) (F43) (F44) (F45) (F46) (F47) H5)
    · obtain rfl := Option.some.inj ho
      have d0 : f 0 = true := hall { on := 0, ground := Ground.data } (by simp) (by rfl)
      obtain rfl := F0.out d0
      go_simp
      exact hK _ _ (paPhi.mk u4 u5 u6 u7 u10 u11 u12 u13 u14 u15 u16 u17 u18 u19 u20 u21 u22 u23 u24 u25 _ _ x2 x3 x4 x5 x6 x7 x8 x9 x10 x11 x12 x13 x14 x15 x16 x17 x18 x19 x20 x21 x22 x23 x24 x25 x26 x27 x28 x29 x30 x31 x32 x33 x34 x35 x36 x37 x38 x39 x40 x41 x42 x43 x44 x45 x46 x47 g0 g1 g2 g3 g4 g5 g6 J hIJ (F0) (hid (fun _ => rfl)) (F2) (F3) (F4) (F5) (F6) (F7) (F8) (F9) (F10) (F11) (F12) (F13) (F14) (F15) (F16) (F17) (F18) (F19) (F20) (F21) (F22) (F23) (F24) (F25) (F26) (F27) (F28) (F29) (F30) (F31) (F32) (F33) (F34) (F35) (F36) (F37) (F38) (F39) (F40) (F41) (F42) (F43) (F44) (F45) (F46) (F47) HS)
    · obtain rfl := Option.some.inj ho
      have d1 : f 1 = true := hall { on := 1, ground := Ground.guard } (by simp) (by rfl)
      obtain rfl := F1.out d1
      go_simp
      exact hK _ _ (paPhi.mk u4 u5 u6 u7 u10 u11 u12 u13 u14 u15 u16 u17 u18 u19 u20 u21 u22 u23 u24 u25 x0 _ _ x3 x4 x5 x6 x7 x8 x9 x10 x11 x12 x13 x14 x15 x16 x17 x18 x19 x20 x21 x22 x23 x24 x25 x26 x27 x28 x29 x30 x31 x32 x33 x34 x35 x36 x37 x38 x39 x40 x41 x42 x43 x44 x45 x46 x47 g0 g1 g2 g3 g4 g5 g6 J hIJ (F0) (F1) (hid (fun _ => rfl)) (F3) (F4) (F5) (F6) (F7) (F8) (F9) (F10) (F11) (F12) (F13) (F14) (F15) (F16) (F17) (F18) (F19) (F20) (F21) (F22) (F23) (F24) (F25) (F26) (F27) (F28) (F29) (F30) (F31) (F32) (F33) (F34) (F35) (F36) (F37) (F38) (F39) (F40) (F41) (F42) (F43) (F44) (F45) (F46) (F47) HS)
    · obtain rfl := Option.some.inj ho
      have d1 : f 1 = true := hall { on := 1, ground := Ground.guard } (by simp) (by rfl)
      obtain rfl := F1.out d1
      go_simp
      exact hK _ _ (paPhi.mk u4 u5 u6 u7 u10 u11 u12 u13 u14 u15 u16 u17 u18 u19 u20 u21 u22 u23 u24 u25 x0 _ x2 _ x4 x5 x6 x7 x8 x9 x10 x11 x12 x13 x14 x15 x16 x17 x18 x19 x20 x21 x22 x23 x24 x25 x26 x27 x28 x29 x30 x31 x32 x33 x34 x35 x36 x37 x38 x39 x40 x41 x42 x43 x44 x45 x46 x47 g0 g1 g2 g3 g4 g5 g6 J hIJ (F0) (F1) (F2) (hid (fun _ => rfl)) (F4) (F5) (F6) (F7) (F8) (F9) (F10) (F11) (F12) (F13) (F14) (F15) (F16) (F17) (F18) (F19) (F20) (F21) (F22) (F23) (F24) (F25) (F26) (F27) (F28) (F29) (F30) (F31) (F32) (F33) (F34) (F35) (F36) (F37) (F38) (F39) (F40) (F41) (F42) (F43) (F44) (F45) (F46) (F47) HS)
    · obtain rfl := Option.some.inj ho
      have d2 : f 2 = true := hall { on := 2, ground := Ground.data } (by simp) (by rfl)
      have d3 : f 3 = true := hall { on := 3, ground := Ground.data } (by simp) (by rfl)
      have d1 : f 1 = true := hall { on := 1, ground := Ground.guard } (by simp) (by rfl)
      obtain rfl := F2.out d2
      obtain rfl := F3.out d3
      obtain rfl := F1.out d1
      go_simp
      exact hK _ _ (paPhi.mk u4 u5 u6 u7 u10 u11 u12 u13 u14 u15 u16 u17 u18 u19 u20 u21 u22 u23 u24 u25 x0 _ _ _ _ x5 x6 x7 x8 x9 x10 x11 x12 x13 x14 x15 x16 x17 x18 x19 x20 x21 x22 x23 x24 x25 x26 x27 x28 x29 x30 x31 x32 x33 x34 x35 x36 x37 x38 x39 x40 x41 x42 x43 x44 x45 x46 x47 g0 g1 g2 g3 g4 g5 g6 J hIJ (F0) (F1) (F2) (F3) (hid (fun _ => rfl)) (F5) (F6) (F7) (F8) (F9) (F10) (F11) (F12) (F13) (F14) (F15) (F16) (F17) (F18) (F19) (F20) (F21) (F22) (F23) (F24) (F25) (F26) (F27) (F28) (F29) (F30) (F31) (F32) (F33) (F34) (F35) (F36) (F37) (F38) (F39) (F40) (F41) (F42) (F43) (F44) (F45) (F46) (F47) HS)
    · obtain rfl := Option.some.inj ho
      have d1 : f 1 = true := hall { on := 1, ground := Ground.guard } (by simp) (by rfl)
      obtain rfl := F1.out d1
      go_simp
      exact hK _ _ (paPhi.mk u4 u5 u6 u7 u10 u11 u12 u13 u14 u15 u16 u17 u18 u19 u20 u21 u22 u23 u24 u25 x0 _ x2 x3 x4 _ x6 x7 x8 x9 x10 x11 x12 x13 x14 x15 x16 x17 x18 x19 x20 x21 x22 x23 x24 x25 x26 x27 x28 x29 x30 x31 x32 x33 x34 x35 x36 x37 x38 x39 x40 x41 x42 x43 x44 x45 x46 x47 g0 g1 g2 g3 g4 g5 g6 J hIJ (F0) (F1) (F2) (F3) (F4) (hid (fun _ => rfl)) (F6) (F7) (F8) (F9) (F10) (F11) (F12) (F13) (F14) (F15) (F16) (F17) (F18) (F19) (F20) (F21) (F22) (F23) (F24) (F25) (F26) (F27) (F28) (F29) (F30) (F31) (F32) (F33) (F34) (F35) (F36) (F37) (F38) (F39) (F40) (F41) (F42) (F43) (F44) (F45) (F46) (F47) HS)
    · obtain rfl := Option.some.inj ho
      have d1 : f 1 = true := hall { on := 1, ground := Ground.guard } (by simp) (by rfl)
      obtain rfl := F1.out d1
      go_simp
      exact hK _ _ (paPhi.mk u4 u5 u6 u7 u10 u11 u12 u13 u14 u15 u16 u17 u18 u19 u20 u21 u22 u23 u24 u25 x0 _ x2 x3 x4 x5 _ x7 x8 x9 x10 x11 x12 x13 x14 x15 x16 x17 x18 x19 x20 x21 x22 x23 x24 x25 x26 x27 x28 x29 x30 x31 x32 x33 x34 x35 x36 x37 x38 x39 x40 x41 x42 x43 x44 x45 x46 x47 g0 g1 g2 g3 g4 g5 g6 J hIJ (F0) (F1) (F2) (F3) (F4) (F5) (hid (fun _ => rfl)) (F7) (F8) (F9) (F10) (F11) (F12) (F13) (F14) (F15) (F16) (F17) (F18) (F19) (F20) (F21) (F22) (F23) (F24) (F25) (F26) (F27) (F28) (F29) (F30) (F31) (F32) (F33) (F34) (F35) (F36) (F37) (F38) (F39) (F40) (F41) (F42) (F43) (F44) (F45) (F46) (F47) HS)
    · obtain rfl := Option.some.inj ho
      have d1 : f 1 = true := hall { on := 1, ground := Ground.guard } (by simp) (by rfl)
      obtain rfl := F1.out d1
      go_simp
      exact hK _ _ (paPhi.mk u4 u5 u6 u7 u10 u11 u12 u13 u14 u15 u16 u17 u18 u19 u20 u21 u22 u23 u24 u25 x0 _ x2 x3 x4 x5 x6 _ x8 x9 x10 x11 x12 x13 x14 x15 x16 x17 x18 x19 x20 x21 x22 x23 x24 x25 x26 x27 x28 x29 x30 x31 x32 x33 x34 x35 x36 x37 x38 x39 x40 x41 x42 x43 x44 x45 x46 x47 g0 g1 g2 g3 g4 g5 g6 J hIJ (F0) (F1) (F2) (F3) (F4) (F5) (F6) (hid (fun _ => rfl)) (F8) (F9) (F10) (F11) (F12) (F13) (F14) (F15) (F16) (F17) (F18) (F19) (F20) (F21) (F22) (F23) (F24) (F25) (F26) (F27) (F28) (F29) (F30) (F31) (F32) (F33) (F34) (F35) (F36) (F37) (F38) (F39) (F40) (F41) (F42) (F43) (F44) (F45) (F46) (F47) HS)
    · obtain rfl := Option.some.inj ho
      have d5 : f 5 = true := hall { on := 5, ground := Ground.data } (by simp) (by rfl)
      have d6 : f 6 = true := hall { on := 6, ground := Ground.data } (by simp) (by rfl)
      have d7 : f 7 = true := hall { on := 7, ground := Ground.data } (by simp) (by rfl)
      have d1 : f 1 = true := hall { on := 1, ground := Ground.guard } (by simp) (by rfl)
      obtain rfl := F5.out d5
      obtain rfl := F6.out d6
      obtain rfl := F7.out d7
      obtain rfl := F1.out d1
      go_simp
      exact hK _ _ (paPhi.mk u4 u5 u6 u7 u10 u11 u12 u13 u14 u15 u16 u17 u18 u19 u20 u21 u22 u23 u24 u25 x0 _ x2 x3 x4 _ _ _ _ x9 x10 x11 x12 x13 x14 x15 x16 x17 x18 x19 x20 x21 x22 x23 x24 x25 x26 x27 x28 x29 x30 x31 x32 x33 x34 x35 x36 x37 x38 x39 x40 x41 x42 x43 x44 x45 x46 x47 g0 g1 g2 g3 g4 g5 g6 J hIJ (F0) (F1) (F2) (F3) (F4) (F5) (F6) (F7) (hid (fun _ => rfl)) (F9) (F10) (F11) (F12) (F13) (F14) (F15) (F16) (F17) (F18) (F19) (F20) (F21) (F22) (F23) (F24) (F25) (F26) (F27) (F28) (F29) (F30) (F31) (F32) (F33) (F34) (F35) (F36) (F37) (F38) (F39) (F40) (F41) (F42) (F43) (F44) (F45) (F46) (F47) HS)
    · obtain rfl := Option.some.inj ho
      have d1 : f 1 = true := hall { on := 1, ground := Ground.guard } (by simp) (by rfl)
      obtain rfl := F1.out d1
      go_simp
      exact hK _ _ (paPhi.mk u4 u5 u6 u7 u10 u11 u12 u13 u14 u15 u16 u17 u18 u19 u20 u21 u22 u23 u24 u25 x0 _ x2 x3 x4 x5 x6 x7 x8 _ x10 x11 x12 x13 x14 x15 x16 x17 x18 x19 x20 x21 x22 x23 x24 x25 x26 x27 x28 x29 x30 x31 x32 x33 x34 x35 x36 x37 x38 x39 x40 x41 x42 x43 x44 x45 x46 x47 g0 g1 g2 g3 g4 g5 g6 J hIJ (F0) (F1) (F2) (F3) (F4) (F5) (F6) (F7) (F8) (hid (fun _ => rfl)) (F10) (F11) (F12) (F13) (F14) (F15) (F16) (F17) (F18) (F19) (F20) (F21) (F22) (F23) (F24) (F25) (F26) (F27) (F28) (F29) (F30) (F31) (F32) (F33) (F34) (F35) (F36) (F37) (F38) (F39) (F40) (F41) (F42) (F43) (F44) (F45) (F46) (F47) HS)
    · obtain rfl := Option.some.inj ho
      have d1 : f 1 = true := hall { on := 1, ground := Ground.guard } (by simp) (by rfl)
      obtain rfl := F1.out d1
      go_simp
      exact hK _ _ (paPhi.mk u4 u5 u6 u7 u10 u11 u12 u13 u14 u15 u16 u17 u18 u19 u20 u21 u22 u23 u24 u25 x0 _ x2 x3 x4 x5 x6 x7 x8 x9 _ x11 x12 x13 x14 x15 x16 x17 x18 x19 x20 x21 x22 x23 x24 x25 x26 x27 x28 x29 x30 x31 x32 x33 x34 x35 x36 x37 x38 x39 x40 x41 x42 x43 x44 x45 x46 x47 g0 g1 g2 g3 g4 g5 g6 J hIJ (F0) (F1) (F2) (F3) (F4) (F5) (F6) (F7) (F8) (F9) (hid (fun _ => rfl)) (F11) (F12) (F13) (F14) (F15) (F16) (F17) (F18) (F19) (F20) (F21) (F22) (F23) (F24) (F25) (F26) (F27) (F28) (F29) (F30) (F31) (F32) (F33) (F34) (F35) (F36) (F37) (F38) (F39) (F40) (F41) (F42) (F43) (F44) (F45) (F46) (F47) HS)
    · obtain rfl := Option.some.inj ho
      have d9 : f 9 = true := hall { on := 9, ground := Ground.data } (by simp) (by rfl)
      have d10 : f 10 = true := hall { on := 10, ground := Ground.data } (by simp) (by rfl)
      have d1 : f 1 = true := hall { on := 1, ground := Ground.guard } (by simp) (by rfl)
      obtain rfl := F9.out d9
      obtain rfl := F10.out d10
      obtain rfl := F1.out d1
      go_simp
      exact hK _ _ (paPhi.mk u4 u5 u6 u7 u10 u11 u12 u13 u14 u15 u16 u17 u18 u19 u20 u21 u22 u23 u24 u25 x0 _ x2 x3 x4 x5 x6 x7 x8 _ _ _ x12 x13 x14 x15 x16 x17 x18 x19 x20 x21 x22 x23 x24 x25 x26 x27 x28 x29 x30 x31 x32 x33 x34 x35 x36 x37 x38 x39 x40 x41 x42 x43 x44 x45 x46 x47 g0 g1 g2 g3 g4 g5 g6 J hIJ (F0) (F1) (F2) (F3) (F4) (F5) (F6) (F7) (F8) (F9) (F10) (hid (fun _ => rfl)) (F12) (F13) (F14) (F15) (F16) (F17) (F18) (F19) (F20) (F21) (F22) (F23) (F24) (F25) (F26) (F27) (F28) (F29) (F30) (F31) (F32) (F33) (F34) (F35) (F36) (F37) (F38) (F39) (F40) (F41) (F42) (F43) (F44) (F45) (F46) (F47) HS)
    · obtain rfl := Option.some.inj ho
      have d4 : f 4 = true := hall { on := 4, ground := Ground.data } (by simp) (by rfl)
      have d8 : f 8 = true := hall { on := 8, ground := Ground.data } (by simp) (by rfl)
      have d11 : f 11 = true := hall { on := 11, ground := Ground.data } (by simp) (by rfl)
      have d1 : f 1 = true := hall { on := 1, ground := Ground.guard } (by simp) (by rfl)
      obtain rfl := F4.out d4
      obtain rfl := F8.out d8
      obtain rfl := F11.out d11
      obtain rfl := F1.out d1
      obtain ⟨gn, hgn⟩ : ∃ g, w.heap.size = g := ⟨_, rfl⟩
      obtain ⟨J2, hJ2, S1, hrd⟩ := (HS.out.alloc (b := gn) (T := 9) (cs := [.string (s.extract 0 A), .string (s.extract A B), .string (s.extract B s.size)]) rfl hgn.symm).freezeBlk
      have H2 := hid S1
      have HRD := hid hrd
      clear S1 hrd HS
      go_simp
      try rw [hgn]
      exact hK _ _ (paPhi.mk u4 u5 u6 u7 u10 u11 u12 u13 u14 u15 u16 u17 u18 u19 u20 u21 u22 u23 u24 u25 x0 _ x2 x3 _ x5 x6 x7 _ x9 x10 _ _ x13 x14 x15 x16 x17 x18 x19 x20 x21 x22 x23 x24 x25 x26 x27 x28 x29 x30 x31 x32 x33 x34 x35 x36 x37 x38 x39 x40 x41 x42 x43 x44 x45 x46 x47 gn g1 g2 g3 g4 g5 g6 J2 (Part.le_trans hIJ hJ2) (F0) (F1) (F2) (F3) (F4) (F5) (F6) (F7) (F8) (F9) (F10) (F11) (hid (fun _ => ⟨rfl, HRD.out⟩)) (F13) (F14) (F15) (F16) (F17) (F18) (F19) (hid (fun h => ⟨(F20.out h).1, (F20.out h).2.mono hJ2⟩)) (F21) (hid (fun h => ⟨(F22.out h).1, (F22.out h).2.mono hJ2⟩)) (F23) (F24) (F25) (hid (fun h => ⟨(F26.out h).1, (F26.out h).2.mono hJ2⟩)) (F27) (F28) (hid (fun h => ⟨(F29.out h).1, (F29.out h).2.mono hJ2⟩)) (F30) (F31) (F32) (F33) (F34) (F35) (F36) (F37) (F38) (F39) (hid (fun h => ⟨(F40.out h).1, (F40.out h).2.mono hJ2⟩)) (F41) (F42) (hid (fun h => ⟨(F43.out h).1, (F43.out h).2.mono hJ2⟩)) (F44) (F45) (F46) (F47) H2)
    · obtain rfl := Option.some.inj ho
      have d12 : f 12 = true := hall { on := 12, ground := Ground.data } (by simp) (by rfl)
      have d1 : f 1 = true := hall { on := 1, ground := Ground.guard } (by simp) (by rfl)
      obtain ⟨rfl, hrd⟩ := F12.out d12
      have HRD := hid hrd
      clear hrd
      obtain rfl := F1.out d1
      go_simp
      go_at_call 10
      refine (sum_eq (HT.out.mono hIJ) (some ⟨g0, 0, none⟩) 3 3 [(s.extract 0 A), (s.extract A B), (s.extract B s.size)] rfl HRD.out (by omega) (by omega) (SZ3.out) (V := X) E3.out HS.out).mono ?_
      rintro r w5 ⟨rfl, S5⟩
      have H5 := hid S5
      clear S5 HS
      exact hK _ _ (paPhi.mk u4 u5 u6 u7 u10 u11 u12 u13 u14 u15 u16 u17 u18 u19 u20 u21 u22 u23 u24 u25 x0 _ x2 x3 x4 x5 x6 x7 x8 x9 x10 x11 _ _ x14 x15 x16 x17 x18 x19 x20 x21 x22 x23 x24 x25 x26 x27 x28 x29 x30 x31 x32 x33 x34 x35 x36 x37 x38 x39 x40 x41 x42 x43 x44 x45 x46 x47 g0 g1 g2 g3 g4 g5 g6 J hIJ (F0) (F1) (F2) (F3) (F4) (F5) (F6) (F7) (F8) (F9) (F10) (F11) (F12) (hid (fun _ => rfl)) (F14) (F15) (F16) (F17) (F18) (F19) (F20) (F21) (F22) (F23) (F24) (F25) (F26) (F27) (F28) (F29) (F30) (F31) (F32) (F33) (F34) (F35) (F36) (F37) (F38) (F39) (F40) (F41) (F42) (F43) (F44) (F45) (F46) (F47) H5)
    · obtain rfl := Option.some.inj ho
      have d1 : f 1 = true := hall { on := 1, ground := Ground.guard } (by simp) (by rfl)
      obtain rfl := F1.out d1
      go_simp
      exact hK _ _ (paPhi.mk u4 u5 u6 u7 u10 u11 u12 u13 u14 u15 u16 u17 u18 u19 u20 u21 u22 u23 u24 u25 x0 _ x2 x3 x4 x5 x6 x7 x8 x9 x10 x11 x12 x13 _ x15 x16 x17 x18 x19 x20 x21 x22 x23 x24 x25 x26 x27 x28 x29 x30 x31 x32 x33 x34 x35 x36 x37 x38 x39 x40 x41 x42 x43 x44 x45 x46 x47 g0 g1 g2 g3 g4 g5 g6 J hIJ (F0) (F1) (F2) (F3) (F4) (F5) (F6) (F7) (F8) (F9) (F10) (F11) (F12) (F13) (hid (fun _ => rfl)) (F15) (F16) (F17) (F18) (F19) (F20) (F21) (F22) (F23) (F24) (F25) (F26) (F27) (F28) (F29) (F30) (F31) (F32) (F33) (F34) (F35) (F36) (F37) (F38) (F39) (F40) (F41) (F42) (F43) (F44) (F45) (F46) (F47) HS)
    · obtain rfl := Option.some.inj ho
      have d13 : f 13 = true := hall { on := 13, ground := Ground.data } (by simp) (by rfl)
      have d14 : f 14 = true := hall { on := 14, ground := Ground.data } (by simp) (by rfl)
      have d1 : f 1 = true := hall { on := 1, ground := Ground.guard } (by simp) (by rfl)
      obtain rfl := F13.out d13
      obtain rfl := F14.out d14
      obtain rfl := F1.out d1
      go_simp
      exact hK _ _ (paPhi.mk u4 u5 u6 u7 u10 u11 u12 u13 u14 u15 u16 u17 u18 u19 u20 u21 u22 u23 u24 u25 x0 _ x2 x3 x4 x5 x6 x7 x8 x9 x10 x11 x12 _ _ _ x16 x17 x18 x19 x20 x21 x22 x23 x24 x25 x26 x27 x28 x29 x30 x31 x32 x33 x34 x35 x36 x37 x38 x39 x40 x41 x42 x43 x44 x45 x46 x47 g0 g1 g2 g3 g4 g5 g6 J hIJ (F0) (F1) (F2) (F3) (F4) (F5) (F6) (F7) (F8) (F9) (F10) (F11) (F12) (F13) (F14) (hid (fun _ => rfl)) (F16) (F17) (F18) (F19) (F20) (F21) (F22) (F23) (F24) (F25) (F26) (F27) (F28) (F29) (F30) (F31) (F32) (F33) (F34) (F35) (F36) (F37) (F38) (F39) (F40) (F41) (F42) (F43) (F44) (F45) (F46) (F47) HS)
    · obtain rfl := Option.some.inj ho
      have d1 : f 1 = true := hall { on := 1, ground := Ground.data } (by simp) (by rfl)
      have d15 : f 15 = true := hall { on := 15, ground := Ground.data } (by simp) (by rfl)
      obtain rfl := F1.out d1
      obtain rfl := F15.out d15
      go_simp
      exact hK _ _ (paPhi.mk u4 u5 u6 u7 u10 u11 u12 u13 u14 u15 u16 u17 u18 u19 u20 u21 u22 u23 u24 u25 x0 _ x2 x3 x4 x5 x6 x7 x8 x9 x10 x11 x12 x13 x14 _ _ x17 x18 x19 x20 x21 x22 x23 x24 x25 x26 x27 x28 x29 x30 x31 x32 x33 x34 x35 x36 x37 x38 x39 x40 x41 x42 x43 x44 x45 x46 x47 g0 g1 g2 g3 g4 g5 g6 J hIJ (F0) (F1) (F2) (F3) (F4) (F5) (F6) (F7) (F8) (F9) (F10) (F11) (F12) (F13) (F14) (F15) (hid (fun _ => rfl)) (F17) (F18) (F19) (F20) (F21) (F22) (F23) (F24) (F25) (F26) (F27) (F28) (F29) (F30) (F31) (F32) (F33) (F34) (F35) (F36) (F37) (F38) (F39) (F40) (F41) (F42) (F43) (F44) (F45) (F46) (F47) HS)
    · obtain rfl := Option.some.inj ho
      have d16 : f 16 = true := hall { on := 16, ground := Ground.data } (by simp) (by rfl)
      obtain rfl := F16.out d16
      go_simp
      exact hK _ _ (paPhi.mk u4 u5 u6 u7 u10 u11 u12 u13 u14 u15 u16 u17 u18 u19 u20 u21 u22 u23 u24 u25 x0 x1 x2 x3 x4 x5 x6 x7 x8 x9 x10 x11 x12 x13 x14 x15 _ _ x18 x19 x20 x21 x22 x23 x24 x25 x26 x27 x28 x29 x30 x31 x32 x33 x34 x35 x36 x37 x38 x39 x40 x41 x42 x43 x44 x45 x46 x47 g0 g1 g2 g3 g4 g5 g6 J hIJ (F0) (F1) (F2) (F3) (F4) (F5) (F6) (F7) (F8) (F9) (F10) (F11) (F12) (F13) (F14) (F15) (F16) (hid (fun _ => rfl)) (F18) (F19) (F20) (F21) (F22) (F23) (F24) (F25) (F26) (F27) (F28) (F29) (F30) (F31) (F32) (F33) (F34) (F35) (F36) (F37) (F38) (F39) (F40) (F41) (F42) (F43) (F44) (F45) (F46) (F47) HS)
    · obtain rfl := Option.some.inj ho
      have d17 : f 17 = true := hall { on := 17, ground := Ground.guard } (by simp) (by rfl)
      obtain rfl := F17.out d17
      go_simp
      exact hK _ _ (paPhi.mk u4 u5 u6 u7 u10 u11 u12 u13 u14 u15 u16 u17 u18 u19 u20 u21 u22 u23 u24 u25 x0 x1 x2 x3 x4 x5 x6 x7 x8 x9 x10 x11 x12 x13 x14 x15 x16 _ _ x19 x20 x21 x22 x23 x24 x25 x26 x27 x28 x29 x30 x31 x32 x33 x34 x35 x36 x37 x38 x39 x40 x41 x42 x43 x44 x45 x46 x47 g0 g1 g2 g3 g4 g5 g6 J hIJ (F0) (F1) (F2) (F3) (F4) (F5) (F6) (F7) (F8) (F9) (F10) (F11) (F12) (F13) (F14) (F15) (F16) (F17) (hid (fun _ => rfl)) (F19) (F20) (F21) (F22) (F23) (F24) (F25) (F26) (F27) (F28) (F29) (F30) (F31) (F32) (F33) (F34) (F35) (F36) (F37) (F38) (F39) (F40) (F41) (F42) (F43) (F44) (F45) (F46) (F47) HS)
    · obtain rfl := Option.some.inj ho
      have d17 : f 17 = true := hall { on := 17, ground := Ground.guard } (by simp) (by rfl)
      obtain rfl := F17.out d17
      go_simp
      exact hK _ _ (paPhi.mk u4 u5 u6 u7 u10 u11 u12 u13 u14 u15 u16 u17 u18 u19 u20 u21 u22 u23 u24 u25 x0 x1 x2 x3 x4 x5 x6 x7 x8 x9 x10 x11 x12 x13 x14 x15 x16 _ x18 _ x20 x21 x22 x23 x24 x25 x26 x27 x28 x29 x30 x31 x32 x33 x34 x35 x36 x37 x38 x39 x40 x41 x42 x43 x44 x45 x46 x47 g0 g1 g2 g3 g4 g5 g6 J hIJ (F0) (F1) (F2) (F3) (F4) (F5) (F6) (F7) (F8) (F9) (F10) (F11) (F12) (F13) (F14) (F15) (F16) (F17) (F18) (hid (fun _ => rfl)) (F20) (F21) (F22) (F23) (F24) (F25) (F26) (F27) (F28) (F29) (F30) (F31) (F32) (F33) (F34) (F35) (F36) (F37) (F38) (F39) (F40) (F41) (F42) (F43) (F44) (F45) (F46) (F47) HS)
    · obtain rfl := Option.some.inj ho
      have d19 : f 19 = true := hall { on := 19, ground := Ground.data } (by simp) (by rfl)
      have d17 : f 17 = true := hall { on := 17, ground := Ground.guard } (by simp) (by rfl)
      obtain rfl := F19.out d19
      obtain rfl := F17.out d17
      obtain ⟨gn, hgn⟩ : ∃ g, w.heap.size = g := ⟨_, rfl⟩
      obtain ⟨J2, hJ2, S1, hrd⟩ := (HS.out.alloc (b := gn) (T := 5) (cs := [.int .u8 (c.toNat : Int)]) rfl hgn.symm).freezeBlk
      have H2 := hid S1
      have HRD := hid hrd
      clear S1 hrd HS
      go_simp
      try rw [hgn]
      exact hK _ _ (paPhi.mk u4 u5 u6 u7 u10 u11 u12 u13 u14 u15 u16 u17 u18 u19 u20 u21 u22 u23 u24 u25 x0 x1 x2 x3 x4 x5 x6 x7 x8 x9 x10 x11 x12 x13 x14 x15 x16 _ x18 _ _ x21 x22 x23 x24 x25 x26 x27 x28 x29 x30 x31 x32 x33 x34 x35 x36 x37 x38 x39 x40 x41 x42 x43 x44 x45 x46 x47 g0 gn g2 g3 g4 g5 g6 J2 (Part.le_trans hIJ hJ2) (F0) (F1) (F2) (F3) (F4) (F5) (F6) (F7) (F8) (F9) (F10) (F11) (hid (fun h => ⟨(F12.out h).1, (F12.out h).2.mono hJ2⟩)) (F13) (F14) (F15) (F16) (F17) (F18) (F19) (hid (fun _ => ⟨rfl, HRD.out⟩)) (F21) (hid (fun h => ⟨(F22.out h).1, (F22.out h).2.mono hJ2⟩)) (F23) (F24) (F25) (hid (fun h => ⟨(F26.out h).1, (F26.out h).2.mono hJ2⟩)) (F27) (F28) (hid (fun h => ⟨(F29.out h).1, (F29.out h).2.mono hJ2⟩)) (F30) (F31) (F32) (F33) (F34) (F35) (F36) (F37) (F38) (F39) (hid (fun h => ⟨(F40.out h).1, (F40.out h).2.mono hJ2⟩)) (F41) (F42) (hid (fun h => ⟨(F43.out h).1, (F43.out h).2.mono hJ2⟩)) (F44) (F45) (F46) (F47) H2)
    · obtain rfl := Option.some.inj ho
      have d20 : f 20 = true := hall { on := 20, ground := Ground.data } (by simp) (by rfl)
      have d17 : f 17 = true := hall { on := 17, ground := Ground.guard } (by simp) (by rfl)
      obtain ⟨rfl, hrd⟩ := F20.out d20
      have HRD := hid hrd
      clear hrd
      obtain rfl := F17.out d17
      have hcv : (convert 26 9 (.slice (some ⟨g1, 0, none⟩) 1 1)).run Tryd.prog w = .ok (.string ⟨#[c]⟩) w := by
        refine run_convert_bytes_back w _ _ 5 _ 1 [c] Tryd.underlying26 Tryd.underlying5 Tryd.underlying9 fun j hj => ?_
        obtain rfl : j = 0 := by simpa using hj
        obtain ⟨b0, off, e0, hc⟩ := HRD.out.get HS.out 0 (u := .int .u8 (c.toNat : Int)) rfl
        cases e0
        exact hc
      go_simp
      exact hK _ _ (paPhi.mk u4 u5 u6 u7 u10 u11 u12 u13 u14 u15 u16 u17 u18 u19 u20 u21 u22 u23 u24 u25 x0 x1 x2 x3 x4 x5 x6 x7 x8 x9 x10 x11 x12 x13 x14 x15 x16 _ x18 x19 _ _ x22 x23 x24 x25 x26 x27 x28 x29 x30 x31 x32 x33 x34 x35 x36 x37 x38 x39 x40 x41 x42 x43 x44 x45 x46 x47 g0 g1 g2 g3 g4 g5 g6 J hIJ (F0) (F1) (F2) (F3) (F4) (F5) (F6) (F7) (F8) (F9) (F10) (F11) (F12) (F13) (F14) (F15) (F16) (F17) (F18) (F19) (F20) (hid (fun _ => rfl)) (F22) (F23) (F24) (F25) (F26) (F27) (F28) (F29) (F30) (F31) (F32) (F33) (F34) (F35) (F36) (F37) (F38) (F39) (F40) (F41) (F42) (F43) (F44) (F45) (F46) (F47) HS)
    · obtain rfl := Option.some.inj ho
      have d18 : f 18 = true := hall { on := 18, ground := Ground.data } (by simp) (by rfl)
      have d21 : f 21 = true := hall { on := 21, ground := Ground.data } (by simp) (by rfl)
      have d17 : f 17 = true := hall { on := 17, ground := Ground.guard } (by simp) (by rfl)
      obtain rfl := F18.out d18
      obtain rfl := F21.out d21
      obtain rfl := F17.out d17
      obtain ⟨gn, hgn⟩ : ∃ g, w.heap.size = g := ⟨_, rfl⟩
      obtain ⟨J2, hJ2, S1, hrd⟩ := (HS.out.alloc (b := gn) (T := 9) (cs := [.string s, .string (⟨#[c]⟩ : ByteArray)]) rfl hgn.symm).freezeBlk
      have H2 := hid S1
      have HRD := hid hrd
      clear S1 hrd HS
      go_simp
      try rw [hgn]
      exact hK _ _ (paPhi.mk u4 u5 u6 u7 u10 u11 u12 u13 u14 u15 u16 u17 u18 u19 u20 u21 u22 u23 u24 u25 x0 x1 x2 x3 x4 x5 x6 x7 x8 x9 x10 x11 x12 x13 x14 x15 x16 _ _ x19 x20 _ _ x23 x24 x25 x26 x27 x28 x29 x30 x31 x32 x33 x34 x35 x36 x37 x38 x39 x40 x41 x42 x43 x44 x45 x46 x47 g0 g1 gn g3 g4 g5 g6 J2 (Part.le_trans hIJ hJ2) (F0) (F1) (F2) (F3) (F4) (F5) (F6) (F7) (F8) (F9) (F10) (F11) (hid (fun h => ⟨(F12.out h).1, (F12.out h).2.mono hJ2⟩)) (F13) (F14) (F15) (F16) (F17) (F18) (F19) (hid (fun h => ⟨(F20.out h).1, (F20.out h).2.mono hJ2⟩)) (F21) (hid (fun _ => ⟨rfl, HRD.out⟩)) (F23) (F24) (F25) (hid (fun h => ⟨(F26.out h).1, (F26.out h).2.mono hJ2⟩)) (F27) (F28) (hid (fun h => ⟨(F29.out h).1, (F29.out h).2.mono hJ2⟩)) (F30) (F31) (F32) (F33) (F34) (F35) (F36) (F37) (F38) (F39) (hid (fun h => ⟨(F40.out h).1, (F40.out h).2.mono hJ2⟩)) (F41) (F42) (hid (fun h => ⟨(F43.out h).1, (F43.out h).2.mono hJ2⟩)) (F44) (F45) (F46) (F47) H2)
    · obtain rfl := Option.some.inj ho
      have d22 : f 22 = true := hall { on := 22, ground := Ground.data } (by simp) (by rfl)
      have d17 : f 17 = true := hall { on := 17, ground := Ground.guard } (by simp) (by rfl)
      obtain ⟨rfl, hrd⟩ := F22.out d22
      have HRD := hid hrd
      clear hrd
      obtain rfl := F17.out d17
      go_simp
      go_at_call 10
      refine (sum_eq (HT.out.mono hIJ) (some ⟨g2, 0, none⟩) 2 2 [s, (⟨#[c]⟩ : ByteArray)] rfl HRD.out (by omega) (by omega) (SZ2.out) (V := Y) E2.out HS.out).mono ?_
      rintro r w5 ⟨rfl, S5⟩
      have H5 := hid S5
      clear S5 HS
      exact hK _ _ (paPhi.mk u4 u5 u6 u7 u10 u11 u12 u13 u14 u15 u16 u17 u18 u19 u20 u21 u22 u23 u24 u25 x0 x1 x2 x3 x4 x5 x6 x7 x8 x9 x10 x11 x12 x13 x14 x15 x16 _ x18 x19 x20 x21 _ _ x24 x25 x26 x27 x28 x29 x30 x31 x32 x33 x34 x35 x36 x37 x38 x39 x40 x41 x42 x43 x44 x45 x46 x47 g0 g1 g2 g3 g4 g5 g6 J hIJ (F0) (F1) (F2) (F3) (F4) (F5) (F6) (F7) (F8) (F9) (F10) (F11) (F12) (F13) (F14) (F15) (F16) (F17) (F18) (F19) (F20) (F21) (F22) (hid (fun _ => rfl)) (F24) (F25) (F26) (F27) (F28) (F29) (F30) (F31) (F32) (F33) (F34) (F35) (F36) (F37) (F38) (F39) (F40) (F41) (F42) (F43) (F44) (F45) (F46) (F47) H5)
    · obtain rfl := Option.some.inj ho
      have d17 : f 17 = true := hall { on := 17, ground := Ground.guard } (by simp) (by rfl)
      obtain rfl := F17.out d17
      go_simp
      exact hK _ _ (paPhi.mk u4 u5 u6 u7 u10 u11 u12 u13 u14 u15 u16 u17 u18 u19 u20 u21 u22 u23 u24 u25 x0 x1 x2 x3 x4 x5 x6 x7 x8 x9 x10 x11 x12 x13 x14 x15 x16 _ x18 x19 x20 x21 x22 x23 _ x25 x26 x27 x28 x29 x30 x31 x32 x33 x34 x35 x36 x37 x38 x39 x40 x41 x42 x43 x44 x45 x46 x47 g0 g1 g2 g3 g4 g5 g6 J hIJ (F0) (F1) (F2) (F3) (F4) (F5) (F6) (F7) (F8) (F9) (F10) (F11) (F12) (F13) (F14) (F15) (F16) (F17) (F18) (F19) (F20) (F21) (F22) (F23) (hid (fun _ => rfl)) (F25) (F26) (F27) (F28) (F29) (F30) (F31) (F32) (F33) (F34) (F35) (F36) (F37) (F38) (F39) (F40) (F41) (F42) (F43) (F44) (F45) (F46) (F47) HS)
    · obtain rfl := Option.some.inj ho
      have d17 : f 17 = true := hall { on := 17, ground := Ground.guard } (by simp) (by rfl)
      obtain rfl := F17.out d17
      go_simp
      exact hK _ _ (paPhi.mk u4 u5 u6 u7 u10 u11 u12 u13 u14 u15 u16 u17 u18 u19 u20 u21 u22 u23 u24 u25 x0 x1 x2 x3 x4 x5 x6 x7 x8 x9 x10 x11 x12 x13 x14 x15 x16 _ x18 x19 x20 x21 x22 x23 x24 _ x26 x27 x28 x29 x30 x31 x32 x33 x34 x35 x36 x37 x38 x39 x40 x41 x42 x43 x44 x45 x46 x47 g0 g1 g2 g3 g4 g5 g6 J hIJ (F0) (F1) (F2) (F3) (F4) (F5) (F6) (F7) (F8) (F9) (F10) (F11) (F12) (F13) (F14) (F15) (F16) (F17) (F18) (F19) (F20) (F21) (F22) (F23) (F24) (hid (fun _ => rfl)) (F26) (F27) (F28) (F29) (F30) (F31) (F32) (F33) (F34) (F35) (F36) (F37) (F38) (F39) (F40) (F41) (F42) (F43) (F44) (F45) (F46) (F47) HS)
    · obtain rfl := Option.some.inj ho
      have d25 : f 25 = true := hall { on := 25, ground := Ground.data } (by simp) (by rfl)
      have d17 : f 17 = true := hall { on := 17, ground := Ground.guard } (by simp) (by rfl)
      obtain rfl := F25.out d25
      obtain rfl := F17.out d17
      obtain ⟨gn, hgn⟩ : ∃ g, w.heap.size = g := ⟨_, rfl⟩
      obtain ⟨J2, hJ2, S1, hrd⟩ := (HS.out.alloc (b := gn) (T := 5) (cs := [.int .u8 (c.toNat : Int)]) rfl hgn.symm).freezeBlk
      have H2 := hid S1
      have HRD := hid hrd
      clear S1 hrd HS
      go_simp
      try rw [hgn]
      exact hK _ _ (paPhi.mk u4 u5 u6 u7 u10 u11 u12 u13 u14 u15 u16 u17 u18 u19 u20 u21 u22 u23 u24 u25 x0 x1 x2 x3 x4 x5 x6 x7 x8 x9 x10 x11 x12 x13 x14 x15 x16 _ x18 x19 x20 x21 x22 x23 x24 _ _ x27 x28 x29 x30 x31 x32 x33 x34 x35 x36 x37 x38 x39 x40 x41 x42 x43 x44 x45 x46 x47 g0 g1 g2 gn g4 g5 g6 J2 (Part.le_trans hIJ hJ2) (F0) (F1) (F2) (F3) (F4) (F5) (F6) (F7) (F8) (F9) (F10) (F11) (hid (fun h => ⟨(F12.out h).1, (F12.out h).2.mono hJ2⟩)) (F13) (F14) (F15) (F16) (F17) (F18) (F19) (hid (fun h => ⟨(F20.out h).1, (F20.out h).2.mono hJ2⟩)) (F21) (hid (fun h => ⟨(F22.out h).1, (F22.out h).2.mono hJ2⟩)) (F23) (F24) (F25) (hid (fun _ => ⟨rfl, HRD.out⟩)) (F27) (F28) (hid (fun h => ⟨(F29.out h).1, (F29.out h).2.mono hJ2⟩)) (F30) (F31) (F32) (F33) (F34) (F35) (F36) (F37) (F38) (F39) (hid (fun h => ⟨(F40.out h).1, (F40.out h).2.mono hJ2⟩)) (F41) (F42) (hid (fun h => ⟨(F43.out h).1, (F43.out h).2.mono hJ2⟩)) (F44) (F45) (F46) (F47) H2)
    · obtain rfl := Option.some.inj ho
      have d26 : f 26 = true := hall { on := 26, ground := Ground.data } (by simp) (by rfl)
      have d17 : f 17 = true := hall { on := 17, ground := Ground.guard } (by simp) (by rfl)
      obtain ⟨rfl, hrd⟩ := F26.out d26
      have HRD := hid hrd
      clear hrd
      obtain rfl := F17.out d17
      have hcv : (convert 26 9 (.slice (some ⟨g3, 0, none⟩) 1 1)).run Tryd.prog w = .ok (.string ⟨#[c]⟩) w := by
        refine run_convert_bytes_back w _ _ 5 _ 1 [c] Tryd.underlying26 Tryd.underlying5 Tryd.underlying9 fun j hj => ?_
        obtain rfl : j = 0 := by simpa using hj
        obtain ⟨b0, off, e0, hc⟩ := HRD.out.get HS.out 0 (u := .int .u8 (c.toNat : Int)) rfl
        cases e0
        exact hc
      go_simp
      exact hK _ _ (paPhi.mk u4 u5 u6 u7 u10 u11 u12 u13 u14 u15 u16 u17 u18 u19 u20 u21 u22 u23 u24 u25 x0 x1 x2 x3 x4 x5 x6 x7 x8 x9 x10 x11 x12 x13 x14 x15 x16 _ x18 x19 x20 x21 x22 x23 x24 x25 _ _ x28 x29 x30 x31 x32 x33 x34 x35 x36 x37 x38 x39 x40 x41 x42 x43 x44 x45 x46 x47 g0 g1 g2 g3 g4 g5 g6 J hIJ (F0) (F1) (F2) (F3) (F4) (F5) (F6) (F7) (F8) (F9) (F10) (F11) (F12) (F13) (F14) (F15) (F16) (F17) (F18) (F19) (F20) (F21) (F22) (F23) (F24) (F25) (F26) (hid (fun _ => rfl)) (F28) (F29) (F30) (F31) (F32) (F33) (F34) (F35) (F36) (F37) (F38) (F39) (F40) (F41) (F42) (F43) (F44) (F45) (F46) (F47) HS)
    · obtain rfl := Option.some.inj ho
      have d24 : f 24 = true := hall { on := 24, ground := Ground.data } (by simp) (by rfl)
      have d27 : f 27 = true := hall { on := 27, ground := Ground.data } (by simp) (by rfl)
      have d17 : f 17 = true := hall { on := 17, ground := Ground.guard } (by simp) (by rfl)
      obtain rfl := F24.out d24
      obtain rfl := F27.out d27
      obtain rfl := F17.out d17
      have hz1 : ¬ 9223372036854775807 < s.size + 1 := HSUM.out
      go_simp
      exact hK _ _ (paPhi.mk u4 u5 u6 u7 u10 u11 u12 u13 u14 u15 u16 u17 u18 u19 u20 u21 u22 u23 u24 u25 x0 x1 x2 x3 x4 x5 x6 x7 x8 x9 x10 x11 x12 x13 x14 x15 x16 _ x18 x19 x20 x21 x22 x23 _ x25 x26 _ _ x29 x30 x31 x32 x33 x34 x35 x36 x37 x38 x39 x40 x41 x42 x43 x44 x45 x46 x47 g0 g1 g2 g3 g4 g5 g6 J hIJ (F0) (F1) (F2) (F3) (F4) (F5) (F6) (F7) (F8) (F9) (F10) (F11) (F12) (F13) (F14) (F15) (F16) (F17) (F18) (F19) (F20) (F21) (F22) (F23) (F24) (F25) (F26) (F27) (hid (fun _ => rfl)) (F29) (F30) (F31) (F32) (F33) (F34) (F35) (F36) (F37) (F38) (F39) (F40) (F41) (F42) (F43) (F44) (F45) (F46) (F47) HS)
    · obtain rfl := Option.some.inj ho
      have d28 : f 28 = true := hall { on := 28, ground := Ground.data } (by simp) (by rfl)
      have d17 : f 17 = true := hall { on := 17, ground := Ground.guard } (by simp) (by rfl)
      obtain rfl := F28.out d28
      obtain rfl := F17.out d17
      obtain ⟨gn, hgn⟩ : ∃ g, w.heap.size = g := ⟨_, rfl⟩
      obtain ⟨J2, hJ2, S1, hrd⟩ := (HS.out.alloc (b := gn) (T := 9) (cs := [.string (s ++ (⟨#[c]⟩ : ByteArray))]) rfl hgn.symm).freezeBlk
      have H2 := hid S1
      have HRD := hid hrd
      clear S1 hrd HS
      go_simp
      try rw [hgn]
      exact hK _ _ (paPhi.mk u4 u5 u6 u7 u10 u11 u12 u13 u14 u15 u16 u17 u18 u19 u20 u21 u22 u23 u24 u25 x0 x1 x2 x3 x4 x5 x6 x7 x8 x9 x10 x11 x12 x13 x14 x15 x16 _ x18 x19 x20 x21 x22 x23 x24 x25 x26 x27 _ _ x30 x31 x32 x33 x34 x35 x36 x37 x38 x39 x40 x41 x42 x43 x44 x45 x46 x47 g0 g1 g2 g3 gn g5 g6 J2 (Part.le_trans hIJ hJ2) (F0) (F1) (F2) (F3) (F4) (F5) (F6) (F7) (F8) (F9) (F10) (F11) (hid (fun h => ⟨(F12.out h).1, (F12.out h).2.mono hJ2⟩)) (F13) (F14) (F15) (F16) (F17) (F18) (F19) (hid (fun h => ⟨(F20.out h).1, (F20.out h).2.mono hJ2⟩)) (F21) (hid (fun h => ⟨(F22.out h).1, (F22.out h).2.mono hJ2⟩)) (F23) (F24) (F25) (hid (fun h => ⟨(F26.out h).1, (F26.out h).2.mono hJ2⟩)) (F27) (F28) (hid (fun _ => ⟨rfl, HRD.out⟩)) (F30) (F31) (F32) (F33) (F34) (F35) (F36) (F37) (F38) (F39) (hid (fun h => ⟨(F40.out h).1, (F40.out h).2.mono hJ2⟩)) (F41) (F42) (hid (fun h => ⟨(F43.out h).1, (F43.out h).2.mono hJ2⟩)) (F44) (F45) (F46) (F47) H2)
    · obtain rfl := Option.some.inj ho
      have d29 : f 29 = true := hall { on := 29, ground := Ground.data } (by simp) (by rfl)
      have d17 : f 17 = true := hall { on := 17, ground := Ground.guard } (by simp) (by rfl)
      obtain ⟨rfl, hrd⟩ := F29.out d29
      have HRD := hid hrd
      clear hrd
      obtain rfl := F17.out d17
      go_simp
      go_at_call 10
      refine (sum_eq (HT.out.mono hIJ) (some ⟨g4, 0, none⟩) 1 1 [(s ++ (⟨#[c]⟩ : ByteArray))] rfl HRD.out (by omega) (by omega) (SZ1.out) (V := Y) E1.out HS.out).mono ?_
      rintro r w5 ⟨rfl, S5⟩
      have H5 := hid S5
      clear S5 HS
      exact hK _ _ (paPhi.mk u4 u5 u6 u7 u10 u11 u12 u13 u14 u15 u16 u17 u18 u19 u20 u21 u22 u23 u24 u25 x0 x1 x2 x3 x4 x5 x6 x7 x8 x9 x10 x11 x12 x13 x14 x15 x16 _ x18 x19 x20 x21 x22 x23 x24 x25 x26 x27 x28 _ _ x31 x32 x33 x34 x35 x36 x37 x38 x39 x40 x41 x42 x43 x44 x45 x46 x47 g0 g1 g2 g3 g4 g5 g6 J hIJ (F0) (F1) (F2) (F3) (F4) (F5) (F6) (F7) (F8) (F9) (F10) (F11) (F12) (F13) (F14) (F15) (F16) (F17) (F18) (F19) (F20) (F21) (F22) (F23) (F24) (F25) (F26) (F27) (F28) (F29) (hid (fun _ => rfl)) (F31) (F32) (F33) (F34) (F35) (F36) (F37) (F38) (F39) (F40) (F41) (F42) (F43) (F44) (F45) (F46) (F47) H5)
    · obtain rfl := Option.some.inj ho
      have d23 : f 23 = true := hall { on := 23, ground := Ground.data } (by simp) (by rfl)
      have d30 : f 30 = true := hall { on := 30, ground := Ground.data } (by simp) (by rfl)
      have d17 : f 17 = true := hall { on := 17, ground := Ground.guard } (by simp) (by rfl)
      obtain rfl := F23.out d23
      obtain rfl := F30.out d30
      obtain rfl := F17.out d17
      go_simp
      exact hK _ _ (paPhi.mk u4 u5 u6 u7 u10 u11 u12 u13 u14 u15 u16 u17 u18 u19 u20 u21 u22 u23 u24 u25 x0 x1 x2 x3 x4 x5 x6 x7 x8 x9 x10 x11 x12 x13 x14 x15 x16 _ x18 x19 x20 x21 x22 _ x24 x25 x26 x27 x28 x29 _ _ x32 x33 x34 x35 x36 x37 x38 x39 x40 x41 x42 x43 x44 x45 x46 x47 g0 g1 g2 g3 g4 g5 g6 J hIJ (F0) (F1) (F2) (F3) (F4) (F5) (F6) (F7) (F8) (F9) (F10) (F11) (F12) (F13) (F14) (F15) (F16) (F17) (F18) (F19) (F20) (F21) (F22) (F23) (F24) (F25) (F26) (F27) (F28) (F29) (F30) (hid (fun _ => rfl)) (F32) (F33) (F34) (F35) (F36) (F37) (F38) (F39) (F40) (F41) (F42) (F43) (F44) (F45) (F46) (F47) HS)
    · obtain rfl := Option.some.inj ho
      have d17 : f 17 = true := hall { on := 17, ground := Ground.data } (by simp) (by rfl)
      have d31 : f 31 = true := hall { on := 31, ground := Ground.data } (by simp) (by rfl)
      obtain rfl := F17.out d17
      obtain rfl := F31.out d31
      go_simp
      exact hK _ _ (paPhi.mk u4 u5 u6 u7 u10 u11 u12 u13 u14 u15 u16 u17 u18 u19 u20 u21 u22 u23 u24 u25 x0 x1 x2 x3 x4 x5 x6 x7 x8 x9 x10 x11 x12 x13 x14 x15 x16 _ x18 x19 x20 x21 x22 x23 x24 x25 x26 x27 x28 x29 x30 _ _ x33 x34 x35 x36 x37 x38 x39 x40 x41 x42 x43 x44 x45 x46 x47 g0 g1 g2 g3 g4 g5 g6 J hIJ (F0) (F1) (F2) (F3) (F4) (F5) (F6) (F7) (F8) (F9) (F10) (F11) (F12) (F13) (F14) (F15) (F16) (F17) (F18) (F19) (F20) (F21) (F22) (F23) (F24) (F25) (F26) (F27) (F28) (F29) (F30) (F31) (hid (fun _ => rfl)) (F33) (F34) (F35) (F36) (F37) (F38) (F39) (F40) (F41) (F42) (F43) (F44) (F45) (F46) (F47) HS)
    · obtain rfl := Option.some.inj ho
      have d32 : f 32 = true := hall { on := 32, ground := Ground.data } (by simp) (by rfl)
      obtain rfl := F32.out d32
      go_simp
      exact hK _ _ (paPhi.mk u4 u5 u6 u7 u10 u11 u12 u13 u14 u15 u16 u17 u18 u19 u20 u21 u22 u23 u24 u25 x0 x1 x2 x3 x4 x5 x6 x7 x8 x9 x10 x11 x12 x13 x14 x15 x16 x17 x18 x19 x20 x21 x22 x23 x24 x25 x26 x27 x28 x29 x30 x31 _ _ x34 x35 x36 x37 x38 x39 x40 x41 x42 x43 x44 x45 x46 x47 g0 g1 g2 g3 g4 g5 g6 J hIJ (F0) (F1) (F2) (F3) (F4) (F5) (F6) (F7) (F8) (F9) (F10) (F11) (F12) (F13) (F14) (F15) (F16) (F17) (F18) (F19) (F20) (F21) (F22) (F23) (F24) (F25) (F26) (F27) (F28) (F29) (F30) (F31) (F32) (hid (fun _ => rfl)) (F34) (F35) (F36) (F37) (F38) (F39) (F40) (F41) (F42) (F43) (F44) (F45) (F46) (F47) HS)
    · obtain rfl := Option.some.inj ho
      have d33 : f 33 = true := hall { on := 33, ground := Ground.guard } (by simp) (by rfl)
      obtain rfl := F33.out d33
      go_simp
      exact hK _ _ (paPhi.mk u4 u5 u6 u7 u10 u11 u12 u13 u14 u15 u16 u17 u18 u19 u20 u21 u22 u23 u24 u25 x0 x1 x2 x3 x4 x5 x6 x7 x8 x9 x10 x11 x12 x13 x14 x15 x16 x17 x18 x19 x20 x21 x22 x23 x24 x25 x26 x27 x28 x29 x30 x31 x32 _ _ x35 x36 x37 x38 x39 x40 x41 x42 x43 x44 x45 x46 x47 g0 g1 g2 g3 g4 g5 g6 J hIJ (F0) (F1) (F2) (F3) (F4) (F5) (F6) (F7) (F8) (F9) (F10) (F11) (F12) (F13) (F14) (F15) (F16) (F17) (F18) (F19) (F20) (F21) (F22) (F23) (F24) (F25) (F26) (F27) (F28) (F29) (F30) (F31) (F32) (F33) (hid (fun _ => rfl)) (F35) (F36) (F37) (F38) (F39) (F40) (F41) (F42) (F43) (F44) (F45) (F46) (F47) HS)
    · obtain rfl := Option.some.inj ho
      have d33 : f 33 = true := hall { on := 33, ground := Ground.guard } (by simp) (by rfl)
      obtain rfl := F33.out d33
      go_simp
      exact hK _ _ (paPhi.mk u4 u5 u6 u7 u10 u11 u12 u13 u14 u15 u16 u17 u18 u19 u20 u21 u22 u23 u24 u25 x0 x1 x2 x3 x4 x5 x6 x7 x8 x9 x10 x11 x12 x13 x14 x15 x16 x17 x18 x19 x20 x21 x22 x23 x24 x25 x26 x27 x28 x29 x30 x31 x32 _ x34 _ x36 x37 x38 x39 x40 x41 x42 x43 x44 x45 x46 x47 g0 g1 g2 g3 g4 g5 g6 J hIJ (F0) (F1) (F2) (F3) (F4) (F5) (F6) (F7) (F8) (F9) (F10) (F11) (F12) (F13) (F14) (F15) (F16) (F17) (F18) (F19) (F20) (F21) (F22) (F23) (F24) (F25) (F26) (F27) (F28) (F29) (F30) (F31) (F32) (F33) (F34) (hid (fun _ => rfl)) (F36) (F37) (F38) (F39) (F40) (F41) (F42) (F43) (F44) (F45) (F46) (F47) HS)
    · obtain rfl := Option.some.inj ho
      have d34 : f 34 = true := hall { on := 34, ground := Ground.data } (by simp) (by rfl)
      have d35 : f 35 = true := hall { on := 35, ground := Ground.data } (by simp) (by rfl)
      have d33 : f 33 = true := hall { on := 33, ground := Ground.guard } (by simp) (by rfl)
      obtain rfl := F34.out d34
      obtain rfl := F35.out d35
      obtain rfl := F33.out d33
      go_simp
      exact hK _ _ (paPhi.mk u4 u5 u6 u7 u10 u11 u12 u13 u14 u15 u16 u17 u18 u19 u20 u21 u22 u23 u24 u25 x0 x1 x2 x3 x4 x5 x6 x7 x8 x9 x10 x11 x12 x13 x14 x15 x16 x17 x18 x19 x20 x21 x22 x23 x24 x25 x26 x27 x28 x29 x30 x31 x32 _ _ _ _ x37 x38 x39 x40 x41 x42 x43 x44 x45 x46 x47 g0 g1 g2 g3 g4 g5 g6 J hIJ (F0) (F1) (F2) (F3) (F4) (F5) (F6) (F7) (F8) (F9) (F10) (F11) (F12) (F13) (F14) (F15) (F16) (F17) (F18) (F19) (F20) (F21) (F22) (F23) (F24) (F25) (F26) (F27) (F28) (F29) (F30) (F31) (F32) (F33) (F34) (F35) (hid (fun _ => rfl)) (F37) (F38) (F39) (F40) (F41) (F42) (F43) (F44) (F45) (F46) (F47) HS)
    · obtain rfl := Option.some.inj ho
      have d33 : f 33 = true := hall { on := 33, ground := Ground.guard } (by simp) (by rfl)
      obtain rfl := F33.out d33
      go_simp
      exact hK _ _ (paPhi.mk u4 u5 u6 u7 u10 u11 u12 u13 u14 u15 u16 u17 u18 u19 u20 u21 u22 u23 u24 u25 x0 x1 x2 x3 x4 x5 x6 x7 x8 x9 x10 x11 x12 x13 x14 x15 x16 x17 x18 x19 x20 x21 x22 x23 x24 x25 x26 x27 x28 x29 x30 x31 x32 _ x34 x35 x36 _ x38 x39 x40 x41 x42 x43 x44 x45 x46 x47 g0 g1 g2 g3 g4 g5 g6 J hIJ (F0) (F1) (F2) (F3) (F4) (F5) (F6) (F7) (F8) (F9) (F10) (F11) (F12) (F13) (F14) (F15) (F16) (F17) (F18) (F19) (F20) (F21) (F22) (F23) (F24) (F25) (F26) (F27) (F28) (F29) (F30) (F31) (F32) (F33) (F34) (F35) (F36) (hid (fun _ => rfl)) (F38) (F39) (F40) (F41) (F42) (F43) (F44) (F45) (F46) (F47) HS)
    · obtain rfl := Option.some.inj ho
      have d33 : f 33 = true := hall { on := 33, ground := Ground.guard } (by simp) (by rfl)
      obtain rfl := F33.out d33
      go_simp
      exact hK _ _ (paPhi.mk u4 u5 u6 u7 u10 u11 u12 u13 u14 u15 u16 u17 u18 u19 u20 u21 u22 u23 u24 u25 x0 x1 x2 x3 x4 x5 x6 x7 x8 x9 x10 x11 x12 x13 x14 x15 x16 x17 x18 x19 x20 x21 x22 x23 x24 x25 x26 x27 x28 x29 x30 x31 x32 _ x34 x35 x36 x37 _ x39 x40 x41 x42 x43 x44 x45 x46 x47 g0 g1 g2 g3 g4 g5 g6 J hIJ (F0) (F1) (F2) (F3) (F4) (F5) (F6) (F7) (F8) (F9) (F10) (F11) (F12) (F13) (F14) (F15) (F16) (F17) (F18) (F19) (F20) (F21) (F22) (F23) (F24) (F25) (F26) (F27) (F28) (F29) (F30) (F31) (F32) (F33) (F34) (F35) (F36) (F37) (hid (fun _ => rfl)) (F39) (F40) (F41) (F42) (F43) (F44) (F45) (F46) (F47) HS)
    · obtain rfl := Option.some.inj ho
      have d37 : f 37 = true := hall { on := 37, ground := Ground.data } (by simp) (by rfl)
      have d38 : f 38 = true := hall { on := 38, ground := Ground.data } (by simp) (by rfl)
      have d33 : f 33 = true := hall { on := 33, ground := Ground.guard } (by simp) (by rfl)
      obtain rfl := F37.out d37
      obtain rfl := F38.out d38
      obtain rfl := F33.out d33
      go_simp
      exact hK _ _ (paPhi.mk u4 u5 u6 u7 u10 u11 u12 u13 u14 u15 u16 u17 u18 u19 u20 u21 u22 u23 u24 u25 x0 x1 x2 x3 x4 x5 x6 x7 x8 x9 x10 x11 x12 x13 x14 x15 x16 x17 x18 x19 x20 x21 x22 x23 x24 x25 x26 x27 x28 x29 x30 x31 x32 _ x34 x35 x36 _ _ _ x40 x41 x42 x43 x44 x45 x46 x47 g0 g1 g2 g3 g4 g5 g6 J hIJ (F0) (F1) (F2) (F3) (F4) (F5) (F6) (F7) (F8) (F9) (F10) (F11) (F12) (F13) (F14) (F15) (F16) (F17) (F18) (F19) (F20) (F21) (F22) (F23) (F24) (F25) (F26) (F27) (F28) (F29) (F30) (F31) (F32) (F33) (F34) (F35) (F36) (F37) (F38) (hid (fun _ => rfl)) (F40) (F41) (F42) (F43) (F44) (F45) (F46) (F47) HS)
    · obtain rfl := Option.some.inj ho
      have d36 : f 36 = true := hall { on := 36, ground := Ground.data } (by simp) (by rfl)
      have d39 : f 39 = true := hall { on := 39, ground := Ground.data } (by simp) (by rfl)
      have d33 : f 33 = true := hall { on := 33, ground := Ground.guard } (by simp) (by rfl)
      obtain rfl := F36.out d36
      obtain rfl := F39.out d39
      obtain rfl := F33.out d33
      obtain ⟨gn, hgn⟩ : ∃ g, w.heap.size = g := ⟨_, rfl⟩
      obtain ⟨J2, hJ2, S1, hrd⟩ := (HS.out.alloc (b := gn) (T := 9) (cs := [.string (s.extract 0 A), .string (s.extract A s.size)]) rfl hgn.symm).freezeBlk
      have H2 := hid S1
      have HRD := hid hrd
      clear S1 hrd HS
      go_simp
      try rw [hgn]
      exact hK _ _ (paPhi.mk u4 u5 u6 u7 u10 u11 u12 u13 u14 u15 u16 u17 u18 u19 u20 u21 u22 u23 u24 u25 x0 x1 x2 x3 x4 x5 x6 x7 x8 x9 x10 x11 x12 x13 x14 x15 x16 x17 x18 x19 x20 x21 x22 x23 x24 x25 x26 x27 x28 x29 x30 x31 x32 _ x34 x35 _ x37 x38 _ _ x41 x42 x43 x44 x45 x46 x47 g0 g1 g2 g3 g4 gn g6 J2 (Part.le_trans hIJ hJ2) (F0) (F1) (F2) (F3) (F4) (F5) (F6) (F7) (F8) (F9) (F10) (F11) (hid (fun h => ⟨(F12.out h).1, (F12.out h).2.mono hJ2⟩)) (F13) (F14) (F15) (F16) (F17) (F18) (F19) (hid (fun h => ⟨(F20.out h).1, (F20.out h).2.mono hJ2⟩)) (F21) (hid (fun h => ⟨(F22.out h).1, (F22.out h).2.mono hJ2⟩)) (F23) (F24) (F25) (hid (fun h => ⟨(F26.out h).1, (F26.out h).2.mono hJ2⟩)) (F27) (F28) (hid (fun h => ⟨(F29.out h).1, (F29.out h).2.mono hJ2⟩)) (F30) (F31) (F32) (F33) (F34) (F35) (F36) (F37) (F38) (F39) (hid (fun _ => ⟨rfl, HRD.out⟩)) (F41) (F42) (hid (fun h => ⟨(F43.out h).1, (F43.out h).2.mono hJ2⟩)) (F44) (F45) (F46) (F47) H2)
    · obtain rfl := Option.some.inj ho
      have d40 : f 40 = true := hall { on := 40, ground := Ground.data } (by simp) (by rfl)
      have d33 : f 33 = true := hall { on := 33, ground := Ground.guard } (by simp) (by rfl)
      obtain ⟨rfl, hrd⟩ := F40.out d40
      have HRD := hid hrd
      clear hrd
      obtain rfl := F33.out d33
      go_simp
      go_at_call 12
      refine (frame_sat (HT.out.mono hIJ) (some ⟨g5, 0, none⟩) 2 2 [(s.extract 0 A), (s.extract A s.size)] rfl HRD.out (by omega) (by omega) (by omega) (by omega) (C := s.data.toList) L2.out (by have := SL.out; omega) HS.out).mono ?_
      rw [FR.out]
      rintro r w5 ⟨rfl, S5⟩
      have H5 := hid S5
      clear S5 HS
      exact hK _ _ (paPhi.mk u4 u5 u6 u7 u10 u11 u12 u13 u14 u15 u16 u17 u18 u19 u20 u21 u22 u23 u24 u25 x0 x1 x2 x3 x4 x5 x6 x7 x8 x9 x10 x11 x12 x13 x14 x15 x16 x17 x18 x19 x20 x21 x22 x23 x24 x25 x26 x27 x28 x29 x30 x31 x32 _ x34 x35 x36 x37 x38 x39 _ _ x42 x43 x44 x45 x46 x47 g0 g1 g2 g3 g4 g5 g6 J hIJ (F0) (F1) (F2) (F3) (F4) (F5) (F6) (F7) (F8) (F9) (F10) (F11) (F12) (F13) (F14) (F15) (F16) (F17) (F18) (F19) (F20) (F21) (F22) (F23) (F24) (F25) (F26) (F27) (F28) (F29) (F30) (F31) (F32) (F33) (F34) (F35) (F36) (F37) (F38) (F39) (F40) (hid (fun _ => rfl)) (F42) (F43) (F44) (F45) (F46) (F47) H5)
    · obtain rfl := Option.some.inj ho
      have d33 : f 33 = true := hall { on := 33, ground := Ground.guard } (by simp) (by rfl)
      obtain rfl := F33.out d33
      go_simp
      exact hK _ _ (paPhi.mk u4 u5 u6 u7 u10 u11 u12 u13 u14 u15 u16 u17 u18 u19 u20 u21 u22 u23 u24 u25 x0 x1 x2 x3 x4 x5 x6 x7 x8 x9 x10 x11 x12 x13 x14 x15 x16 x17 x18 x19 x20 x21 x22 x23 x24 x25 x26 x27 x28 x29 x30 x31 x32 _ x34 x35 x36 x37 x38 x39 x40 x41 _ x43 x44 x45 x46 x47 g0 g1 g2 g3 g4 g5 g6 J hIJ (F0) (F1) (F2) (F3) (F4) (F5) (F6) (F7) (F8) (F9) (F10) (F11) (F12) (F13) (F14) (F15) (F16) (F17) (F18) (F19) (F20) (F21) (F22) (F23) (F24) (F25) (F26) (F27) (F28) (F29) (F30) (F31) (F32) (F33) (F34) (F35) (F36) (F37) (F38) (F39) (F40) (F41) (hid (fun _ => rfl)) (F43) (F44) (F45) (F46) (F47) HS)
    · obtain rfl := Option.some.inj ho
      have d42 : f 42 = true := hall { on := 42, ground := Ground.data } (by simp) (by rfl)
      have d33 : f 33 = true := hall { on := 33, ground := Ground.guard } (by simp) (by rfl)
      obtain rfl := F42.out d42
      obtain rfl := F33.out d33
      obtain ⟨gn, hgn⟩ : ∃ g, w.heap.size = g := ⟨_, rfl⟩
      obtain ⟨J2, hJ2, S1, hrd⟩ := (HS.out.alloc (b := gn) (T := 9) (cs := [.string s]) rfl hgn.symm).freezeBlk
      have H2 := hid S1
      have HRD := hid hrd
      clear S1 hrd HS
      go_simp
      try rw [hgn]
      exact hK _ _ (paPhi.mk u4 u5 u6 u7 u10 u11 u12 u13 u14 u15 u16 u17 u18 u19 u20 u21 u22 u23 u24 u25 x0 x1 x2 x3 x4 x5 x6 x7 x8 x9 x10 x11 x12 x13 x14 x15 x16 x17 x18 x19 x20 x21 x22 x23 x24 x25 x26 x27 x28 x29 x30 x31 x32 _ x34 x35 x36 x37 x38 x39 x40 x41 _ _ x44 x45 x46 x47 g0 g1 g2 g3 g4 g5 gn J2 (Part.le_trans hIJ hJ2) (F0) (F1) (F2) (F3) (F4) (F5) (F6) (F7) (F8) (F9) (F10) (F11) (hid (fun h => ⟨(F12.out h).1, (F12.out h).2.mono hJ2⟩)) (F13) (F14) (F15) (F16) (F17) (F18) (F19) (hid (fun h => ⟨(F20.out h).1, (F20.out h).2.mono hJ2⟩)) (F21) (hid (fun h => ⟨(F22.out h).1, (F22.out h).2.mono hJ2⟩)) (F23) (F24) (F25) (hid (fun h => ⟨(F26.out h).1, (F26.out h).2.mono hJ2⟩)) (F27) (F28) (hid (fun h => ⟨(F29.out h).1, (F29.out h).2.mono hJ2⟩)) (F30) (F31) (F32) (F33) (F34) (F35) (F36) (F37) (F38) (F39) (hid (fun h => ⟨(F40.out h).1, (F40.out h).2.mono hJ2⟩)) (F41) (F42) (hid (fun _ => ⟨rfl, HRD.out⟩)) (F44) (F45) (F46) (F47) H2)
    · obtain rfl := Option.some.inj ho
      have d43 : f 43 = true := hall { on := 43, ground := Ground.data } (by simp) (by rfl)
      have d33 : f 33 = true := hall { on := 33, ground := Ground.guard } (by simp) (by rfl)
      obtain ⟨rfl, hrd⟩ := F43.out d43
      have HRD := hid hrd
      clear hrd
      obtain rfl := F33.out d33
      go_simp
      go_at_call 12
      refine (frame_sat (HT.out.mono hIJ) (some ⟨g6, 0, none⟩) 1 1 [s] rfl HRD.out (by omega) (by omega) (by omega) (by omega) (C := s.data.toList) L1.out (by have := SL.out; omega) HS.out).mono ?_
      rw [FR.out]
      rintro r w5 ⟨rfl, S5⟩
      have H5 := hid S5
      clear S5 HS
      exact hK _ _ (paPhi.mk u4 u5 u6 u7 u10 u11 u12 u13 u14 u15 u16 u17 u18 u19 u20 u21 u22 u23 u24 u25 x0 x1 x2 x3 x4 x5 x6 x7 x8 x9 x10 x11 x12 x13 x14 x15 x16 x17 x18 x19 x20 x21 x22 x23 x24 x25 x26 x27 x28 x29 x30 x31 x32 _ x34 x35 x36 x37 x38 x39 x40 x41 x42 _ _ x45 x46 x47 g0 g1 g2 g3 g4 g5 g6 J hIJ (F0) (F1) (F2) (F3) (F4) (F5) (F6) (F7) (F8) (F9) (F10) (F11) (F12) (F13) (F14) (F15) (F16) (F17) (F18) (F19) (F20) (F21) (F22) (F23) (F24) (F25) (F26) (F27) (F28) (F29) (F30) (F31) (F32) (F33) (F34) (F35) (F36) (F37) (F38) (F39) (F40) (F41) (F42) (F43) (hid (fun _ => rfl)) (F45) (F46) (F47) H5)
    · obtain rfl := Option.some.inj ho
      have d41 : f 41 = true := hall { on := 41, ground := Ground.data } (by simp) (by rfl)
      have d44 : f 44 = true := hall { on := 44, ground := Ground.data } (by simp) (by rfl)
      have d33 : f 33 = true := hall { on := 33, ground := Ground.guard } (by simp) (by rfl)
      obtain rfl := F41.out d41
      obtain rfl := F44.out d44
      obtain rfl := F33.out d33
      go_simp
      exact hK _ _ (paPhi.mk u4 u5 u6 u7 u10 u11 u12 u13 u14 u15 u16 u17 u18 u19 u20 u21 u22 u23 u24 u25 x0 x1 x2 x3 x4 x5 x6 x7 x8 x9 x10 x11 x12 x13 x14 x15 x16 x17 x18 x19 x20 x21 x22 x23 x24 x25 x26 x27 x28 x29 x30 x31 x32 _ x34 x35 x36 x37 x38 x39 x40 _ x42 x43 _ _ x46 x47 g0 g1 g2 g3 g4 g5 g6 J hIJ (F0) (F1) (F2) (F3) (F4) (F5) (F6) (F7) (F8) (F9) (F10) (F11) (F12) (F13) (F14) (F15) (F16) (F17) (F18) (F19) (F20) (F21) (F22) (F23) (F24) (F25) (F26) (F27) (F28) (F29) (F30) (F31) (F32) (F33) (F34) (F35) (F36) (F37) (F38) (F39) (F40) (F41) (F42) (F43) (F44) (hid (fun _ => rfl)) (F46) (F47) HS)
    · obtain rfl := Option.some.inj ho
      have d33 : f 33 = true := hall { on := 33, ground := Ground.data } (by simp) (by rfl)
      have d45 : f 45 = true := hall { on := 45, ground := Ground.data } (by simp) (by rfl)
      obtain rfl := F33.out d33
      obtain rfl := F45.out d45
      go_simp
      exact hK _ _ (paPhi.mk u4 u5 u6 u7 u10 u11 u12 u13 u14 u15 u16 u17 u18 u19 u20 u21 u22 u23 u24 u25 x0 x1 x2 x3 x4 x5 x6 x7 x8 x9 x10 x11 x12 x13 x14 x15 x16 x17 x18 x19 x20 x21 x22 x23 x24 x25 x26 x27 x28 x29 x30 x31 x32 _ x34 x35 x36 x37 x38 x39 x40 x41 x42 x43 x44 _ _ x47 g0 g1 g2 g3 g4 g5 g6 J hIJ (F0) (F1) (F2) (F3) (F4) (F5) (F6) (F7) (F8) (F9) (F10) (F11) (F12) (F13) (F14) (F15) (F16) (F17) (F18) (F19) (F20) (F21) (F22) (F23) (F24) (F25) (F26) (F27) (F28) (F29) (F30) (F31) (F32) (F33) (F34) (F35) (F36) (F37) (F38) (F39) (F40) (F41) (F42) (F43) (F44) (F45) (hid (fun _ => rfl)) (F47) HS)
    · obtain rfl := Option.some.inj ho
      have d46 : f 46 = true := hall { on := 46, ground := Ground.data } (by simp) (by rfl)
      obtain rfl := F46.out d46
      go_simp
      exact hK _ _ (paPhi.mk u4 u5 u6 u7 u10 u11 u12 u13 u14 u15 u16 u17 u18 u19 u20 u21 u22 u23 u24 u25 x0 x1 x2 x3 x4 x5 x6 x7 x8 x9 x10 x11 x12 x13 x14 x15 x16 x17 x18 x19 x20 x21 x22 x23 x24 x25 x26 x27 x28 x29 x30 x31 x32 x33 x34 x35 x36 x37 x38 x39 x40 x41 x42 x43 x44 x45 _ _ g0 g1 g2 g3 g4 g5 g6 J hIJ (F0) (F1) (F2) (F3) (F4) (F5) (F6) (F7) (F8) (F9) (F10) (F11) (F12) (F13) (F14) (F15) (F16) (F17) (F18) (F19) (F20) (F21) (F22) (F23) (F24) (F25) (F26) (F27) (F28) (F29) (F30) (F31) (F32) (F33) (F34) (F35) (F36) (F37) (F38) (F39) (F40) (F41) (F42) (F43) (F44) (F45) (F46) (hid (fun _ => rfl)) HS)
  case he =>
    clear H3
    rintro f a w5 ⟨u4, u5, u6, u7, u10, u11, u12, u13, u14, u15, u16, u17, u18, u19, u20, u21, u22, u23, u24, u25, x0, x1, x2, x3, x4, x5, x6, x7, x8, x9, x10, x11, x12, x13, x14, x15, x16, x17, x18, x19, x20, x21, x22, x23, x24, x25, x26, x27, x28, x29, x30, x31, x32, x33, x34, x35, x36, x37, x38, x39, x40, x41, x42, x43, x44, x45, x46, x47, g0, g1, g2, g3, g4, g5, g6, J, hIJ, F0, F1, F2, F3, F4, F5, F6, F7, F8, F9, F10, F11, F12, F13, F14, F15, F16, F17, F18, F19, F20, F21, F22, F23, F24, F25, F26, F27, F28, F29, F30, F31, F32, F33, F34, F35, F36, F37, F38, F39, F40, F41, F42, F43, F44, F45, F46, F47, HS⟩ hall
    obtain rfl := F47.out (hall 47 (by decide))
    have H5 := hid (HS.out.toBelow (Part.le_trans hJ0 hIJ))
    clear HS F0 F1 F2 F3 F4 F5 F6 F7 F8 F9 F10 F11 F12 F13 F14 F15 F16 F17 F18 F19 F20 F21 F22 F23 F24 F25 F26 F27 F28 F29 F30 F31 F32 F33 F34 F35 F36 F37 F38 F39 F40 F41 F42 F43 F44 F45 F46 F47
    go_wp2_with fail
    go_ret
    exact ⟨rfl, H5.out⟩
end Go.Proofs.YtgnoojphbnfjbaaDoor
