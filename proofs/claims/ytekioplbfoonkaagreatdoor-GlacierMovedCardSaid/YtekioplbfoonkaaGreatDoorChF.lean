/- Chunk's record.frame (its drawn region by an invariant; printed by tool/mkframe.py). -/
import Derived.Test.YtekioplbfoonkaaGreatDoorChP
import Derived.Test.YtekioplbfoonkaaGreatDoorInv
import Derived.Test.YtekioplbfoonkaaGreatDoorSealO
import Derived.Test.YtekioplbfoonkaaGreatDoorMg4
namespace Go.Proofs.YtekioplbfoonkaaGreatDoor
open Go.RowKit
set_option linter.unusedVariables false
set_option maxRecDepth 100000
def encN (id : Nat) (data : ByteArray) (e : Nat) : Nat → List HP
  | 0 => []
  | 1 => [enc e []]
  | 2 => [enc e (encU 1 ++ encU id)]
  | _ + 3 => [enc e (recB id data)]
inductive frPhi (w0 : World) (I : Part) (L : List HP) (id : Nat) (data : ByteArray) (rb : Nat) (v0 : Value) (f : Nat → Bool) (w : World) : Act → Prop
  | mk (x0 x1 x2 x3 x4 x5 x6 x7 x8 x9 x10 x11 x12 x13 x14 : Value) (g5 g9 g12 e n : Nat) (J : Part) (hIJ : I.le J) (F0 : Hid (f 0 = true → x0 = (.pointer (some ⟨e, 0, none⟩) : Value))) (F1 : Hid (f 1 = true → x1 = (.pointer (some ⟨rb, 0, none⟩) : Value))) (F2 : Hid (f 2 = true → x2 = (.int .u64 1 : Value))) (F3 : Hid (f 3 = true → x3 = (.pointer (some ⟨rb, 1, none⟩) : Value))) (F4 : Hid (f 4 = true → x4 = (.int .u64 (id : Int) : Value))) (F5 : Hid (f 5 = true → x5 = (.slice (some ⟨g5, 0, none⟩) 2 2 : Value) ∧ Rd J (some ⟨g5, 0, none⟩) [.int .u64 1, .int .u64 (id : Int)])) (F6 : Hid (f 6 = true → x6 = (.pointer (some ⟨e, 0, none⟩) : Value))) (F7 : Hid (f 7 = true → x7 = (.pointer (some ⟨rb, 2, none⟩) : Value))) (F8 : Hid (f 8 = true → x8 = (.string data : Value))) (F9 : Hid (f 9 = true → x9 = (.slice (some ⟨g9, 0, none⟩) 1 1 : Value) ∧ Rd J (some ⟨g9, 0, none⟩) [.string data])) (F10 : Hid (f 10 = true → x10 = (.pointer (some ⟨e, 0, none⟩) : Value))) (F11 : Hid (f 11 = true → x11 = (.string (⟨(recB id data).toArray⟩ : ByteArray) : Value))) (F12 : Hid (f 12 = true → x12 = (.slice (some ⟨g12, 0, none⟩) 1 1 : Value) ∧ Rd J (some ⟨g12, 0, none⟩) [.string (⟨(recB id data).toArray⟩ : ByteArray)])) (F13 : Hid (f 13 = true → x13 = (.string ⟨(recF id data).toArray⟩ : Value))) (F14 : Hid (f 14 = true → x14 = (.string ⟨(recF id data).toArray⟩ : Value))) (C0 : Hid (f 0 = decide (0 < n))) (C1 : Hid (f 6 = decide (1 < n))) (C2 : Hid (f 10 = decide (2 < n)))
    (HS : Hid (Sat w0 J (blk rb 160 [.int .u64 1, .int .u64 (id : Int), .string data] :: (encN id data e n ++ L)) w)) : frPhi w0 I L id data rb v0 f w ⟨#[v0, .pointer (some ⟨rb, 0, none⟩), x14, x0, x1, x2, x3, x4, x5, x6, x7, x8, x9, x10, x11, x12, x13], []⟩
theorem frB1 (id : Nat) : ([] : List UInt8) ++ [(1 : Int), (id : Int)].flatMap (fun z => encU z.toNat) = encU 1 ++ encU id := by simp
theorem frB2 (id : Nat) (data : ByteArray) : (encU 1 ++ encU id) ++ [data].flatMap encS = recB id data := by simp [recB]

set_option maxHeartbeats 20000000 in
theorem rframe_sat {w0 w : World} {I : Part} {L : List HP} (id : Nat) (data : ByteArray) (hok : CItm (id, data)) (hT : Rd I (some ⟨0, 0, none⟩) tabV) (H : Sat w0 I L w) :
    Calls Tryz.prog 132 #[.agg #[.int .u64 1, .int .u64 (id : Int), .string data]] w fun r w' => r = .returned (.string ⟨(recF id data).toArray⟩) ∧ Sat w0 I L w' := by
  have HT := hid hT
  have H0 := hid H
  have hdata : data.size ≤ 4000 := hok.sz
  have hid1 : id ≤ 1000 := hok.id
  have HRL : Hid ((recB id data).length ≤ 5000) := hid (recB_len hok)
  have HLE : Hid ((encU 1 ++ encU id).length ≤ 20) := hid (by have e1 := encU_len 1 (by omega); have e2 := encU_len id (by omega); rw [List.length_append]; omega)
  clear hT H hok
  obtain ⟨rb, hrb⟩ : ∃ rb, w.heap.size = rb := ⟨_, rfl⟩
  go_enter Tryz.func132, Tryz.ntmps132
  go_upto_region 1 with fail
  try rw [hrb]
  have S1 := H0.out.alloc (b := rb) (T := 160) (cs := [.int .u64 1, .int .u64 (id : Int), .string data]) rfl hrb.symm
  refine wp_gen (fun w1 => Sat w0 I (blk rb 160 [.int .u64 1, .int .u64 (id : Int), .string data] :: L) w1) S1 ?_
  clear S1 H0 hrb
  intro w1 S1
  refine wp_region_inv (by kernel_rfl) (by kernel_rfl) (fun f a w => frPhi w0 I L id data rb (.agg #[.int .u64 1, .int .u64 (id : Int), .string data]) f w a) ?h0 ?hs ?he
  case h0 => exact frPhi.mk _ _ _ _ _ _ _ _ _ _ _ _ _ _ _ 0 0 0 0 0 I (Part.le_refl _) (hid (fun h => by cases h)) (hid (fun h => by cases h)) (hid (fun h => by cases h)) (hid (fun h => by cases h)) (hid (fun h => by cases h)) (hid (fun h => by cases h)) (hid (fun h => by cases h)) (hid (fun h => by cases h)) (hid (fun h => by cases h)) (hid (fun h => by cases h)) (hid (fun h => by cases h)) (hid (fun h => by cases h)) (hid (fun h => by cases h)) (hid (fun h => by cases h)) (hid (fun h => by cases h)) (hid rfl) (hid rfl) (hid rfl) (hid S1.drew)
  case hs =>
    clear S1
    rintro f a w i o ⟨x0, x1, x2, x3, x4, x5, x6, x7, x8, x9, x10, x11, x12, x13, x14, g5, g9, g12, e, n, J, hIJ, F0, F1, F2, F3, F4, F5, F6, F7, F8, F9, F10, F11, F12, F13, F14, C0, C1, C2, HS⟩ ho hf hall K' hK
    have hi : i < 15 := (Array.getElem?_eq_some_iff.1 ho).1
    have hi2 : i = 0 ∨ i = 1 ∨ i = 2 ∨ i = 3 ∨ i = 4 ∨ i = 5 ∨ i = 6 ∨ i = 7 ∨ i = 8 ∨ i = 9 ∨ i = 10 ∨ i = 11 ∨ i = 12 ∨ i = 13 ∨ i = 14 := by omega
    rcases hi2 with rfl | rfl | rfl | rfl | rfl | rfl | rfl | rfl | rfl | rfl | rfl | rfl | rfl | rfl | rfl

    · obtain rfl := Option.some.inj ho
      have hn : n = 0 := by
        have h2 := C0.out; rw [hf] at h2; have h4 := of_decide_eq_false h2.symm; omega
      subst hn
      obtain ⟨en, hen⟩ : ∃ g, w.heap.size = g := ⟨_, rfl⟩
      have H2 := hid ((HS.out.encNew (b := en) hen.symm).swap)
      clear HS
      go_simp
      try rw [hen]
      exact hK _ _ (frPhi.mk _ x1 x2 x3 x4 x5 x6 x7 x8 x9 x10 x11 x12 x13 x14 g5 g9 g12 en 1 J hIJ (hid (fun _ => rfl)) (F1) (F2) (F3) (F4) (F5) (hid (fun h => absurd (show f 6 = true from h) (by rw [C1.out]; decide))) (F7) (F8) (F9) (hid (fun h => absurd (show f 10 = true from h) (by rw [C2.out]; decide))) (F11) (F12) (F13) (F14) (hid rfl) (hid (C1.out.trans (by decide))) (hid (C2.out.trans (by decide))) H2)
    · obtain rfl := Option.some.inj ho
      go_simp
      exact hK _ _ (frPhi.mk x0 _ x2 x3 x4 x5 x6 x7 x8 x9 x10 x11 x12 x13 x14 g5 g9 g12 e n J hIJ (F0) (hid (fun _ => rfl)) (F2) (F3) (F4) (F5) (F6) (F7) (F8) (F9) (F10) (F11) (F12) (F13) (F14) (C0) (C1) (C2) HS)
    · obtain rfl := Option.some.inj ho
      have d1 : f 1 = true := hall { on := 1, ground := Ground.data } (by simp) (by rfl)
      obtain rfl := F1.out d1
      have c0 : w.cell? ⟨rb, 0, none⟩ = some (.int .u64 1) := HS.out.isBlk.cell 0 rfl
      go_simp
      exact hK _ _ (frPhi.mk x0 _ _ x3 x4 x5 x6 x7 x8 x9 x10 x11 x12 x13 x14 g5 g9 g12 e n J hIJ (F0) (F1) (hid (fun _ => rfl)) (F3) (F4) (F5) (F6) (F7) (F8) (F9) (F10) (F11) (F12) (F13) (F14) (C0) (C1) (C2) HS)
    · obtain rfl := Option.some.inj ho
      go_simp
      exact hK _ _ (frPhi.mk x0 x1 x2 _ x4 x5 x6 x7 x8 x9 x10 x11 x12 x13 x14 g5 g9 g12 e n J hIJ (F0) (F1) (F2) (hid (fun _ => rfl)) (F4) (F5) (F6) (F7) (F8) (F9) (F10) (F11) (F12) (F13) (F14) (C0) (C1) (C2) HS)
    · obtain rfl := Option.some.inj ho
      have d3 : f 3 = true := hall { on := 3, ground := Ground.data } (by simp) (by rfl)
      obtain rfl := F3.out d3
      have c0 : w.cell? ⟨rb, 1, none⟩ = some (.int .u64 (id : Int)) := HS.out.isBlk.cell 1 rfl
      go_simp
      exact hK _ _ (frPhi.mk x0 x1 x2 _ _ x5 x6 x7 x8 x9 x10 x11 x12 x13 x14 g5 g9 g12 e n J hIJ (F0) (F1) (F2) (F3) (hid (fun _ => rfl)) (F5) (F6) (F7) (F8) (F9) (F10) (F11) (F12) (F13) (F14) (C0) (C1) (C2) HS)
    · obtain rfl := Option.some.inj ho
      have d2 : f 2 = true := hall { on := 2, ground := Ground.data } (by simp) (by rfl)
      have d4 : f 4 = true := hall { on := 4, ground := Ground.data } (by simp) (by rfl)
      obtain rfl := F2.out d2
      obtain rfl := F4.out d4
      obtain ⟨gn, hgn⟩ : ∃ g, w.heap.size = g := ⟨_, rfl⟩
      obtain ⟨J2, hJ2, S1, hrd⟩ := (HS.out.alloc (b := gn) (T := 34) (cs := [.int .u64 1, .int .u64 (id : Int)]) rfl hgn.symm).freezeBlk
      have H2 := hid S1
      have HRD := hid hrd
      clear S1 hrd HS
      go_simp
      try rw [hgn]
      exact hK _ _ (frPhi.mk x0 x1 _ x3 _ _ x6 x7 x8 x9 x10 x11 x12 x13 x14 gn g9 g12 e n J2 (Part.le_trans hIJ hJ2) (F0) (F1) (F2) (F3) (F4) (hid (fun _ => ⟨rfl, HRD.out⟩)) (F6) (F7) (F8) (hid (fun h => ⟨(F9.out h).1, (F9.out h).2.mono hJ2⟩)) (F10) (F11) (hid (fun h => ⟨(F12.out h).1, (F12.out h).2.mono hJ2⟩)) (F13) (F14) (C0) (C1) (C2) H2)
    · obtain rfl := Option.some.inj ho
      have d0 : f 0 = true := hall { on := 0, ground := Ground.data } (by simp) (by rfl)
      have d5 : f 5 = true := hall { on := 5, ground := Ground.data } (by simp) (by rfl)
      obtain rfl := F0.out d0
      obtain ⟨rfl, hrd⟩ := F5.out d5
      have HRD := hid hrd
      clear hrd
      have hn : n = 1 := by
        have h1 := C0.out; rw [d0] at h1; have h3 := of_decide_eq_true h1.symm
        have h2 := C1.out; rw [hf] at h2; have h4 := of_decide_eq_false h2.symm
        omega
      subst hn
      go_simp
      go_at_call 34
      refine (encU_sat (some ⟨g5, 0, none⟩) 2 [1, (id : Int)] HS.out.swap HRD.out (by intro z hz; simp at hz; omega) (by simp) (by simp)).mono ?_
      rintro r w5 ⟨rfl, S5⟩
      rw [frB1] at S5
      have H5 := hid S5.swap
      clear S5 HS
      exact hK _ _ (frPhi.mk _ x1 x2 x3 x4 _ _ x7 x8 x9 x10 x11 x12 x13 x14 g5 g9 g12 e 2 J hIJ (F0) (F1) (F2) (F3) (F4) (F5) (hid (fun _ => rfl)) (F7) (F8) (F9) (F10) (F11) (F12) (F13) (F14) (hid (C0.out.trans (by decide))) (hid rfl) (hid (C2.out.trans (by decide))) H5)
    · obtain rfl := Option.some.inj ho
      go_simp
      exact hK _ _ (frPhi.mk x0 x1 x2 x3 x4 x5 x6 _ x8 x9 x10 x11 x12 x13 x14 g5 g9 g12 e n J hIJ (F0) (F1) (F2) (F3) (F4) (F5) (F6) (hid (fun _ => rfl)) (F8) (F9) (F10) (F11) (F12) (F13) (F14) (C0) (C1) (C2) HS)
    · obtain rfl := Option.some.inj ho
      have d7 : f 7 = true := hall { on := 7, ground := Ground.data } (by simp) (by rfl)
      obtain rfl := F7.out d7
      have c0 : w.cell? ⟨rb, 2, none⟩ = some (.string data) := HS.out.isBlk.cell 2 rfl
      go_simp
      exact hK _ _ (frPhi.mk x0 x1 x2 x3 x4 x5 x6 _ _ x9 x10 x11 x12 x13 x14 g5 g9 g12 e n J hIJ (F0) (F1) (F2) (F3) (F4) (F5) (F6) (F7) (hid (fun _ => rfl)) (F9) (F10) (F11) (F12) (F13) (F14) (C0) (C1) (C2) HS)
    · obtain rfl := Option.some.inj ho
      have d8 : f 8 = true := hall { on := 8, ground := Ground.data } (by simp) (by rfl)
      obtain rfl := F8.out d8
      obtain ⟨gn, hgn⟩ : ∃ g, w.heap.size = g := ⟨_, rfl⟩
      obtain ⟨J2, hJ2, S1, hrd⟩ := (HS.out.alloc (b := gn) (T := 9) (cs := [.string data]) rfl hgn.symm).freezeBlk
      have H2 := hid S1
      have HRD := hid hrd
      clear S1 hrd HS
      go_simp
      try rw [hgn]
      exact hK _ _ (frPhi.mk x0 x1 x2 x3 x4 x5 x6 x7 _ _ x10 x11 x12 x13 x14 g5 gn g12 e n J2 (Part.le_trans hIJ hJ2) (F0) (F1) (F2) (F3) (F4) (hid (fun h => ⟨(F5.out h).1, (F5.out h).2.mono hJ2⟩)) (F6) (F7) (F8) (hid (fun _ => ⟨rfl, HRD.out⟩)) (F10) (F11) (hid (fun h => ⟨(F12.out h).1, (F12.out h).2.mono hJ2⟩)) (F13) (F14) (C0) (C1) (C2) H2)
    · obtain rfl := Option.some.inj ho
      have d6 : f 6 = true := hall { on := 6, ground := Ground.data } (by simp) (by rfl)
      have d9 : f 9 = true := hall { on := 9, ground := Ground.data } (by simp) (by rfl)
      obtain rfl := F6.out d6
      obtain ⟨rfl, hrd⟩ := F9.out d9
      have HRD := hid hrd
      clear hrd
      have hn : n = 2 := by
        have h1 := C1.out; rw [d6] at h1; have h3 := of_decide_eq_true h1.symm
        have h2 := C2.out; rw [hf] at h2; have h4 := of_decide_eq_false h2.symm
        omega
      subst hn
      go_simp
      go_at_call 62
      refine (encS_sat (some ⟨g9, 0, none⟩) 1 [data] 4000 HS.out.swap HRD.out (by intro s hs; simp at hs; subst hs; exact hdata) (by have := HLE.out; simp only [List.length_cons, List.length_nil]; omega) (by omega) (by simp)).mono ?_
      rintro r w5 ⟨rfl, S5⟩
      rw [frB2] at S5
      have H5 := hid S5.swap
      clear S5 HS
      exact hK _ _ (frPhi.mk x0 x1 x2 x3 x4 x5 _ x7 x8 _ _ x11 x12 x13 x14 g5 g9 g12 e 3 J hIJ (F0) (F1) (F2) (F3) (F4) (F5) (F6) (F7) (F8) (F9) (hid (fun _ => rfl)) (F11) (F12) (F13) (F14) (hid (C0.out.trans (by decide))) (hid (C1.out.trans (by decide))) (hid rfl) H5)
    · obtain rfl := Option.some.inj ho
      have d10 : f 10 = true := hall { on := 10, ground := Ground.data } (by simp) (by rfl)
      obtain rfl := F10.out d10
      have hn : 2 < n := by
        have h1 := C2.out; rw [d10] at h1; exact of_decide_eq_true h1.symm
      obtain ⟨m, rfl⟩ : ∃ m, n = m + 3 := ⟨n - 3, by omega⟩
      go_simp
      go_at_call 35
      refine (bytes_sat (bs := recB id data) HS.out.swap).mono ?_
      rintro r w5 ⟨rfl, S5⟩
      have H5 := hid S5.swap
      clear S5 HS
      exact hK _ _ (frPhi.mk x0 x1 x2 x3 x4 x5 x6 x7 x8 x9 _ _ x12 x13 x14 g5 g9 g12 e (m + 3) J hIJ (F0) (F1) (F2) (F3) (F4) (F5) (F6) (F7) (F8) (F9) (F10) (hid (fun _ => rfl)) (F12) (F13) (F14) (C0) (C1) (C2) H5)
    · obtain rfl := Option.some.inj ho
      have d11 : f 11 = true := hall { on := 11, ground := Ground.data } (by simp) (by rfl)
      obtain rfl := F11.out d11
      obtain ⟨gn, hgn⟩ : ∃ g, w.heap.size = g := ⟨_, rfl⟩
      obtain ⟨J2, hJ2, S1, hrd⟩ := (HS.out.alloc (b := gn) (T := 9) (cs := [.string (⟨(recB id data).toArray⟩ : ByteArray)]) rfl hgn.symm).freezeBlk
      have H2 := hid S1
      have HRD := hid hrd
      clear S1 hrd HS
      go_simp
      try rw [hgn]
      exact hK _ _ (frPhi.mk x0 x1 x2 x3 x4 x5 x6 x7 x8 x9 x10 _ _ x13 x14 g5 g9 gn e n J2 (Part.le_trans hIJ hJ2) (F0) (F1) (F2) (F3) (F4) (hid (fun h => ⟨(F5.out h).1, (F5.out h).2.mono hJ2⟩)) (F6) (F7) (F8) (hid (fun h => ⟨(F9.out h).1, (F9.out h).2.mono hJ2⟩)) (F10) (F11) (hid (fun _ => ⟨rfl, HRD.out⟩)) (F13) (F14) (C0) (C1) (C2) H2)
    · obtain rfl := Option.some.inj ho
      have d12 : f 12 = true := hall { on := 12, ground := Ground.data } (by simp) (by rfl)
      obtain ⟨rfl, hrd⟩ := F12.out d12
      have HRD := hid hrd
      clear hrd
      go_simp
      go_at_call 113
      refine (frame_sat (HT.out.mono hIJ) (some ⟨g12, 0, none⟩) 1 1 [(⟨(recB id data).toArray⟩ : ByteArray)] rfl HRD.out (by omega) (by omega) (by omega) (by omega) (C := recB id data) (by simp [flatS]) (by have := HRL.out; omega) HS.out).mono ?_
      rintro r w5 ⟨rfl, S5⟩
      have H5 := hid S5
      clear S5 HS
      exact hK _ _ (frPhi.mk x0 x1 x2 x3 x4 x5 x6 x7 x8 x9 x10 x11 _ _ x14 g5 g9 g12 e n J hIJ (F0) (F1) (F2) (F3) (F4) (F5) (F6) (F7) (F8) (F9) (F10) (F11) (F12) (hid (fun _ => rfl)) (F14) (C0) (C1) (C2) H5)
    · obtain rfl := Option.some.inj ho
      have d13 : f 13 = true := hall { on := 13, ground := Ground.data } (by simp) (by rfl)
      obtain rfl := F13.out d13
      go_simp
      exact hK _ _ (frPhi.mk x0 x1 x2 x3 x4 x5 x6 x7 x8 x9 x10 x11 x12 _ _ g5 g9 g12 e n J hIJ (F0) (F1) (F2) (F3) (F4) (F5) (F6) (F7) (F8) (F9) (F10) (F11) (F12) (F13) (hid (fun _ => rfl)) (C0) (C1) (C2) HS)
  case he =>
    clear S1
    rintro f a w ⟨x0, x1, x2, x3, x4, x5, x6, x7, x8, x9, x10, x11, x12, x13, x14, g5, g9, g12, e, n, J, hIJ, F0, F1, F2, F3, F4, F5, F6, F7, F8, F9, F10, F11, F12, F13, F14, C0, C1, C2, HS⟩ hall
    have h14 := hall 14 (by decide)
    have h10 := hall 10 (by decide)
    have hn : 2 < n := by
      have h1 := C2.out; rw [h10] at h1; exact of_decide_eq_true h1.symm
    obtain ⟨m, rfl⟩ : ∃ m, n = m + 3 := ⟨n - 3, by omega⟩
    obtain rfl := F14.out h14
    have H1 := hid HS.out.drop.drop
    clear HS hn h14 h10 F0 F1 F2 F3 F4 F5 F6 F7 F8 F9 F10 F11 F12 F13 F14 C0 C1 C2
    go_wp2_with fail
    go_ret
    exact ⟨rfl, H1.out.thaw hIJ⟩
end Go.Proofs.YtekioplbfoonkaaGreatDoor
