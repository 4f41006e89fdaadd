/- Layer 9's frames (its drawn region by an invariant; printed by tool/mkrec.py). -/
import Derived.Test.YtekioplbfoonkaaGreatDoorTmB
import Derived.Test.YtekioplbfoonkaaGreatDoorBldS
import Derived.Test.YtekioplbfoonkaaGreatDoorInv
namespace Go.Proofs.YtekioplbfoonkaaGreatDoor
open Go.RowKit
set_option linter.unusedVariables false
set_option maxRecDepth 100000
def encE (x : Ent) (e : Nat) : Nat → List HP
  | 0 => []
  | 1 => [enc e []]
  | 2 => [enc e (encU x.idx ++ encU x.term)]
  | _ + 3 => [enc e (entB x)]
def bldE (x : Ent) (B : List UInt8) (b : Bool) : List UInt8 := if b then B ++ frameL (entB x) else B
inductive frmPhi (w0 : World) (I : Part) (L : List HP) (x : Ent) (rb bq : Nat) (B : List UInt8) (v0 v1 v2 v4 v6 v7 v8 v9 v10 v11 v27 v28 : Value) (f : Nat → Bool) (w : World) : Act → Prop
  | mk (x0 x1 x2 x3 x4 x5 x6 x7 x8 x9 x10 x11 x12 x13 x14 : Value) (g5 g9 g12 e n : Nat) (b : Bool) (J : Part) (hIJ : I.le J) (F0 : Hid (f 0 = true → x0 = (.pointer (some ⟨e, 0, none⟩) : Value))) (F1 : Hid (f 1 = true → x1 = (.pointer (some ⟨rb, 0, none⟩) : Value))) (F2 : Hid (f 2 = true → x2 = (.int .i64 (x.idx : Int) : Value))) (F3 : Hid (f 3 = true → x3 = (.pointer (some ⟨rb, 1, none⟩) : Value))) (F4 : Hid (f 4 = true → x4 = (.int .i64 (x.term : Int) : Value))) (F5 : Hid (f 5 = true → x5 = (.slice (some ⟨g5, 0, none⟩) 2 2 : Value) ∧ Rd J (some ⟨g5, 0, none⟩) [.int .i64 (x.idx : Int), .int .i64 (x.term : Int)])) (F6 : Hid (f 6 = true → x6 = (.pointer (some ⟨e, 0, none⟩) : Value))) (F7 : Hid (f 7 = true → x7 = (.pointer (some ⟨rb, 2, none⟩) : Value))) (F8 : Hid (f 8 = true → x8 = (.string x.cmd : Value))) (F9 : Hid (f 9 = true → x9 = (.slice (some ⟨g9, 0, none⟩) 1 1 : Value) ∧ Rd J (some ⟨g9, 0, none⟩) [.string x.cmd])) (F10 : Hid (f 10 = true → x10 = (.pointer (some ⟨e, 0, none⟩) : Value))) (F11 : Hid (f 11 = true → x11 = (.string (⟨(entB x).toArray⟩ : ByteArray) : Value))) (F12 : Hid (f 12 = true → x12 = (.slice (some ⟨g12, 0, none⟩) 1 1 : Value) ∧ Rd J (some ⟨g12, 0, none⟩) [.string (⟨(entB x).toArray⟩ : ByteArray)])) (F13 : Hid (f 13 = true → x13 = (.string ⟨(frameL (entB x)).toArray⟩ : Value))) (F14 : Hid (f 14 = true → True)) (C0 : Hid (f 0 = decide (0 < n))) (C1 : Hid (f 6 = decide (1 < n))) (C2 : Hid (f 10 = decide (2 < n))) (CB : Hid (f 14 = b))
    (HS : Hid (Sat w0 J (blk rb 73 x.cells :: bld bq (bldE x B b) :: (encE x e n ++ L)) w)) : frmPhi w0 I L x rb bq B v0 v1 v2 v4 v6 v7 v8 v9 v10 v11 v27 v28 f w ⟨#[v0, v1, v2, .pointer (some ⟨bq, 0, none⟩), v4, .pointer (some ⟨rb, 0, none⟩), v6, v7, v8, v9, v10, v11, x0, x1, x2, x3, x4, x5, x6, x7, x8, x9, x10, x11, x12, x13, x14, v27, v28], []⟩
theorem entGet : ∀ (l : List Ent) {i : Nat} (hi : i < l.length) (j : Nat) (v : Value), l[i].cells[j]? = some v → (l.flatMap Ent.cells)[i * 3 + j]? = some v
  | x :: l, 0, _, j, v, h => by
    have hj : j < 3 := (List.getElem?_eq_some_iff.1 h).1
    show (x.cells ++ l.flatMap Ent.cells)[0 * 3 + j]? = _
    rw [List.getElem?_append_left (show 0 * 3 + j < 3 by omega), Nat.zero_mul, Nat.zero_add]
    exact h
  | x :: l, i + 1, hi, j, v, h => by
    have hi' : i < l.length := by simpa using hi
    have ih := entGet l hi' j v h
    show (x.cells ++ l.flatMap Ent.cells)[(i + 1) * 3 + j]? = _
    rw [List.getElem?_append_right (show 3 ≤ (i + 1) * 3 + j by omega), show (i + 1) * 3 + j - x.cells.length = i * 3 + j by show _ - 3 = _; omega]
    exact ih
theorem frmB2 (x : Ent) : (encU x.idx ++ encU x.term) ++ [x.cmd].flatMap encS = entB x := by simp [entB]


set_option maxHeartbeats 20000000 in
theorem frames_sat {w0 w : World} {I : Part} {L : List HP} (hT : Rd I (some ⟨0, 0, none⟩) tabV) (la : Option Addr) (len cap : Nat) (l : List Ent) (hln : l.length = len) (hok : ∀ x ∈ l, x.Ok) (hlen : len ≤ 100) (hr : Rd I la (l.flatMap Ent.cells)) (H : Sat w0 I L w) :
    Calls Tryz.prog 165 #[.slice la len cap] w fun e w' => e = .returned (.string ⟨(logB l).toArray⟩) ∧ Sat w0 I L w' := by
  have HT := hid hT
  have HR := hid hr
  have HOK := hid hok
  have HLN := hid hln
  obtain ⟨bq, hq⟩ := H.sizeEx
  have H1 := hid (H.bldNew (b := bq) hq.symm)
  have hll := logB_len l hok
  have HLL := hid hll
  clear H hT hr hok hll
  go_enter Tryz.func165, Tryz.ntmps165
  go_wp2_with fail
  try rw [hq]
  clear hq
  go_loopw [5, 8, 9, 10, 11, 12, 13, 14, 15, 16, 17, 18, 19, 20, 21, 22, 23, 24, 25, 26, 27] (fun _ ix _ _ _ _ _ _ _ _ _ _ _ _ _ _ _ _ _ _ _ wr => ∃ i : Nat, i ≤ len ∧ ix = .int .i64 (i : Int) ∧ Sat w0 I (bld bq (logB (l.take i)) :: L) wr) (fun _ ix _ _ _ _ _ _ _ _ _ _ _ _ _ _ _ _ _ _ _ _ => 200 - (intOf ix).toNat)
  case atStart => exact ⟨0, Nat.zero_le _, rfl, H1.out⟩
  case round =>
    clear H1
    obtain ⟨i, hi, rfl, Sr⟩ := hrel
    have HS := hid Sr
    clear Sr
    by_cases hlt : i < len
    · have hil : (i : Int) < (len : Int) := by omega
      have hi0 : (0 : Int) ≤ (i : Int) := by omega
      have hix : i < l.length := by rw [HLN.out]; exact hlt
      obtain ⟨x, hx⟩ : ∃ x, l[i] = x := ⟨_, rfl⟩
      have hok := HOK.out l[i] (List.getElem_mem _)
      have htk : logB (l.take (i + 1)) = logB (l.take i) ++ frameL (entB x) := by
        rw [List.take_succ_eq_append_getElem hix, logB_app, logB_one, hx]
      have hc := fun j v h => entGet l hix j v h
      rw [hx] at hok hc
      have HTK := hid htk
      have hbl : (logB (l.take i)).length ≤ 103800 := by
        have h1 := logB_len (l.take i) fun y hy => HOK.out y (List.mem_of_mem_take hy)
        rw [List.length_take] at h1
        omega
      obtain ⟨B, hB⟩ : ∃ B, logB (l.take i) = B := ⟨_, rfl⟩
      rw [hB] at HS hbl HTK
      have HBL := hid hbl
      obtain ⟨b0, o0, rfl, e0⟩ := HR.out.get HS.out (i * 3 + 0) (hc 0 (.int .i64 (x.idx : Int)) rfl)
      obtain ⟨b1, o1, h1, e1⟩ := HR.out.get HS.out (i * 3 + 1) (hc 1 (.int .i64 (x.term : Int)) rfl)
      cases h1
      obtain ⟨b1, o1, h1, e2⟩ := HR.out.get HS.out (i * 3 + 2) (hc 2 (.string x.cmd) rfl)
      cases h1
      rw [← Nat.add_assoc] at e0 e1 e2
      rw [Nat.add_zero] at e0
      obtain ⟨rb, hrb⟩ := HS.out.sizeEx
      have HRB := hid (HS.out.alloc (b := rb) (T := 73) (cs := x.cells) rfl hrb.symm)
      clear HS hx hc hB hbl htk
      go_upto_region 5 with fail
      try rw [hrb]
      refine wp_gen (fun w1 => Sat w0 I (blk rb 73 x.cells :: bld bq B :: L) w1) HRB.out ?_
      clear HRB hrb e0 e1 e2
      intro w1 S1
      have HRB := hid S1
      clear S1
      have HRL : Hid ((entB x).length ≤ 1030) := hid (entB_len hok)
      have HLE : Hid ((encU x.idx ++ encU x.term).length ≤ 20) := hid (by have e1 := encU_len x.idx (by have := hok.idx; omega); have e2 := encU_len x.term (by have := hok.term; omega); rw [List.length_append]; omega)
      have hsz : x.cmd.size ≤ 1000 := hok.cmd
      have hi1 : x.idx ≤ 1000 := hok.idx
      have hi2 : x.term ≤ 1000 := hok.term
      refine wp_region_inv (by kernel_rfl) (by kernel_rfl) (fun f a w => frmPhi w0 I L x rb bq B (.slice (some ⟨b0, o0, none⟩) len cap) undef (.string ⟨#[]⟩) undef (.slice (some ⟨b0, o0, none⟩) len cap) (.int .i64 (len : Int)) (.int .i64 (i : Int)) (.bool true) (.pointer (some ⟨b0, o0 + i * 3, none⟩)) (.agg #[.int .i64 (x.idx : Int), .int .i64 (x.term : Int), .string x.cmd]) u27 undef f w a) ?h0 ?hs ?he
      case h0 => exact frmPhi.mk _ _ _ _ _ _ _ _ _ _ _ _ _ _ _ 0 0 0 0 0 false I (Part.le_refl _) (hid (fun h => by cases h)) (hid (fun h => by cases h)) (hid (fun h => by cases h)) (hid (fun h => by cases h)) (hid (fun h => by cases h)) (hid (fun h => by cases h)) (hid (fun h => by cases h)) (hid (fun h => by cases h)) (hid (fun h => by cases h)) (hid (fun h => by cases h)) (hid (fun h => by cases h)) (hid (fun h => by cases h)) (hid (fun h => by cases h)) (hid (fun h => by cases h)) (hid (fun h => by cases h)) (hid rfl) (hid rfl) (hid rfl) (hid rfl) (hid HRB.out.drew)
      case hs =>
        clear HRB
        rintro f a w i o ⟨x0, x1, x2, x3, x4, x5, x6, x7, x8, x9, x10, x11, x12, x13, x14, g5, g9, g12, e, n, b, J, hIJ, F0, F1, F2, F3, F4, F5, F6, F7, F8, F9, F10, F11, F12, F13, F14, C0, C1, C2, CB, HS⟩ ho hf hall K' hK
        have hi : i < 15 := (Array.getElem?_eq_some_iff.1 ho).1
        have hi2 : i = 0 ∨ i = 1 ∨ i = 2 ∨ i = 3 ∨ i = 4 ∨ i = 5 ∨ i = 6 ∨ i = 7 ∨ i = 8 ∨ i = 9 ∨ i = 10 ∨ i = 11 ∨ i = 12 ∨ i = 13 ∨ i = 14 := by omega
        rcases hi2 with rfl | rfl | rfl | rfl | rfl | rfl | rfl | rfl | rfl | rfl | rfl | rfl | rfl | rfl | rfl

        · obtain rfl := Option.some.inj ho
          have hn : n = 0 := by
            have h2 := C0.out; rw [hf] at h2; have h4 := of_decide_eq_false h2.symm; omega
          subst hn
          obtain ⟨en, hen⟩ : ∃ g, w.heap.size = g := ⟨_, rfl⟩
          have H2 := hid ((HS.out.encNew (b := en) hen.symm).pick 2 |>.pick 2)
          clear HS
          go_simp
          try rw [hen]
          exact hK _ _ (frmPhi.mk _ x1 x2 x3 x4 x5 x6 x7 x8 x9 x10 x11 x12 x13 x14 g5 g9 g12 en 1 b J hIJ (hid (fun _ => rfl)) (F1) (F2) (F3) (F4) (F5) (hid (fun h => absurd (show f 6 = true from h) (by rw [C1.out]; decide))) (F7) (F8) (F9) (hid (fun h => absurd (show f 10 = true from h) (by rw [C2.out]; decide))) (F11) (F12) (F13) (F14) (hid rfl) (hid (C1.out.trans (by decide))) (hid (C2.out.trans (by decide))) (CB) H2)
        · obtain rfl := Option.some.inj ho
          go_simp
          exact hK _ _ (frmPhi.mk x0 _ x2 x3 x4 x5 x6 x7 x8 x9 x10 x11 x12 x13 x14 g5 g9 g12 e n b J hIJ (F0) (hid (fun _ => rfl)) (F2) (F3) (F4) (F5) (F6) (F7) (F8) (F9) (F10) (F11) (F12) (F13) (F14) (C0) (C1) (C2) (CB) HS)
        · obtain rfl := Option.some.inj ho
          have d1 : f 1 = true := hall { on := 1, ground := Ground.data } (by simp) (by rfl)
          obtain rfl := F1.out d1
          have c0 : w.cell? ⟨rb, 0, none⟩ = some (.int .i64 (x.idx : Int)) := HS.out.isBlk.cell 0 rfl
          go_simp
          exact hK _ _ (frmPhi.mk x0 _ _ x3 x4 x5 x6 x7 x8 x9 x10 x11 x12 x13 x14 g5 g9 g12 e n b J hIJ (F0) (F1) (hid (fun _ => rfl)) (F3) (F4) (F5) (F6) (F7) (F8) (F9) (F10) (F11) (F12) (F13) (F14) (C0) (C1) (C2) (CB) HS)
        · obtain rfl := Option.some.inj ho
          go_simp
          exact hK _ _ (frmPhi.mk x0 x1 x2 _ x4 x5 x6 x7 x8 x9 x10 x11 x12 x13 x14 g5 g9 g12 e n b J hIJ (F0) (F1) (F2) (hid (fun _ => rfl)) (F4) (F5) (F6) (F7) (F8) (F9) (F10) (F11) (F12) (F13) (F14) (C0) (C1) (C2) (CB) HS)
        · obtain rfl := Option.some.inj ho
          have d3 : f 3 = true := hall { on := 3, ground := Ground.data } (by simp) (by rfl)
          obtain rfl := F3.out d3
          have c0 : w.cell? ⟨rb, 1, none⟩ = some (.int .i64 (x.term : Int)) := HS.out.isBlk.cell 1 rfl
          go_simp
          exact hK _ _ (frmPhi.mk x0 x1 x2 _ _ x5 x6 x7 x8 x9 x10 x11 x12 x13 x14 g5 g9 g12 e n b J hIJ (F0) (F1) (F2) (F3) (hid (fun _ => rfl)) (F5) (F6) (F7) (F8) (F9) (F10) (F11) (F12) (F13) (F14) (C0) (C1) (C2) (CB) HS)
        · obtain rfl := Option.some.inj ho
          have d2 : f 2 = true := hall { on := 2, ground := Ground.data } (by simp) (by rfl)
          have d4 : f 4 = true := hall { on := 4, ground := Ground.data } (by simp) (by rfl)
          obtain rfl := F2.out d2
          obtain rfl := F4.out d4
          obtain ⟨gn, hgn⟩ : ∃ g, w.heap.size = g := ⟨_, rfl⟩
          obtain ⟨J2, hJ2, S1, hrd⟩ := (HS.out.alloc (b := gn) (T := 3) (cs := [.int .i64 (x.idx : Int), .int .i64 (x.term : Int)]) rfl hgn.symm).freezeBlk
          have H2 := hid S1
          have HRD := hid hrd
          clear S1 hrd HS
          go_simp
          try rw [hgn]
          exact hK _ _ (frmPhi.mk x0 x1 _ x3 _ _ x6 x7 x8 x9 x10 x11 x12 x13 x14 gn g9 g12 e n b J2 (Part.le_trans hIJ hJ2) (F0) (F1) (F2) (F3) (F4) (hid (fun _ => ⟨rfl, HRD.out⟩)) (F6) (F7) (F8) (hid (fun h => ⟨(F9.out h).1, (F9.out h).2.mono hJ2⟩)) (F10) (F11) (hid (fun h => ⟨(F12.out h).1, (F12.out h).2.mono hJ2⟩)) (F13) (F14) (C0) (C1) (C2) (CB) H2)
        · obtain rfl := Option.some.inj ho
          have d0 : f 0 = true := hall { on := 0, ground := Ground.data } (by simp) (by rfl)
          have d5 : f 5 = true := hall { on := 5, ground := Ground.data } (by simp) (by rfl)
          obtain rfl := F0.out d0
          obtain ⟨rfl, hrd⟩ := F5.out d5
          have HRD := hid hrd
          clear hrd
          have hn : n = 1 := by
            have h1 := C0.out; rw [d0] at h1; have h3 := of_decide_eq_true h1.symm
            have h2 := C1.out; rw [hf] at h2; have h4 := of_decide_eq_false h2.symm
            omega
          subst hn
          go_simp
          go_at_call 61
          refine (encI_sat (some ⟨g5, 0, none⟩) 2 [(x.idx : Int), (x.term : Int)] (HS.out.pick 2) HRD.out (by intro z hz; simp at hz; omega) (by simp) (by simp)).mono ?_
          rintro r w5 ⟨rfl, S5⟩
          rw [two_enc] at S5
          have H5 := hid (S5.pick 2 |>.pick 2)
          clear S5 HS
          exact hK _ _ (frmPhi.mk _ x1 x2 x3 x4 _ _ x7 x8 x9 x10 x11 x12 x13 x14 g5 g9 g12 e 2 b J hIJ (F0) (F1) (F2) (F3) (F4) (F5) (hid (fun _ => rfl)) (F7) (F8) (F9) (F10) (F11) (F12) (F13) (F14) (hid (C0.out.trans (by decide))) (hid rfl) (hid (C2.out.trans (by decide))) (CB) H5)
        · obtain rfl := Option.some.inj ho
          go_simp
          exact hK _ _ (frmPhi.mk x0 x1 x2 x3 x4 x5 x6 _ x8 x9 x10 x11 x12 x13 x14 g5 g9 g12 e n b J hIJ (F0) (F1) (F2) (F3) (F4) (F5) (F6) (hid (fun _ => rfl)) (F8) (F9) (F10) (F11) (F12) (F13) (F14) (C0) (C1) (C2) (CB) HS)
        · obtain rfl := Option.some.inj ho
          have d7 : f 7 = true := hall { on := 7, ground := Ground.data } (by simp) (by rfl)
          obtain rfl := F7.out d7
          have c0 : w.cell? ⟨rb, 2, none⟩ = some (.string x.cmd) := HS.out.isBlk.cell 2 rfl
          go_simp
          exact hK _ _ (frmPhi.mk x0 x1 x2 x3 x4 x5 x6 _ _ x9 x10 x11 x12 x13 x14 g5 g9 g12 e n b J hIJ (F0) (F1) (F2) (F3) (F4) (F5) (F6) (F7) (hid (fun _ => rfl)) (F9) (F10) (F11) (F12) (F13) (F14) (C0) (C1) (C2) (CB) HS)
        · obtain rfl := Option.some.inj ho
          have d8 : f 8 = true := hall { on := 8, ground := Ground.data } (by simp) (by rfl)
          obtain rfl := F8.out d8
          obtain ⟨gn, hgn⟩ : ∃ g, w.heap.size = g := ⟨_, rfl⟩
          obtain ⟨J2, hJ2, S1, hrd⟩ := (HS.out.alloc (b := gn) (T := 9) (cs := [.string x.cmd]) rfl hgn.symm).freezeBlk
          have H2 := hid S1
          have HRD := hid hrd
          clear S1 hrd HS
          go_simp
          try rw [hgn]
          exact hK _ _ (frmPhi.mk x0 x1 x2 x3 x4 x5 x6 x7 _ _ x10 x11 x12 x13 x14 g5 gn g12 e n b J2 (Part.le_trans hIJ hJ2) (F0) (F1) (F2) (F3) (F4) (hid (fun h => ⟨(F5.out h).1, (F5.out h).2.mono hJ2⟩)) (F6) (F7) (F8) (hid (fun _ => ⟨rfl, HRD.out⟩)) (F10) (F11) (hid (fun h => ⟨(F12.out h).1, (F12.out h).2.mono hJ2⟩)) (F13) (F14) (C0) (C1) (C2) (CB) H2)
        · obtain rfl := Option.some.inj ho
          have d6 : f 6 = true := hall { on := 6, ground := Ground.data } (by simp) (by rfl)
          have d9 : f 9 = true := hall { on := 9, ground := Ground.data } (by simp) (by rfl)
          obtain rfl := F6.out d6
          obtain ⟨rfl, hrd⟩ := F9.out d9
          have HRD := hid hrd
          clear hrd
          have hn : n = 2 := by
            have h1 := C1.out; rw [d6] at h1; have h3 := of_decide_eq_true h1.symm
            have h2 := C2.out; rw [hf] at h2; have h4 := of_decide_eq_false h2.symm
            omega
          subst hn
          go_simp
          go_at_call 62
          refine (encS_sat (some ⟨g9, 0, none⟩) 1 [x.cmd] 4000 (HS.out.pick 2) HRD.out (by intro s hs; simp at hs; subst hs; omega) (by have := HLE.out; simp only [List.length_cons, List.length_nil]; omega) (by omega) (by simp)).mono ?_
          rintro r w5 ⟨rfl, S5⟩
          rw [frmB2] at S5
          have H5 := hid (S5.pick 2 |>.pick 2)
          clear S5 HS
          exact hK _ _ (frmPhi.mk x0 x1 x2 x3 x4 x5 _ x7 x8 _ _ x11 x12 x13 x14 g5 g9 g12 e 3 b J hIJ (F0) (F1) (F2) (F3) (F4) (F5) (F6) (F7) (F8) (F9) (hid (fun _ => rfl)) (F11) (F12) (F13) (F14) (hid (C0.out.trans (by decide))) (hid (C1.out.trans (by decide))) (hid rfl) (CB) H5)
        · obtain rfl := Option.some.inj ho
          have d10 : f 10 = true := hall { on := 10, ground := Ground.data } (by simp) (by rfl)
          obtain rfl := F10.out d10
          have hn : 2 < n := by
            have h1 := C2.out; rw [d10] at h1; exact of_decide_eq_true h1.symm
          obtain ⟨m, rfl⟩ : ∃ m, n = m + 3 := ⟨n - 3, by omega⟩
          go_simp
          go_at_call 35
          refine (bytes_sat (bs := entB x) (HS.out.pick 2)).mono ?_
          rintro r w5 ⟨rfl, S5⟩
          have H5 := hid (S5.pick 2 |>.pick 2)
          clear S5 HS
          exact hK _ _ (frmPhi.mk x0 x1 x2 x3 x4 x5 x6 x7 x8 x9 _ _ x12 x13 x14 g5 g9 g12 e (m + 3) b J hIJ (F0) (F1) (F2) (F3) (F4) (F5) (F6) (F7) (F8) (F9) (F10) (hid (fun _ => rfl)) (F12) (F13) (F14) (C0) (C1) (C2) (CB) H5)
        · obtain rfl := Option.some.inj ho
          have d11 : f 11 = true := hall { on := 11, ground := Ground.data } (by simp) (by rfl)
          obtain rfl := F11.out d11
          obtain ⟨gn, hgn⟩ : ∃ g, w.heap.size = g := ⟨_, rfl⟩
          obtain ⟨J2, hJ2, S1, hrd⟩ := (HS.out.alloc (b := gn) (T := 9) (cs := [.string (⟨(entB x).toArray⟩ : ByteArray)]) rfl hgn.symm).freezeBlk
          have H2 := hid S1
          have HRD := hid hrd
          clear S1 hrd HS
          go_simp
          try rw [hgn]
          exact hK _ _ (frmPhi.mk x0 x1 x2 x3 x4 x5 x6 x7 x8 x9 x10 _ _ x13 x14 g5 g9 gn e n b J2 (Part.le_trans hIJ hJ2) (F0) (F1) (F2) (F3) (F4) (hid (fun h => ⟨(F5.out h).1, (F5.out h).2.mono hJ2⟩)) (F6) (F7) (F8) (hid (fun h => ⟨(F9.out h).1, (F9.out h).2.mono hJ2⟩)) (F10) (F11) (hid (fun _ => ⟨rfl, HRD.out⟩)) (F13) (F14) (C0) (C1) (C2) (CB) H2)
        · obtain rfl := Option.some.inj ho
          have d12 : f 12 = true := hall { on := 12, ground := Ground.data } (by simp) (by rfl)
          obtain ⟨rfl, hrd⟩ := F12.out d12
          have HRD := hid hrd
          clear hrd
          go_simp
          go_at_call 113
          refine (frame_sat (HT.out.mono hIJ) (some ⟨g12, 0, none⟩) 1 1 [(⟨(entB x).toArray⟩ : ByteArray)] rfl HRD.out (by omega) (by omega) (by omega) (by omega) (C := entB x) (by simp [flatS]) (by have := HRL.out; omega) HS.out).mono ?_
          rintro r w5 ⟨rfl, S5⟩
          have H5 := hid S5
          clear S5 HS
          exact hK _ _ (frmPhi.mk x0 x1 x2 x3 x4 x5 x6 x7 x8 x9 x10 x11 _ _ x14 g5 g9 g12 e n b J hIJ (F0) (F1) (F2) (F3) (F4) (F5) (F6) (F7) (F8) (F9) (F10) (F11) (F12) (hid (fun _ => rfl)) (F14) (C0) (C1) (C2) (CB) H5)
        · obtain rfl := Option.some.inj ho
          have d13 : f 13 = true := hall { on := 13, ground := Ground.data } (by simp) (by rfl)
          obtain rfl := F13.out d13
          have hb : b = false := CB.out.symm.trans hf
          subst hb
          go_simp
          go_at_call 107
          refine (bwrite_sat (l := B) ⟨(frameL (entB x)).toArray⟩ (by rw [baSz, frameL_len]; have := HRL.out; have := HBL.out; omega) HS.out.swap).mono ?_
          rintro r w5 ⟨rfl, S5⟩
          have H5 := hid (show Sat w0 J (blk rb 73 x.cells :: bld bq (bldE x B true) :: (encE x e n ++ L)) w5 from S5.swap)
          clear S5 HS
          exact hK _ _ (frmPhi.mk x0 x1 x2 x3 x4 x5 x6 x7 x8 x9 x10 x11 x12 _ _ g5 g9 g12 e n true J hIJ (F0) (F1) (F2) (F3) (F4) (F5) (F6) (F7) (F8) (F9) (F10) (F11) (F12) (F13) (hid (fun _ => trivial)) (C0) (C1) (C2) (hid rfl) H5)
      case he =>
        clear HRB
        rintro f a w ⟨x0, x1, x2, x3, x4, x5, x6, x7, x8, x9, x10, x11, x12, x13, x14, g5, g9, g12, e, n, b, J, hIJ, F0, F1, F2, F3, F4, F5, F6, F7, F8, F9, F10, F11, F12, F13, F14, C0, C1, C2, CB, HS⟩ hall
        have h14 := hall 14 (by decide)
        have h10 := hall 10 (by decide)
        have hn : 2 < n := by
          have h1 := C2.out; rw [h10] at h1; exact of_decide_eq_true h1.symm
        obtain ⟨m, rfl⟩ : ∃ m, n = m + 3 := ⟨n - 3, by omega⟩
        have hb : b = true := CB.out.symm.trans h14
        subst hb
        have H9 := hid ((show Sat w0 J (blk rb 73 x.cells :: bld bq (B ++ frameL (entB x)) :: enc e (entB x) :: L) w from HS.out).drop.swap.drop.thaw hIJ)
        clear HS hn h14 h10 CB F0 F1 F2 F3 F4 F5 F6 F7 F8 F9 F10 F11 F12 F13 F14 C0 C1 C2
        go_wp2_with fail
        go_roundw
        case rel => exact ⟨i + 1, by omega, by go_num, by rw [HTK.out]; exact H9.out⟩
        case measure => simp [intOf]; omega
    · obtain rfl : i = len := by omega
      have hii : ¬ (i : Int) < (i : Int) := by omega
      have htk : l.take i = l := List.take_of_length_le (by rw [HLN.out]; exact Nat.le_refl _)
      rw [htk] at HS
      have HL2 := hid (show (logB l).length ≤ 1000000 by have := HLL.out; rw [HLN.out] at this; omega)
      go_wp2_with fail
      refine (bstr_sat HL2.out HS.out.bldToF).mono ?_; rintro e w3 ⟨rfl, S3⟩
      have H3 := hid S3
      clear S3 HS
      go_wp2_with fail
      go_ret
      exact ⟨rfl, H3.out.drop⟩
end Go.Proofs.YtekioplbfoonkaaGreatDoor
