/- Contracts of package seal: Frame. -/
import Derived.Test.YtekioplbfoonkaaGreatDoorSealN
namespace Go.Proofs.YtekioplbfoonkaaGreatDoor
open Go.RowKit
set_option linter.unusedVariables false
set_option maxRecDepth 100000
/-- the frame of bytes. -/
def frameL (l : List UInt8) : List UInt8 := be4 l.length ++ be4 (crc (be4 l.length ++ l)) ++ l
theorem frameL_len (l : List UInt8) : (frameL l).length = l.length + 8 := by
  simp [frameL, be4_len]; omega
theorem join_nil : ∀ ls : List (List UInt8), Lib.join ls [] = ls.flatten
  | [] => rfl
  | [a] => by simp [Lib.join, List.intercalate]
  | a :: b :: r => by
    have ih := join_nil (b :: r)
    unfold Lib.join List.intercalate at ih ⊢
    rw [List.intersperse_cons_cons]
    simp only [List.flatten_cons, List.nil_append] at ih ⊢
    rw [ih]
theorem Sat.sizeEx {w0 w : World} {I : Part} {L : List HP} (h : Sat w0 I L w) : ∃ g, w.heap.size = g := ⟨_, rfl⟩
def flatS (ss : List ByteArray) : List UInt8 := ss.flatMap fun s => s.data.toList
theorem flatS_size (ss : List ByteArray) : ∀ s ∈ ss, s.size ≤ (flatS ss).length := by
  induction ss with
  | nil => intro s hs; cases hs
  | cons a r ih =>
    intro s hs
    have e : (flatS (a :: r)).length = a.size + (flatS r).length := by simp [flatS]
    rcases List.mem_cons.1 hs with rfl | hs
    · omega
    · have := ih s hs; omega
set_option maxRecDepth 100000 in
set_option maxHeartbeats 2000000 in
theorem frame_any (w : World) (hT : Rd (wpart w) (some ⟨0, 0, none⟩) tabV) (la : Option Addr) (n cap : Nat) (ss : List ByteArray) (hn : ss.length = n) (hr : Rd (wpart w) la (ss.map Value.string)) (h0 : 0 < n) (hcap : n ≤ cap) (hcm : cap ≤ 9223372036854775807) (hnm : n ≤ 1048576) {C : List UInt8} (hC : flatS ss = C) (hsz : C.length ≤ 1048576) :
    Calls Tryz.prog 113 #[.slice la n cap] w (RetB (.string ⟨(frameL C).toArray⟩) w.heap.size w) := by
  have H0 := Sat.start w
  obtain ⟨b, off, rfl, c0⟩ := hr.get H0 0 (u := .string ss[0]) (by simp)
  have hcells : ∀ (j : Nat) x, ss[j]? = some x → w.cell? ⟨b, off + j, none⟩ = some (.string x) := fun j x hx => by
    obtain ⟨b2, off2, e, c⟩ := hr.get H0 j (u := .string x) (by simp [hx])
    cases e; exact c
  have hbk : b < w.heap.size := World.block_lt_of_cell? _ _ c0
  have hj : Lib.join (ss.map (·.data.toList)) ([] : List UInt8) = C := by
    rw [join_nil, ← hC]; simp [flatS, List.flatMap_def]
  have hjoin := Tryz.strings_Join b off cap ss ⟨#[]⟩ w hcells hbk (by omega) (by omega) (by rw [show (⟨#[]⟩ : ByteArray).data.toList = [] from rfl, hj]; omega)
  rw [show (⟨#[]⟩ : ByteArray).data.toList = [] from rfl, hj, hn] at hjoin
  have HJ := hid hjoin
  have HT := hid hT
  have HS := hid H0
  have hwr : ((C.length : Nat) : Int) ≤ 1048576 := by omega
  clear hcells hjoin hj hr hT c0 H0 hC hn
  go_enter Tryz.func113, Tryz.ntmps113
  go_wp2_with fail
  refine HJ.out.mono ?_; rintro e w1 ⟨rfl, B1⟩
  have H1 := hid (HS.out.below B1)
  clear B1 HJ HS
  obtain ⟨c, hc⟩ : ∃ c : ByteArray, (⟨C.toArray⟩ : ByteArray) = c := ⟨_, rfl⟩
  have hcs : c.size = C.length := by rw [← hc]; simp [ByteArray.size]
  have hcl : c.data.toList = C := by rw [← hc]
  rw [hc]
  have HC := hid hc
  have HCL := hid hcl
  have hcsI : (c.size : Int) ≤ 1048576 := by omega
  have HCS := hid hcs
  clear hc hcl hcs
  go_wp2_with fail
  refine (retB_sat (number_any w1 c.size (by omega)) H1.out).mono ?_; rintro e w2 ⟨rfl, S2⟩
  have H2 := hid S2
  clear S2 H1
  obtain ⟨z, hz⟩ : ∃ z : ByteArray, (⟨(be4 c.size).toArray⟩ : ByteArray) = z := ⟨_, rfl⟩
  rw [hz]
  have HZ := hid hz
  clear hz
  go_wp2_with fail
  obtain ⟨g, hg⟩ := H2.out.sizeEx
  have S3 : Sat w (wpart w) (blk g 9 [.string z, .string c] :: []) _ := H2.out.alloc rfl hg.symm
  rw [hg]
  clear hg
  obtain ⟨J, hJ, S4, hrd⟩ := S3.freezeBlk
  have H4 := hid S4
  have HRD := hid (show Rd J (some ⟨g, 0, none⟩) ([z, c].map Value.string) from hrd)
  clear S3 S4 hrd H2
  have hzs : z.size = 4 := by rw [← HZ.out]; rfl
  have HZS := hid hzs
  clear hzs
  refine (sum_any (HT.out.mono hJ) (some ⟨g, 0, none⟩) 2 2 [z, c] rfl HRD.out (by omega) (by omega) (fun s hs => by
    have := HZS.out
    simp at hs; rcases hs with rfl | rfl <;> omega) H4.out).mono ?_; rintro e w3 ⟨rfl, rfl⟩
  obtain ⟨R, hR⟩ : ∃ R, crcS [z, c] = R := ⟨_, rfl⟩
  have hRl : R < 4294967296 := by rw [← hR, crcS_eq]; exact crc_lt _
  rw [hR]
  have HR := hid hR
  clear hR
  go_wp2_with fail
  refine (retB_sat (number_any _ R hRl) H4.out).mono ?_; rintro e w4 ⟨rfl, S5⟩
  have H5 := hid S5
  clear S5 H4
  obtain ⟨y, hy⟩ : ∃ y : ByteArray, (⟨(be4 R).toArray⟩ : ByteArray) = y := ⟨_, rfl⟩
  rw [hy]
  have hys : y.size = 4 := by rw [← hy]; rfl
  have HY := hid hy
  have HYS := hid hys
  have l1 : ¬ 9223372036854775807 < z.size + y.size := by have := HZS.out; omega
  have l2 : ¬ 9223372036854775807 < z.size + y.size + c.size := by have := HZS.out; omega
  clear hy hys
  go_wp2_with fail
  go_ret
  refine ⟨?_, H5.out.toBelow hJ⟩
  have e : z ++ y ++ c = ⟨(frameL C).toArray⟩ := by
    have hr : R = crc (be4 C.length ++ C) := by
      rw [← HR.out, crcS_eq, ← HZ.out, ← HC.out]
      congr 1
      rw [HC.out, HCS.out]
      simp [HCL.out]
    rw [← HZ.out, ← HY.out, ← HC.out, baApp, baApp, hr]
    rw [HC.out, HCS.out]; rfl
  show Ending.returned (.string (z ++ y ++ c)) = _
  rw [e]
end Go.Proofs.YtekioplbfoonkaaGreatDoor
