/- Contracts of the reference of layer 2: Four, number, Frame. -/
import Derived.Test.YtgnoojphbnfjbaaDoorSealR
import Derived.Test.YtgnoojphbnfjbaaDoorSealB
namespace Go.Proofs.YtgnoojphbnfjbaaDoor
open Go.RowKit
set_option linter.unusedVariables false
theorem conv1 (w : World) (T : TypeId) (a : UInt8) (g : Nat) (hg : g = w.heap.size) :
    (convert 26 9 (.slice (some ⟨g, 0, none⟩) 1 1)).run Tryd.prog (w.alloc (.cells #[.int .u8 (a.toNat : Int)] T)) = .ok (.string ⟨#[a]⟩) (w.alloc (.cells #[.int .u8 (a.toNat : Int)] T)) := by
  subst hg
  exact run_convert_bytes_back _ _ _ 5 _ 1 [a] Tryd.underlying26 Tryd.underlying5 Tryd.underlying9 (Lib.bytes_of_row (Blk.new w [.int .u8 (a.toNat : Int)] T) (by simp [Lib.byteCells]))
theorem op_conv1 {o : Oper} {ev : Operand → Value} {x : Operand} (ho : o.op = .convert 26 9 x) (w : World) (T : TypeId) (z0 : Int) (a : UInt8) (h0 : z0 = (a.toNat : Int)) (hx : ev x = .slice (some ⟨w.heap.size, 0, none⟩) 1 1) :
    (execOp ev o).run Tryd.prog (w.alloc (.cells #[.int .u8 z0] T)) = .ok (.value (.string ⟨#[a]⟩)) (w.alloc (.cells #[.int .u8 z0] T)) := by
  subst h0
  unfold execOp
  simp [ho, hx, conv1 w T a _ rfl]
theorem be4_next (v k : Nat) (hk : k < 4) : UInt8.ofNat (v / 256 ^ k % 256) :: (be4 v).drop (4 - k) = (be4 v).drop (4 - (k + 1)) := by
  match k, hk with
  | 0, _ => simp [be4]
  | 1, _ => simp [be4]
  | 2, _ => simp [be4]
  | 3, _ => simp [be4]
set_option maxRecDepth 100000 in
set_option maxHeartbeats 1000000 in
theorem refFour_any (w : World) (v : Nat) (hv : v < 4294967296) :
    Calls Tryd.prog 26 #[.int .u32 (v : Int)] w (RetB (.string ⟨(be4 v).toArray⟩) w.heap.size w) := by
  have H0 := hid (Sat.start w)
  have HV := hid hv
  clear hv
  go_enter Tryd.func26, Tryd.ntmps26
  go_wp2_with fail
  go_loopw [0, 3, 4] (fun x acc i wr => ∃ (k V : Nat) (A : ByteArray), k ≤ 4 ∧ i = .int .i64 (k : Int) ∧ x = .int .u32 (V : Int) ∧ acc = .string A ∧ V = v / 256 ^ k ∧ A.data.toList = (be4 v).drop (4 - k) ∧ Sat w (wpart w) [] wr) (fun _ _ i _ => 4 - (intOf i).toNat)
  case atStart => exact ⟨0, v, ⟨#[]⟩, by omega, rfl, rfl, rfl, by simp, by simp [be4], H0.out⟩
  case round =>
    obtain ⟨k, V, A, hk, rfl, rfl, rfl, hV, hA, S1⟩ := hrel
    have H1 := hid S1
    clear S1 H0
    by_cases hlt : k < 4
    · have hk1 : (k : Int) < 4 := by omega
      have hk0 : (0 : Int) ≤ (k : Int) := by omega
      have hVl : V < 4294967296 := by rw [hV]; exact Nat.lt_of_le_of_lt (Nat.div_le_self _ _) HV.out
      have hAs : A.size = k := by
        have h := congrArg List.length hA
        rw [List.length_drop, be4_len] at h
        have h2 : A.data.toList.length = A.size := by simp
        omega
      have hn := be4_next v k hlt
      rw [← hV, ← hA] at hn
      have hV2 : V / 256 = v / 256 ^ (k + 1) := by rw [hV, Nat.div_div_eq_div_mul, Nat.pow_succ]
      obtain ⟨V2, hV3⟩ : ∃ V2, V / 256 = V2 := ⟨_, rfl⟩
      have e1 : (V : Int) / 256 = (V2 : Int) := by omega
      rw [hV3] at hV2
      have VL := hid (show V2 < 4294967296 by omega)
      have l1 : ¬ 9223372036854775807 < (⟨#[UInt8.ofNat (V % 256)]⟩ : ByteArray).size + A.size := by
        have : (⟨#[UInt8.ofNat (V % 256)]⟩ : ByteArray).size = 1 := rfl
        omega
      have HN := hid hn
      have HV2 := hid hV2
      clear hV hA hn hV2 hAs hV3
      go_wp2_with (refine wpList_val (o := ⟨some 13, _, _, _, _, _⟩) rfl (.string ⟨#[UInt8.ofNat (V % 256)]⟩) ?hrun ?_)
      case hrun =>
        refine op_conv1 rfl wr _ _ _ ?h0 rfl
        case h0 => rw [mod_toNat _ (by omega)]; (simp <;> omega)
      go_wp2_with fail
      go_roundw
      case rel => exact ⟨k + 1, V2, _, by omega, by go_num, (by first | rfl | (have := VL.out; congr 1; omega)), rfl, HV2.out, by rw [← HN.out]; simp, H1.out.alloc_ _⟩
      case measure => (simp [intOf] <;> omega)
    · obtain rfl : k = 4 := by omega
      have hAe : A = ⟨(be4 v).toArray⟩ := by
        have : A.data.toList = be4 v := by simpa using hA
        rw [← this]
      subst hAe
      clear hA hV
      go_wp2_with fail
      go_ret
      exact ⟨rfl, H1.out.toBelow (Part.le_refl _)⟩
def numL (n : Nat) (l : List UInt8) : Nat := l.foldl (fun n c => 256 * n + c.toNat) n
theorem numL_val (l : List UInt8) (h : l.length = 4) : numL 0 l = valS l := by
  match l, h with
  | [a, b, c, d], _ => simp [numL, valS, val4]; omega
set_option maxRecDepth 100000 in
set_option maxHeartbeats 1000000 in
theorem refNumber_eq (w : World) (s : ByteArray) (hs : s.size = 4) {V : Nat} (hV : valS s.data.toList = V) :
    Calls Tryd.prog 25 #[.string s] w fun e w' => e = .returned (.int .i64 (V : Int)) ∧ w' = w := by
  have HV := hid (show numL 0 s.data.toList = V by rw [numL_val _ (by simpa using hs)]; exact hV)
  have HS := hid hs
  have hs1 : (s.size : Int) = 4 := by omega
  clear hV
  go_enter Tryd.func25, Tryd.ntmps25
  go_wp2_with fail
  go_loop [3, 4] (fun n i => ∃ (k N : Nat), k ≤ 4 ∧ i = .int .i64 (k : Int) ∧ n = .int .i64 (N : Int) ∧ N < 256 ^ k ∧ numL N (s.data.toList.drop k) = V) (fun _ i => 4 - (intOf i).toNat)
  case atStart => exact ⟨0, 0, by omega, rfl, rfl, by omega, HV.out⟩
  case round =>
    obtain ⟨k, N, hk, rfl, rfl, hN, hq⟩ := hrel
    by_cases hlt : k < 4
    · have hks : k < s.size := by have := HS.out; omega
      have hdl : s.data.toList.drop k = s[k] :: s.data.toList.drop (k + 1) := by
        have h : k < s.data.toList.length := by simpa using hks
        rw [List.drop_eq_getElem_cons h]; rfl
      rw [hdl] at hq
      have hq2 : numL (256 * N + s[k].toNat) (s.data.toList.drop (k + 1)) = V := hq
      have hc := u8_lt s[k]
      have hk1 : (k : Int) < 4 := by omega
      have hk0 : (0 : Int) ≤ (k : Int) := by omega
      have hN3 : N < 16777216 := Nat.lt_of_lt_of_le hN (Nat.pow_le_pow_right (n := 256) (by omega) (show k ≤ 3 by omega))
      have hN4 : 256 * N + s[k].toNat < 256 ^ (k + 1) := by rw [Nat.pow_succ]; omega
      have HQ := hid hq2
      have HN4 := hid hN4
      clear hq hq2 hdl hN hN4
      go_wp2_with fail
      go_round
      case rel => exact ⟨k + 1, 256 * N + s[k].toNat, by omega, by go_num, by go_num, HN4.out, HQ.out⟩
      case measure => (simp [intOf] <;> omega)
    · obtain rfl : k = 4 := by omega
      have hN2 : N = V := by
        rw [List.drop_eq_nil_of_le (by have := HS.out; simp; omega)] at hq
        exact hq
      subst hN2
      clear hq hN
      go_wp2_with fail
      go_ret
      exact ⟨rfl, rfl⟩
set_option maxRecDepth 100000 in
set_option maxHeartbeats 1000000 in
theorem refFrame_any (w : World) (s : ByteArray) (hs : s.size ≤ 1048576) {C : List UInt8} (hC : frameL s.data.toList = C) :
    Calls Tryd.prog 21 #[.string s] w (RetB (.string ⟨C.toArray⟩) w.heap.size w) := by
  have H0 := hid (Sat.start w)
  have HC := hid hC
  have hsI : (s.size : Int) ≤ 1048576 := by omega
  clear hC
  go_enter Tryd.func21, Tryd.ntmps21
  go_wp2_with fail
  refine (retB_sat (refFour_any w s.size (by omega)) H0.out).mono ?_; rintro e w2 ⟨rfl, S2⟩
  have H2 := hid S2
  clear S2 H0
  obtain ⟨z, hz⟩ : ∃ z : ByteArray, (⟨(be4 s.size).toArray⟩ : ByteArray) = z := ⟨_, rfl⟩
  rw [hz]
  have hzs : z.size = 4 := by rw [← hz]; rfl
  have HZ := hid hz
  have HZS := hid hzs
  have l1 : ¬ 9223372036854775807 < z.size + s.size := by omega
  clear hz hzs
  go_wp2_with fail
  obtain ⟨R, hR⟩ : ∃ R, crc (z ++ s).data.toList = R := ⟨_, rfl⟩
  refine (retB_sat (refSum_any w2 (z ++ s) (by have := HZS.out; simp; omega) hR) H2.out).mono ?_; rintro e w3 ⟨rfl, S3⟩
  have H3 := hid S3
  clear S3 H2
  have hRl : R < 4294967296 := by rw [← hR]; exact crc_lt _
  have HR := hid hR
  clear hR
  go_wp2_with fail
  refine (retB_sat (refFour_any w3 R hRl) H3.out).mono ?_; rintro e w4 ⟨rfl, S4⟩
  have H4 := hid S4
  clear S4 H3
  obtain ⟨y, hy⟩ : ∃ y : ByteArray, (⟨(be4 R).toArray⟩ : ByteArray) = y := ⟨_, rfl⟩
  rw [hy]
  have hys : y.size = 4 := by rw [← hy]; rfl
  have HY := hid hy
  have l2 : ¬ 9223372036854775807 < z.size + y.size := by have := HZS.out; omega
  have l3 : ¬ 9223372036854775807 < z.size + y.size + s.size := by have := HZS.out; omega
  clear hy hys
  go_wp2_with fail
  go_ret
  refine ⟨?_, H4.out.toBelow (Part.le_refl _)⟩
  have e : z ++ y ++ s = ⟨C.toArray⟩ := by
    have hl : s.data.toList.length = s.size := by simp
    have hzl : z.data.toList = be4 s.size := by rw [← HZ.out]
    have hyl : y.data.toList = be4 R := by rw [← HY.out]
    have hr : R = crc (be4 s.size ++ s.data.toList) := by
      rw [← HR.out, ← hzl]; simp
    have h : (z ++ y ++ s).data.toList = C := by
      rw [← HC.out]; unfold frameL
      rw [hl, ← hr, ← hzl, ← hyl]; simp
    rw [← h]
  show Ending.returned (.string (z ++ y ++ s)) = _
  rw [e]
end Go.Proofs.YtgnoojphbnfjbaaDoor
