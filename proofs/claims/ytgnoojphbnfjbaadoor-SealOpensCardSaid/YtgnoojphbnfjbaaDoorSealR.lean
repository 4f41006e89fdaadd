/- Contracts of the reference of layer 2: Sum, bit by bit. -/
import Derived.Test.YtgnoojphbnfjbaaDoorSealP
import Derived.Test.YtgnoojphbnfjbaaDoorCrcL
import Derived.Test.YtgnoojphbnfjbaaDoorBytes
namespace Go.Proofs.YtgnoojphbnfjbaaDoor
open Go.RowKit
set_option linter.unusedVariables false
theorem stps_end (C B : Nat) (hB : B < 1) : stps 0 (C ^^^ B) = C := by
  have : B = 0 := by omega
  subst this; simp [stps]
theorem stps_step (j C B : Nat) : stps (j + 1) (C ^^^ B) = stps j ((C / 2 ^^^ pol ((C % 2 + B % 2) % 2)) ^^^ B / 2) := by
  show stps j (stp (C ^^^ B)) = _
  unfold stp
  rw [xor_div2, xor_mod2]
  congr 1
  rw [Nat.xor_assoc, Nat.xor_assoc, Nat.xor_comm (B / 2)]
set_option maxRecDepth 100000 in
set_option maxHeartbeats 2000000 in
theorem refSum_any (w : World) (s : ByteArray) (hs : s.size ≤ 2000000) {R : Nat} (hR : crc s.data.toList = R) :
    Calls Tryd.prog 20 #[.string s] w (RetB (.int .u32 (R : Int)) w.heap.size w) := by
  have H0 := hid (Sat.start w)
  have HR := hid hR
  have kc := fun (w : World) => run_bytes_of_string (P := Tryd.prog) w 9 26 5 s Tryd.underlying9 Tryd.underlying26 Tryd.underlying5
  clear hR
  go_enter Tryd.func20, Tryd.ntmps20
  go_wp2_with fail
  clear kc
  have H6 := H0.out.bytesNew s (grownCap w s.size 0 5) rfl
  generalize grownCap w s.size 0 5 = cp at *
  generalize hg : w.heap.size = g at H6
  refine wp_gen (fun w1 => Sat w (wpart w) [bytesB g s.data.toList] w1) H6 ?_
  clear H6 H0
  intro w6 S6
  have H6 := hid S6
  have HC := hid (fun i (hi : i < s.data.toList.length) => S6.bytesCell i hi)
  have HG := hid hg
  clear S6 hg
  have HN := hid (show s.data.toList.length = s.size by simp)
  go_wp2_with fail
  go_loop [3, 5, 6, 7, 11] (fun c _ _ _ i => ∃ (k C : Nat), k ≤ s.size ∧ i = .int .i64 (k : Int) ∧ c = .int .u32 (C : Int) ∧ C < 4294967296 ∧ crcR C (s.data.toList.drop k) = crcR 4294967295 s.data.toList) (fun _ _ _ _ i => s.size - (intOf i).toNat)
  case atStart => exact ⟨0, 4294967295, Nat.zero_le _, rfl, rfl, by omega, rfl⟩
  case round =>
    obtain ⟨k, C, hk, rfl, rfl, hC, he⟩ := hrel
    by_cases hlt : k < s.size
    · have hkl : k < s.data.toList.length := by have := HN.out; omega
      have c0 := HC.out k hkl
      rw [List.drop_eq_getElem_cons hkl] at he
      have he2 : crcR (byt (C ^^^ s.data.toList[k].toNat)) (s.data.toList.drop (k + 1)) = crcR 4294967295 s.data.toList := he
      have hb := u8_lt s.data.toList[k]
      have hk1 : (k : Int) < (s.size : Int) := by omega
      have hk0 : (0 : Int) ≤ (k : Int) := by omega
      generalize s.data.toList[k].toNat = b at *
      have HE := hid he2
      have HCC := hid hC
      have HB := hid hb
      clear he he2 hC hb
      go_wp2_with fail
      go_loop [3, 5, 6, 7] (fun c b' j _ => ∃ (m Q D : Nat), m ≤ 8 ∧ j = .int .i64 (m : Int) ∧ c = .int .u32 (Q : Int) ∧ b' = .int .u8 (D : Int) ∧ Q < 4294967296 ∧ D < 2 ^ (8 - m) ∧ stps (8 - m) (Q ^^^ D) = byt (C ^^^ b)) (fun _ _ j _ => 8 - (intOf j).toNat)
      case atStart => exact ⟨0, C, b, by omega, rfl, rfl, rfl, HCC.out, HB.out, stps8 _⟩
      case round =>
        obtain ⟨m, Q, D, hm, rfl, rfl, rfl, hQ, hD, hq⟩ := hrel
        by_cases hml : m < 8
        · obtain ⟨j, hj⟩ : ∃ j, 8 - m = j + 1 := ⟨7 - m, by omega⟩
          rw [hj] at hD hq
          rw [stps_step] at hq
          have hD8 : D < 256 := Nat.lt_of_lt_of_le hD (Nat.pow_le_pow_right (n := 2) (by omega) (show j + 1 ≤ 8 by omega))
          have hD2 : D / 2 < 2 ^ j := by rw [Nat.pow_succ] at hD; omega
          have hj2 : 8 - (m + 1) = j := by omega
          rw [← hj2] at hD2 hq
          clear hD hj hj2
          obtain ⟨x, hx⟩ : ∃ x, Q % 2 = x := ⟨_, rfl⟩
          obtain ⟨y, hy⟩ : ∃ y, D % 2 = y := ⟨_, rfl⟩
          obtain ⟨Q2, hQ2⟩ : ∃ x, Q / 2 = x := ⟨_, rfl⟩
          obtain ⟨D2, hD3⟩ : ∃ x, D / 2 = x := ⟨_, rfl⟩
          have hx2 : x < 2 := by omega
          have hy2 : y < 2 := by omega
          have hQ3 : Q2 < 4294967296 := by omega
          rw [hx, hy, hQ2] at hq
          rw [hD3] at hq hD2
          have e1 : (Q : Int) % 2 = (x : Int) := by omega
          have e2 : (D : Int) % 2 = (y : Int) := by omega
          have e3 : (Q : Int) / 2 = (Q2 : Int) := by omega
          have e4 : (D : Int) / 2 = (D2 : Int) := by omega
          have hm1 : (m : Int) < 8 := by omega
          have hm0 : (0 : Int) ≤ (m : Int) := by omega
          have HD2 := hid hD2
          have HD8 := hid (show D2 < 256 by omega)
          have xq : bits .xor .u32 (Q2 : Int) 3988292384 = ((Q2 ^^^ 3988292384 : Nat) : Int) := u32_xor_nat Q2 3988292384 hQ3 (by omega)
          clear hx hy hQ2 hD3 hD2 hD8 hQ
          have hxy : ((x : Int) + (y : Int)) % 2 = (((x + y) % 2 : Nat) : Int) := by omega
          obtain ⟨z, hz⟩ : ∃ z, (x + y) % 2 = z := ⟨_, rfl⟩
          rw [hz] at hq hxy
          have hz2 : z < 2 := by omega
          clear hz
          by_cases hz1 : z = 1
          · subst hz1
            have hq2 : stps (8 - (m + 1)) ((Q2 ^^^ 3988292384) ^^^ D2) = byt (C ^^^ b) := hq
            have HQQ := hid hq2
            have HQ3 := hid hQ3
            clear hq hq2
            go_wp2_with fail
            go_round
            case rel => exact ⟨m + 1, Q2 ^^^ 3988292384, D2, by omega, by go_num, rfl, (by have := HD8.out; congr 1; omega), xor_lt HQ3.out (by omega), HD2.out, HQQ.out⟩
            case measure => (simp [intOf] <;> omega)
          · have hz0 : z = 0 := by omega
            subst hz0
            have hq2 : stps (8 - (m + 1)) (Q2 ^^^ D2) = byt (C ^^^ b) := by
              have : Q2 ^^^ pol 0 = Q2 := by simp [pol]
              rw [this] at hq; exact hq
            have HQQ := hid hq2
            have HQ3 := hid hQ3
            clear hq hq2
            go_wp2_with fail
            go_round
            case rel => exact ⟨m + 1, Q2, D2, by omega, by go_num, rfl, (by have := HD8.out; congr 1; omega), HQ3.out, HD2.out, HQQ.out⟩
            case measure => (simp [intOf] <;> omega)
        · obtain rfl : m = 8 := by omega
          have hq2 : Q = byt (C ^^^ b) := by
            rw [← stps_end Q D (by simpa using hD)]; exact hq
          have HE2 := HE.out
          rw [← hq2] at HE2
          have HE3 := hid HE2
          have HQ := hid hQ
          clear hq hq2 HE2 hQ hD
          go_wp2_with fail
          go_round
          case rel => exact ⟨k + 1, Q, by omega, by go_num, rfl, HQ.out, HE3.out⟩
          case measure => (simp [intOf] <;> omega)
    · obtain rfl : s.size = k := by omega
      have hR2 : R = 4294967295 - C := by
        rw [List.drop_eq_nil_of_le (by have := HN.out; omega)] at he
        have h1 : C = crcR 4294967295 s.data.toList := he
        have h2 := HR.out
        unfold crc at h2
        rw [← h1] at h2; exact h2.symm
      have hR3 : (4294967295 : Int) - (C : Int) = (R : Int) := by omega
      have HX := hid hR2
      have HRR := hid (show 0 ≤ (R : Int) ∧ (R : Int) < 4294967296 by omega)
      clear he hR2
      go_wp2_with fail
      go_ret
      exact ⟨rfl, H6.out.toBelow (Part.le_refl _)⟩
end Go.Proofs.YtgnoojphbnfjbaaDoor
