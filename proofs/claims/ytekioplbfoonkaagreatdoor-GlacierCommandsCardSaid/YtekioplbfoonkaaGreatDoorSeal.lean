/- Contracts of package seal. -/
import Derived.Test.YtekioplbfoonkaaGreatDoorCrc
import Derived.Test.YtekioplbfoonkaaGreatDoorMg1
import Derived.Laws.BitsAllLaws
import Derived.BigQuiet
namespace Go.Proofs.YtekioplbfoonkaaGreatDoor
open Go.RowKit
set_option linter.unusedVariables false
set_option maxRecDepth 100000
/-- the table of steps, as it lies. -/
def tabV : List Value := tabL.map fun n : Nat => Value.int .u32 (n : Int)
theorem tab_get {w0 w : World} {I : Part} {L : List HP} (hT : Rd I (some ⟨0, 0, none⟩) tabV) (H : Sat w0 I L w) (i : Nat) (hi : i < 16) : w.cell? ⟨0, i, none⟩ = some (.int .u32 (tabF i : Int)) := by
  obtain ⟨b, off, e, hc⟩ := hT.get H i (u := .int .u32 (tabF i : Int)) (by
    have : ∀ j : Fin 16, tabV[j.val]? = some (.int .u32 ((tabF j.val : Nat) : Int)) := fun j => by
      have hl : j.val < tabL.length := j.isLt
      simp [tabV, List.getElem?_map, List.getElem?_eq_getElem hl, tabF, List.getD_eq_getElem?_getD]
    exact this ⟨i, hi⟩)
  cases e
  simpa using hc
theorem not32 (R : Nat) (h : R < 4294967296) : bits .xor .u32 IntKind.u32.max (R : Int) = ((4294967295 - R : Nat) : Int) := by
  have e : (IntKind.u32.max : Int) = ((4294967295 : Nat) : Int) := rfl
  rw [e, u32_xor_nat 4294967295 R (by omega) h]
  congr 1
  have h1 : (BitVec.allOnes 32 ^^^ BitVec.ofNat 32 R).toNat = 4294967295 ^^^ R := by
    rw [BitVec.toNat_xor, BitVec.toNat_ofNat, Nat.mod_eq_of_lt (by omega)]; rfl
  have h2 : (BitVec.allOnes 32 ^^^ BitVec.ofNat 32 R).toNat = 4294967295 - R := by
    rw [BitVec.allOnes_xor, BitVec.toNat_not, BitVec.toNat_ofNat, Nat.mod_eq_of_lt (by omega)]
  rw [← h1, h2]
section
variable {w0 w : World} {I : Part} {L : List HP}
set_option maxRecDepth 100000 in
set_option maxHeartbeats 2000000 in
theorem sum_any (hT : Rd I (some ⟨0, 0, none⟩) tabV) (la : Option Addr) (n cap : Nat) (ss : List ByteArray) (hn : ss.length = n) (hr : Rd I la (ss.map Value.string)) (hcap : n ≤ cap) (hcm : cap ≤ 9223372036854775807) (hsz : ∀ s ∈ ss, s.size ≤ 9223372036854775806) (H : Sat w0 I L w) :
    Calls Tryz.prog 36 #[.slice la n cap] w fun e w' => e = .returned (.int .u32 (crcS ss : Int)) ∧ w' = w := by
  have HT := hid (fun i hi => tab_get hT H i hi)
  have HR := hid (fun i (h : i < ss.length) => hr.get H i (u := .string ss[i]) (by simp [h]))
  have HSZ := hid hsz
  have HN := hid hn
  clear hT hr hsz hn H
  go_enter Tryz.func36, Tryz.ntmps36
  go_wp2_with fail
  go_loop [3, 5, 6, 9] (fun r _ _ i => ∃ (k R : Nat), k ≤ n ∧ i = .int .i64 (k : Int) ∧ r = .int .u32 (R : Int) ∧ R < 4294967296 ∧ crcRS R (ss.drop k) = crcRS 4294967295 ss) (fun _ _ _ i => n - (intOf i).toNat)
  case atStart => exact ⟨0, 4294967295, Nat.zero_le _, rfl, rfl, by omega, rfl⟩
  case round =>
    obtain ⟨k, R, hk, rfl, rfl, hR, he⟩ := hrel
    by_cases hlt : k < n
    · have hkl : k < ss.length := by have := HN.out; omega
      obtain ⟨b, off, rfl, c0⟩ := HR.out k hkl
      have hs := HSZ.out ss[k] (List.getElem_mem hkl)
      rw [List.drop_eq_getElem_cons hkl] at he
      have he2 : crcRS (crcR R ss[k].data.toList) (ss.drop (k + 1)) = crcRS 4294967295 ss := he
      have hk1 : (k : Int) < (n : Int) := by omega
      have hk0 : (0 : Int) ≤ (k : Int) := by omega
      generalize ss[k] = s at *
      have HE := hid he2
      have HRB := hid hR
      clear he he2 hR
      go_wp2_with fail
      go_loop [3, 6] (fun r j => ∃ (m Q : Nat), m ≤ s.size ∧ j = .int .i64 (m : Int) ∧ r = .int .u32 (Q : Int) ∧ Q < 4294967296 ∧ crcR Q (s.data.toList.drop m) = crcR R s.data.toList) (fun _ j => s.size - (intOf j).toNat)
      case atStart => exact ⟨0, R, Nat.zero_le _, rfl, rfl, HRB.out, rfl⟩
      case round =>
        obtain ⟨m, Q, hm, rfl, rfl, hQ, hq⟩ := hrel
        by_cases hml : m < s.size
        · have hdl : s.data.toList.drop m = s[m] :: s.data.toList.drop (m + 1) := by
            have h : m < s.data.toList.length := by simpa using hml
            rw [List.drop_eq_getElem_cons h]; rfl
          rw [hdl] at hq
          have hq2 : crcR (cstep Q s[m]) (s.data.toList.drop (m + 1)) = crcR R s.data.toList := hq
          have hc := u8_lt s[m]
          have hm1 : (m : Int) < (s.size : Int) := by omega
          have hm0 : (0 : Int) ≤ (m : Int) := by omega
          unfold cstep at hq2
          have x1 : bits .xor .u32 (Q : Int) ((s[m].toNat : Nat) : Int) = ((Q ^^^ s[m].toNat : Nat) : Int) := u32_xor_nat Q s[m].toNat hQ (by omega)
          have hA : Q ^^^ s[m].toNat < 4294967296 := xor_lt hQ (by omega)
          obtain ⟨A, hAe⟩ : ∃ A, Q ^^^ s[m].toNat = A := ⟨_, rfl⟩
          rw [hAe] at x1 hA hq2
          obtain ⟨i1, hi1⟩ : ∃ i, A % 16 = i := ⟨_, rfl⟩
          have x2 : bits .and .u32 (A : Int) 15 = (i1 : Int) := by
            have := u32_and_nat A 15 hA (by omega)
            rw [nat_mask4, hi1] at this; exact this
          have hi1b : i1 < 16 := by omega
          have ct1 := HT.out i1 hi1b
          have x3 : bits .xor .u32 ((A : Int) / 16) ((tabF i1 : Nat) : Int) = ((nib A : Nat) : Int) := by
            have := u32_xor_nat (A / 16) (tabF i1) (by omega) (tabF_lt _)
            rw [show ((A / 16 : Nat) : Int) = (A : Int) / 16 by omega] at this
            rw [this]; unfold nib; rw [hi1]
          have hB : nib A < 4294967296 := nib_lt hA
          obtain ⟨B, hBe⟩ : ∃ B, nib A = B := ⟨_, rfl⟩
          rw [hBe] at x3 hB hq2
          obtain ⟨i2, hi2⟩ : ∃ i, B % 16 = i := ⟨_, rfl⟩
          have x4 : bits .and .u32 (B : Int) 15 = (i2 : Int) := by
            have := u32_and_nat B 15 hB (by omega)
            rw [nat_mask4, hi2] at this; exact this
          have hi2b : i2 < 16 := by omega
          have ct2 := HT.out i2 hi2b
          have x5 : bits .xor .u32 ((B : Int) / 16) ((tabF i2 : Nat) : Int) = ((nib B : Nat) : Int) := by
            have := u32_xor_nat (B / 16) (tabF i2) (by omega) (tabF_lt _)
            rw [show ((B / 16 : Nat) : Int) = (B : Int) / 16 by omega] at this
            rw [this]; unfold nib; rw [hi2]
          have hC : nib B < 4294967296 := nib_lt hB
          obtain ⟨C, hCe⟩ : ∃ C, nib B = C := ⟨_, rfl⟩
          rw [hCe] at x5 hC hq2
          have q1 : (0 : Int) ≤ (i1 : Int) := by omega
          have q2 : (i1 : Int) < 16 := by omega
          have q3 : (0 : Int) ≤ (i2 : Int) := by omega
          have q4 : (i2 : Int) < 16 := by omega
          clear hBe hCe hi1 hi2
          have HQ2 := hid hq2
          have HC := hid hC
          clear hdl hq hq2 hA hB hC hAe
          go_wp2_with fail
          go_round
          case rel => exact ⟨m + 1, C, by omega, by go_num, rfl, HC.out, HQ2.out⟩
          case measure => (simp [intOf] <;> omega)
        · obtain rfl : m = s.size := by omega
          have hq2 : Q = crcR R s.data.toList := by
            rw [List.drop_eq_nil_of_le (by simp)] at hq
            exact hq
          have HE2 := HE.out
          rw [← hq2] at HE2
          have HE3 := hid HE2
          have HQ := hid hQ
          clear hq hq2 HE2 hQ
          go_wp2_with fail
          go_round
          case rel => exact ⟨k + 1, Q, by omega, by go_num, rfl, HQ.out, HE3.out⟩
          case measure => (simp [intOf] <;> omega)
    · obtain rfl : n = k := by omega
      have hR2 : R = crcRS 4294967295 ss := by
        rw [List.drop_eq_nil_of_le (by have := HN.out; omega)] at he
        exact he
      have hx : (crcS ss : Nat) = 4294967295 - R := by unfold crcS; rw [hR2]
      have HX := hid hx
      have hsg : IntKind.u32.signed = false := rfl
      have hxm := not32 R hR
      clear he hR2 hx
      go_wp2_with fail
      go_ret
      refine ⟨ret_int ?_, rfl⟩
      rw [HX.out]
end
end Go.Proofs.YtekioplbfoonkaaGreatDoor
