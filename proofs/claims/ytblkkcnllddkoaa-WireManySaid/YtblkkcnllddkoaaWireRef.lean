/- Contracts of the document's spellings, and of Cut. -/
import Derived.Test.YtblkkcnllddkoaaWirePl
import Derived.WalkLawsBesides
namespace Go.Proofs.Ytblkkcnllddkoaa
open Go.RowKit
set_option linter.unusedVariables false

theorem baApp (a b : List UInt8) : (⟨a.toArray⟩ : ByteArray) ++ ⟨b.toArray⟩ = ⟨(a ++ b).toArray⟩ := by
  apply ByteArray.ext
  simp
theorem baAll (s : ByteArray) (n : Nat) (h : s.size ≤ n) : s.extract 0 n = s := by
  apply ByteArray.ext
  rw [ByteArray.data_extract]
  apply Array.toList_inj.1
  rw [Array.toList_extract]
  have h' : s.data.toList.length ≤ n := by rw [Array.length_toList]; exact h
  simp [List.extract, List.take_of_length_le h']
theorem baEta (s : ByteArray) : (⟨s.data.toList.toArray⟩ : ByteArray) = s := rfl
theorem conv1 (w : World) (T : TypeId) (b : UInt8) (g : Nat) (hg : g = w.heap.size) : (convert 23 9 (.slice (some ⟨g, 0, none⟩) 1 1)).run Try.prog (w.alloc (.cells #[.int .u8 (b.toNat : Int)] T)) = .ok (.string ⟨#[b]⟩) (w.alloc (.cells #[.int .u8 (b.toNat : Int)] T)) := by
  subst hg
  exact run_convert_bytes_back _ _ _ 5 _ 1 [b] Try.underlying23 Try.underlying5 Try.underlying9 (Lib.bytes_of_row (Blk.new w [.int .u8 (b.toNat : Int)] T) (by simp [Lib.byteCells]))

theorem op_conv1 {o : Oper} {ev : Operand → Value} {x : Operand} (ho : o.op = .convert 23 9 x) (w : World) (T : TypeId) (z : Int) (b : UInt8) (hz : z = (b.toNat : Int)) (hx : ev x = .slice (some ⟨w.heap.size, 0, none⟩) 1 1) :
    (execOp ev o).run Try.prog (w.alloc (.cells #[.int .u8 z] T)) = .ok (.value (.string ⟨#[b]⟩)) (w.alloc (.cells #[.int .u8 z] T)) := by
  subst hz
  unfold execOp
  simp [ho, hx, conv1 w T b _ rfl]
theorem mod_toNat (x : Nat) (h : x < 256) : ((UInt8.ofNat x).toNat : Int) = (x : Int) := by
  rw [UInt8.toNat_ofNat']; have : x % 2 ^ 8 = x := Nat.mod_eq_of_lt (by omega)
  rw [this]
set_option maxRecDepth 100000 in
set_option maxHeartbeats 4000000 in
theorem refU_any (w : World) (v : Nat) (hv : v < 18446744073709551616) :
    Calls Try.prog 16 #[.int .u64 (v : Int)] w (RetB (.string ⟨(encU v).toArray⟩) w.heap.size w) := by
  have HE := hid (encU_eq v hv)
  go_enter Try.func16, Try.ntmps16
  go_wp2_with (refine wpList_val (o := ⟨some 9, _, _, _, _, _⟩) rfl (.string ⟨#[UInt8.ofNat (v % 128)]⟩) ?hrun ?_)
  case hrun => exact op_conv1 rfl w _ _ _ (by rw [mod_toNat _ (by omega)]; omega) rfl
  go_wp2_with fail
  go_loopw [0, 3, 4] (fun v' s i wr => ∃ (k x : Nat) (l : List UInt8), k ≤ 9 ∧ i = .int .i64 k ∧ v' = .int .u64 (x : Int) ∧ x * 128 ^ k < 144115188075855872 ∧ s = .string ⟨l.toArray⟩ ∧ hiR x ++ l = encU v ∧ l.length ≤ 1 + k ∧ Below w.heap.size w wr) (fun _ _ i _ => 9 - (intOf i).toNat)
  case atStart => exact ⟨0, v / 128, [UInt8.ofNat (v % 128)], by omega, rfl, by congr 1, by omega, rfl, HE.out.symm, by simp, by (repeat' (first | (with_reducible assumption) | (with_reducible exact Below.refl _ _) | (with_reducible refine below_drewN ?_ _) | (with_reducible refine Below.drew ?_) | ((with_reducible refine below_alloc' ?_ ?_ _); rotate_left; (first | exact Nat.le_refl _ | assumption | omega)) | ((with_reducible refine Below.alloc ?_ ?_ _); rotate_left; (first | omega | (simp <;> omega))) | ((with_reducible refine Below.setCell ?_ ?_ _); rotate_left; (first | omega | (simp <;> omega)))))⟩
  case round =>
    obtain ⟨k, x, l, hk, rfl, rfl, hx, rfl, hl, hll, Lr⟩ := hrel
    have HL := hid hl
    clear hl
    have HX := hid hx
    clear hx
    by_cases hx0 : x = 0
    · subst hx0
      by_cases hk9 : k < 9
      all_goals
        go_wp2_with fail
        go_ret
        refine ⟨?_, Lr⟩
        have := HL.out
        rw [hiR_zero, List.nil_append] at this
        show Ending.returned (Value.string ⟨l.toArray⟩) = _
        rw [this]
    · have hk9 : k < 9 := by
        by_cases h9 : k = 9
        · subst h9; have := HX.out; omega
        · omega
      have hxp : (0 : Int) < (x : Int) := by omega
      have hx63 : x < 144115188075855872 := by
        have h1 : x * 1 ≤ x * 128 ^ k := Nat.mul_le_mul_left _ (Nat.pow_pos (by omega))
        have := HX.out
        omega
      have hh := hiR_pos x hx0
      have hzb : (128 + (x : Int) % 128) = ((UInt8.ofNat (x % 128 + 128)).toNat : Int) := by rw [mod_toNat _ (by omega)]; omega
      generalize UInt8.ofNat (x % 128 + 128) = c at *
      have HH := hid hh
      have HC := hid hzb
      clear hh hzb
      go_wp2_with (refine wpList_val (o := ⟨some 25, _, _, _, _, _⟩) rfl (.string ⟨#[c]⟩) ?hrun ?_)
      case hrun => exact op_conv1 rfl wr _ _ _ HC.out rfl
      go_wp2_with fail
      go_roundw
      case rel =>
        refine ⟨k + 1, x / 128, c :: l, by omega, by go_num, by congr 1, ?_, ?_, ?_, by simp; omega, by (repeat' (first | (with_reducible assumption) | (with_reducible exact Below.refl _ _) | (with_reducible refine below_drewN ?_ _) | (with_reducible refine Below.drew ?_) | ((with_reducible refine below_alloc' ?_ ?_ _); rotate_left; (first | exact Nat.le_refl _ | assumption | omega)) | ((with_reducible refine Below.alloc ?_ ?_ _); rotate_left; (first | omega | (simp <;> omega))) | ((with_reducible refine Below.setCell ?_ ?_ _); rotate_left; (first | omega | (simp <;> omega)))))⟩
        · have h1 : x / 128 * 128 ^ (k + 1) ≤ x * 128 ^ k := by
            rw [Nat.pow_succ, Nat.mul_comm (128 ^ k) 128, ← Nat.mul_assoc]
            exact Nat.mul_le_mul_right _ (Nat.div_mul_le_self _ _)
          have := HX.out
          omega
        · exact congrArg Value.string (baApp [c] l)
        · rw [← HL.out, HH.out]; simp
      case measure => (simp [intOf] <;> omega)
theorem cut_any (w : World) (s : ByteArray) (n : Nat) (hn : n ≤ 100000) (hs : s.size ≤ 9223372036854775807) :
    Calls Try.prog 12 #[.string s, .int .i64 (n : Int)] w (Ret (.string (s.extract 0 n)) w) := by
  by_cases h : n < s.size
  · have h' : (n : Int) < (s.size : Int) := by omega
    go_enter Try.func12, Try.ntmps12
    go_wp2_with fail
    go_ret
    exact ⟨rfl, 0, rfl⟩
  · have h' : ¬ (n : Int) < (s.size : Int) := by omega
    go_enter Try.func12, Try.ntmps12
    go_wp2_with fail
    go_ret
    refine ⟨?_, 0, rfl⟩
    rw [baAll s n (by omega)]; rfl
theorem refB_any (w : World) (b : Bool) : Calls Try.prog 29 #[.bool b] w (Ret (.string ⟨#[bB b]⟩) w) := by
  cases b
  all_goals
    go_enter Try.func29, Try.ntmps29
    go_wp2_with fail
    go_ret
    exact ⟨rfl, 0, rfl⟩
theorem refI_any (w : World) (z : Int) (hz : z ≤ 9223372036854775807) : Calls Try.prog 28 #[.int .i64 z] w (RetB (.string ⟨(encU (max z 0).toNat).toArray⟩) w.heap.size w) := by
  obtain ⟨m, hm⟩ : ∃ m, (max z 0).toNat = m := ⟨_, rfl⟩
  rw [hm]
  have HM := hid hm
  have hm1 : m ≤ 9223372036854775807 := by omega
  clear hm
  go_enter Try.func28, Try.ntmps28
  go_wp2_with (refine wpList_val (o := ⟨some 4, _, _, _, _, _⟩) rfl (.int .i64 (m : Int)) ?hrun ?_)
  case hrun =>
    have := HM.out
    by_cases hh : z ≤ 0
    · have e1 : m = 0 := by omega
      subst e1; simp [go_sem]; omega
    · have e1 : (m : Int) = z := by omega
      rw [e1]; simp [go_sem]; omega
  go_wp2_with fail
  refine (refU_any _ m (by omega)).mono ?_; rintro r w1 ⟨rfl, L1⟩
  go_wp2_with fail
  go_ret
  exact ⟨rfl, L1⟩
theorem refS_any (w : World) (s : ByteArray) (hs : s.size ≤ 100000) : Calls Try.prog 17 #[.string s] w (RetB (.string ⟨(encS s).toArray⟩) w.heap.size w) := by
  have hl := encU_len s.size (by omega)
  go_enter Try.func17, Try.ntmps17
  go_wp2_with fail
  refine (refI_any _ _ (by omega)).mono ?_; rintro r w1 ⟨rfl, L1⟩
  have e1 : (max (s.size : Int) 0).toNat = s.size := by omega
  rw [e1]
  clear e1
  go_wp2_with fail
  go_ret
  refine ⟨?_, L1⟩
  exact congrArg (fun x => Ending.returned (Value.string x)) (baApp (encU s.size) s.data.toList)
set_option maxRecDepth 100000 in
set_option maxHeartbeats 4000000 in
theorem refList_any {w0 w : World} {I : Part} {L : List HP} (la : Option Addr) (cap : Nat) (zs : List Int) (h : Sat w0 I L w) (hz : Rd I la (zs.map (Value.int .i64))) (hwf : ∀ z ∈ zs, z ≤ 9223372036854775807) (hlen : zs.length ≤ 100000) :
    Calls Try.prog 30 #[.slice la zs.length cap] w
      fun r w' => r = .returned (.string ⟨(encU zs.length ++ zs.flatMap fun z => encU (max z 0).toNat).toArray⟩) ∧ Sat w0 I L w' := by
  have H := hid h
  have HZ := hid hz
  have HW := hid hwf
  clear h hz hwf
  have hl0 := encU_len zs.length (by omega)
  go_enter Try.func30, Try.ntmps30
  go_wp2_with fail
  refine (refI_any _ _ (by omega)).mono ?_; rintro r w1 ⟨rfl, L1⟩
  have e1 : (max (zs.length : Int) 0).toNat = zs.length := by omega
  rw [e1]
  clear e1
  have H1 := hid (H.out.below L1)
  go_wp2_with fail
  go_loopw [3, 5, 11] (fun s _ i wr => ∃ (k : Nat) (l : List UInt8), k ≤ zs.length ∧ i = .int .i64 k ∧ s = .string ⟨l.toArray⟩ ∧ l = encU zs.length ++ (zs.take k).flatMap (fun z => encU (max z 0).toNat) ∧ l.length ≤ 10 + 10 * k ∧ Sat w0 I L wr) (fun _ _ i _ => zs.length - (intOf i).toNat)
  case atStart => exact ⟨0, encU zs.length, by omega, rfl, rfl, by simp, by omega, H1.out⟩
  case round =>
    obtain ⟨k, l, hk, rfl, rfl, hl, hll, Sr⟩ := hrel
    have HL := hid hl
    have HS := hid Sr
    clear hl Sr
    by_cases hlt : k < zs.length
    · obtain ⟨b, off, rfl, c0⟩ := HZ.out.get HS.out k (u := .int .i64 zs[k]) (by simp [hlt])
      have hkl : (k : Int) < (zs.length : Int) := by omega
      have hk0 : (0 : Int) ≤ (k : Int) := by omega
      have hv1 := HW.out zs[k] (List.getElem_mem _)
      have htk : zs.take (k + 1) = zs.take k ++ [zs[k]] := by rw [List.take_succ_eq_append_getElem hlt]
      generalize zs[k] = z at *
      have HT := hid htk
      clear htk
      have hl2 := encU_len (max z 0).toNat (by omega)
      go_wp2_with fail
      refine (refI_any _ z hv1).mono ?_; rintro r w2 ⟨rfl, L2⟩
      have H2 := hid (HS.out.below L2)
      generalize hen : encU (max z 0).toNat = en at *
      have HEN := hid hen
      clear hen
      go_wp2_with fail
      go_roundw
      case rel =>
        refine ⟨k + 1, l ++ en, by omega, by go_num, ?_, ?_, by simp; omega, H2.out⟩
        · exact congrArg Value.string (baApp l en)
        · rw [HT.out, List.flatMap_append, ← List.append_assoc, ← HL.out]; simp [HEN.out]
      case measure => (simp [intOf] <;> omega)
    · obtain rfl : k = zs.length := by omega
      go_wp2_with fail
      go_ret
      refine ⟨?_, HS.out⟩
      have := HL.out
      rw [List.take_length] at this
      rw [← this]; rfl
end Go.Proofs.Ytblkkcnllddkoaa
