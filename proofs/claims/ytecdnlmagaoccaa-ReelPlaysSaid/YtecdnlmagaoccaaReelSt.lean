/- Volumes: what is left behind a crash and a Trim: plain laws. -/
import Derived.Test.YtecdnlmagaoccaaReelBl
import Derived.Test.YtecdnlmagaoccaaReelMk
namespace Go.Proofs.Ytecdnlmagaoccaa
set_option linter.unusedVariables false
theorem crashB_len (v : Vst) (zs : List Int) : (crashB v zs).length ≤ 1 ∧ crashN v zs + (crashB v zs).length ≤ max (crashN v zs) v.bl.length := by
  unfold crashB
  split
  · split <;> simp <;> omega
  · simp; omega
theorem crashB_wt (v : Vst) (zs : List Int) : wsum (v.bl.take (crashN v zs)) + wsum (crashB v zs) ≤ wsum v.bl := by
  have h1 := wsum_split v.bl (crashN v zs)
  unfold crashB
  split
  · rename_i h
    have hj := (crashJ_le v zs h).1
    have hdr : v.bl.drop (crashN v zs) = v.bl[crashN v zs] :: v.bl.drop (crashN v zs + 1) := List.drop_eq_getElem_cons h
    rw [hdr] at h1
    simp only [wsum, bwt] at h1
    split
    · simp only [wsum]; omega
    · have hs : (v.bl[crashN v zs].s.extract 0 (crashJ v zs)).size ≤ crashJ v zs := by rw [ByteArray.size_extract]; omega
      simp only [wsum, bwt]; omega
  · simp only [wsum]; omega
theorem crashV_ok {v : Vst} (hv : v.ok) (zs : List Int) : (crashV v zs).ok := by
  have h1 := crashN_le hv zs
  have h2 := crashB_len v zs
  have h3 := crashB_wt v zs
  have hl : (v.bl.take (crashN v zs)).length = crashN v zs := by rw [List.length_take]; omega
  have := hv.used; have := hv.len
  refine ⟨hv.room0, hv.room, ?_, hv.armed0, hv.armed, ?_, ?_, ?_, hv.erased0, hv.erased⟩
  · show ((wsum (v.bl.take (crashN v zs) ++ crashB v zs) : Nat) : Int) ≤ v.room
    rw [wsum_app]; omega
  · show crashN v zs + (crashB v zs).length ≤ (v.bl.take (crashN v zs) ++ crashB v zs).length
    rw [List.length_append, hl]; omega
  · show 0 ≤ _; omega
  · show (v.bl.take (crashN v zs) ++ crashB v zs).length ≤ 1048576
    rw [List.length_append, hl]; omega
/-- plain blocks. -/
def bks (A : List ByteArray) : List Bk := A.map fun s => ⟨s, false, false⟩
theorem bks_len (A : List ByteArray) : (bks A).length = A.length := by simp [bks]
theorem bks_app (A B : List ByteArray) : bks (A ++ B) = bks A ++ bks B := by simp [bks]
theorem bks_take (A : List ByteArray) (k : Nat) : (bks A).take k = bks (A.take k) := by simp [bks, List.map_take]
theorem bks_torn (A : List ByteArray) : tornL (bks A) = false := by
  unfold tornL bks
  cases h : (A.map fun s => (⟨s, false, false⟩ : Bk)).getLast? with
  | none => rfl
  | some b =>
    have := List.mem_of_getLast? h
    obtain ⟨s, _, rfl⟩ := List.mem_map.1 this
    rfl
theorem gotB_bks (A : List ByteArray) (X : List Bk) : gotB (bks A ++ X) = A ++ gotB X := by
  induction A with
  | nil => rfl
  | cons s A ih =>
    have : bks (s :: A) ++ X = ⟨s, false, false⟩ :: (bks A ++ X) := rfl
    rw [this, gotB, if_neg (by simp), ih]
    rfl
theorem bks_wsum (A : List ByteArray) (h : ∀ s ∈ A, s.size ≤ 30) : wsum (bks A) ≤ 34 * A.length := by
  induction A with
  | nil => simp [bks, wsum]
  | cons s A ih =>
    have h1 := ih (fun x hx => h x (by simp [hx]))
    have h2 := h s (by simp)
    show (s.size + 4) + wsum (bks A) ≤ _
    rw [List.length_cons]; omega
/-- a crash and a Trim. -/
theorem pv_torn {room : Int} {A : List ByteArray} {n a : Nat} (zs : List Int) (hv : (pv room (bks A) n a).ok) :
    ∃ (k : Nat) (E : Int), n ≤ k ∧ k ≤ A.length ∧ (k : Int) = n + pickM zs 0 ((A.length : Int) - n + 1) ∧ (E = 0 ∨ E = 5) ∧ trimS (crashV (pv room (bks A) n a) zs) = (E, pv room (bks (A.take k)) k 0) := by
  have h1 := crashN_le hv zs
  have hp := pickM_bd zs 0 ((A.length : Int) - n + 1)
  have hN : (crashN (pv room (bks A) n a) zs : Int) = n + pickM zs 0 ((A.length : Int) - n + 1) := by
    have : crashN (pv room (bks A) n a) zs = n + (pickM zs 0 (((bks A).length : Int) - n + 1)).toNat := rfl
    rw [bks_len] at this
    omega
  have hs := hv.sure
  simp only [pv, bks_len] at hs
  have hkl : crashN (pv room (bks A) n a) zs ≤ A.length := by have := h1.2; simpa [pv, bks_len] using this
  have hkn : n ≤ crashN (pv room (bks A) n a) zs := h1.1
  have hB : crashB (pv room (bks A) n a) zs = [] ∨ ∃ t, crashB (pv room (bks A) n a) zs = [⟨t, false, true⟩] := by
    unfold crashB
    split
    · split
      · exact Or.inl rfl
      · exact Or.inr ⟨_, rfl⟩
    · exact Or.inl rfl
  unfold crashV
  generalize crashN (pv room (bks A) n a) zs = k at *
  have hbk : (bks A).take k = bks (A.take k) := bks_take A k
  have hlk : (A.take k).length = k := by rw [List.length_take]; omega
  rcases hB with hB | ⟨t, hB⟩
  · refine ⟨k, 5, hkn, hkl, hN, Or.inr rfl, ?_⟩
    rw [hB]
    have ht : tornL (bks (A.take k)) = false := bks_torn _
    simp [trimS, pv, tryV, tryE, tryA, hbk, ht]
  · refine ⟨k, 0, hkn, hkl, hN, Or.inl rfl, ?_⟩
    rw [hB]
    have ht : tornL (bks (A.take k) ++ [⟨t, false, true⟩]) = true := tornL_app _ _
    have hl2 : (bks (A.take k) ++ [(⟨t, false, true⟩ : Bk)]).length - 1 = k := by rw [List.length_append, bks_len, hlk]; simp
    have htk : (bks (A.take k) ++ [(⟨t, false, true⟩ : Bk)]).take k = bks (A.take k) := by
      rw [List.take_append, bks_len, hlk, Nat.sub_self, List.take_zero, List.append_nil, List.take_of_length_le (by rw [bks_len, hlk]; omega)]
    simp only [trimS, pv, tryV, tryE, tryA, hbk, ht, cutV, hl2, htk]
    simp
theorem pick_small (z : Int) (r : List Int) (m : Nat) (h0 : 0 ≤ z) (h1 : z ≤ (m : Int)) : pickM (z :: r) 0 ((m : Int) + 1) = z := by
  unfold pickM
  rw [if_neg (by simp; omega)]
  have : z.tmod ((m : Int) + 1) = z := by rw [Int.tmod_eq_emod_of_nonneg h0]; exact Int.emod_eq_of_lt h0 (by omega)
  simp [this]
  omega
end Go.Proofs.Ytecdnlmagaoccaa
