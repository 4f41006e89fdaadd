/- ReelPlays: what stays true of a volume behind any calls: plain. -/
import Derived.Test.YtecdnlmagaoccaaReelSt
namespace Go.Proofs.Ytecdnlmagaoccaa
set_option linter.unusedVariables false
/-- few blocks, of few bytes; marks have none. -/
structure RP (n : Nat) (v : Vst) : Prop where
  ok : v.ok
  len : v.bl.length ≤ n
  small : ∀ b ∈ v.bl, b.s.size ≤ 60
  marks : ∀ b ∈ v.bl, b.mark = true → b.s = ⟨#[]⟩
  er : v.erased ≤ n
section
variable {n : Nat} {v V : Vst} {E : Int}
theorem RP.try_ (h : RP n v) : RP n (tryV v) := ⟨tryV_ok h.ok, h.len, h.small, h.marks, h.er⟩
theorem RP.up (h : RP n v) : RP (n + 1) v := ⟨h.ok, by have := h.len; omega, h.small, h.marks, by have := h.er; omega⟩
theorem RP.at2 (h : RP n v) {a : Nat} (ha : a ≤ v.bl.length) : RP n {tryV v with at_ := a} :=
  ⟨⟨h.try_.ok.room0, h.try_.ok.room, h.try_.ok.used, h.try_.ok.armed0, h.try_.ok.armed, h.try_.ok.sure, ha, h.try_.ok.len, h.try_.ok.erased0, h.try_.ok.erased⟩, h.len, h.small, h.marks, h.er⟩
theorem RP.add (h : RP n v) (hn : n ≤ 1000) {b : Bk} (hb : b.s.size ≤ 60) (hm : b.mark = true → b.s = ⟨#[]⟩) (hA : addS v b = (E, V)) : RP (n + 1) V := by
  have hl := h.len
  unfold addS at hA
  split at hA
  · split at hA
    · cases hA; exact h.try_.up
    · split at hA
      · split at hA
        · cases hA; exact h.try_.up
        · split at hA
          · rename_i hf
            cases hA
            have k := h.try_.ok
            refine ⟨⟨k.room0, k.room, ?_, k.armed0, k.armed, ?_, ?_, ?_, k.erased0, k.erased⟩, ?_, fun x hx => ?_, fun x hx => ?_, by have := h.er; show v.erased ≤ _; omega⟩
            · show ((wsum (v.bl ++ [b]) : Nat) : Int) ≤ v.room
              rw [wsum_app]; simp only [wsum]; omega
            · show v.sure ≤ (v.bl ++ [b]).length
              have := h.ok.sure; simp; omega
            · show v.bl.length + 1 ≤ (v.bl ++ [b]).length
              simp
            · show (v.bl ++ [b]).length ≤ 1048576
              simp; omega
            · show (v.bl ++ [b]).length ≤ n + 1
              simp; omega
            · rcases List.mem_append.1 hx with hx | hx
              · exact h.small x hx
              · simp at hx; subst hx; exact hb
            · rcases List.mem_append.1 hx with hx | hx
              · exact h.marks x hx
              · simp at hx; subst hx; exact hm
          · cases hA; exact h.try_.up
      · cases hA; exact h.try_.up
  · cases hA; exact h.try_.up
theorem RP.flush (h : RP n v) : RP (n + 1) (flushV v) := by
  unfold flushV
  split
  · have k := h.try_.ok
    exact RP.up ⟨⟨k.room0, k.room, k.used, k.armed0, k.armed, Nat.le_refl _, k.at_, k.len, k.erased0, k.erased⟩, h.len, h.small, h.marks, h.er⟩
  · exact h.try_.up
theorem RP.read (h : RP n v) {s : ByteArray} {m : Bool} (hA : readS v = ((s, m, E), V)) : RP (n + 1) V := by
  unfold readS at hA
  split at hA
  · split at hA
    · rename_i hlt
      split at hA
      · cases hA; exact h.try_.up
      · cases hA; exact (h.at2 (by omega)).up
    · cases hA; exact h.try_.up
  · cases hA; exact h.try_.up
theorem RP.seek (h : RP n v) (k : Int) (hA : seekS v k = (E, V)) : RP (n + 1) V := by
  unfold seekS at hA
  split at hA
  · split at hA
    · cases hA; exact h.try_.up
    · split at hA
      · cases hA; exact h.try_.up
      · cases hA; exact (h.at2 (by omega)).up
  · cases hA; exact h.try_.up
theorem RP.skip (h : RP n v) (hA : skipS v = (E, V)) : RP (n + 1) V := by
  unfold skipS at hA
  split at hA
  · split at hA
    · rename_i j hj
      cases hA
      have := findMark_lt _ _ _ hj
      exact (h.at2 (by omega)).up
    · cases hA; exact h.try_.up
  · cases hA; exact h.try_.up
theorem RP.cut (h : RP n v) (k : Nat) (hk : k ≤ v.bl.length) : RP n (cutV v k) :=
  ⟨cutV_ok h.ok k hk, by show (v.bl.take k).length ≤ n; rw [List.length_take]; have := h.len; omega, fun b hb => h.small b (List.mem_of_mem_take hb), fun b hb => h.marks b (List.mem_of_mem_take hb), h.er⟩
theorem RP.trim (h : RP n v) (hA : trimS v = (E, V)) : RP (n + 1) V := by
  unfold trimS at hA
  split at hA
  · split at hA
    · split at hA
      · cases hA; exact h.try_.up
      · cases hA; exact (h.try_.cut (v.bl.length - 1) (Nat.sub_le _ _)).up
    · cases hA; exact h.try_.up
  · cases hA; exact h.try_.up
theorem RP.erase (h : RP n v) (hn : n ≤ 1000) (l : ByteArray) (hA : eraseS v l = (E, V)) : RP (n + 1) V := by
  have := h.er
  unfold eraseS at hA
  split at hA
  · split at hA
    · cases hA; exact h.try_.up
    · cases hA
      have k := h.try_.cut 0 (Nat.zero_le _)
      exact ⟨⟨k.ok.room0, k.ok.room, k.ok.used, k.ok.armed0, k.ok.armed, k.ok.sure, k.ok.at_, k.ok.len, by show 0 ≤ v.erased + 1; have := h.ok.erased0; omega, by show v.erased + 1 ≤ _; omega⟩, by have := k.len; show (v.bl.take 0).length ≤ n + 1; simp, k.small, k.marks, by show v.erased + 1 ≤ ((n + 1 : Nat) : Int); omega⟩
  · cases hA; exact h.try_.up
theorem RP.crash (h : RP n v) (zs : List Int) : RP (n + 1) (crashV v zs) := by
  have h1 := crashN_le h.ok zs
  have h2 := crashB_len v zs
  have hl := h.len
  have hB : ∀ b ∈ crashB v zs, b.s.size ≤ 60 ∧ b.mark = false := by
    intro b hb
    unfold crashB at hb
    split at hb
    · rename_i hlt
      split at hb
      · cases hb
      · simp at hb; subst hb
        refine ⟨?_, rfl⟩
        have := h.small _ (List.getElem_mem hlt)
        show (ByteArray.extract _ _ _).size ≤ 60
        rw [ByteArray.size_extract]; omega
    · cases hb
  refine ⟨crashV_ok h.ok zs, ?_, fun b hb => ?_, fun b hb hm => ?_, by have := h.er; show v.erased ≤ _; omega⟩
  · show (v.bl.take (crashN v zs) ++ crashB v zs).length ≤ n + 1
    rw [List.length_append, List.length_take]; omega
  · rcases List.mem_append.1 (show b ∈ v.bl.take (crashN v zs) ++ crashB v zs from hb) with hb | hb
    · exact h.small b (List.mem_of_mem_take hb)
    · exact (hB b hb).1
  · rcases List.mem_append.1 (show b ∈ v.bl.take (crashN v zs) ++ crashB v zs from hb) with hb | hb
    · exact h.marks b (List.mem_of_mem_take hb) hm
    · rw [(hB b hb).2] at hm; cases hm
theorem failA_bd (z : Int) : 0 ≤ failA z ∧ failA z ≤ 1073741825 ∧ failA z - 1 = min (max z (-1)) 1073741824 := by
  unfold failA; split <;> omega
theorem RP.fail (h : RP n v) (z : Int) : RP (n + 1) {v with armed := failA z} := by
  have := failA_bd z
  have k := h.ok
  exact RP.up ⟨⟨k.room0, k.room, k.used, by show 0 ≤ failA z; omega, by show failA z ≤ 1073741825; omega, k.sure, k.at_, k.len, k.erased0, k.erased⟩, h.len, h.small, h.marks, h.er⟩
theorem RP.protect (h : RP n v) (b : Bool) : RP (n + 1) {v with prot := b} := by
  have k := h.ok
  exact RP.up ⟨⟨k.room0, k.room, k.used, k.armed0, k.armed, k.sure, k.at_, k.len, k.erased0, k.erased⟩, h.len, h.small, h.marks, h.er⟩
theorem RP.set (h : RP n v) {k : Nat} (hk : k < v.bl.length) {b : Bk} (hw : bwt b = bwt v.bl[k]) (hm : b.mark = true → b.s = ⟨#[]⟩) (hs : wsum (v.bl.set k b) = wsum v.bl) : RP (n + 1) {v with bl := v.bl.set k b} := by
  have o := h.ok
  have hsm := h.small _ (List.getElem_mem hk)
  have hmem : ∀ x, x ∈ v.bl.set k b → x = b ∨ x ∈ v.bl := fun x hx => (List.mem_or_eq_of_mem_set hx).symm
  have hll : (v.bl.set k b).length = v.bl.length := List.length_set
  refine RP.up ⟨⟨o.room0, o.room, ?_, o.armed0, o.armed, ?_, ?_, ?_, o.erased0, o.erased⟩, ?_, fun x hx => ?_, fun x hx => ?_, h.er⟩
  · show ((wsum (v.bl.set k b) : Nat) : Int) ≤ v.room
    rw [hs]; exact o.used
  · show v.sure ≤ (v.bl.set k b).length; rw [hll]; exact o.sure
  · show v.at_ ≤ (v.bl.set k b).length; rw [hll]; exact o.at_
  · show (v.bl.set k b).length ≤ _; rw [hll]; exact o.len
  · show (v.bl.set k b).length ≤ _; rw [hll]; exact h.len
  · rcases hmem x hx with rfl | hx
    · unfold bwt at hw; omega
    · exact h.small x hx
  · rcases hmem x hx with rfl | hx
    · exact hm
    · exact h.marks x hx
end
end Go.Proofs.Ytecdnlmagaoccaa
