/- Contracts of the document's queue: Find, Without, least, Choose, Next: over lists that stay. -/
import Derived.Test.YtecdcainkemicaaQueuePl
import Derived.Test.YtecdcainkemicaaSat
import Derived.Deep.RegionHeld3
namespace Go.Proofs.Ytecdcainkemicaa
open Go.RowKit
set_option linter.unusedVariables false

theorem slRef : SliceT Try.prog 42 47 5 40 := ⟨Try.underlying42, ⟨_, _, rfl, rfl, rfl, rfl, rfl⟩, by decide⟩
theorem Sat.emptyRow {w0 w : World} {I : Part} {L : List HP} {b : Nat} {T : TypeId} (h : Sat w0 I (blk b T [] :: L) w) (sz : Nat) : Sat w0 I (row T sz (.slice (some ⟨b, 0, none⟩) 0 0) 0 [] :: L) w :=
  h.weaken fun g hg => ⟨by simp, Or.inr ⟨b, 0, #[], rfl, hg, Nat.le_refl _, Nat.zero_le _, by simp, by simp⟩⟩
section
variable {w0 w : World} {I : Part} {L : List HP}
theorem rd5 {la : Option Addr} {l : List Wt} (h : Rd I la (l.flatMap wc)) (H : Sat w0 I L w) (i : Nat) (hi : i < l.length) : ∃ b off, la = some ⟨b, off, none⟩ ∧
    w.cell? ⟨b, off + i * 5, none⟩ = some (.int .i64 l[i].id) ∧ w.cell? ⟨b, off + i * 5 + 1, none⟩ = some (.int .u64 l[i].blob) ∧ w.cell? ⟨b, off + i * 5 + 2, none⟩ = some (.int .i64 l[i].vol) ∧ w.cell? ⟨b, off + i * 5 + 3, none⟩ = some (.int .i64 l[i].at_) ∧ w.cell? ⟨b, off + i * 5 + 4, none⟩ = some (.int .i64 l[i].passed) := by
  have g : ∀ j v, j < 5 → (wc l[i])[j]? = some v → ∃ b off, la = some ⟨b, off, none⟩ ∧ w.cell? ⟨b, off + (i * 5 + j), none⟩ = some v := fun j v hj hv =>
    h.get H (i * 5 + j) (by rw [flat_get wc wc_len l i j hi hj]; exact hv)
  obtain ⟨b, off, e0, c0⟩ := g 0 _ (by omega) rfl
  obtain ⟨b1, off1, e1, c1⟩ := g 1 _ (by omega) rfl
  obtain ⟨b2, off2, e2, c2⟩ := g 2 _ (by omega) rfl
  obtain ⟨b3, off3, e3, c3⟩ := g 3 _ (by omega) rfl
  obtain ⟨b4, off4, e4, c4⟩ := g 4 _ (by omega) rfl
  rw [e0] at e1 e2 e3 e4
  cases e1; cases e2; cases e3; cases e4
  exact ⟨b, off, e0, c0, by rw [Nat.add_assoc]; exact c1, by rw [Nat.add_assoc]; exact c2, by rw [Nat.add_assoc]; exact c3, by rw [Nat.add_assoc]; exact c4⟩

set_option maxRecDepth 100000 in
set_option maxHeartbeats 2000000 in
theorem refFind_sat (la : Option Addr) (cap : Nat) (l : List Wt) (id : Int) (h : Sat w0 I L w) (hr : Rd I la (l.flatMap wc)) (hl : l.length ≤ 1048576) :
    Calls Try.prog 13 #[.slice la l.length cap, .int .i64 id] w fun e w' => e = .returned (.int .i64 (findF id l 0)) ∧ Sat w0 I L w' := by
  have H := hid h
  have HR := hid hr
  clear h hr
  go_enter Try.func13, Try.ntmps13
  go_wp2_with fail
  go_loopw [5, 6, 9] (fun _ _ i wr => ∃ k : Nat, k ≤ l.length ∧ i = .int .i64 k ∧ findF id (l.drop k) k = findF id l 0 ∧ Sat w0 I L wr) (fun _ _ i _ => l.length - (intOf i).toNat)
  case atStart => exact ⟨0, Nat.zero_le _, rfl, rfl, H.out⟩
  case round =>
    obtain ⟨k, hk, rfl, he, Sr⟩ := hrel
    have HE := hid he
    have HS := hid Sr
    clear he Sr
    by_cases hlt : k < l.length
    · obtain ⟨b, off, rfl, c0, c1, c2, c3, c4⟩ := rd5 HR.out HS.out k hlt
      have hd : l.drop k = l[k] :: l.drop (k+1) := List.drop_eq_getElem_cons hlt
      generalize l[k] = x at *
      have HD := hid hd
      clear hd
      have hk1 : (k : Int) < (l.length : Int) := by omega
      have hk0 : (0 : Int) ≤ (k : Int) := by omega
      by_cases hx : x.id = id
      · have hxb : (x.id == id) = true := by simp [hx]
        have HX := hid hx
        clear hx
        go_wp2_with fail
        go_ret
        refine ⟨ret_int ?_, HS.out.alloc_ _⟩
        have := HE.out
        rw [HD.out, findF, if_pos HX.out] at this
        exact this
      · have hxb : (x.id == id) = false := by simp [hx]
        have HX := hid hx
        clear hx
        go_wp2_with fail
        go_roundw
        case rel => exact ⟨k + 1, by omega, by go_num, by have := HE.out; rw [HD.out, findF, if_neg HX.out] at this; exact this, HS.out.alloc_ _⟩
        case measure => (simp [intOf] <;> omega)
    · obtain rfl : k = l.length := by omega
      go_wp2_with fail
      go_ret
      refine ⟨ret_int ?_, HS.out⟩
      have := HE.out
      rw [List.drop_length, findF] at this
      exact this

set_option maxRecDepth 100000 in
set_option maxHeartbeats 2000000 in
theorem refWithout_sat (la : Option Addr) (cap : Nat) (l : List Wt) (n : Nat) (h : Sat w0 I L w) (hr : Rd I la (l.flatMap wc)) (hl : l.length ≤ 1048576) :
    Calls Try.prog 14 #[.slice la l.length cap, .int .i64 (n : Int)] w fun e w' => ∃ J a c, e = .returned (.slice a (l.eraseIdx n).length c) ∧ (l.eraseIdx n).length ≤ c ∧ c ≤ 9223372036854775807 ∧ I.le J ∧ Rd J a ((l.eraseIdx n).flatMap wc) ∧ Sat w0 J L w' := by
  have H := hid h
  have HR := hid hr
  clear h hr
  go_enter Try.func14, Try.ntmps14
  go_wp2_with fail
  obtain ⟨g, hg⟩ : ∃ g, w.heap.size = g := ⟨_, rfl⟩
  have S1 : Sat w0 I (blk g 47 [] :: L) _ := H.out.alloc rfl hg.symm
  have HS1 := hid (S1.emptyRow 5)
  rw [hg]
  clear S1 hg
  go_loopw [5, 6, 7, 11] (fun v _ _ i wr => ∃ (k : Nat) (r : List Wt), k ≤ l.length ∧ i = .int .i64 k ∧ r.length ≤ k ∧ r = (l.take k).eraseIdx n ∧ Sat w0 I (row 47 5 v r.length (r.flatMap wc) :: L) wr) (fun _ _ _ i _ => l.length - (intOf i).toNat)
  case atStart => exact ⟨0, [], Nat.zero_le _, rfl, by simp, by simp, HS1.out⟩
  case round =>
    clear HS1
    obtain ⟨k, r, hk, rfl, hrk, hr, Sr⟩ := hrel
    have HE := hid hr
    have HS := hid Sr
    clear hr Sr
    by_cases hlt : k < l.length
    · obtain ⟨b, off, rfl, c0, c1, c2, c3, c4⟩ := rd5 HR.out HS.out k hlt
      have htk : l.take (k + 1) = l.take k ++ [l[k]] := by rw [List.take_succ_eq_append_getElem hlt]
      have hlk : (l.take k).length = k := by rw [List.length_take]; omega
      generalize l[k] = x at *
      have HT := hid htk
      have HLK := hid hlk
      clear htk hlk
      have hk1 : (k : Int) < (l.length : Int) := by omega
      have hk0 : (0 : Int) ≤ (k : Int) := by omega
      by_cases hx : k = n
      · subst hx
        go_wp2_with fail
        go_roundw
        case rel =>
          refine ⟨k + 1, r, by omega, by go_num, by omega, ?_, HS.out.alloc_ _⟩
          rw [HE.out, HT.out, List.eraseIdx_of_length_le (by rw [HLK.out]; exact Nat.le_refl _), List.eraseIdx_append_of_length_le (by rw [HLK.out]; exact Nat.le_refl _), HLK.out, Nat.sub_self]
          simp
        case measure => (simp [intOf] <;> omega)
      · have hxb : ((k : Int) != (n : Int)) = true := by rw [bne_iff_ne]; omega
        have HX := hid hx
        clear hx
        go_wp2_with (at_builtin; refine wpList_appS slRef rfl _ _ rfl (HS.out.alloc_ _) (wc x) rfl rfl ?hgs rfl ?h1 ?hb ?hn ?_)
        case hgs => simp
        case h1 => exact wc_one1 x
        case hb => omega
        case hn => omega
        intro ad cp w7 hc1 hc2 S7
        have HS7 := hid S7
        clear S7 HS
        go_wp2_with fail
        go_roundw
        case rel =>
          refine ⟨k + 1, r ++ [x], by omega, by go_num, by simp; omega, ?_, ?_⟩
          · rw [HT.out]
            by_cases hkn : n < k
            · rw [List.eraseIdx_append_of_lt_length (by rw [HLK.out]; exact hkn), HE.out]
            · rw [List.eraseIdx_of_length_le (by rw [List.length_append, HLK.out]; have := HX.out; simp; omega), HE.out, List.eraseIdx_of_length_le (by rw [HLK.out]; omega)]
          · have := HS7.out
            rw [List.flatMap_append, List.length_append]
            simpa using this
        case measure => (simp [intOf] <;> omega)
    · obtain rfl : k = l.length := by omega
      go_wp2_with fail
      go_ret
      have e1 := HE.out
      rw [List.take_length] at e1
      obtain ⟨J, a, c, hJ, S8, hv, hc1, hc2, _, hrd⟩ := HS.out.freezeRow
      subst e1
      unfold maxLen at hc2
      exact ⟨J, a, c, by rw [← hv]; rfl, hc1, hc2, hJ, hrd, S8⟩
end
end Go.Proofs.Ytecdcainkemicaa
