/- Contracts of Queue.List and Queue.Next, in parts of the memory. -/
import Derived.Test.YtecdcainkemicaaQSat
namespace Go.Proofs.Ytecdcainkemicaa
open Go.RowKit
set_option linter.unusedVariables false

def rc (x : Wt) : List Value := [.int .i64 x.id, .int .u64 x.blob, .int .i64 x.vol, .int .i64 x.at_]
theorem rc_len (x : Wt) : (rc x).length = 4 := rfl
theorem slReq : SliceT Try.prog 22 25 4 32 := ⟨Try.underlying22, ⟨_, _, rfl, rfl, rfl, rfl, rfl⟩, by decide⟩
theorem infoReq : (Try.prog.info? 25).map (fun i => (i.zero, i.size, i.bytes)) = some (some (.agg #[.int .i64 0, .int .u64 0, .int .i64 0, .int .i64 0]), 4, 32) := by kernel_rfl
/-- a row that was just made. -/
theorem Sat.made {w0 w w' : World} {I : Part} {L : List HP} {base : Nat} {e : TypeId} {sz n m : Nat} {b : Nat} {xs : List Value} (h : Sat w0 I L w) (ho : w'.ownsRow base e sz (.slice (some ⟨b, 0, none⟩) n m) n xs) (hg : w.grownBy w' none) (hb : b = w.heap.size) : Sat w0 I (row e sz (.slice (some ⟨b, 0, none⟩) n m) n xs :: L) w' := by
  subst hb
  exact (h.nilRow e sz).grown ho hg (fun k hk => by simp only [Value.ownBlock, Option.some.injEq] at hk; right; omega)
section
variable {w0 w : World} {I : Part} {L : List HP} {q : Nat} {l : List Wt}
theorem qnext_some (x0 : Wt) (r : List Wt) (vol at_ : Int) (i : Nat) (x : Wt) (h : Sat w0 I (que q (x0 :: r) :: L) w) (hi : chooseF x0 (x0 :: r) vol at_ = i) (hx : (x0 :: r)[i]? = some x)
    (hp : ∀ y ∈ x0 :: r, 0 ≤ y.passed ∧ y.passed ≤ 4611686018427387903) :
    Calls Try.prog 11 #[.pointer (some ⟨q, 0, none⟩), .int .i64 vol, .int .i64 at_] w
      fun e w' => e = .returned (.tuple #[.agg #[.int .i64 x.id, .int .u64 x.blob, .int .i64 x.vol, .int .i64 x.at_], .bool true]) ∧ Sat w0 I (que q ((bump i (x0 :: r)).eraseIdx i) :: L) w' := by
  obtain ⟨sv, Q, K⟩ := h.isQue
  refine (next_some w q sv x0 r vol at_ i x Q hi hx hp).mono ?_; rintro r w' ⟨rfl, sv', Q', M, V⟩
  exact ⟨rfl, K _ _ _ Q' M V⟩
theorem Sat.queOpen (h : Sat w0 I (que q l :: L) w) : l.length ≤ 1048576 ∧ ∃ sv, (∀ k, sv.ownBlock = some k → q < k) ∧ Sat w0 I (row 56 5 sv l.length (l.flatMap wc) :: blk q 30 [sv] :: L) w := by
  obtain ⟨g, ⟨hl, sv, hlt, hs⟩, _, k⟩ := h.elim
  exact ⟨hl, sv, hlt, ((k (sepL [_, _]) hs).flat : Sat w0 I (blk q 30 [sv] :: row 56 5 sv l.length (l.flatMap wc) :: L) w).swap⟩
theorem Sat.queShut {sv : Value} (h : Sat w0 I (row 56 5 sv l.length (l.flatMap wc) :: blk q 30 [sv] :: L) w) (hl : l.length ≤ 1048576) (hlt : ∀ k, sv.ownBlock = some k → q < k) : Sat w0 I (que q l :: L) w :=
  Sat.of (M := [_, _]) h.swap fun g s => ⟨hl, sv, hlt, s⟩
theorem row5 {e : TypeId} {sv : Value} (h : Sat w0 I (row e 5 sv l.length (l.flatMap wc) :: L) w) (i : Nat) (hi : i < l.length) : ∃ g cap, sv = .slice (some ⟨g, 0, none⟩) l.length cap ∧
    w.cell? ⟨g, i * 5, none⟩ = some (.int .i64 l[i].id) ∧ w.cell? ⟨g, i * 5 + 1, none⟩ = some (.int .u64 l[i].blob) ∧ w.cell? ⟨g, i * 5 + 2, none⟩ = some (.int .i64 l[i].vol) ∧ w.cell? ⟨g, i * 5 + 3, none⟩ = some (.int .i64 l[i].at_) ∧ w.cell? ⟨g, i * 5 + 4, none⟩ = some (.int .i64 l[i].passed) := by
  obtain ⟨g, cap, cur, rfl, _, _⟩ := own_open h.isRow (by omega)
  have c := fun j (hj : j < 5) => own_cell h.isRow (i * 5 + j) (u := (wc l[i])[j]'(by rw [wc_len]; exact hj)) (by rw [flat_get wc wc_len l i j hi hj, List.getElem?_eq_getElem])
  exact ⟨g, cap, rfl, c 0 (by omega), c 1 (by omega), c 2 (by omega), c 3 (by omega), c 4 (by omega)⟩
set_option maxRecDepth 100000 in
set_option maxHeartbeats 4000000 in
theorem qlist_sat (h : Sat w0 I (que q l :: L) w) :
    Calls Try.prog 16 #[.pointer (some ⟨q, 0, none⟩)] w
      fun e w' => ∃ J a c, e = .returned (.slice a l.length c) ∧ l.length ≤ c ∧ c ≤ 9223372036854775807 ∧ I.le J ∧ Rd J a (l.flatMap rc) ∧ Sat w0 J (que q l :: L) w' := by
  obtain ⟨hsm, sv, hlt, h⟩ := h.queOpen
  obtain ⟨a, cap, hsv, hcap1, hcap2⟩ := own_shape h.isRow
  subst hsv
  have c0 := h.swap.isBlk.cell 0 rfl
  have H := hid h
  have HLT := hid hlt
  clear h hlt
  obtain ⟨ti, hi1, hi2, hi3, hi4⟩ := info_parts infoReq
  have HI1 := hid hi1
  have HI2 := hid hi2
  have HI3 := hid hi3
  have HI4 := hid hi4
  clear hi1 hi2 hi3 hi4
  go_enter Try.func16, Try.ntmps16
  go_wp2_with (at_make; refine wpList_make_own _ rfl _ _ 22 rfl 0 25 ti _ 4 Try.underlying22 HI1.out HI2.out HI3.out _ _ _ l.length rfl rfl rfl ?b2 ?b3 ?b4 ?_)
  case b2 => rw [HI4.out]; omega
  case b3 => unfold maxLen; omega
  case b4 => omega
  intro w1 O1 G1
  have S1 := H.out.made O1 G1 rfl
  have c1 := (S1.pick 2).isBlk.cell 0 rfl
  have HS1 := hid S1
  clear S1 O1 G1 c0
  go_wp2_with fail
  go_loopw [3, 5, 17] (fun v _ i wr => ∃ k : Nat, k ≤ l.length ∧ i = .int .i64 k ∧ Sat w0 I (row 25 4 v k ((l.take k).flatMap rc) :: row 56 5 (.slice a l.length cap) l.length (l.flatMap wc) :: blk q 30 [.slice a l.length cap] :: L) wr) (fun _ _ i _ => l.length - (intOf i).toNat)
  case atStart => exact ⟨0, Nat.zero_le _, rfl, HS1.out⟩
  case round =>
    clear HS1
    obtain ⟨k, hk, rfl, Sr⟩ := hrel
    have HS := hid Sr
    clear Sr
    by_cases hlt : k < l.length
    · obtain ⟨g, cap', hsv, c0, c1, c2, c3, c4⟩ := row5 HS.out.swap k hlt
      cases hsv
      have htk : l.take (k + 1) = l.take k ++ [l[k]] := by rw [List.take_succ_eq_append_getElem hlt]
      generalize l[k] = x at *
      have hfl : (l.take (k + 1)).flatMap rc = (l.take k).flatMap rc ++ rc x := by rw [htk, List.flatMap_append]; simp
      have HFL := hid hfl
      have hk1 : (k : Int) < (l.length : Int) := by omega
      have hk0 : (0 : Int) ≤ (k : Int) := by omega
      clear htk hfl
      go_wp2_with (at_builtin; refine wpList_appS slReq rfl _ _ rfl (HS.out.alloc_ _) (rc x) rfl rfl ?hgs rfl ?h1 ?hb ?hn ?_)
      case hgs => simp
      case h1 => intro u hu; simp [rc] at hu; rcases hu with rfl | rfl | rfl | rfl <;> rfl
      case hb => omega
      case hn => omega
      intro ad cp w7 hc1 hc2 S7
      rw [← HFL.out] at S7
      have HS7 := hid S7
      clear S7 HS c0 c1 c2 c3 c4
      go_wp2_with fail
      go_roundw
      case rel => exact ⟨k + 1, by omega, by go_num, HS7.out⟩
      case measure => (simp [intOf] <;> omega)
    · obtain rfl : k = l.length := by omega
      go_wp2_with fail
      go_ret
      rw [List.take_length] at HS
      obtain ⟨J, a2, c2, hJ, S8, hv, hc1, hc2, _, hrd⟩ := HS.out.freezeRow
      unfold maxLen at hc2
      exact ⟨J, a2, c2, by rw [← hv]; rfl, hc1, hc2, hJ, hrd, S8.queShut hsm HLT.out⟩
end
end Go.Proofs.Ytecdcainkemicaa
