/- Contract of Enc.I. -/
import Derived.Test.YtcogjlfdhiomnaaDoorWireU
namespace Go.Proofs.YtcogjlfdhiomnaaDoor
open Go.RowKit
set_option linter.unusedVariables false
set_option maxRecDepth 100000

theorem encU_one (w : World) (e : Nat) (sv : Value) (bs : List UInt8) (g : Nat) (T : TypeId) (m : Int) (h : IsE w e sv bs) (hg : Blk w g T [.int .u64 m]) (h0 : 0 ≤ m) (h1 : m ≤ 18446744073709551615) (hne : g ≠ e) (hs : sv.ownBlock ≠ some g) (hsm : bs.length + 10 ≤ 1048576) :
    Calls Tryd.prog 69 #[.pointer (some ⟨e, 0, none⟩), .slice (some ⟨g, 0, none⟩) 1 1] w
      fun r w' => r = .returned (.pointer (some ⟨e, 0, none⟩)) ∧ ∃ sv', IsE w' e sv' (bs ++ encU m.toNat) ∧ Mod (EFp e sv) w w' ∧ Moved w sv sv' := by
  have := encU_any w e sv bs (some ⟨g, 0, none⟩) 1 [m] h (Blk.ints (k := .u64) (zs := [m]) hg) (fun z hz => by simp at hz; subst hz; exact ⟨h0, h1⟩) (fun _ x hx => by cases hx; exact ⟨hne, hs⟩) (by simpa using hsm) (by simp)
  simpa using this

set_option maxRecDepth 100000 in
set_option maxHeartbeats 4000000 in
theorem encI_any (w : World) (e : Nat) (sv : Value) (bs : List UInt8) (la : Option Addr) (cap : Nat) (zs : List Int) (h : IsE w e sv bs) (hz : IntsAt .i64 w la zs) (hwf : ∀ z ∈ zs, z ≤ 9223372036854775807)
    (hne : 0 < zs.length → ∀ x, la = some x → x.block ≠ e ∧ sv.ownBlock ≠ some x.block) (hsm : bs.length + 10 * zs.length ≤ 1048576) (hlen : zs.length ≤ 9223372036854775807) :
    Calls Tryd.prog 68 #[.pointer (some ⟨e, 0, none⟩), .slice la zs.length cap] w
      fun r w' => r = .returned (.pointer (some ⟨e, 0, none⟩)) ∧ ∃ sv', IsE w' e sv' (bs ++ zs.flatMap fun z => encU (max z 0).toNat) ∧ Mod (EFp e sv) w w' ∧ Moved w sv sv' := by
  have HE := hid h
  have HZ := hid hz
  have HW := hid hwf
  have HN := hid hne
  clear h hz hwf hne
  go_enter Tryd.func68, Tryd.ntmps68
  go_wp2_with fail
  go_loopw [6, 9] (fun _ i wr => ∃ (k : Nat) (sv' : Value) (bs' : List UInt8), k ≤ zs.length ∧ i = .int .i64 k ∧ IsE wr e sv' bs' ∧ Mod (EFp e sv) w wr ∧ Moved w sv sv' ∧ bs'.length ≤ bs.length + 10 * k ∧ bs' ++ (zs.drop k).flatMap (fun z => encU (max z 0).toNat) = bs ++ zs.flatMap fun z => encU (max z 0).toNat) (fun _ i _ => zs.length - (intOf i).toNat)
  case atStart => exact ⟨0, sv, bs, by omega, rfl, HE.out.below (by (repeat' (first | (with_reducible assumption) | (with_reducible exact Below.refl _ _) | (with_reducible refine below_drewN ?_ _) | (with_reducible refine Below.drew ?_) | ((with_reducible refine below_alloc' ?_ ?_ _); rotate_left; (first | exact Nat.le_refl _ | assumption | omega)) | ((with_reducible refine Below.alloc ?_ ?_ _); rotate_left; (first | omega | (simp <;> omega))) | ((with_reducible refine Below.setCell ?_ ?_ _); rotate_left; (first | omega | (simp <;> omega)))))), Mod.refl _ _, Moved.refl _ _, by omega, rfl⟩
  case round =>
    obtain ⟨k, sv', bs', hk, rfl, Er, Mr, Vr, hlr, heq⟩ := hrel
    have HQ := hid heq
    clear heq
    by_cases hlt : k < zs.length
    · have c0 : ∃ b off, la = some ⟨b, off, none⟩ ∧ wr.cell? ⟨b, off + k, none⟩ = some (.int .i64 zs[k]) := by
        obtain ⟨b, off, h1, h2⟩ := HZ.out k hlt
        obtain ⟨n1, n2⟩ := HN.out (by omega) _ h1
        refine ⟨b, off, h1, ?_⟩
        rw [← h2]
        have hb := World.block_lt_of_cell? w _ h2
        have := Mr.block b hb (fun hx => by rcases hx with hx | hx; exact n1 hx; exact n2 hx)
        unfold World.cell?
        rw [show (⟨b, off + k, none⟩ : Addr).block = b from rfl, this]
      obtain ⟨b, off, rfl, c0⟩ := c0
      have hkl : (k : Int) < (zs.length : Int) := by omega
      have hk0 : (0 : Int) ≤ (k : Int) := by omega
      have hv1 := HW.out zs[k] (List.getElem_mem _)
      have hd : zs.drop k = zs[k] :: zs.drop (k + 1) := List.drop_eq_getElem_cons hlt
      generalize zs[k] = v at *
      obtain ⟨m, hm⟩ : ∃ m, max v 0 = m := ⟨_, rfl⟩
      have hm0 : 0 ≤ m := by omega
      have hm1 : m ≤ 9223372036854775807 := by omega
      have HD := hid hd
      have HM := hid hm
      clear hd hm hv1
      go_wp2_with (refine wpList_val (o := ⟨some 15, _, _, _, _, _⟩) rfl (.int .i64 m) ?hrun ?_)
      case hrun =>
        have := HM.out
        by_cases hh : v ≤ 0
        · have e1 : m = 0 := by omega
          subst e1; simp [go_sem]; omega
        · have e1 : m = v := by omega
          subst e1; simp [go_sem]; omega
      go_wp2_with fail
      refine calls_gen (fun w1 => IsE w1 e sv' bs' ∧ Blk w1 wr.heap.size 22 [.int .u64 m] ∧ Mod (EFp e sv) w w1 ∧ wr.heap.size ≤ w1.heap.size) ⟨Er.below (by (repeat' (first | (with_reducible assumption) | (with_reducible exact Below.refl _ _) | (with_reducible refine below_drewN ?_ _) | (with_reducible refine Below.drew ?_) | ((with_reducible refine below_alloc' ?_ ?_ _); rotate_left; (first | exact Nat.le_refl _ | assumption | omega)) | ((with_reducible refine Below.alloc ?_ ?_ _); rotate_left; (first | omega | (simp <;> omega))) | ((with_reducible refine Below.setCell ?_ ?_ _); rotate_left; (first | omega | (simp <;> omega)))))), by (repeat' (first | (with_reducible assumption) | (with_reducible apply Blk.drewN) | (with_reducible apply Blk.drew) | ((with_reducible apply Blk.new'); (first | rfl | (simp <;> omega))) | (with_reducible apply Blk.set') | (with_reducible apply Blk.ne) | (with_reducible apply Blk.alloc) | rfl | omega | (simp <;> omega))), Mr.alloc _, by simp⟩ ?_
      rintro w1 ⟨E1, B1, M1, hs1⟩
      have hg0 : wr.heap.size ≠ e := by have := Er.blk.lt; omega
      have hg1 := Er.new (Nat.le_refl _)
      generalize wr.heap.size = g at *
      refine (encU_one w1 e sv' bs' g _ m E1 B1 hm0 (by omega) hg0 hg1 (by omega)).mono ?_; rintro r w2 ⟨rfl, sv2, E2, M2, V2⟩
      go_wp2_with fail
      go_roundw
      case rel =>
        refine ⟨k + 1, sv2, _, by omega, by go_num, E2, M1.moved M2 Vr, Vr.trans V2 M1.size, ?_, ?_⟩
        · have := encU_len m.toNat (by omega); simp; omega
        · have e1 := HQ.out
          rw [HD.out, List.flatMap_cons, HM.out] at e1
          rw [← e1]; simp
      case measure => (simp [intOf] <;> omega)
    · obtain rfl : k = zs.length := by omega
      go_wp2_with fail
      go_ret
      refine ⟨rfl, sv', ?_, Mr, Vr⟩
      have := HQ.out
      rw [List.drop_length] at this
      simp only [List.flatMap_nil, List.append_nil] at this
      rw [← this]; exact Er
end Go.Proofs.YtcogjlfdhiomnaaDoor
