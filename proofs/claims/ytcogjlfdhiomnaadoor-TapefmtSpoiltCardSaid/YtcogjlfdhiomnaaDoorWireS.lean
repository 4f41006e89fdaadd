/- Contract of Enc.S. -/
import Derived.Test.YtcogjlfdhiomnaaDoorWireL
import Derived.Test.YtcogjlfdhiomnaaDoorAppStr
namespace Go.Proofs.YtcogjlfdhiomnaaDoor
open Go.RowKit
set_option linter.unusedVariables false
set_option maxRecDepth 100000

def StrsAt (w : World) (a : Option Addr) (ss : List ByteArray) : Prop := ∀ i (h : i < ss.length), ∃ b off, a = some ⟨b, off, none⟩ ∧ w.cell? ⟨b, off + i, none⟩ = some (.string ss[i])
def encS (s : ByteArray) : List UInt8 := encU s.size ++ s.data.toList
theorem encU_pos (v : Nat) : 0 < (encU v).length := by simp [encU]
theorem IsE.pushes {w w' : World} {e : Nat} {sv a' : Value} {bs : List UInt8} {n : Nat} (h : IsE w e sv bs) (hB : Blk w' e 111 [sv]) (l : List UInt8) (hO : w'.ownsRow (e + 1) 5 1 a' n (Lib.byteCells bs ++ Lib.byteCells l)) (hn : n = bs.length + l.length) (hl : bs.length + l.length ≤ 1048576) :
    IsE (w'.setCell ⟨e, 0, none⟩ a') e a' (bs ++ l) := by
  subst hn
  refine ⟨hB.set' 0 _ rfl, ?_, by simpa using hl⟩
  have := own_setCell_lt hO (a := ⟨e, 0, none⟩) (Nat.lt_succ_self _) a'
  rw [byteCells_app]
  simpa using this

set_option maxRecDepth 100000 in
set_option maxHeartbeats 4000000 in
theorem encS_any (w : World) (e : Nat) (sv : Value) (bs : List UInt8) (la : Option Addr) (cap : Nat) (ss : List ByteArray) (M : Nat) (h : IsE w e sv bs) (hz : StrsAt w la ss) (hwf : ∀ s ∈ ss, s.size ≤ M)
    (hne : 0 < ss.length → ∀ x, la = some x → x.block ≠ e ∧ sv.ownBlock ≠ some x.block) (hsm : bs.length + (10 + M) * ss.length ≤ 1048576) (hM : M ≤ 100000) (hlen : ss.length ≤ 9223372036854775807) :
    Calls Tryd.prog 67 #[.pointer (some ⟨e, 0, none⟩), .slice la ss.length cap] w
      fun r w' => r = .returned (.pointer (some ⟨e, 0, none⟩)) ∧ ∃ sv', IsE w' e sv' (bs ++ ss.flatMap encS) ∧ Mod (EFp e sv) w w' ∧ Moved w sv sv' := by
  have HE := hid h
  have HZ := hid hz
  have HW := hid hwf
  have HN := hid hne
  clear h hz hwf hne
  go_enter Tryd.func67, Tryd.ntmps67
  go_wp2_with fail
  go_loopw [6, 9] (fun _ i wr => ∃ (k : Nat) (sv' : Value) (bs' : List UInt8), k ≤ ss.length ∧ i = .int .i64 k ∧ IsE wr e sv' bs' ∧ Mod (EFp e sv) w wr ∧ Moved w sv sv' ∧ bs'.length ≤ bs.length + (10 + M) * k ∧ bs' ++ (ss.drop k).flatMap encS = bs ++ ss.flatMap encS) (fun _ i _ => ss.length - (intOf i).toNat)
  case atStart => exact ⟨0, sv, bs, by omega, rfl, HE.out.below (by (repeat' (first | (with_reducible assumption) | (with_reducible exact Below.refl _ _) | (with_reducible refine below_drewN ?_ _) | (with_reducible refine Below.drew ?_) | ((with_reducible refine below_alloc' ?_ ?_ _); rotate_left; (first | exact Nat.le_refl _ | assumption | omega)) | ((with_reducible refine Below.alloc ?_ ?_ _); rotate_left; (first | omega | (simp <;> omega))) | ((with_reducible refine Below.setCell ?_ ?_ _); rotate_left; (first | omega | (simp <;> omega)))))), Mod.refl _ _, Moved.refl _ _, by omega, rfl⟩
  case round =>
    obtain ⟨k, sv', bs', hk, rfl, Er, Mr, Vr, hlr, heq⟩ := hrel
    have HQ := hid heq
    clear heq
    by_cases hlt : k < ss.length
    · have c0 : ∃ b off, la = some ⟨b, off, none⟩ ∧ wr.cell? ⟨b, off + k, none⟩ = some (.string ss[k]) := by
        obtain ⟨b, off, h1, h2⟩ := HZ.out k hlt
        obtain ⟨n1, n2⟩ := HN.out (by omega) _ h1
        refine ⟨b, off, h1, ?_⟩
        rw [← h2]
        have hb := World.block_lt_of_cell? w _ h2
        have := Mr.block b hb (fun hx => by rcases hx with hx | hx; exact n1 hx; exact n2 hx)
        unfold World.cell?
        rw [show (⟨b, off + k, none⟩ : Addr).block = b from rfl, this]
      obtain ⟨b, off, rfl, c0⟩ := c0
      have hkl : (k : Int) < (ss.length : Int) := by omega
      have hk0 : (0 : Int) ≤ (k : Int) := by omega
      have hv1 := HW.out ss[k] (List.getElem_mem _)
      have hd : ss.drop k = ss[k] :: ss.drop (k + 1) := List.drop_eq_getElem_cons hlt
      generalize ss[k] = s at *
      have HD := hid hd
      clear hd
      have hroom : (10 + M) * (k + 1) ≤ (10 + M) * ss.length := Nat.mul_le_mul_left _ hlt
      rw [Nat.mul_add, Nat.mul_one] at hroom
      have hl3 := encU_len s.size (by omega)
      have hl4 := encU_pos s.size
      go_wp2_with fail
      refine calls_gen (fun w1 => IsE w1 e sv' bs' ∧ Blk w1 wr.heap.size 3 [.int .i64 (s.size : Nat)] ∧ Mod (EFp e sv) w w1 ∧ wr.heap.size ≤ w1.heap.size) ⟨Er.below (by (repeat' (first | (with_reducible assumption) | (with_reducible exact Below.refl _ _) | (with_reducible refine below_drewN ?_ _) | (with_reducible refine Below.drew ?_) | ((with_reducible refine below_alloc' ?_ ?_ _); rotate_left; (first | exact Nat.le_refl _ | assumption | omega)) | ((with_reducible refine Below.alloc ?_ ?_ _); rotate_left; (first | omega | (simp <;> omega))) | ((with_reducible refine Below.setCell ?_ ?_ _); rotate_left; (first | omega | (simp <;> omega)))))), by (repeat' (first | (with_reducible assumption) | (with_reducible apply Blk.drewN) | (with_reducible apply Blk.drew) | ((with_reducible apply Blk.new'); (first | rfl | (simp <;> omega))) | (with_reducible apply Blk.set') | (with_reducible apply Blk.ne) | (with_reducible apply Blk.alloc) | rfl | omega | (simp <;> omega))), Mr.alloc _, by simp⟩ ?_
      rintro w1 ⟨E1, B1, M1, hs1⟩
      have hg0 : wr.heap.size ≠ e := by have := Er.blk.lt; omega
      have hg1 := Er.new (Nat.le_refl _)
      generalize wr.heap.size = g at *
      refine (encI_one w1 e sv' bs' g _ s.size E1 B1 (by omega) hg0 hg1 (by omega)).mono ?_; rintro r w2 ⟨rfl, sv2, E2, M2, V2⟩
      replace M2 := M1.moved M2 Vr
      replace V2 := Vr.trans V2 M1.size
      have hl5 : (bs' ++ encU s.size).length = bs'.length + (encU s.size).length := by simp
      obtain ⟨bs2, hb2⟩ : ∃ x, bs' ++ encU s.size = x := ⟨_, rfl⟩
      rw [hb2] at E2 hl5
      have HB2 := hid hb2
      clear hb2
      have c1 := E2.blk.cell 0 rfl
      have f1 := E2.blk.frozen 0
      have HE2 := hid E2
      clear E2
      go_wp2_with (at_builtin; refine wpList_appSrc (w := w2) slByte rfl (.tmp 22) (.tmp 23) rfl (e + 1) sv2 bs2.length s.size (Lib.byteCells bs2) (Lib.byteCells s.data.toList) (.string s) rfl rfl ?hown ?h0 ?hs ?hb ?hn ?hbase ?_)
      case hown => exact HE2.out.row
      case h0 => omega
      case hs => exact Src.ofString w2 Tryd.underlying9 s
      case hb => omega
      case hn => omega
      case hbase => have := HE2.out.blk.lt; omega
      intro v' w3 O3 G3 V3
      obtain ⟨a2, cap2, rfl, _, _⟩ := own_shape O3
      have B3 := HE2.out.blk.grown_own G3 HE2.out.row (Nat.lt_succ_self _)
      have q3 := B3.cell 0 rfl
      have z3 := B3.frozen 0
      have ML : Mod (EFp e sv2) w2 w3 := (Mod.refl _ w2).grown G3 (fun k hk _ => Or.inr hk)
      clear c1 f1
      go_wp2_with fail
      go_roundw
      case rel =>
        have hsl : s.data.toList.length = s.size := by rw [Array.length_toList]; rfl
        refine ⟨k + 1, _, _, by omega, by go_num, HE2.out.pushes B3 s.data.toList O3 (by rw [hsl]; omega) (by rw [hsl]; omega), M2.moved (ML.setCell (fun _ => Or.inl rfl) _) V2, V2.trans V3 M2.size, ?_, ?_⟩
        · rw [List.length_append, hsl, Nat.mul_add, Nat.mul_one]; omega
        · have e1 := HQ.out
          rw [HD.out, List.flatMap_cons, encS] at e1
          rw [← e1, ← HB2.out]; simp
      case measure => (simp [intOf] <;> omega)
    · obtain rfl : k = ss.length := by omega
      go_wp2_with fail
      go_ret
      refine ⟨rfl, sv', ?_, Mr, Vr⟩
      have := HQ.out
      rw [List.drop_length] at this
      simp only [List.flatMap_nil, List.append_nil] at this
      rw [← this]; exact Er
end Go.Proofs.YtcogjlfdhiomnaaDoor
