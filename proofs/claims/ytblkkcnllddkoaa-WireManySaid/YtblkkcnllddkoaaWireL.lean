/- Contracts of Enc.List and Enc.S. -/
import Derived.Test.YtblkkcnllddkoaaWireI
namespace Go.Proofs.Ytblkkcnllddkoaa
open Go.RowKit
set_option linter.unusedVariables false

theorem encI_one (w : World) (e : Nat) (sv : Value) (bs : List UInt8) (g : Nat) (T : TypeId) (m : Nat) (h : IsE w e sv bs) (hg : Blk w g T [.int .i64 m]) (h1 : m ≤ 9223372036854775807) (hne : g ≠ e) (hs : sv.ownBlock ≠ some g) (hsm : bs.length + 10 ≤ 1048576) :
    Calls Try.prog 15 #[.pointer (some ⟨e, 0, none⟩), .slice (some ⟨g, 0, none⟩) 1 1] w
      fun r w' => r = .returned (.pointer (some ⟨e, 0, none⟩)) ∧ ∃ sv', IsE w' e sv' (bs ++ encU m) ∧ Mod (EFp e sv) w w' ∧ Moved w sv sv' := by
  have := encI_any w e sv bs (some ⟨g, 0, none⟩) 1 [(m : Int)] h (Blk.ints (k := .i64) (zs := [(m : Int)]) hg) (fun z hz => by simp at hz; subst hz; omega) (fun _ x hx => by cases hx; exact ⟨hne, hs⟩) (by simpa using hsm) (by simp)
  have e1 : (max (m : Int) 0).toNat = m := by omega
  simpa [e1] using this

theorem Moved.ne' {w : World} {sv sv' : Value} (V : Moved w sv sv') {b : Nat} (hlt : b < w.heap.size) (hne : sv.ownBlock ≠ some b) : sv'.ownBlock ≠ some b := fun h => by
  rcases V b h with h1 | h1
  · exact hne h1
  · omega
theorem IntsAt.mod {k : IntKind} {w w' : World} {a : Option Addr} {zs : List Int} {S : Nat → Prop} (h : IntsAt k w a zs) (hm : Mod S w w') (hne : 0 < zs.length → ∀ x, a = some x → ¬ S x.block) : IntsAt k w' a zs := fun i hi => by
  obtain ⟨b, off, h1, h2⟩ := h i hi
  refine ⟨b, off, h1, ?_⟩
  rw [← h2]
  have := hm.block b (World.block_lt_of_cell? w _ h2) (hne (by omega) _ h1)
  unfold World.cell?
  rw [show (⟨b, off + i, none⟩ : Addr).block = b from rfl, this]

set_option maxRecDepth 100000 in
set_option maxHeartbeats 4000000 in
theorem encList_any (w : World) (e : Nat) (sv : Value) (bs : List UInt8) (la : Option Addr) (cap : Nat) (zs : List Int) (h : IsE w e sv bs) (hz : IntsAt .i64 w la zs) (hwf : ∀ z ∈ zs, z ≤ 9223372036854775807)
    (hne : 0 < zs.length → ∀ x, la = some x → x.block ≠ e ∧ sv.ownBlock ≠ some x.block ∧ x.block < w.heap.size) (hsm : bs.length + 10 + 10 * zs.length ≤ 1048576) (hlen : zs.length ≤ 9223372036854775807) :
    Calls Try.prog 27 #[.pointer (some ⟨e, 0, none⟩), .slice la zs.length cap] w
      fun r w' => r = .returned (.pointer (some ⟨e, 0, none⟩)) ∧ ∃ sv', IsE w' e sv' (bs ++ encU zs.length ++ zs.flatMap fun z => encU (max z 0).toNat) ∧ Mod (EFp e sv) w w' ∧ Moved w sv sv' := by
  have HE := hid h
  have HZ := hid hz
  have HW := hid hwf
  have HN := hid hne
  clear h hz hwf hne
  go_enter Try.func27, Try.ntmps27
  go_wp2_with fail
  refine calls_gen (fun w1 => IsE w1 e sv bs ∧ Blk w1 w.heap.size 3 [.int .i64 (zs.length : Nat)] ∧ IntsAt .i64 w1 la zs ∧ Mod (EFp e sv) w w1) ⟨HE.out.below (by (repeat' (first | (with_reducible assumption) | (with_reducible exact Below.refl _ _) | (with_reducible refine below_drewN ?_ _) | (with_reducible refine Below.drew ?_) | ((with_reducible refine below_alloc' ?_ ?_ _); rotate_left; (first | exact Nat.le_refl _ | assumption | omega)) | ((with_reducible refine Below.alloc ?_ ?_ _); rotate_left; (first | omega | (simp <;> omega))) | ((with_reducible refine Below.setCell ?_ ?_ _); rotate_left; (first | omega | (simp <;> omega)))))), by (repeat' (first | (with_reducible assumption) | (with_reducible apply Blk.drewN) | (with_reducible apply Blk.drew) | ((with_reducible apply Blk.new'); (first | rfl | (simp <;> omega))) | (with_reducible apply Blk.set') | (with_reducible apply Blk.ne) | (with_reducible apply Blk.alloc) | rfl | omega | (simp <;> omega))), HZ.out.below (by (repeat' (first | (with_reducible assumption) | (with_reducible exact Below.refl _ _) | (with_reducible refine below_drewN ?_ _) | (with_reducible refine Below.drew ?_) | ((with_reducible refine below_alloc' ?_ ?_ _); rotate_left; (first | exact Nat.le_refl _ | assumption | omega)) | ((with_reducible refine Below.alloc ?_ ?_ _); rotate_left; (first | omega | (simp <;> omega))) | ((with_reducible refine Below.setCell ?_ ?_ _); rotate_left; (first | omega | (simp <;> omega)))))), (Mod.refl _ _).alloc _⟩ ?_
  rintro w1 ⟨E1, B1, Z1, M1⟩
  have hg0 : w.heap.size ≠ e := by have := HE.out.blk.lt; omega
  have hg1 := HE.out.new (Nat.le_refl _)
  refine (encI_one w1 e sv bs _ _ zs.length E1 B1 hlen hg0 hg1 (by omega)).mono ?_; rintro r w2 ⟨rfl, sv2, E2, M2, V2⟩
  go_wp2_with fail
  have hw1 : w.heap.size ≤ w1.heap.size := M1.size
  have hl2 := encU_len zs.length (by omega)
  refine (encI_any w2 e sv2 _ la cap zs E2 (Z1.mod M2 (fun h0 x hx hS => by obtain ⟨n1, n2, n3⟩ := HN.out h0 x hx; rcases hS with hS | hS; exact n1 hS; exact n2 hS)) HW.out (fun h0 x hx => by obtain ⟨n1, n2, n3⟩ := HN.out h0 x hx; exact ⟨n1, V2.ne' (by omega) n2⟩) (by simp; omega) hlen).mono ?_; rintro r w3 ⟨rfl, sv3, E3, M3, V3⟩
  go_wp2_with fail
  go_ret
  exact ⟨rfl, sv3, E3, (M1.moved M2 (Moved.refl _ _)).moved M3 (fun k hk => by rcases V2 k hk with h | h; exact Or.inl h; right; omega), fun k hk => by
    rcases V3 k hk with h | h
    · rcases V2 k h with h | h
      · exact Or.inl h
      · right; omega
    · right; have := M2.size; omega⟩
end Go.Proofs.Ytblkkcnllddkoaa
