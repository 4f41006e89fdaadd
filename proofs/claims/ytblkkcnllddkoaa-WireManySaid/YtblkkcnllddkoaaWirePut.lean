/- Contract of put: a thing is written, by both. -/
import Derived.Test.YtblkkcnllddkoaaWireRef
namespace Go.Proofs.Ytblkkcnllddkoaa
open Go.RowKit
set_option linter.unusedVariables false

theorem Rd.take {I : Part} {a : Option Addr} {vs : List Value} (h : Rd I a vs) (n : Nat) : Rd I a (vs.take n) := fun i hi => by
  have hi' : i < vs.length := by simp at hi; omega
  obtain ⟨b, off, e, hc⟩ := h i hi'
  exact ⟨b, off, e, by rw [hc]; simp⟩
/-- a thing's bytes. -/
def thingB (kind n u : Int) (is : Bool) (s : ByteArray) (zs : List Int) : List UInt8 :=
  if kind = 1 then encU u.toNat else if kind = 2 then encU (max n 0).toNat else if kind = 3 then [bB is] else if kind = 4 then encS (s.extract 0 200)
  else if kind = 5 then encU (zs.take 20).length ++ (zs.take 20).flatMap (fun z => encU (max z 0).toNat) else []
theorem cutSize (s : ByteArray) (n : Nat) : (s.extract 0 n).size ≤ n := by
  rw [ByteArray.size_extract]; omega
theorem encS_len (s : ByteArray) (h : s.size < 18446744073709551616) : (encS s).length ≤ 10 + s.size := by
  have := encU_len s.size h
  unfold encS
  rw [List.length_append]
  have h2 : s.data.toList.length = s.size := Array.length_toList
  omega
theorem flat_enc_len (zs : List Int) (h : ∀ z ∈ zs, z ≤ 9223372036854775807) : (zs.flatMap fun z => encU (max z 0).toNat).length ≤ 10 * zs.length := by
  induction zs with
  | nil => simp
  | cons z r ih =>
    have h1 := encU_len (max z 0).toNat (by have := h z (by simp); omega)
    have h2 := ih (fun y hy => h y (by simp [hy]))
    rw [List.flatMap_cons, List.length_append, List.length_cons]; omega
theorem thingB_len (kind n u : Int) (is : Bool) (s : ByteArray) (zs : List Int) (hn : n ≤ 9223372036854775807) (hu : u ≤ 18446744073709551615) (hz : ∀ z ∈ zs, z ≤ 9223372036854775807) : (thingB kind n u is s zs).length ≤ 400 := by
  unfold thingB
  split
  · have := encU_len u.toNat (by omega); omega
  split
  · have := encU_len (max n 0).toNat (by omega); omega
  split
  · simp
  split
  · have := encS_len (s.extract 0 200) (by have := cutSize s 200; omega)
    have := cutSize s 200
    omega
  split
  · have h1 := flat_enc_len (zs.take 20) (fun z hz' => hz z (List.mem_of_mem_take hz'))
    have h2 : (zs.take 20).length ≤ 20 := List.length_take_le _ _
    have h3 := encU_len (zs.take 20).length (by omega)
    rw [List.length_append]; omega
  · simp

set_option maxRecDepth 100000 in
set_option maxHeartbeats 8000000 in
theorem put_any {w0 w : World} {I : Part} {L : List HP} {e : Nat} {bs : List UInt8} (kind n m u : Int) (is : Bool) (s : ByteArray) (la : Option Addr) (cap : Nat) (zs : List Int) (h : Sat w0 I (enc e bs :: L) w) (hz : Rd I la (zs.map (Value.int .i64)))
    (hn : n ≤ 9223372036854775807) (hu : 0 ≤ u ∧ u ≤ 18446744073709551615) (hs : s.size ≤ 9223372036854775807) (hwf : ∀ z ∈ zs, z ≤ 9223372036854775807) (hlen : zs.length ≤ 9223372036854775807) (hcap : zs.length ≤ cap ∧ cap ≤ 9223372036854775807) (hsm : bs.length + 400 ≤ 1048576) :
    Calls Try.prog 11 #[.pointer (some ⟨e, 0, none⟩), .agg #[.int .i64 kind, .int .i64 n, .int .i64 m, .int .u64 u, .bool is, .string s, .slice la zs.length cap]] w
      fun r w' => r = .returned (.string ⟨(thingB kind n u is s zs).toArray⟩) ∧ Sat w0 I (enc e (bs ++ thingB kind n u is s zs) :: L) w' := by
  have H := hid h
  have HZ := hid hz
  have HW := hid hwf
  obtain ⟨hu0, hu1⟩ := hu
  obtain ⟨hcap0, hcap1⟩ := hcap
  clear h hz hwf
  by_cases k1 : kind = 1
  · have HT : Hid (thingB kind n u is s zs = encU u.toNat) := hid (by rw [thingB, if_pos k1])
    generalize thingB kind n u is s zs = out at *
    have b1 : (kind == 1) = true := by simp [k1]
    clear k1
    obtain ⟨u, rfl⟩ := Int.eq_ofNat_of_zero_le hu0
    go_enter Try.func11, Try.ntmps11
    go_wp2_with fail
    obtain ⟨g, hg⟩ : ∃ g, w.heap.size = g := ⟨_, rfl⟩
    have S1 : Sat w0 I (blk g 35 [.int .i64 kind, .int .i64 n, .int .i64 m, .int .u64 u, .bool is, .string s, .slice la zs.length cap] :: enc e bs :: L) _ := H.out.alloc rfl hg.symm
    have HG := hid hg
    clear hg
    try rw [HG.out]
    refine (encU1_sat _ _ (by simp [HG.out]) S1.swap ⟨hu0, hu1⟩ (by omega)).mono ?_; rintro r w1 ⟨rfl, S⟩
    have HS := hid S.swap
    have cb := S.swap.isBlk
    clear S
    have c0 := cb.cell 3 rfl
    clear cb
    go_wp2_with fail
    refine (refU_any _ u (by omega)).mono ?_; rintro r w2 ⟨rfl, L2⟩
    have HS2 := hid (HS.out.drop.below L2)
    rw [Int.toNat_natCast] at HT
    rw [← HT.out]
    go_wp2_with fail
    go_ret
    exact ⟨rfl, HT.out ▸ HS2.out⟩
  have b1 : (kind == 1) = false := by simp [k1]
  by_cases k2 : kind = 2
  · have HT : Hid (thingB kind n u is s zs = encU (max n 0).toNat) := hid (by rw [thingB, if_neg k1, if_pos k2])
    generalize thingB kind n u is s zs = out at *
    have b2 : (kind == 2) = true := by simp [k2]
    clear k1 k2
    go_enter Try.func11, Try.ntmps11
    go_wp2_with fail
    obtain ⟨g, hg⟩ : ∃ g, w.heap.size = g := ⟨_, rfl⟩
    have S1 : Sat w0 I (blk g 35 [.int .i64 kind, .int .i64 n, .int .i64 m, .int .u64 u, .bool is, .string s, .slice la zs.length cap] :: enc e bs :: L) _ := H.out.alloc rfl hg.symm
    have HG := hid hg
    clear hg
    try rw [HG.out]
    refine (encI1_sat _ _ (by simp [HG.out]) S1.swap hn (by omega)).mono ?_; rintro r w1 ⟨rfl, S⟩
    have HS := hid S.swap
    have cb := S.swap.isBlk
    clear S
    have c0 := cb.cell 1 rfl
    clear cb
    go_wp2_with fail
    refine (refI_any _ n hn).mono ?_; rintro r w2 ⟨rfl, L2⟩
    have HS2 := hid (HS.out.drop.below L2)
    rw [← HT.out]
    go_wp2_with fail
    go_ret
    exact ⟨rfl, HT.out ▸ HS2.out⟩
  have b2 : (kind == 2) = false := by simp [k2]
  by_cases k3 : kind = 3
  · have HT : Hid (thingB kind n u is s zs = [bB is]) := hid (by rw [thingB, if_neg k1, if_neg k2, if_pos k3])
    generalize thingB kind n u is s zs = out at *
    have b3 : (kind == 3) = true := by simp [k3]
    clear k1 k2 k3
    go_enter Try.func11, Try.ntmps11
    go_wp2_with fail
    obtain ⟨g, hg⟩ : ∃ g, w.heap.size = g := ⟨_, rfl⟩
    have S1 : Sat w0 I (blk g 35 [.int .i64 kind, .int .i64 n, .int .i64 m, .int .u64 u, .bool is, .string s, .slice la zs.length cap] :: enc e bs :: L) _ := H.out.alloc rfl hg.symm
    have HG := hid hg
    clear hg
    try rw [HG.out]
    refine (encB1_sat _ _ (by simp [HG.out]) S1.swap (by omega)).mono ?_; rintro r w1 ⟨rfl, S⟩
    have HS := hid S.swap
    have cb := S.swap.isBlk
    clear S
    have c0 := cb.cell 4 rfl
    clear cb
    go_wp2_with fail
    refine (refB_any _ is).mono ?_; rintro r w2 ⟨rfl, k2, rfl⟩
    have HS2 := hid (HS.out.drop.drewN k2)
    have e3 : (⟨#[bB is]⟩ : ByteArray) = ⟨[bB is].toArray⟩ := rfl
    rw [e3]
    rw [← HT.out]
    go_wp2_with fail
    go_ret
    exact ⟨rfl, HT.out ▸ HS2.out⟩
  have b3 : (kind == 3) = false := by simp [k3]
  by_cases k4 : kind = 4
  · have HT : Hid (thingB kind n u is s zs = encS (s.extract 0 200)) := hid (by rw [thingB, if_neg k1, if_neg k2, if_neg k3, if_pos k4])
    generalize thingB kind n u is s zs = out at *
    have b4 : (kind == 4) = true := by simp [k4]
    have hcs := cutSize s 200
    clear k1 k2 k3 k4
    go_enter Try.func11, Try.ntmps11
    go_wp2_with fail
    obtain ⟨g, hg⟩ : ∃ g, w.heap.size = g := ⟨_, rfl⟩
    have S1 : Sat w0 I (blk g 35 [.int .i64 kind, .int .i64 n, .int .i64 m, .int .u64 u, .bool is, .string s, .slice la zs.length cap] :: enc e bs :: L) _ := H.out.alloc rfl hg.symm
    have HG := hid hg
    clear hg
    refine (cut_any _ s 200 (by omega) hs).mono ?_; rintro r w1 ⟨rfl, k2, rfl⟩
    have S1 := S1.drewN k2
    obtain ⟨t, ht⟩ : ∃ t, s.extract 0 200 = t := ⟨_, rfl⟩
    rw [ht] at HT hcs ⊢
    have HTT := hid ht
    clear ht
    go_wp2_with fail
    try rw [HG.out]
    refine (encS1_sat _ _ (by simp [HG.out]) S1.swap (by omega) (by omega)).mono ?_; rintro r w1 ⟨rfl, S⟩
    have HS := hid S.swap
    have cb := S.swap.isBlk
    clear S
    have c0 := cb.cell 5 rfl
    clear cb
    go_wp2_with fail
    refine (cut_any _ s 200 (by omega) hs).mono ?_; rintro r w2 ⟨rfl, k3, rfl⟩
    have HS1 := hid (HS.out.drop.drewN k3)
    rw [HTT.out]
    clear HS
    go_wp2_with fail
    refine (refS_any _ _ (by omega)).mono ?_; rintro r w3 ⟨rfl, L2⟩
    have HS2 := hid (HS1.out.below L2)
    rw [← HT.out]
    go_wp2_with fail
    go_ret
    exact ⟨rfl, HT.out ▸ HS2.out⟩
  have b4 : (kind == 4) = false := by simp [k4]
  by_cases k5 : kind = 5
  · have HT : Hid (thingB kind n u is s zs = encU (zs.take 20).length ++ (zs.take 20).flatMap (fun z => encU (max z 0).toNat)) := hid (by rw [thingB, if_neg k1, if_neg k2, if_neg k3, if_neg k4, if_pos k5])
    generalize thingB kind n u is s zs = out at *
    have b5 : (kind == 5) = true := by simp [k5]
    have HZ2 : Hid (Rd I la ((zs.take 20).map (Value.int .i64))) := hid (by rw [List.map_take]; exact HZ.out.take 20)
    have HW2 : Hid (∀ z ∈ zs.take 20, z ≤ 9223372036854775807) := hid (fun z hz => HW.out z (List.mem_of_mem_take hz))
    have hmin : (zs.take 20).length = min 20 zs.length := List.length_take
    have hml : (zs.take 20).length ≤ zs.length := by omega
    have HM := hid hmin
    clear k1 k2 k3 k4 k5 hmin
    obtain ⟨ys, hys⟩ : ∃ ys, zs.take 20 = ys := ⟨_, rfl⟩
    rw [hys] at HT HZ2 HW2 HM hml
    clear hys
    have hy20 : ys.length ≤ 20 := by have := HM.out; omega
    go_enter Try.func11, Try.ntmps11
    go_wp2_with (refine wpList_val (o := ⟨some 57, _, _, _, _, _⟩) rfl (.int .i64 (ys.length : Int)) ?hrun ?_)
    case hrun =>
      have := HM.out
      by_cases hh : zs.length ≤ 20
      · have e1 : ys.length = zs.length := by omega
        rw [e1]; simp [go_sem]; omega
      · have e1 : ys.length = 20 := by omega
        rw [e1]; simp [go_sem]; omega
    go_wp2_with fail
    obtain ⟨g, hg⟩ : ∃ g, w.heap.size = g := ⟨_, rfl⟩
    have S1 : Sat w0 I (blk g 35 [.int .i64 kind, .int .i64 n, .int .i64 m, .int .u64 u, .bool is, .string s, .slice la zs.length cap] :: enc e bs :: L) _ := H.out.alloc rfl hg.symm
    have HG := hid hg
    clear hg
    refine (encList_sat _ _ ys S1.swap HZ2.out HW2.out (by omega) (by omega)).mono ?_; rintro r w1 ⟨rfl, S⟩
    have HS := hid S.swap
    have cb := S.swap.isBlk
    clear S
    clear cb
    rw [List.append_assoc] at HS
    go_wp2_with fail
    refine (refList_any _ _ ys HS.out.drop HZ2.out HW2.out (by omega)).mono ?_; rintro r w2 ⟨rfl, S2⟩
    have HS2 := hid S2
    clear S2 HS
    rw [← HT.out] at HS2
    rw [← HT.out]
    go_wp2_with fail
    go_ret
    exact ⟨rfl, HT.out ▸ HS2.out⟩
  · have HT : Hid (thingB kind n u is s zs = []) := hid (by rw [thingB, if_neg k1, if_neg k2, if_neg k3, if_neg k4, if_neg k5])
    generalize thingB kind n u is s zs = out at *
    have b5 : (kind == 5) = false := by simp [k5]
    clear k1 k2 k3 k4 k5
    go_enter Try.func11, Try.ntmps11
    go_wp2_with fail
    obtain ⟨g, hg⟩ : ∃ g, w.heap.size = g := ⟨_, rfl⟩
    have S1 : Sat w0 I (blk g 35 [.int .i64 kind, .int .i64 n, .int .i64 m, .int .u64 u, .bool is, .string s, .slice la zs.length cap] :: enc e bs :: L) _ := H.out.alloc rfl hg.symm
    have HG := hid hg
    clear hg
    go_ret
    have S2 := S1.drop
    rw [HT.out, List.append_nil]
    exact ⟨rfl, S2⟩
end Go.Proofs.Ytblkkcnllddkoaa
