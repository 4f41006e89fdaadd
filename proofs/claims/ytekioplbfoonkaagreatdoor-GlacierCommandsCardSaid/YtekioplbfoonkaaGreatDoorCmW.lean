/- command.Write (its drawn regions by invariants; printed by tool/mkwrite.py). -/
import Derived.Test.YtekioplbfoonkaaGreatDoorMgD
import Derived.Test.YtekioplbfoonkaaGreatDoorInv
import Derived.Carry
import Derived.Deep.CutBlock
import Derived.Deep.DeepCutAuto
namespace Go.Proofs.YtekioplbfoonkaaGreatDoor
open Go.RowKit
set_option linter.unusedVariables false
set_option maxRecDepth 100000
def cw2 (c : Cmd) : List UInt8 := encU c.kind ++ encU c.client ++ encU c.seq
def cw3 (c : Cmd) : List UInt8 := cw2 c ++ encS c.name
def cw4 (c : Cmd) : List UInt8 := cw3 c ++ encU c.blob
def cw5 (c : Cmd) : List UInt8 := cw4 c ++ encU c.size
def cw6 (c : Cmd) : List UInt8 := cw5 c ++ encU c.sum
def cw7 (c : Cmd) : List UInt8 := cw6 c ++ encU c.disks.length ++ c.disks.flatMap encU
def cw8 (c : Cmd) : List UInt8 := cw7 c ++ encU c.pool ++ encU c.vol ++ encU c.at_
theorem cw8_eq (c : Cmd) : cw8 c = cmdB c := by simp [cw8, cw7, cw6, cw5, cw4, cw3, cw2, cmdB]
theorem wmax0 (n : Nat) : (max (n : Int) 0).toNat = n := by omega
theorem cwr2 (c : Cmd) : ([] : List UInt8) ++ [(c.kind : Int), (c.client : Int), (c.seq : Int)].flatMap (fun z => encU (max z 0).toNat) = cw2 c := by simp [cw2]
theorem cwr3 (c : Cmd) : cw2 c ++ [c.name].flatMap encS = cw3 c := by simp [cw3]
theorem cwr4 (c : Cmd) : cw3 c ++ [(c.blob : Int)].flatMap (fun z => encU z.toNat) = cw4 c := by simp [cw4]
theorem cwr5 (c : Cmd) : cw4 c ++ [(c.size : Int)].flatMap (fun z => encU (max z 0).toNat) = cw5 c := by simp [cw5]
theorem cwr6 (c : Cmd) : cw5 c ++ [(c.sum : Int)].flatMap (fun z => encU z.toNat) = cw6 c := by simp [cw6]
theorem Cmd.zs_len (c : Cmd) : c.zs.length = c.disks.length := by simp [Cmd.zs]
theorem encListN_sat {w0 w : World} {I : Part} {L : List HP} {e : Nat} {bs : List UInt8} (la : Option Addr) (cap n : Nat) (zs : List Int) (hn : zs.length = n) (h : Sat w0 I (enc e bs :: L) w) (hz : Rd I la (zs.map (Value.int .i64))) (hwf : ∀ z ∈ zs, z ≤ 9223372036854775807)
    (hsm : bs.length + 10 + 10 * n ≤ 1048576) (hlen : n ≤ 9223372036854775807) :
    Calls Tryz.prog 63 #[.pointer (some ⟨e, 0, none⟩), .slice la n cap] w
      fun r w' => r = .returned (.pointer (some ⟨e, 0, none⟩)) ∧ Sat w0 I (enc e (bs ++ encU n ++ zs.flatMap fun z => encU (max z 0).toNat) :: L) w' := by
  subst hn
  exact encList_sat la cap zs h hz hwf hsm hlen
theorem cwr7 (c : Cmd) : cw6 c ++ encU c.disks.length ++ c.zs.flatMap (fun z => encU (max z 0).toNat) = cw7 c := by
  unfold cw7 Cmd.zs
  rw [List.flatMap_map]
  simp only [wmax0]
theorem cwr8 (c : Cmd) : cw7 c ++ [(c.pool : Int), (c.vol : Int), (c.at_ : Int)].flatMap (fun z => encU (max z 0).toNat) = cw8 c := by simp [cw8]
theorem Cmd.Ok.zsb {c : Cmd} (h : c.Ok) : ∀ z ∈ c.zs, 0 ≤ z ∧ z ≤ 5 := fun z hz => by
  obtain ⟨n, hn, rfl⟩ := List.mem_map.1 hz
  have := h.mem n hn
  omega
def encW (c : Cmd) (e : Nat) : Nat → List HP
  | 0 => []
  | 1 => [enc e []]
  | 2 => [enc e (cw2 c)]
  | 3 => [enc e (cw3 c)]
  | 4 => [enc e (cw4 c)]
  | 5 => [enc e (cw5 c)]
  | _ + 6 => [enc e (cw6 c)]
def encW2 (c : Cmd) (e : Nat) : Nat → List HP
  | 0 => [enc e (cw6 c)]
  | 1 => [enc e (cw7 c)]
  | _ + 2 => [enc e (cw8 c)]

inductive cwPhi (w0 : World) (I : Part) (L : List HP) (c : Cmd) (rb : Nat) (da : Option Addr) (dc : Nat) (f : Nat → Bool) (w : World) : Act → Prop
  | mk (x0 x1 x2 x3 x4 x5 x6 x7 x8 x9 x10 x11 x12 x13 x14 x15 x16 x17 x18 x19 x20 x21 x22 x23 x24 x25 x26 : Value) (g7 g11 g15 g19 g24 e n : Nat) (J : Part) (hIJ : I.le J) (F0 : Hid (f 0 = true → x0 = (.pointer (some ⟨e, 0, none⟩) : Value))) (F1 : Hid (f 1 = true → x1 = (.pointer (some ⟨rb, 0, none⟩) : Value))) (F2 : Hid (f 2 = true → x2 = (.int .i64 (c.kind : Int) : Value))) (F3 : Hid (f 3 = true → x3 = (.pointer (some ⟨rb, 1, none⟩) : Value))) (F4 : Hid (f 4 = true → x4 = (.int .i64 (c.client : Int) : Value))) (F5 : Hid (f 5 = true → x5 = (.pointer (some ⟨rb, 2, none⟩) : Value))) (F6 : Hid (f 6 = true → x6 = (.int .i64 (c.seq : Int) : Value))) (F7 : Hid (f 7 = true → x7 = (.slice (some ⟨g7, 0, none⟩) 3 3 : Value) ∧ Rd J (some ⟨g7, 0, none⟩) [.int .i64 (c.kind : Int), .int .i64 (c.client : Int), .int .i64 (c.seq : Int)])) (F8 : Hid (f 8 = true → x8 = (.pointer (some ⟨e, 0, none⟩) : Value))) (F9 : Hid (f 9 = true → x9 = (.pointer (some ⟨rb, 3, none⟩) : Value))) (F10 : Hid (f 10 = true → x10 = (.string c.name : Value))) (F11 : Hid (f 11 = true → x11 = (.slice (some ⟨g11, 0, none⟩) 1 1 : Value) ∧ Rd J (some ⟨g11, 0, none⟩) [.string c.name])) (F12 : Hid (f 12 = true → x12 = (.pointer (some ⟨e, 0, none⟩) : Value))) (F13 : Hid (f 13 = true → x13 = (.pointer (some ⟨rb, 4, none⟩) : Value))) (F14 : Hid (f 14 = true → x14 = (.int .u64 (c.blob : Int) : Value))) (F15 : Hid (f 15 = true → x15 = (.slice (some ⟨g15, 0, none⟩) 1 1 : Value) ∧ Rd J (some ⟨g15, 0, none⟩) [.int .u64 (c.blob : Int)])) (F16 : Hid (f 16 = true → x16 = (.pointer (some ⟨e, 0, none⟩) : Value))) (F17 : Hid (f 17 = true → x17 = (.pointer (some ⟨rb, 5, none⟩) : Value))) (F18 : Hid (f 18 = true → x18 = (.int .i64 (c.size : Int) : Value))) (F19 : Hid (f 19 = true → x19 = (.slice (some ⟨g19, 0, none⟩) 1 1 : Value) ∧ Rd J (some ⟨g19, 0, none⟩) [.int .i64 (c.size : Int)])) (F20 : Hid (f 20 = true → x20 = (.pointer (some ⟨e, 0, none⟩) : Value))) (F21 : Hid (f 21 = true → x21 = (.pointer (some ⟨rb, 6, none⟩) : Value))) (F22 : Hid (f 22 = true → x22 = (.int .u32 (c.sum : Int) : Value))) (F23 : Hid (f 23 = true → x23 = (.int .u64 (c.sum : Int) : Value))) (F24 : Hid (f 24 = true → x24 = (.slice (some ⟨g24, 0, none⟩) 1 1 : Value) ∧ Rd J (some ⟨g24, 0, none⟩) [.int .u64 (c.sum : Int)])) (F25 : Hid (f 25 = true → x25 = (.pointer (some ⟨e, 0, none⟩) : Value))) (F26 : Hid (f 26 = true → x26 = (.pointer (some ⟨e, 0, none⟩) : Value) ∧ f 25 = true)) (C0 : Hid (f 0 = decide (0 < n))) (C1 : Hid (f 8 = decide (1 < n))) (C2 : Hid (f 12 = decide (2 < n))) (C3 : Hid (f 16 = decide (3 < n))) (C4 : Hid (f 20 = decide (4 < n))) (C5 : Hid (f 25 = decide (5 < n)))
    (HS : Hid (Sat w0 J (blk rb 54 (c.cells (.slice da c.disks.length dc)) :: (encW c e n ++ L)) w)) : cwPhi w0 I L c rb da dc f w ⟨#[.agg #[.int .i64 (c.kind : Int), .int .i64 (c.client : Int), .int .i64 (c.seq : Int), .string c.name, .int .u64 (c.blob : Int), .int .i64 (c.size : Int), .int .u32 (c.sum : Int), .slice da c.disks.length dc, .int .i64 (c.pool : Int), .int .i64 (c.vol : Int), .int .i64 (c.at_ : Int)], .pointer (some ⟨rb, 0, none⟩), .string ⟨#[]⟩, x26, x0, x1, x2, x3, x4, x5, x6, x7, x8, x9, x10, x11, x12, x13, x14, x15, x16, x17, x18, x19, x20, x21, x22, x23, x24, x25, undef, undef, undef, undef, undef, undef, undef, undef, undef, undef, undef, undef, undef], []⟩

inductive cwPhi2 (w0 : World) (I : Part) (L : List HP) (c : Cmd) (rb e : Nat) (da : Option Addr) (dc : Nat) (u4 u5 u6 u7 u8 u9 u10 u11 u12 u13 u14 u15 u16 u17 u18 u19 u20 u21 u22 u23 u24 u25 u26 u27 u28 u29 : Value) (f : Nat → Bool) (w : World) : Act → Prop
  | mk (x0 x1 x2 x3 x4 x5 x6 x7 x8 x9 x10 x11 x12 x13 : Value) (g10 n : Nat) (J : Part) (hIJ : I.le J) (F0 : Hid (f 0 = true → x0 = (.pointer (some ⟨e, 0, none⟩) : Value))) (F1 : Hid (f 1 = true → x1 = (.pointer (some ⟨rb, 7, none⟩) : Value))) (F2 : Hid (f 2 = true → x2 = (.slice da c.disks.length dc : Value))) (F3 : Hid (f 3 = true → x3 = (.pointer (some ⟨e, 0, none⟩) : Value))) (F4 : Hid (f 4 = true → x4 = (.pointer (some ⟨rb, 8, none⟩) : Value))) (F5 : Hid (f 5 = true → x5 = (.int .i64 (c.pool : Int) : Value))) (F6 : Hid (f 6 = true → x6 = (.pointer (some ⟨rb, 9, none⟩) : Value))) (F7 : Hid (f 7 = true → x7 = (.int .i64 (c.vol : Int) : Value))) (F8 : Hid (f 8 = true → x8 = (.pointer (some ⟨rb, 10, none⟩) : Value))) (F9 : Hid (f 9 = true → x9 = (.int .i64 (c.at_ : Int) : Value))) (F10 : Hid (f 10 = true → x10 = (.slice (some ⟨g10, 0, none⟩) 3 3 : Value) ∧ Rd J (some ⟨g10, 0, none⟩) [.int .i64 (c.pool : Int), .int .i64 (c.vol : Int), .int .i64 (c.at_ : Int)])) (F11 : Hid (f 11 = true → x11 = (.pointer (some ⟨e, 0, none⟩) : Value))) (F12 : Hid (f 12 = true → x12 = (.string ⟨(cw8 c).toArray⟩ : Value))) (F13 : Hid (f 13 = true → x13 = (.string ⟨(cw8 c).toArray⟩ : Value))) (C0 : Hid (f 3 = decide (0 < n))) (C1 : Hid (f 11 = decide (1 < n)))
    (HS : Hid (Sat w0 J (blk rb 54 (c.cells (.slice da c.disks.length dc)) :: (encW2 c e n ++ L)) w)) : cwPhi2 w0 I L c rb e da dc u4 u5 u6 u7 u8 u9 u10 u11 u12 u13 u14 u15 u16 u17 u18 u19 u20 u21 u22 u23 u24 u25 u26 u27 u28 u29 f w ⟨#[.agg #[.int .i64 (c.kind : Int), .int .i64 (c.client : Int), .int .i64 (c.seq : Int), .string c.name, .int .u64 (c.blob : Int), .int .i64 (c.size : Int), .int .u32 (c.sum : Int), .slice da c.disks.length dc, .int .i64 (c.pool : Int), .int .i64 (c.vol : Int), .int .i64 (c.at_ : Int)], .pointer (some ⟨rb, 0, none⟩), x13, .pointer (some ⟨e, 0, none⟩), u4, u5, u6, u7, u8, u9, u10, u11, u12, u13, u14, u15, u16, u17, u18, u19, u20, u21, u22, u23, u24, u25, u26, u27, u28, u29, x0, x1, x2, x3, x4, x5, x6, x7, x8, x9, x10, x11, x12], []⟩

set_option maxHeartbeats 20000000 in
theorem cwrite_sat {w0 w : World} {I : Part} {L : List HP} (c : Cmd) (hok : c.Ok) (da : Option Addr) (dc : Nat) (hd : Rd I da (c.zs.map (Value.int .i64))) (H : Sat w0 I L w) :
    Calls Tryz.prog 24 #[.agg #[.int .i64 (c.kind : Int), .int .i64 (c.client : Int), .int .i64 (c.seq : Int), .string c.name, .int .u64 (c.blob : Int), .int .i64 (c.size : Int), .int .u32 (c.sum : Int), .slice da c.disks.length dc, .int .i64 (c.pool : Int), .int .i64 (c.vol : Int), .int .i64 (c.at_ : Int)]] w fun r w' => r = .returned (.string ⟨(cmdB c).toArray⟩) ∧ Sat w0 I L w' := by
  have H0 := hid H
  have HDD := hid hd
  have h1 := hok.kind; have h2 := hok.client; have h3 := hok.seq; have h4 := hok.name; have h5 := hok.blob; have h6 := hok.size; have h7 := hok.sum; have h8 := hok.pool; have h9 := hok.vol; have h10 := hok.at_
  have HLE : Hid ((cw8 c).length ≤ 220) := hid (by rw [cw8_eq]; exact cmdB_len hok)
  have HZL := hid c.zs_len
  have HDL := hid hok.len
  have HZS := hid hok.zsb
  have HEQ := hid (cw8_eq c)
  have hws : IntKind.u64.wrap (c.sum : Int) = (c.sum : Int) := IntWalk.u64_in _ (by omega)
  clear H hd hok
  obtain ⟨rb, hrb⟩ : ∃ rb, w.heap.size = rb := ⟨_, rfl⟩
  go_enter Tryz.func24, Tryz.ntmps24
  go_upto_region 1 with fail
  try rw [hrb]
  have S1 := H0.out.alloc (b := rb) (T := 54) (cs := c.cells (.slice da c.disks.length dc)) rfl hrb.symm
  refine wp_gen (fun w1 => Sat w0 I (blk rb 54 (c.cells (.slice da c.disks.length dc)) :: L) w1) S1 ?_
  clear S1 H0 hrb
  intro w1 S1
  refine wp_region_inv (by kernel_rfl) (by kernel_rfl) (fun f a w => cwPhi w0 I L c rb da dc f w a) ?h0 ?hs ?he
  case h0 => exact cwPhi.mk _ _ _ _ _ _ _ _ _ _ _ _ _ _ _ _ _ _ _ _ _ _ _ _ _ _ _ 0 0 0 0 0 0 0 I (Part.le_refl _) (hid (fun h => by cases h)) (hid (fun h => by cases h)) (hid (fun h => by cases h)) (hid (fun h => by cases h)) (hid (fun h => by cases h)) (hid (fun h => by cases h)) (hid (fun h => by cases h)) (hid (fun h => by cases h)) (hid (fun h => by cases h)) (hid (fun h => by cases h)) (hid (fun h => by cases h)) (hid (fun h => by cases h)) (hid (fun h => by cases h)) (hid (fun h => by cases h)) (hid (fun h => by cases h)) (hid (fun h => by cases h)) (hid (fun h => by cases h)) (hid (fun h => by cases h)) (hid (fun h => by cases h)) (hid (fun h => by cases h)) (hid (fun h => by cases h)) (hid (fun h => by cases h)) (hid (fun h => by cases h)) (hid (fun h => by cases h)) (hid (fun h => by cases h)) (hid (fun h => by cases h)) (hid (fun h => by cases h)) (hid rfl) (hid rfl) (hid rfl) (hid rfl) (hid rfl) (hid rfl) (hid S1.drew)
  case hs =>
    clear S1
    rintro f a w i o ⟨x0, x1, x2, x3, x4, x5, x6, x7, x8, x9, x10, x11, x12, x13, x14, x15, x16, x17, x18, x19, x20, x21, x22, x23, x24, x25, x26, g7, g11, g15, g19, g24, e, n, J, hIJ, F0, F1, F2, F3, F4, F5, F6, F7, F8, F9, F10, F11, F12, F13, F14, F15, F16, F17, F18, F19, F20, F21, F22, F23, F24, F25, F26, C0, C1, C2, C3, C4, C5, HS⟩ ho hf hall K' hK
    have hi : i < 27 := (Array.getElem?_eq_some_iff.1 ho).1
    have hi2 : i = 0 ∨ i = 1 ∨ i = 2 ∨ i = 3 ∨ i = 4 ∨ i = 5 ∨ i = 6 ∨ i = 7 ∨ i = 8 ∨ i = 9 ∨ i = 10 ∨ i = 11 ∨ i = 12 ∨ i = 13 ∨ i = 14 ∨ i = 15 ∨ i = 16 ∨ i = 17 ∨ i = 18 ∨ i = 19 ∨ i = 20 ∨ i = 21 ∨ i = 22 ∨ i = 23 ∨ i = 24 ∨ i = 25 ∨ i = 26 := by omega
    clear hi
    rcases hi2 with rfl | rfl | rfl | rfl | rfl | rfl | rfl | rfl | rfl | rfl | rfl | rfl | rfl | rfl | rfl | rfl | rfl | rfl | rfl | rfl | rfl | rfl | rfl | rfl | rfl | rfl | rfl

    · obtain rfl := Option.some.inj ho
      have hn : n = 0 := by
        have h2 := C0.out; rw [hf] at h2; have h4 := of_decide_eq_false h2.symm; omega
      subst hn
      obtain ⟨en, hen⟩ : ∃ g, w.heap.size = g := ⟨_, rfl⟩
      have H2 := hid ((HS.out.encNew (b := en) hen.symm).swap)
      clear HS
      go_simp
      try rw [hen]
      exact hK _ _ (cwPhi.mk _ x1 x2 x3 x4 x5 x6 x7 x8 x9 x10 x11 x12 x13 x14 x15 x16 x17 x18 x19 x20 x21 x22 x23 x24 x25 x26 g7 g11 g15 g19 g24 en 1 J hIJ (hid (fun _ => rfl)) (F1) (F2) (F3) (F4) (F5) (F6) (F7) (hid (fun h => absurd (show f 8 = true from h) (by rw [C1.out]; decide))) (F9) (F10) (F11) (hid (fun h => absurd (show f 12 = true from h) (by rw [C2.out]; decide))) (F13) (F14) (F15) (hid (fun h => absurd (show f 16 = true from h) (by rw [C3.out]; decide))) (F17) (F18) (F19) (hid (fun h => absurd (show f 20 = true from h) (by rw [C4.out]; decide))) (F21) (F22) (F23) (F24) (hid (fun h => absurd (show f 25 = true from h) (by rw [C5.out]; decide))) (hid (fun h => absurd (F26.out h).2 (by rw [C5.out]; decide))) (hid rfl) (hid (C1.out.trans (by decide))) (hid (C2.out.trans (by decide))) (hid (C3.out.trans (by decide))) (hid (C4.out.trans (by decide))) (hid (C5.out.trans (by decide))) H2)
    · obtain rfl := Option.some.inj ho
      go_simp
      exact hK _ _ (cwPhi.mk x0 _ x2 x3 x4 x5 x6 x7 x8 x9 x10 x11 x12 x13 x14 x15 x16 x17 x18 x19 x20 x21 x22 x23 x24 x25 x26 g7 g11 g15 g19 g24 e n J hIJ (F0) (hid (fun _ => rfl)) (F2) (F3) (F4) (F5) (F6) (F7) (F8) (F9) (F10) (F11) (F12) (F13) (F14) (F15) (F16) (F17) (F18) (F19) (F20) (F21) (F22) (F23) (F24) (F25) (F26) (C0) (C1) (C2) (C3) (C4) (C5) HS)
    · obtain rfl := Option.some.inj ho
      have d1 : f 1 = true := hall { on := 1, ground := Ground.data } (by simp) (by rfl)
      obtain rfl := F1.out d1
      have c0 : w.cell? ⟨rb, 0, none⟩ = some (.int .i64 (c.kind : Int)) := HS.out.isBlk.cell 0 rfl
      go_simp
      exact hK _ _ (cwPhi.mk x0 _ _ x3 x4 x5 x6 x7 x8 x9 x10 x11 x12 x13 x14 x15 x16 x17 x18 x19 x20 x21 x22 x23 x24 x25 x26 g7 g11 g15 g19 g24 e n J hIJ (F0) (F1) (hid (fun _ => rfl)) (F3) (F4) (F5) (F6) (F7) (F8) (F9) (F10) (F11) (F12) (F13) (F14) (F15) (F16) (F17) (F18) (F19) (F20) (F21) (F22) (F23) (F24) (F25) (F26) (C0) (C1) (C2) (C3) (C4) (C5) HS)
    · obtain rfl := Option.some.inj ho
      go_simp
      exact hK _ _ (cwPhi.mk x0 x1 x2 _ x4 x5 x6 x7 x8 x9 x10 x11 x12 x13 x14 x15 x16 x17 x18 x19 x20 x21 x22 x23 x24 x25 x26 g7 g11 g15 g19 g24 e n J hIJ (F0) (F1) (F2) (hid (fun _ => rfl)) (F4) (F5) (F6) (F7) (F8) (F9) (F10) (F11) (F12) (F13) (F14) (F15) (F16) (F17) (F18) (F19) (F20) (F21) (F22) (F23) (F24) (F25) (F26) (C0) (C1) (C2) (C3) (C4) (C5) HS)
    · obtain rfl := Option.some.inj ho
      have d3 : f 3 = true := hall { on := 3, ground := Ground.data } (by simp) (by rfl)
      obtain rfl := F3.out d3
      have c0 : w.cell? ⟨rb, 1, none⟩ = some (.int .i64 (c.client : Int)) := HS.out.isBlk.cell 1 rfl
      go_simp
      exact hK _ _ (cwPhi.mk x0 x1 x2 _ _ x5 x6 x7 x8 x9 x10 x11 x12 x13 x14 x15 x16 x17 x18 x19 x20 x21 x22 x23 x24 x25 x26 g7 g11 g15 g19 g24 e n J hIJ (F0) (F1) (F2) (F3) (hid (fun _ => rfl)) (F5) (F6) (F7) (F8) (F9) (F10) (F11) (F12) (F13) (F14) (F15) (F16) (F17) (F18) (F19) (F20) (F21) (F22) (F23) (F24) (F25) (F26) (C0) (C1) (C2) (C3) (C4) (C5) HS)
    · obtain rfl := Option.some.inj ho
      go_simp
      exact hK _ _ (cwPhi.mk x0 x1 x2 x3 x4 _ x6 x7 x8 x9 x10 x11 x12 x13 x14 x15 x16 x17 x18 x19 x20 x21 x22 x23 x24 x25 x26 g7 g11 g15 g19 g24 e n J hIJ (F0) (F1) (F2) (F3) (F4) (hid (fun _ => rfl)) (F6) (F7) (F8) (F9) (F10) (F11) (F12) (F13) (F14) (F15) (F16) (F17) (F18) (F19) (F20) (F21) (F22) (F23) (F24) (F25) (F26) (C0) (C1) (C2) (C3) (C4) (C5) HS)
    · obtain rfl := Option.some.inj ho
      have d5 : f 5 = true := hall { on := 5, ground := Ground.data } (by simp) (by rfl)
      obtain rfl := F5.out d5
      have c0 : w.cell? ⟨rb, 2, none⟩ = some (.int .i64 (c.seq : Int)) := HS.out.isBlk.cell 2 rfl
      go_simp
      exact hK _ _ (cwPhi.mk x0 x1 x2 x3 x4 _ _ x7 x8 x9 x10 x11 x12 x13 x14 x15 x16 x17 x18 x19 x20 x21 x22 x23 x24 x25 x26 g7 g11 g15 g19 g24 e n J hIJ (F0) (F1) (F2) (F3) (F4) (F5) (hid (fun _ => rfl)) (F7) (F8) (F9) (F10) (F11) (F12) (F13) (F14) (F15) (F16) (F17) (F18) (F19) (F20) (F21) (F22) (F23) (F24) (F25) (F26) (C0) (C1) (C2) (C3) (C4) (C5) HS)
    · obtain rfl := Option.some.inj ho
      have d2 : f 2 = true := hall { on := 2, ground := Ground.data } (by simp) (by rfl)
      have d4 : f 4 = true := hall { on := 4, ground := Ground.data } (by simp) (by rfl)
      have d6 : f 6 = true := hall { on := 6, ground := Ground.data } (by simp) (by rfl)
      obtain rfl := F2.out d2
      obtain rfl := F4.out d4
      obtain rfl := F6.out d6
      obtain ⟨gn, hgn⟩ : ∃ g, w.heap.size = g := ⟨_, rfl⟩
      obtain ⟨J2, hJ2, S1, hrd⟩ := (HS.out.alloc (b := gn) (T := 3) (cs := [.int .i64 (c.kind : Int), .int .i64 (c.client : Int), .int .i64 (c.seq : Int)]) rfl hgn.symm).freezeBlk
      have H2 := hid S1
      have HRD := hid hrd
      clear S1 hrd HS
      go_simp
      try rw [hgn]
      exact hK _ _ (cwPhi.mk x0 x1 _ x3 _ x5 _ _ x8 x9 x10 x11 x12 x13 x14 x15 x16 x17 x18 x19 x20 x21 x22 x23 x24 x25 x26 gn g11 g15 g19 g24 e n J2 (Part.le_trans hIJ hJ2) (F0) (F1) (F2) (F3) (F4) (F5) (F6) (hid (fun _ => ⟨rfl, HRD.out⟩)) (F8) (F9) (F10) (hid (fun h => ⟨(F11.out h).1, (F11.out h).2.mono hJ2⟩)) (F12) (F13) (F14) (hid (fun h => ⟨(F15.out h).1, (F15.out h).2.mono hJ2⟩)) (F16) (F17) (F18) (hid (fun h => ⟨(F19.out h).1, (F19.out h).2.mono hJ2⟩)) (F20) (F21) (F22) (F23) (hid (fun h => ⟨(F24.out h).1, (F24.out h).2.mono hJ2⟩)) (F25) (F26) (C0) (C1) (C2) (C3) (C4) (C5) H2)
    · obtain rfl := Option.some.inj ho
      have d0 : f 0 = true := hall { on := 0, ground := Ground.data } (by simp) (by rfl)
      have d7 : f 7 = true := hall { on := 7, ground := Ground.data } (by simp) (by rfl)
      obtain rfl := F0.out d0
      obtain ⟨rfl, hrd⟩ := F7.out d7
      have HRD := hid hrd
      clear hrd
      have hn : n = 1 := by
        have h1 := C0.out; rw [d0] at h1; have h3 := of_decide_eq_true h1.symm
        have h2 := C1.out; rw [hf] at h2; have h4 := of_decide_eq_false h2.symm
        omega
      subst hn
      go_simp
      go_at_call 61
      refine (encI_sat (some ⟨g7, 0, none⟩) 3 [(c.kind : Int), (c.client : Int), (c.seq : Int)] HS.out.swap HRD.out (by intro z hz; simp only [List.mem_cons, List.not_mem_nil, or_false] at hz; omega) (by simp) (by simp)).mono ?_
      rintro r w5 ⟨rfl, S5⟩
      rw [cwr2] at S5
      have H5 := hid S5.swap
      clear S5 HS
      exact hK _ _ (cwPhi.mk _ x1 x2 x3 x4 x5 x6 _ _ x9 x10 x11 x12 x13 x14 x15 x16 x17 x18 x19 x20 x21 x22 x23 x24 x25 x26 g7 g11 g15 g19 g24 e 2 J hIJ (F0) (F1) (F2) (F3) (F4) (F5) (F6) (F7) (hid (fun _ => rfl)) (F9) (F10) (F11) (F12) (F13) (F14) (F15) (F16) (F17) (F18) (F19) (F20) (F21) (F22) (F23) (F24) (F25) (F26) (hid (C0.out.trans (by decide))) (hid rfl) (hid (C2.out.trans (by decide))) (hid (C3.out.trans (by decide))) (hid (C4.out.trans (by decide))) (hid (C5.out.trans (by decide))) H5)
    · obtain rfl := Option.some.inj ho
      go_simp
      exact hK _ _ (cwPhi.mk x0 x1 x2 x3 x4 x5 x6 x7 x8 _ x10 x11 x12 x13 x14 x15 x16 x17 x18 x19 x20 x21 x22 x23 x24 x25 x26 g7 g11 g15 g19 g24 e n J hIJ (F0) (F1) (F2) (F3) (F4) (F5) (F6) (F7) (F8) (hid (fun _ => rfl)) (F10) (F11) (F12) (F13) (F14) (F15) (F16) (F17) (F18) (F19) (F20) (F21) (F22) (F23) (F24) (F25) (F26) (C0) (C1) (C2) (C3) (C4) (C5) HS)
    · obtain rfl := Option.some.inj ho
      have d9 : f 9 = true := hall { on := 9, ground := Ground.data } (by simp) (by rfl)
      obtain rfl := F9.out d9
      have c0 : w.cell? ⟨rb, 3, none⟩ = some (.string c.name) := HS.out.isBlk.cell 3 rfl
      go_simp
      exact hK _ _ (cwPhi.mk x0 x1 x2 x3 x4 x5 x6 x7 x8 _ _ x11 x12 x13 x14 x15 x16 x17 x18 x19 x20 x21 x22 x23 x24 x25 x26 g7 g11 g15 g19 g24 e n J hIJ (F0) (F1) (F2) (F3) (F4) (F5) (F6) (F7) (F8) (F9) (hid (fun _ => rfl)) (F11) (F12) (F13) (F14) (F15) (F16) (F17) (F18) (F19) (F20) (F21) (F22) (F23) (F24) (F25) (F26) (C0) (C1) (C2) (C3) (C4) (C5) HS)
    · obtain rfl := Option.some.inj ho
      have d10 : f 10 = true := hall { on := 10, ground := Ground.data } (by simp) (by rfl)
      obtain rfl := F10.out d10
      obtain ⟨gn, hgn⟩ : ∃ g, w.heap.size = g := ⟨_, rfl⟩
      obtain ⟨J2, hJ2, S1, hrd⟩ := (HS.out.alloc (b := gn) (T := 9) (cs := [.string c.name]) rfl hgn.symm).freezeBlk
      have H2 := hid S1
      have HRD := hid hrd
      clear S1 hrd HS
      go_simp
      try rw [hgn]
      exact hK _ _ (cwPhi.mk x0 x1 x2 x3 x4 x5 x6 x7 x8 x9 _ _ x12 x13 x14 x15 x16 x17 x18 x19 x20 x21 x22 x23 x24 x25 x26 g7 gn g15 g19 g24 e n J2 (Part.le_trans hIJ hJ2) (F0) (F1) (F2) (F3) (F4) (F5) (F6) (hid (fun h => ⟨(F7.out h).1, (F7.out h).2.mono hJ2⟩)) (F8) (F9) (F10) (hid (fun _ => ⟨rfl, HRD.out⟩)) (F12) (F13) (F14) (hid (fun h => ⟨(F15.out h).1, (F15.out h).2.mono hJ2⟩)) (F16) (F17) (F18) (hid (fun h => ⟨(F19.out h).1, (F19.out h).2.mono hJ2⟩)) (F20) (F21) (F22) (F23) (hid (fun h => ⟨(F24.out h).1, (F24.out h).2.mono hJ2⟩)) (F25) (F26) (C0) (C1) (C2) (C3) (C4) (C5) H2)
    · obtain rfl := Option.some.inj ho
      have d8 : f 8 = true := hall { on := 8, ground := Ground.data } (by simp) (by rfl)
      have d11 : f 11 = true := hall { on := 11, ground := Ground.data } (by simp) (by rfl)
      obtain rfl := F8.out d8
      obtain ⟨rfl, hrd⟩ := F11.out d11
      have HRD := hid hrd
      clear hrd
      have hn : n = 2 := by
        have h1 := C1.out; rw [d8] at h1; have h3 := of_decide_eq_true h1.symm
        have h2 := C2.out; rw [hf] at h2; have h4 := of_decide_eq_false h2.symm
        omega
      subst hn
      go_simp
      go_at_call 62
      refine (encS_sat (some ⟨g11, 0, none⟩) 1 [c.name] 4000 HS.out.swap HRD.out (by intro s hs; simp only [List.mem_cons, List.not_mem_nil, or_false] at hs; subst hs; omega) (by have := HLE.out; simp only [cw8, cw7, cw6, cw5, cw4, cw3, cw2, List.length_append, List.length_cons, List.length_nil] at this ⊢; omega) (by omega) (by simp)).mono ?_
      rintro r w5 ⟨rfl, S5⟩
      rw [cwr3] at S5
      have H5 := hid S5.swap
      clear S5 HS
      exact hK _ _ (cwPhi.mk x0 x1 x2 x3 x4 x5 x6 x7 _ x9 x10 _ _ x13 x14 x15 x16 x17 x18 x19 x20 x21 x22 x23 x24 x25 x26 g7 g11 g15 g19 g24 e 3 J hIJ (F0) (F1) (F2) (F3) (F4) (F5) (F6) (F7) (F8) (F9) (F10) (F11) (hid (fun _ => rfl)) (F13) (F14) (F15) (F16) (F17) (F18) (F19) (F20) (F21) (F22) (F23) (F24) (F25) (F26) (hid (C0.out.trans (by decide))) (hid (C1.out.trans (by decide))) (hid rfl) (hid (C3.out.trans (by decide))) (hid (C4.out.trans (by decide))) (hid (C5.out.trans (by decide))) H5)
    · obtain rfl := Option.some.inj ho
      go_simp
      exact hK _ _ (cwPhi.mk x0 x1 x2 x3 x4 x5 x6 x7 x8 x9 x10 x11 x12 _ x14 x15 x16 x17 x18 x19 x20 x21 x22 x23 x24 x25 x26 g7 g11 g15 g19 g24 e n J hIJ (F0) (F1) (F2) (F3) (F4) (F5) (F6) (F7) (F8) (F9) (F10) (F11) (F12) (hid (fun _ => rfl)) (F14) (F15) (F16) (F17) (F18) (F19) (F20) (F21) (F22) (F23) (F24) (F25) (F26) (C0) (C1) (C2) (C3) (C4) (C5) HS)
    · obtain rfl := Option.some.inj ho
      have d13 : f 13 = true := hall { on := 13, ground := Ground.data } (by simp) (by rfl)
      obtain rfl := F13.out d13
      have c0 : w.cell? ⟨rb, 4, none⟩ = some (.int .u64 (c.blob : Int)) := HS.out.isBlk.cell 4 rfl
      go_simp
      exact hK _ _ (cwPhi.mk x0 x1 x2 x3 x4 x5 x6 x7 x8 x9 x10 x11 x12 _ _ x15 x16 x17 x18 x19 x20 x21 x22 x23 x24 x25 x26 g7 g11 g15 g19 g24 e n J hIJ (F0) (F1) (F2) (F3) (F4) (F5) (F6) (F7) (F8) (F9) (F10) (F11) (F12) (F13) (hid (fun _ => rfl)) (F15) (F16) (F17) (F18) (F19) (F20) (F21) (F22) (F23) (F24) (F25) (F26) (C0) (C1) (C2) (C3) (C4) (C5) HS)
    · obtain rfl := Option.some.inj ho
      have d14 : f 14 = true := hall { on := 14, ground := Ground.data } (by simp) (by rfl)
      obtain rfl := F14.out d14
      obtain ⟨gn, hgn⟩ : ∃ g, w.heap.size = g := ⟨_, rfl⟩
      obtain ⟨J2, hJ2, S1, hrd⟩ := (HS.out.alloc (b := gn) (T := 34) (cs := [.int .u64 (c.blob : Int)]) rfl hgn.symm).freezeBlk
      have H2 := hid S1
      have HRD := hid hrd
      clear S1 hrd HS
      go_simp
      try rw [hgn]
      exact hK _ _ (cwPhi.mk x0 x1 x2 x3 x4 x5 x6 x7 x8 x9 x10 x11 x12 x13 _ _ x16 x17 x18 x19 x20 x21 x22 x23 x24 x25 x26 g7 g11 gn g19 g24 e n J2 (Part.le_trans hIJ hJ2) (F0) (F1) (F2) (F3) (F4) (F5) (F6) (hid (fun h => ⟨(F7.out h).1, (F7.out h).2.mono hJ2⟩)) (F8) (F9) (F10) (hid (fun h => ⟨(F11.out h).1, (F11.out h).2.mono hJ2⟩)) (F12) (F13) (F14) (hid (fun _ => ⟨rfl, HRD.out⟩)) (F16) (F17) (F18) (hid (fun h => ⟨(F19.out h).1, (F19.out h).2.mono hJ2⟩)) (F20) (F21) (F22) (F23) (hid (fun h => ⟨(F24.out h).1, (F24.out h).2.mono hJ2⟩)) (F25) (F26) (C0) (C1) (C2) (C3) (C4) (C5) H2)
    · obtain rfl := Option.some.inj ho
      have d12 : f 12 = true := hall { on := 12, ground := Ground.data } (by simp) (by rfl)
      have d15 : f 15 = true := hall { on := 15, ground := Ground.data } (by simp) (by rfl)
      obtain rfl := F12.out d12
      obtain ⟨rfl, hrd⟩ := F15.out d15
      have HRD := hid hrd
      clear hrd
      have hn : n = 3 := by
        have h1 := C2.out; rw [d12] at h1; have h3 := of_decide_eq_true h1.symm
        have h2 := C3.out; rw [hf] at h2; have h4 := of_decide_eq_false h2.symm
        omega
      subst hn
      go_simp
      go_at_call 34
      refine (encU_sat (some ⟨g15, 0, none⟩) 1 [(c.blob : Int)] HS.out.swap HRD.out (by intro z hz; simp only [List.mem_cons, List.not_mem_nil, or_false] at hz; omega) (by have := HLE.out; simp only [cw8, cw7, cw6, cw5, cw4, cw3, cw2, List.length_append, List.length_cons, List.length_nil] at this ⊢; omega) (by simp)).mono ?_
      rintro r w5 ⟨rfl, S5⟩
      rw [cwr4] at S5
      have H5 := hid S5.swap
      clear S5 HS
      exact hK _ _ (cwPhi.mk x0 x1 x2 x3 x4 x5 x6 x7 x8 x9 x10 x11 _ x13 x14 _ _ x17 x18 x19 x20 x21 x22 x23 x24 x25 x26 g7 g11 g15 g19 g24 e 4 J hIJ (F0) (F1) (F2) (F3) (F4) (F5) (F6) (F7) (F8) (F9) (F10) (F11) (F12) (F13) (F14) (F15) (hid (fun _ => rfl)) (F17) (F18) (F19) (F20) (F21) (F22) (F23) (F24) (F25) (F26) (hid (C0.out.trans (by decide))) (hid (C1.out.trans (by decide))) (hid (C2.out.trans (by decide))) (hid rfl) (hid (C4.out.trans (by decide))) (hid (C5.out.trans (by decide))) H5)
    · obtain rfl := Option.some.inj ho
      go_simp
      exact hK _ _ (cwPhi.mk x0 x1 x2 x3 x4 x5 x6 x7 x8 x9 x10 x11 x12 x13 x14 x15 x16 _ x18 x19 x20 x21 x22 x23 x24 x25 x26 g7 g11 g15 g19 g24 e n J hIJ (F0) (F1) (F2) (F3) (F4) (F5) (F6) (F7) (F8) (F9) (F10) (F11) (F12) (F13) (F14) (F15) (F16) (hid (fun _ => rfl)) (F18) (F19) (F20) (F21) (F22) (F23) (F24) (F25) (F26) (C0) (C1) (C2) (C3) (C4) (C5) HS)
    · obtain rfl := Option.some.inj ho
      have d17 : f 17 = true := hall { on := 17, ground := Ground.data } (by simp) (by rfl)
      obtain rfl := F17.out d17
      have c0 : w.cell? ⟨rb, 5, none⟩ = some (.int .i64 (c.size : Int)) := HS.out.isBlk.cell 5 rfl
      go_simp
      exact hK _ _ (cwPhi.mk x0 x1 x2 x3 x4 x5 x6 x7 x8 x9 x10 x11 x12 x13 x14 x15 x16 _ _ x19 x20 x21 x22 x23 x24 x25 x26 g7 g11 g15 g19 g24 e n J hIJ (F0) (F1) (F2) (F3) (F4) (F5) (F6) (F7) (F8) (F9) (F10) (F11) (F12) (F13) (F14) (F15) (F16) (F17) (hid (fun _ => rfl)) (F19) (F20) (F21) (F22) (F23) (F24) (F25) (F26) (C0) (C1) (C2) (C3) (C4) (C5) HS)
    · obtain rfl := Option.some.inj ho
      have d18 : f 18 = true := hall { on := 18, ground := Ground.data } (by simp) (by rfl)
      obtain rfl := F18.out d18
      obtain ⟨gn, hgn⟩ : ∃ g, w.heap.size = g := ⟨_, rfl⟩
      obtain ⟨J2, hJ2, S1, hrd⟩ := (HS.out.alloc (b := gn) (T := 3) (cs := [.int .i64 (c.size : Int)]) rfl hgn.symm).freezeBlk
      have H2 := hid S1
      have HRD := hid hrd
      clear S1 hrd HS
      go_simp
      try rw [hgn]
      exact hK _ _ (cwPhi.mk x0 x1 x2 x3 x4 x5 x6 x7 x8 x9 x10 x11 x12 x13 x14 x15 x16 x17 _ _ x20 x21 x22 x23 x24 x25 x26 g7 g11 g15 gn g24 e n J2 (Part.le_trans hIJ hJ2) (F0) (F1) (F2) (F3) (F4) (F5) (F6) (hid (fun h => ⟨(F7.out h).1, (F7.out h).2.mono hJ2⟩)) (F8) (F9) (F10) (hid (fun h => ⟨(F11.out h).1, (F11.out h).2.mono hJ2⟩)) (F12) (F13) (F14) (hid (fun h => ⟨(F15.out h).1, (F15.out h).2.mono hJ2⟩)) (F16) (F17) (F18) (hid (fun _ => ⟨rfl, HRD.out⟩)) (F20) (F21) (F22) (F23) (hid (fun h => ⟨(F24.out h).1, (F24.out h).2.mono hJ2⟩)) (F25) (F26) (C0) (C1) (C2) (C3) (C4) (C5) H2)
    · obtain rfl := Option.some.inj ho
      have d16 : f 16 = true := hall { on := 16, ground := Ground.data } (by simp) (by rfl)
      have d19 : f 19 = true := hall { on := 19, ground := Ground.data } (by simp) (by rfl)
      obtain rfl := F16.out d16
      obtain ⟨rfl, hrd⟩ := F19.out d19
      have HRD := hid hrd
      clear hrd
      have hn : n = 4 := by
        have h1 := C3.out; rw [d16] at h1; have h3 := of_decide_eq_true h1.symm
        have h2 := C4.out; rw [hf] at h2; have h4 := of_decide_eq_false h2.symm
        omega
      subst hn
      go_simp
      go_at_call 61
      refine (encI_sat (some ⟨g19, 0, none⟩) 1 [(c.size : Int)] HS.out.swap HRD.out (by intro z hz; simp only [List.mem_cons, List.not_mem_nil, or_false] at hz; omega) (by have := HLE.out; simp only [cw8, cw7, cw6, cw5, cw4, cw3, cw2, List.length_append, List.length_cons, List.length_nil] at this ⊢; omega) (by simp)).mono ?_
      rintro r w5 ⟨rfl, S5⟩
      rw [cwr5] at S5
      have H5 := hid S5.swap
      clear S5 HS
      exact hK _ _ (cwPhi.mk x0 x1 x2 x3 x4 x5 x6 x7 x8 x9 x10 x11 x12 x13 x14 x15 _ x17 x18 _ _ x21 x22 x23 x24 x25 x26 g7 g11 g15 g19 g24 e 5 J hIJ (F0) (F1) (F2) (F3) (F4) (F5) (F6) (F7) (F8) (F9) (F10) (F11) (F12) (F13) (F14) (F15) (F16) (F17) (F18) (F19) (hid (fun _ => rfl)) (F21) (F22) (F23) (F24) (F25) (F26) (hid (C0.out.trans (by decide))) (hid (C1.out.trans (by decide))) (hid (C2.out.trans (by decide))) (hid (C3.out.trans (by decide))) (hid rfl) (hid (C5.out.trans (by decide))) H5)
    · obtain rfl := Option.some.inj ho
      go_simp
      exact hK _ _ (cwPhi.mk x0 x1 x2 x3 x4 x5 x6 x7 x8 x9 x10 x11 x12 x13 x14 x15 x16 x17 x18 x19 x20 _ x22 x23 x24 x25 x26 g7 g11 g15 g19 g24 e n J hIJ (F0) (F1) (F2) (F3) (F4) (F5) (F6) (F7) (F8) (F9) (F10) (F11) (F12) (F13) (F14) (F15) (F16) (F17) (F18) (F19) (F20) (hid (fun _ => rfl)) (F22) (F23) (F24) (F25) (F26) (C0) (C1) (C2) (C3) (C4) (C5) HS)
    · obtain rfl := Option.some.inj ho
      have d21 : f 21 = true := hall { on := 21, ground := Ground.data } (by simp) (by rfl)
      obtain rfl := F21.out d21
      have c0 : w.cell? ⟨rb, 6, none⟩ = some (.int .u32 (c.sum : Int)) := HS.out.isBlk.cell 6 rfl
      go_simp
      exact hK _ _ (cwPhi.mk x0 x1 x2 x3 x4 x5 x6 x7 x8 x9 x10 x11 x12 x13 x14 x15 x16 x17 x18 x19 x20 _ _ x23 x24 x25 x26 g7 g11 g15 g19 g24 e n J hIJ (F0) (F1) (F2) (F3) (F4) (F5) (F6) (F7) (F8) (F9) (F10) (F11) (F12) (F13) (F14) (F15) (F16) (F17) (F18) (F19) (F20) (F21) (hid (fun _ => rfl)) (F23) (F24) (F25) (F26) (C0) (C1) (C2) (C3) (C4) (C5) HS)
    · obtain rfl := Option.some.inj ho
      have d22 : f 22 = true := hall { on := 22, ground := Ground.data } (by simp) (by rfl)
      obtain rfl := F22.out d22
      go_simp
      exact hK _ _ (cwPhi.mk x0 x1 x2 x3 x4 x5 x6 x7 x8 x9 x10 x11 x12 x13 x14 x15 x16 x17 x18 x19 x20 x21 _ _ x24 x25 x26 g7 g11 g15 g19 g24 e n J hIJ (F0) (F1) (F2) (F3) (F4) (F5) (F6) (F7) (F8) (F9) (F10) (F11) (F12) (F13) (F14) (F15) (F16) (F17) (F18) (F19) (F20) (F21) (F22) (hid (fun _ => rfl)) (F24) (F25) (F26) (C0) (C1) (C2) (C3) (C4) (C5) HS)
    · obtain rfl := Option.some.inj ho
      have d23 : f 23 = true := hall { on := 23, ground := Ground.data } (by simp) (by rfl)
      obtain rfl := F23.out d23
      obtain ⟨gn, hgn⟩ : ∃ g, w.heap.size = g := ⟨_, rfl⟩
      obtain ⟨J2, hJ2, S1, hrd⟩ := (HS.out.alloc (b := gn) (T := 34) (cs := [.int .u64 (c.sum : Int)]) rfl hgn.symm).freezeBlk
      have H2 := hid S1
      have HRD := hid hrd
      clear S1 hrd HS
      go_simp
      try rw [hgn]
      exact hK _ _ (cwPhi.mk x0 x1 x2 x3 x4 x5 x6 x7 x8 x9 x10 x11 x12 x13 x14 x15 x16 x17 x18 x19 x20 x21 x22 _ _ x25 x26 g7 g11 g15 g19 gn e n J2 (Part.le_trans hIJ hJ2) (F0) (F1) (F2) (F3) (F4) (F5) (F6) (hid (fun h => ⟨(F7.out h).1, (F7.out h).2.mono hJ2⟩)) (F8) (F9) (F10) (hid (fun h => ⟨(F11.out h).1, (F11.out h).2.mono hJ2⟩)) (F12) (F13) (F14) (hid (fun h => ⟨(F15.out h).1, (F15.out h).2.mono hJ2⟩)) (F16) (F17) (F18) (hid (fun h => ⟨(F19.out h).1, (F19.out h).2.mono hJ2⟩)) (F20) (F21) (F22) (F23) (hid (fun _ => ⟨rfl, HRD.out⟩)) (F25) (F26) (C0) (C1) (C2) (C3) (C4) (C5) H2)
    · obtain rfl := Option.some.inj ho
      have d20 : f 20 = true := hall { on := 20, ground := Ground.data } (by simp) (by rfl)
      have d24 : f 24 = true := hall { on := 24, ground := Ground.data } (by simp) (by rfl)
      obtain rfl := F20.out d20
      obtain ⟨rfl, hrd⟩ := F24.out d24
      have HRD := hid hrd
      clear hrd
      have hn : n = 5 := by
        have h1 := C4.out; rw [d20] at h1; have h3 := of_decide_eq_true h1.symm
        have h2 := C5.out; rw [hf] at h2; have h4 := of_decide_eq_false h2.symm
        omega
      subst hn
      go_simp
      go_at_call 34
      refine (encU_sat (some ⟨g24, 0, none⟩) 1 [(c.sum : Int)] HS.out.swap HRD.out (by intro z hz; simp only [List.mem_cons, List.not_mem_nil, or_false] at hz; omega) (by have := HLE.out; simp only [cw8, cw7, cw6, cw5, cw4, cw3, cw2, List.length_append, List.length_cons, List.length_nil] at this ⊢; omega) (by simp)).mono ?_
      rintro r w5 ⟨rfl, S5⟩
      rw [cwr6] at S5
      have H5 := hid S5.swap
      clear S5 HS
      exact hK _ _ (cwPhi.mk x0 x1 x2 x3 x4 x5 x6 x7 x8 x9 x10 x11 x12 x13 x14 x15 x16 x17 x18 x19 _ x21 x22 x23 _ _ x26 g7 g11 g15 g19 g24 e 6 J hIJ (F0) (F1) (F2) (F3) (F4) (F5) (F6) (F7) (F8) (F9) (F10) (F11) (F12) (F13) (F14) (F15) (F16) (F17) (F18) (F19) (F20) (F21) (F22) (F23) (F24) (hid (fun _ => rfl)) (hid (fun h => ⟨(F26.out h).1, rfl⟩)) (hid (C0.out.trans (by decide))) (hid (C1.out.trans (by decide))) (hid (C2.out.trans (by decide))) (hid (C3.out.trans (by decide))) (hid (C4.out.trans (by decide))) (hid rfl) H5)
    · obtain rfl := Option.some.inj ho
      have d25 : f 25 = true := hall { on := 25, ground := Ground.data } (by simp) (by rfl)
      obtain rfl := F25.out d25
      go_simp
      exact hK _ _ (cwPhi.mk x0 x1 x2 x3 x4 x5 x6 x7 x8 x9 x10 x11 x12 x13 x14 x15 x16 x17 x18 x19 x20 x21 x22 x23 x24 _ _ g7 g11 g15 g19 g24 e n J hIJ (F0) (F1) (F2) (F3) (F4) (F5) (F6) (F7) (F8) (F9) (F10) (F11) (F12) (F13) (F14) (F15) (F16) (F17) (F18) (F19) (F20) (F21) (F22) (F23) (F24) (F25) (hid (fun _ => ⟨rfl, d25⟩)) (C0) (C1) (C2) (C3) (C4) (C5) HS)
  case he =>
    clear S1
    rintro f a w ⟨x0, x1, x2, x3, x4, x5, x6, x7, x8, x9, x10, x11, x12, x13, x14, x15, x16, x17, x18, x19, x20, x21, x22, x23, x24, x25, x26, g7, g11, g15, g19, g24, e, n, J, hIJ, F0, F1, F2, F3, F4, F5, F6, F7, F8, F9, F10, F11, F12, F13, F14, F15, F16, F17, F18, F19, F20, F21, F22, F23, F24, F25, F26, C0, C1, C2, C3, C4, C5, HS⟩ hall
    have h26 := hall 26 (by decide)
    have h25 := hall 25 (by decide)
    have hn : 5 < n := by
      have h1 := C5.out; rw [h25] at h1; exact of_decide_eq_true h1.symm
    obtain ⟨m, rfl⟩ : ∃ m, n = m + 6 := ⟨n - 6, by omega⟩
    obtain rfl := (F26.out h26).1
    have HDD := hid (HDD.out.mono hIJ)
    have H1 := hid (show Sat w0 J (blk rb 54 (c.cells (.slice da c.disks.length dc)) :: enc e (cw6 c) :: L) w from HS.out)
    have HIJ := hid hIJ
    clear HS hn h26 h25 hall hIJ F0 F1 F2 F3 F4 F5 F6 F7 F8 F9 F10 F11 F12 F13 F14 F15 F16 F17 F18 F19 F20 F21 F22 F23 F24 F25 F26 C0 C1 C2 C3 C4 C5
    go_upto_region 2 with fail
    refine wp_region_inv (by kernel_rfl) (by kernel_rfl) (fun f a w => cwPhi2 w0 J L c rb e da dc x0 x1 x2 x3 x4 x5 x6 x7 x8 x9 x10 x11 x12 x13 x14 x15 x16 x17 x18 x19 x20 x21 x22 x23 x24 x25 f w a) ?h0 ?hs ?he
    case h0 => exact cwPhi2.mk _ _ _ _ _ _ _ _ _ _ _ _ _ _ 0 0 J (Part.le_refl _) (hid (fun h => by cases h)) (hid (fun h => by cases h)) (hid (fun h => by cases h)) (hid (fun h => by cases h)) (hid (fun h => by cases h)) (hid (fun h => by cases h)) (hid (fun h => by cases h)) (hid (fun h => by cases h)) (hid (fun h => by cases h)) (hid (fun h => by cases h)) (hid (fun h => by cases h)) (hid (fun h => by cases h)) (hid (fun h => by cases h)) (hid (fun h => by cases h)) (hid rfl) (hid rfl) (hid H1.out.drew)
    case hs =>
      clear H1
      rintro f a w i o ⟨x0, x1, x2, x3, x4, x5, x6, x7, x8, x9, x10, x11, x12, x13, g10, n, J, hIJ, F0, F1, F2, F3, F4, F5, F6, F7, F8, F9, F10, F11, F12, F13, C0, C1, HS⟩ ho hf hall K' hK
      have hi : i < 14 := (Array.getElem?_eq_some_iff.1 ho).1
      have hi2 : i = 0 ∨ i = 1 ∨ i = 2 ∨ i = 3 ∨ i = 4 ∨ i = 5 ∨ i = 6 ∨ i = 7 ∨ i = 8 ∨ i = 9 ∨ i = 10 ∨ i = 11 ∨ i = 12 ∨ i = 13 := by omega
      clear hi
      rcases hi2 with rfl | rfl | rfl | rfl | rfl | rfl | rfl | rfl | rfl | rfl | rfl | rfl | rfl | rfl

      · obtain rfl := Option.some.inj ho
        go_simp
        exact hK _ _ (cwPhi2.mk _ x1 x2 x3 x4 x5 x6 x7 x8 x9 x10 x11 x12 x13 g10  n J hIJ (hid (fun _ => rfl)) (F1) (F2) (F3) (F4) (F5) (F6) (F7) (F8) (F9) (F10) (F11) (F12) (F13) (C0) (C1) HS)
      · obtain rfl := Option.some.inj ho
        go_simp
        exact hK _ _ (cwPhi2.mk x0 _ x2 x3 x4 x5 x6 x7 x8 x9 x10 x11 x12 x13 g10  n J hIJ (F0) (hid (fun _ => rfl)) (F2) (F3) (F4) (F5) (F6) (F7) (F8) (F9) (F10) (F11) (F12) (F13) (C0) (C1) HS)
      · obtain rfl := Option.some.inj ho
        have d1 : f 1 = true := hall { on := 1, ground := Ground.data } (by simp) (by rfl)
        obtain rfl := F1.out d1
        have c0 : w.cell? ⟨rb, 7, none⟩ = some (.slice da c.disks.length dc) := HS.out.isBlk.cell 7 rfl
        go_simp
        exact hK _ _ (cwPhi2.mk x0 _ _ x3 x4 x5 x6 x7 x8 x9 x10 x11 x12 x13 g10  n J hIJ (F0) (F1) (hid (fun _ => rfl)) (F3) (F4) (F5) (F6) (F7) (F8) (F9) (F10) (F11) (F12) (F13) (C0) (C1) HS)
      · obtain rfl := Option.some.inj ho
        have d0 : f 0 = true := hall { on := 0, ground := Ground.data } (by simp) (by rfl)
        have d2 : f 2 = true := hall { on := 2, ground := Ground.data } (by simp) (by rfl)
        obtain rfl := F0.out d0
        obtain rfl := F2.out d2
        have hn : n = 0 := by
          have h2 := C0.out; rw [hf] at h2; have h4 := of_decide_eq_false h2.symm
          omega
        subst hn
        go_simp
        go_at_call 63
        refine (encListN_sat da dc c.disks.length c.zs HZL.out HS.out.swap (HDD.out.mono hIJ) (by intro z hz; have := HZS.out z hz; omega) (by have := HLE.out; have := HDL.out; simp only [cw8, cw7, cw6, cw5, cw4, cw3, cw2, List.length_append] at *; omega) (by have := HDL.out; omega)).mono ?_
        rintro r w5 ⟨rfl, S5⟩
        rw [cwr7] at S5
        have H5 := hid S5.swap
        clear S5 HS
        exact hK _ _ (cwPhi2.mk _ x1 _ _ x4 x5 x6 x7 x8 x9 x10 x11 x12 x13 g10  1 J hIJ (F0) (F1) (F2) (hid (fun _ => rfl)) (F4) (F5) (F6) (F7) (F8) (F9) (F10) (F11) (F12) (F13) (hid rfl) (hid (C1.out.trans (by decide))) H5)
      · obtain rfl := Option.some.inj ho
        go_simp
        exact hK _ _ (cwPhi2.mk x0 x1 x2 x3 _ x5 x6 x7 x8 x9 x10 x11 x12 x13 g10  n J hIJ (F0) (F1) (F2) (F3) (hid (fun _ => rfl)) (F5) (F6) (F7) (F8) (F9) (F10) (F11) (F12) (F13) (C0) (C1) HS)
      · obtain rfl := Option.some.inj ho
        have d4 : f 4 = true := hall { on := 4, ground := Ground.data } (by simp) (by rfl)
        obtain rfl := F4.out d4
        have c0 : w.cell? ⟨rb, 8, none⟩ = some (.int .i64 (c.pool : Int)) := HS.out.isBlk.cell 8 rfl
        go_simp
        exact hK _ _ (cwPhi2.mk x0 x1 x2 x3 _ _ x6 x7 x8 x9 x10 x11 x12 x13 g10  n J hIJ (F0) (F1) (F2) (F3) (F4) (hid (fun _ => rfl)) (F6) (F7) (F8) (F9) (F10) (F11) (F12) (F13) (C0) (C1) HS)
      · obtain rfl := Option.some.inj ho
        go_simp
        exact hK _ _ (cwPhi2.mk x0 x1 x2 x3 x4 x5 _ x7 x8 x9 x10 x11 x12 x13 g10  n J hIJ (F0) (F1) (F2) (F3) (F4) (F5) (hid (fun _ => rfl)) (F7) (F8) (F9) (F10) (F11) (F12) (F13) (C0) (C1) HS)
      · obtain rfl := Option.some.inj ho
        have d6 : f 6 = true := hall { on := 6, ground := Ground.data } (by simp) (by rfl)
        obtain rfl := F6.out d6
        have c0 : w.cell? ⟨rb, 9, none⟩ = some (.int .i64 (c.vol : Int)) := HS.out.isBlk.cell 9 rfl
        go_simp
        exact hK _ _ (cwPhi2.mk x0 x1 x2 x3 x4 x5 _ _ x8 x9 x10 x11 x12 x13 g10  n J hIJ (F0) (F1) (F2) (F3) (F4) (F5) (F6) (hid (fun _ => rfl)) (F8) (F9) (F10) (F11) (F12) (F13) (C0) (C1) HS)
      · obtain rfl := Option.some.inj ho
        go_simp
        exact hK _ _ (cwPhi2.mk x0 x1 x2 x3 x4 x5 x6 x7 _ x9 x10 x11 x12 x13 g10  n J hIJ (F0) (F1) (F2) (F3) (F4) (F5) (F6) (F7) (hid (fun _ => rfl)) (F9) (F10) (F11) (F12) (F13) (C0) (C1) HS)
      · obtain rfl := Option.some.inj ho
        have d8 : f 8 = true := hall { on := 8, ground := Ground.data } (by simp) (by rfl)
        obtain rfl := F8.out d8
        have c0 : w.cell? ⟨rb, 10, none⟩ = some (.int .i64 (c.at_ : Int)) := HS.out.isBlk.cell 10 rfl
        go_simp
        exact hK _ _ (cwPhi2.mk x0 x1 x2 x3 x4 x5 x6 x7 _ _ x10 x11 x12 x13 g10  n J hIJ (F0) (F1) (F2) (F3) (F4) (F5) (F6) (F7) (F8) (hid (fun _ => rfl)) (F10) (F11) (F12) (F13) (C0) (C1) HS)
      · obtain rfl := Option.some.inj ho
        have d5 : f 5 = true := hall { on := 5, ground := Ground.data } (by simp) (by rfl)
        have d7 : f 7 = true := hall { on := 7, ground := Ground.data } (by simp) (by rfl)
        have d9 : f 9 = true := hall { on := 9, ground := Ground.data } (by simp) (by rfl)
        obtain rfl := F5.out d5
        obtain rfl := F7.out d7
        obtain rfl := F9.out d9
        obtain ⟨gn, hgn⟩ : ∃ g, w.heap.size = g := ⟨_, rfl⟩
        obtain ⟨J2, hJ2, S1, hrd⟩ := (HS.out.alloc (b := gn) (T := 3) (cs := [.int .i64 (c.pool : Int), .int .i64 (c.vol : Int), .int .i64 (c.at_ : Int)]) rfl hgn.symm).freezeBlk
        have H2 := hid S1
        have HRD := hid hrd
        clear S1 hrd HS
        go_simp
        try rw [hgn]
        exact hK _ _ (cwPhi2.mk x0 x1 x2 x3 x4 _ x6 _ x8 _ _ x11 x12 x13 gn  n J2 (Part.le_trans hIJ hJ2) (F0) (F1) (F2) (F3) (F4) (F5) (F6) (F7) (F8) (F9) (hid (fun _ => ⟨rfl, HRD.out⟩)) (F11) (F12) (F13) (C0) (C1) H2)
      · obtain rfl := Option.some.inj ho
        have d3 : f 3 = true := hall { on := 3, ground := Ground.data } (by simp) (by rfl)
        have d10 : f 10 = true := hall { on := 10, ground := Ground.data } (by simp) (by rfl)
        obtain rfl := F3.out d3
        obtain ⟨rfl, hrd⟩ := F10.out d10
        have HRD := hid hrd
        clear hrd
        have hn : n = 1 := by
          have h1 := C0.out; rw [d3] at h1; have h3 := of_decide_eq_true h1.symm
          have h2 := C1.out; rw [hf] at h2; have h4 := of_decide_eq_false h2.symm
          omega
        subst hn
        go_simp
        go_at_call 61
        refine (encI_sat (some ⟨g10, 0, none⟩) 3 [(c.pool : Int), (c.vol : Int), (c.at_ : Int)] HS.out.swap HRD.out (by intro z hz; simp only [List.mem_cons, List.not_mem_nil, or_false] at hz; omega) (by have := HLE.out; simp only [cw8, cw7, cw6, cw5, cw4, cw3, cw2, List.length_append, List.length_cons, List.length_nil] at this ⊢; omega) (by simp)).mono ?_
        rintro r w5 ⟨rfl, S5⟩
        rw [cwr8] at S5
        have H5 := hid S5.swap
        clear S5 HS
        exact hK _ _ (cwPhi2.mk x0 x1 x2 _ x4 x5 x6 x7 x8 x9 _ _ x12 x13 g10  2 J hIJ (F0) (F1) (F2) (F3) (F4) (F5) (F6) (F7) (F8) (F9) (F10) (hid (fun _ => rfl)) (F12) (F13) (hid (C0.out.trans (by decide))) (hid rfl) H5)
      · obtain rfl := Option.some.inj ho
        have d11 : f 11 = true := hall { on := 11, ground := Ground.data } (by simp) (by rfl)
        obtain rfl := F11.out d11
        have hn : 1 < n := by
          have h1 := C1.out; rw [d11] at h1; exact of_decide_eq_true h1.symm
        obtain ⟨m, rfl⟩ : ∃ m, n = m + 2 := ⟨n - 2, by omega⟩
        go_simp
        go_at_call 35
        refine (bytes_sat (bs := cw8 c) HS.out.swap).mono ?_
        rintro r w5 ⟨rfl, S5⟩
        have H5 := hid S5.swap
        clear S5 HS
        exact hK _ _ (cwPhi2.mk x0 x1 x2 x3 x4 x5 x6 x7 x8 x9 x10 _ _ x13 g10  (m + 2) J hIJ (F0) (F1) (F2) (F3) (F4) (F5) (F6) (F7) (F8) (F9) (F10) (F11) (hid (fun _ => rfl)) (F13) (C0) (C1) H5)
      · obtain rfl := Option.some.inj ho
        have d12 : f 12 = true := hall { on := 12, ground := Ground.data } (by simp) (by rfl)
        obtain rfl := F12.out d12
        go_simp
        exact hK _ _ (cwPhi2.mk x0 x1 x2 x3 x4 x5 x6 x7 x8 x9 x10 x11 _ _ g10  n J hIJ (F0) (F1) (F2) (F3) (F4) (F5) (F6) (F7) (F8) (F9) (F10) (F11) (F12) (hid (fun _ => rfl)) (C0) (C1) HS)
    case he =>
      clear H1
      rintro f a w ⟨x0, x1, x2, x3, x4, x5, x6, x7, x8, x9, x10, x11, x12, x13, g10, n, J, hIJ, F0, F1, F2, F3, F4, F5, F6, F7, F8, F9, F10, F11, F12, F13, C0, C1, HS⟩ hall
      have h13 := hall 13 (by decide)
      have h11 := hall 11 (by decide)
      have hn : 1 < n := by
        have h1 := C1.out; rw [h11] at h1; exact of_decide_eq_true h1.symm
      obtain ⟨m, rfl⟩ : ∃ m, n = m + 2 := ⟨n - 2, by omega⟩
      obtain rfl := F13.out h13
      have H2 := hid HS.out.drop.drop
      clear HS hn h13 h11 hall F0 F1 F2 F3 F4 F5 F6 F7 F8 F9 F10 F11 F12 F13 C0 C1
      go_wp2_with fail
      go_ret
      rw [HEQ.out]
      exact ⟨rfl, H2.out.thaw (Part.le_trans HIJ.out hIJ)⟩
end Go.Proofs.YtekioplbfoonkaaGreatDoor
