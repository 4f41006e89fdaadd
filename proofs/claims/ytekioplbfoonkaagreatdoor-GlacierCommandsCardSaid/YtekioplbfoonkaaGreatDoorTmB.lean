/- Layer 9, the node's memory: plain; SaveTerm. -/
import Derived.Test.YtekioplbfoonkaaGreatDoorTmA
import Derived.Test.YtekioplbfoonkaaGreatDoorSealA
import Derived.Test.YtekioplbfoonkaaGreatDoorMg4
namespace Go.Proofs.YtekioplbfoonkaaGreatDoor
open Go.RowKit
set_option linter.unusedVariables false
set_option maxRecDepth 100000
set_option maxHeartbeats 2000000
/-- an entry of the log. -/
structure Ent where
  idx : Nat
  term : Nat
  cmd : ByteArray
structure Ent.Ok (x : Ent) : Prop where
  idx : x.idx ≤ 1000
  term : x.term ≤ 1000
  cmd : x.cmd.size ≤ 1000
def Ent.cells (x : Ent) : List Value := [.int .i64 (x.idx : Int), .int .i64 (x.term : Int), .string x.cmd]
def entB (x : Ent) : List UInt8 := encU x.idx ++ encU x.term ++ encS x.cmd
def logB (l : List Ent) : List UInt8 := l.flatMap fun x => frameL (entB x)
def termB (t v : Nat) : List UInt8 := frameL (encU t ++ encU v)
def snapB (b t : Nat) (s : ByteArray) : List UInt8 := frameL (encU b ++ encU t ++ encS s)
def nmT : ByteArray := ⟨#[116, 101, 114, 109]⟩
def nmSn : ByteArray := ⟨#[115, 110, 97, 112]⟩
def nmLg : ByteArray := ⟨#[108, 111, 103]⟩
theorem nmTne : (nmT.toList == ([] : List UInt8)) = false := by decide +kernel
theorem nmSne : (nmSn.toList == ([] : List UInt8)) = false := by decide +kernel
theorem nmLne : (nmLg.toList == ([] : List UInt8)) = false := by decide +kernel
def kT : Lit := .string [116, 101, 114, 109]
def kSn : Lit := .string [115, 110, 97, 112]
def kLg : Lit := .string [108, 111, 103]
theorem kTS : kT ≠ kSn := by unfold kT kSn; intro h; injection h with h; cases h
theorem kTL : kT ≠ kLg := by unfold kT kLg; intro h; injection h with h; cases h
theorem kSL : kSn ≠ kLg := by unfold kSn kLg; intro h; injection h with h; cases h
theorem entB_len {x : Ent} (h : x.Ok) : (entB x).length ≤ 1030 := by
  have h1 := h.idx; have h2 := h.term; have h3 := h.cmd
  have e1 := encU_len x.idx (by omega)
  have e2 := encU_len x.term (by omega)
  have e3 := encU_len x.cmd.size (by omega)
  have e4 : x.cmd.data.toList.length = x.cmd.size := Array.length_toList
  simp only [entB, encS, List.length_append, e4]
  omega
theorem logB_app (l m : List Ent) : logB (l ++ m) = logB l ++ logB m := by simp [logB]
theorem logB_one (x : Ent) : logB [x] = frameL (entB x) := by simp [logB]
theorem logB_len : ∀ (l : List Ent), (∀ x ∈ l, x.Ok) → (logB l).length ≤ 1038 * l.length
  | [], _ => Nat.le_refl _
  | x :: l, h => by
    have ih := logB_len l fun y hy => h y (by simp [hy])
    have hb := entB_len (h x (by simp))
    show (frameL (entB x) ++ logB l).length ≤ _
    rw [List.length_append, frameL_len, List.length_cons]
    omega
theorem termB_len (t v : Nat) (ht : t ≤ 1000) (hv : v ≤ 1000) : (termB t v).length ≤ 28 := by
  have e1 := encU_len t (by omega)
  have e2 := encU_len v (by omega)
  unfold termB
  rw [frameL_len, List.length_append]; omega
theorem snapB_len (b t : Nat) (s : ByteArray) (hb : b ≤ 1000) (ht : t ≤ 1000) (hs : s.size ≤ 100) : (snapB b t s).length ≤ 138 := by
  have e1 := encU_len b (by omega)
  have e2 := encU_len t (by omega)
  have e3 := encU_len s.size (by omega)
  have e4 : s.data.toList.length = s.size := Array.length_toList
  unfold snapB encS
  rw [frameL_len]
  simp only [List.length_append, e4]
  omega
theorem baSz (l : List UInt8) : (⟨l.toArray⟩ : ByteArray).size = l.length := by
  show l.toArray.size = _
  exact List.size_toArray
theorem max0 (n : Nat) : (max (n : Int) 0).toNat = n := by omega
theorem two_enc (a b : Nat) : ([] : List UInt8) ++ [(a : Int), (b : Int)].flatMap (fun z => encU (max z 0).toNat) = encU a ++ encU b := by
  simp only [List.flatMap_cons, List.flatMap_nil, max0, List.append_nil, List.nil_append]
theorem flatS_one (l : List UInt8) : flatS [(⟨l.toArray⟩ : ByteArray)] = l := by simp [flatS]
section
variable {w0 w : World} {I : Part} {L : List HP} {p : Nat} {d : Dst}
theorem saveTerm_sat (hT : Rd I (some ⟨0, 0, none⟩) tabV) {U C : Nat} (h : Dk d U C) (t v : Nat) (ht : t ≤ 1000) (hv : v ≤ 1000) {a : ByteArray} (hsf : Sf d kT a) (hsa : a.size ≤ 1000000000) (hU : U + 28 ≤ 1048576) (hC : C ≤ 1000) (H : Sat w0 I (dskp p d :: L) w) :
    Calls Tryz.prog 55 #[.pointer (some ⟨p, 0, none⟩), .int .i64 (t : Int), .int .i64 (v : Int)] w fun e w' => ∃ D, e = .returned (.int .i64 0) ∧ Dk D (U + 28) (C + 2) ∧ Upd d D kT ⟨(termB t v).toArray⟩ ∧ Sat w0 I (dskp p D :: L) w' := by
  obtain ⟨g, hg⟩ := H.sizeEx
  have S1 := H.encNew (b := g) hg.symm
  obtain ⟨J, hJ, S2, hrd⟩ := ((S1.swap).alloc (b := g + 1) (T := 3) (cs := [.int .i64 (t : Int), .int .i64 (v : Int)]) rfl (by simp [hg])).freezeBlk
  have H2 := hid S2.swap
  have HRD := hid (show Rd J (some ⟨g + 1, 0, none⟩) ([(t : Int), (v : Int)].map (Value.int .i64)) from hrd)
  have HJ := hid hJ
  have HT := hid (hT.mono hJ)
  have e1 := encU_len t (by omega)
  have e2 := encU_len v (by omega)
  have hlen : (encU t ++ encU v).length ≤ 20 := by rw [List.length_append]; omega
  have htl := termB_len t v ht hv
  have HLEN := hid hlen
  have HTL := hid htl
  have HD := hid h
  have HSF := hid hsf
  clear H S1 S2 hrd hJ hT e1 e2 hlen htl h hsf
  go_enter Tryz.func55, Tryz.ntmps55
  go_wp2_with fail
  try rw [hg]
  refine (encI_sat (some ⟨g + 1, 0, none⟩) 2 [(t : Int), (v : Int)] H2.out HRD.out (by intro z hz; simp at hz; omega) (by simp) (by simp)).mono ?_; rintro e w2 ⟨rfl, S3⟩
  rw [two_enc] at S3
  have H3 := hid S3
  clear S3 H2 hg
  go_wp2_with fail
  refine (bytes_sat H3.out).mono ?_; rintro e w3 ⟨rfl, S4⟩
  obtain ⟨q, hq⟩ := S4.sizeEx
  obtain ⟨J2, hJ2, S5, hrd2⟩ := ((S4.drop).alloc (b := q) (T := 9) (cs := [.string ⟨(encU t ++ encU v).toArray⟩]) rfl hq.symm).freezeBlk
  have H5 := hid S5
  have HRD2 := hid (show Rd J2 (some ⟨q, 0, none⟩) ([(⟨(encU t ++ encU v).toArray⟩ : ByteArray)].map Value.string) from hrd2)
  have HJ2 := hid hJ2
  clear S4 S5 hrd2 hJ2 H3
  go_wp2_with fail
  try rw [hq]
  refine (frame_sat (HT.out.mono HJ2.out) (some ⟨q, 0, none⟩) 1 1 [⟨(encU t ++ encU v).toArray⟩] rfl HRD2.out (by omega) (by omega) (by omega) (by omega) (flatS_one _) (by have := HLEN.out; omega) H5.out).mono ?_; rintro e w4 ⟨rfl, S6⟩
  have H6 := hid S6
  clear S6 H5 hq
  go_wp2_with fail
  refine (tsave_sat HD.out nmT (by decide) nmTne ⟨(termB t v).toArray⟩ (a := a) HSF.out hsa (m := 28) (by rw [baSz]; exact HTL.out) hU hC H6.out).mono ?_; rintro e w5 ⟨D, rfl, k1, k2, S7⟩
  have H7 := hid ((S7.thaw HJ2.out).thaw HJ.out)
  have K1 := hid k1
  have K2 := hid k2
  clear S7 H6 k1 k2
  go_wp2_with fail
  go_ret
  exact ⟨D, rfl, K1.out, K2.out, H7.out⟩
end
end Go.Proofs.YtekioplbfoonkaaGreatDoor
