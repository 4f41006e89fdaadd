/- The disk of layer 4, on which nothing fails: Write; layer 9's save. -/
import Derived.Test.YtekioplbfoonkaaGreatDoorMgA
import Derived.Test.YtekioplbfoonkaaGreatDoorMg4
namespace Go.Proofs.YtekioplbfoonkaaGreatDoor
open Go.RowKit
set_option linter.unusedVariables false
set_option maxRecDepth 100000
set_option maxHeartbeats 2000000
section
variable {w0 w : World} {I : Part} {L : List HP} {p : Nat} {d : Dst}
theorem dwri1_sat (q : Nat) (x s : ByteArray) {A : HP} (H : Sat w0 I (A :: blk q 9 [.string s] :: L) w) :
    Calls Tryz.prog 189 #[.string x, .pointer (some ⟨q, 0, none⟩)] w fun e w' => e = .returned (.string s) ∧ Sat w0 I (A :: blk q 9 [.string s] :: L) w' := by
  have c0 := H.swap.isBlk.cell 0 (v := .string s) rfl
  refine ret_sat ?_ H
  go_enter Tryz.func189, Tryz.ntmps189
  go_wp2_with fail
  go_ret
  exact ⟨rfl, 0, rfl⟩
theorem dchgW_sat (q : Nat) (name : ByteArray) (hs : name.size ≤ maxLen) (hn : (name.toList == ([] : List UInt8)) = false) (s : ByteArray) {x : Fst} (hx : (d.F (.string name.data.toList)).getD fz = x) (hsz : s.size ≤ 1000000000) (hsn : x.nx.size ≤ 1000000000) (hsx : x.sx.size ≤ 1000000000) (hd : d.calm) {E : Int} {D : Dst} (hA : putS d (.string name.data.toList) ⟨true, s, x.st, x.sx⟩ = (E, D)) (H : Sat w0 I (blk q 9 [.string s] :: dskp p d :: L) w) :
    Calls Tryz.prog 171 #[.pointer (some ⟨p, 0, none⟩), .string name, .func (Fn.func 189) #[] #[.pointer (some ⟨q, 0, none⟩)]] w fun e w' => e = .returned (.int .i64 E) ∧ Sat w0 I (blk q 9 [.string s] :: dskp p D :: L) w' := by
  have hkey := keyStr name hs
  have HX := hid hx
  have HA := hid hA
  have HH := hid H
  obtain ⟨xnt, xnx, xst, xsx⟩ := x
  simp only at hsn hsx
  clear hA H hx
  go_enter Tryz.func171, Tryz.ntmps171
  go_wp2_with fail
  refine (dtry_calm hd HH.out.swap).mono ?_; rintro e w1 ⟨rfl, S1⟩
  obtain ⟨b, S2⟩ := S1.dskOpen
  have c4 := S2.isBlk.cell 4 (v := .map (some b)) rfl
  have hl := S2.swap.gmapGet fileT hkey
  rw [HX.out] at hl
  unfold fenc fcs at hl
  obtain ⟨g, hg⟩ : ∃ g, w1.heap.size = g := ⟨_, rfl⟩
  have H2 := hid ((Sat.dskClose (d := d) S2).alloc (b := g) (T := 170) (cs := [.bool xnt, .string xnx, .bool xst, .string xsx]) rfl hg.symm)
  clear S1 S2 HH
  go_upto_region 7 with fail
  refine wp_gen (fun w3 => Sat w0 I (blk g 170 [.bool xnt, .string xnx, .bool xst, .string xsx] :: dskp p d :: blk q 9 [.string s] :: L) w3) H2.out ?_
  clear H2 hl c4 hg
  intro w3 S3
  have b1 := S3.isBlk.cell 1 (v := .string xnx) rfl
  have H3 := hid S3
  clear S3
  go_wp2_with fail
  refine (dwri1_sat q xnx s (A := sepL [blk g 170 [.bool xnt, .string xnx, .bool xst, .string xsx], dskp p d]) (H3.out.join (M := [_, _]))).mono ?_; rintro e w4 ⟨rfl, S4⟩
  have S5 := S4.flat
  have b0 := S5.isBlk.cell 0 (v := .bool xnt) rfl
  have b1 := S5.isBlk.cell 1 (v := .string xnx) rfl
  have b2 := S5.isBlk.cell 2 (v := .bool xst) rfl
  have b3 := S5.isBlk.cell 3 (v := .string xsx) rfl
  have f0 := S5.isBlk.frozen 0
  have f1 := S5.isBlk.frozen 1
  have H5 := hid S5
  clear S4 S5 H3
  go_upto_region 8 with fail
  have H6 := hid ((H5.out.set 0 (.bool true) rfl).set 1 (.string s) rfl)
  clear H5 b0 b1 b2 b3 f0 f1
  have hw1 : (fw ⟨true, s, xst, xsx⟩ : Int) ≤ 4611686018427387904 := by
    have := fw_le ⟨true, s, xst, xsx⟩ (n := 1000000000) hsz hsx
    omega
  have hw2 : (fw ((d.F (.string name.data.toList)).getD fz) : Int) ≤ 4611686018427387904 := by
    rw [HX.out]
    have := fw_le ⟨xnt, xnx, xst, xsx⟩ (n := 1000000000) hsn hsx
    omega
  refine wp_gen (fun w6 => Sat w0 I (blk g 170 [.bool true, .string s, .bool xst, .string xsx] :: dskp p d :: blk q 9 [.string s] :: L) w6) H6.out ?_
  clear H6
  intro w6 S6
  have b0 := S6.isBlk.cell 0 (v := .bool true) rfl
  have b1 := S6.isBlk.cell 1 (v := .string s) rfl
  have b2 := S6.isBlk.cell 2 (v := .bool xst) rfl
  have b3 := S6.isBlk.cell 3 (v := .string xsx) rfl
  have H6 := hid S6
  clear S6
  go_wp2_with fail
  refine (dput_sat name hs ⟨true, s, xst, xsx⟩ rfl hd.ok hw1 hw2 HA.out H6.out.swap).mono ?_; rintro e w7 ⟨rfl, S7⟩
  have H7 := hid S7
  clear S7 H6
  go_wp2_with fail
  go_ret
  exact ⟨rfl, H7.out.swap.drop.swap⟩
theorem dwrite_sat (name : ByteArray) (hs : name.size ≤ maxLen) (hn : (name.toList == ([] : List UInt8)) = false) (s : ByteArray) {x : Fst} (hx : (d.F (.string name.data.toList)).getD fz = x) (hsz : s.size ≤ 1000000000) (hsn : x.nx.size ≤ 1000000000) (hsx : x.sx.size ≤ 1000000000) (hd : d.calm) {E : Int} {D : Dst} (hA : putS d (.string name.data.toList) ⟨true, s, x.st, x.sx⟩ = (E, D)) (H : Sat w0 I (dskp p d :: L) w) :
    Calls Tryz.prog 162 #[.pointer (some ⟨p, 0, none⟩), .string name, .string s] w fun e w' => e = .returned (.int .i64 E) ∧ Sat w0 I (dskp p D :: L) w' := by
  obtain ⟨q, hq⟩ : ∃ q, w.heap.size = q := ⟨_, rfl⟩
  have H1 := hid (H.alloc (b := q) (T := 9) (cs := [.string s]) rfl hq.symm)
  have HA := hid hA
  have HX := hid hx
  clear H hA hx
  go_enter Tryz.func162, Tryz.ntmps162
  go_wp2_with fail
  refine (dchgW_sat q name hs hn s HX.out hsz hsn hsx hd HA.out H1.out).mono ?_; rintro e w2 ⟨rfl, S2⟩
  have H2 := hid S2
  clear S2 H1
  go_wp2_with fail
  go_ret
  exact ⟨rfl, H2.out.drop⟩
end
/-- a disk of a megabyte on which nothing fails. -/
structure Dk (d : Dst) (U C : Nat) : Prop where
  lost : d.lost = false
  armed : d.armed = 0
  room : d.room = 1048576
  used0 : 0 ≤ d.used
  used : d.used ≤ (U : Int)
  c : d.c ≤ C
theorem Dk.calm {d : Dst} {U C : Nat} (h : Dk d U C) (hU : U ≤ 1048576) (hC : C < 1000000) : d.calm := by
  have h1 := h.used; have h2 := h.room; have h3 := h.c; have h4 := h.armed
  exact ⟨⟨h.used0, by omega, by omega, by omega, by omega, by omega⟩, h.lost, h4⟩
theorem Dk.mono {d : Dst} {U C V B : Nat} (h : Dk d U C) (h1 : U ≤ V) (h2 : C ≤ B) : Dk d V B := by
  have h3 := h.used; have h4 := h.c
  exact ⟨h.lost, h.armed, h.room, h.used0, by omega, by omega⟩
def fsf (s : ByteArray) : Fst := ⟨true, s, true, s⟩
/-- one file says this, the others are as they were. -/
structure Upd (d D : Dst) (k : Lit) (s : ByteArray) : Prop where
  at_ : D.F k = some (fsf s)
  ne : ∀ j, j ≠ k → D.F j = d.F j
/-- what is of a file that is safe. -/
structure Sf (d : Dst) (k : Lit) (a : ByteArray) : Prop where
  nx : ((d.F k).getD fz).nx = a
  sx : ((d.F k).getD fz).sx = a
theorem Upd.sf {d D : Dst} {k : Lit} {s : ByteArray} (h : Upd d D k s) : Sf D k s := by
  constructor <;> rw [h.at_] <;> rfl
theorem Upd.sfNe {d D : Dst} {k j : Lit} {s a : ByteArray} (h : Upd d D k s) (hj : j ≠ k) (hs : Sf d j a) : Sf D j a := by
  constructor <;> rw [h.ne j hj]
  · exact hs.nx
  · exact hs.sx
theorem fw_of (t : Bool) (x : ByteArray) (u : Bool) (y : ByteArray) : fw ⟨t, x, u, y⟩ = max x.size y.size := rfl
/-- Write or Append, then Sync: two puts. -/
theorem put2 {d : Dst} {U C : Nat} {k : Lit} {a s : ByteArray} {m : Nat} (h : Dk d U C) (hs : Sf d k a) (hm : s.size ≤ a.size + m ∨ s.size ≤ m) (hU : U + m ≤ 1048576) :
    ∃ D1 D2, putS d k ⟨true, s, ((d.F k).getD fz).st, a⟩ = (0, D1) ∧ D1.F k = some ⟨true, s, ((d.F k).getD fz).st, a⟩ ∧ Dk D1 (U + m) (C + 1) ∧ putS D1 k ⟨true, s, true, s⟩ = (0, D2) ∧ Dk D2 (U + m) (C + 2) ∧ Upd d D2 k s := by
  have hw : fw ((d.F k).getD fz) = a.size := by
    have h1 := hs.nx; have h2 := hs.sx
    show max _ _ = _
    rw [h1, h2]; omega
  have h1 := h.used; have h2 := h.used0; have h3 := h.room; have h4 := h.c
  have key : ∃ D1, putS d k ⟨true, s, ((d.F k).getD fz).st, a⟩ = (0, D1) ∧ D1.F = fnPut d.F k ⟨true, s, ((d.F k).getD fz).st, a⟩ ∧ Dk D1 (U + m) (C + 1) := by
    unfold putS
    rw [hw, fw_of]
    by_cases hp : 0 < ((max s.size a.size : Nat) : Int) - (a.size : Int)
    · rw [if_pos hp, if_pos (by omega)]
      exact ⟨_, rfl, rfl, h.lost, h.armed, h.room, by show 0 ≤ d.used + _; omega, by show d.used + _ ≤ _; omega, by show d.c + 1 ≤ _; omega⟩
    · rw [if_neg hp]
      exact ⟨_, rfl, rfl, h.lost, h.armed, h.room, by show 0 ≤ d.used - _; omega, by show d.used - _ ≤ _; omega, by show d.c + 1 ≤ _; omega⟩
  obtain ⟨D1, e1, e2, hD⟩ := key
  have hF : D1.F k = some ⟨true, s, ((d.F k).getD fz).st, a⟩ := by rw [e2]; exact fnPut_eq _ _ _
  have hw2 : fw ((D1.F k).getD fz) = max s.size a.size := by rw [hF]; rfl
  have g1 := hD.used; have g2 := hD.used0; have g3 := hD.c
  have key2 : ∃ D2, putS D1 k ⟨true, s, true, s⟩ = (0, D2) ∧ D2.F = fnPut D1.F k ⟨true, s, true, s⟩ ∧ Dk D2 (U + m) (C + 2) := by
    unfold putS
    rw [hw2, fw_of, if_neg (by omega)]
    exact ⟨_, rfl, rfl, hD.lost, hD.armed, hD.room, by show 0 ≤ D1.used - _; omega, by show D1.used - _ ≤ _; omega, by show D1.c + 1 ≤ _; omega⟩
  obtain ⟨D2, e3, e4, hD2⟩ := key2
  refine ⟨D1, D2, e1, hF, hD, e3, hD2, by rw [e4]; exact fnPut_eq _ _ _, fun j hj => ?_⟩
  rw [e4, fnPut_ne _ _ hj, e2, fnPut_ne _ _ hj]
section
variable {w0 w : World} {I : Part} {L : List HP} {p : Nat} {d : Dst}
theorem tsave_sat {U C m : Nat} (h : Dk d U C) (name : ByteArray) (hs : name.size ≤ maxLen) (hn : (name.toList == ([] : List UInt8)) = false) (s : ByteArray) {a : ByteArray} (hsf : Sf d (.string name.data.toList) a) (hsa : a.size ≤ 1000000000) (hm0 : s.size ≤ m) (hU : U + m ≤ 1048576) (hC : C ≤ 1000) (H : Sat w0 I (dskp p d :: L) w) :
    Calls Tryz.prog 112 #[.pointer (some ⟨p, 0, none⟩), .string name, .string s] w fun e w' => ∃ D, e = .returned (.int .i64 0) ∧ Dk D (U + m) (C + 2) ∧ Upd d D (.string name.data.toList) s ∧ Sat w0 I (dskp p D :: L) w' := by
  have hm : s.size ≤ a.size + m ∨ s.size ≤ m := Or.inr hm0
  have hsz : s.size ≤ 1000000000 := by omega
  obtain ⟨D1, D2, e1, e2, hD1, e3, hD2, hup⟩ := put2 h hsf hm hU
  have hc := h.calm (by omega) (by omega)
  have hnx : ((d.F (.string name.data.toList)).getD fz).nx = a := hsf.nx
  have hsx : ((d.F (.string name.data.toList)).getD fz).sx = a := hsf.sx
  obtain ⟨x, hx⟩ : ∃ x, (d.F (.string name.data.toList)).getD fz = x := ⟨_, rfl⟩
  rw [hx] at hnx hsx e1 e2
  obtain ⟨st, hst⟩ : ∃ b, x.st = b := ⟨_, rfl⟩
  rw [hst] at e1 e2
  have hf : (D1.F (.string name.data.toList)).getD fz = ⟨true, s, st, a⟩ := by rw [e2]; rfl
  have EA := hid e1
  have EE := hid e3
  have HF := hid hf
  have HX := hid hx
  have DD := hid hD1
  have DD2 := hid hD2
  have UP := hid hup
  have HH := hid H
  clear e1 e2 e3 hf hx hD1 hD2 hup H
  have hEA : putS d (.string name.data.toList) ⟨true, s, x.st, x.sx⟩ = (0, D1) := by rw [hst, hsx]; exact EA.out
  have EB := hid hEA
  clear hEA
  go_enter Tryz.func112, Tryz.ntmps112
  go_wp2_with fail
  refine (dwrite_sat name hs hn s HX.out hsz (by rw [hnx]; exact hsa) (by rw [hsx]; exact hsa) hc EB.out HH.out).mono ?_; rintro e w1 ⟨rfl, S1⟩
  have H1 := hid S1
  clear S1 HH hnx hsx hst
  have S1 := H1.out
  obtain ⟨g, hg⟩ : ∃ g, w1.heap.size = g := ⟨_, rfl⟩
  obtain ⟨J, hJ, S2, hrd⟩ := (S1.alloc (b := g) (T := 9) (cs := [.string name]) rfl hg.symm).freezeBlk
  have H2 := hid S2
  have HRD := hid hrd
  clear S1 S2 hrd H1
  go_wp2_with fail
  try rw [hg]
  refine (dsync1_sat (DD.out.calm hU (by omega)) (some ⟨g, 0, none⟩) 1 name hs HRD.out (x := ⟨true, s, st, a⟩) HF.out rfl hsz hsa EE.out H2.out).mono ?_; rintro e w3 ⟨rfl, S3⟩
  have H3 := hid (S3.thaw hJ)
  clear S3 H2
  go_wp2_with fail
  go_ret
  exact ⟨D2, rfl, DD2.out, UP.out, H3.out⟩
end
end Go.Proofs.YtekioplbfoonkaaGreatDoor
