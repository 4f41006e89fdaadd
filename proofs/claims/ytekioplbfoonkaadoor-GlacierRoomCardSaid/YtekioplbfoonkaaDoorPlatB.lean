/- The disk of layer 4: Append. -/
import Derived.Test.YtekioplbfoonkaaDoorPlat
namespace Go.Proofs.YtekioplbfoonkaaDoor
open Go.RowKit
set_option linter.unusedVariables false
set_option maxRecDepth 100000
set_option maxHeartbeats 1000000
def tryD (d : Dst) : Dst := {d with armed := tryA d.lost d.armed}
section
variable {w0 w : World} {I : Part} {L : List HP} {p : Nat} {d : Dst}
theorem tryD_ok (h : d.ok) : (tryD d).ok := by
  have := h.armed0; have := h.armed
  refine ⟨h.used0, h.used, h.room, ?_, ?_, h.c⟩ <;> (simp only [tryD, tryA]; split; omega; split <;> omega)
theorem dtry_sat (hd : d.ok) {E : Int} (hE : tryE d.lost d.armed = E) (H : Sat w0 I (dskp p d :: L) w) :
    Calls Tryd.prog 23 #[.pointer (some ⟨p, 2, none⟩)] w fun e w' => e = .returned (.int .i64 E) ∧ Sat w0 I (dskp p (tryD d) :: L) w' := by
  obtain ⟨b, H1⟩ := H.dskOpen
  have := hd.armed
  refine (try_eq w p 2 d.lost d.armed hE rfl (H1.isBlk.cell 2 rfl) (H1.isBlk.cell 3 rfl) (H1.isBlk.frozen 3) hd.armed0 (by omega)).mono ?_
  rintro e w' ⟨rfl, n, rfl⟩
  exact ⟨rfl, Sat.dskClose (d := tryD d) (Sat.drewN (H1.set 3 _ rfl) n)⟩
noncomputable def appS (d : Dst) (k : Lit) (s : ByteArray) : Int × Dst :=
  if tryE d.lost d.armed = 0 then putS (tryD d) k ⟨true, ((d.F k).getD fz).nx ++ s, ((d.F k).getD fz).st, ((d.F k).getD fz).sx⟩ else (tryE d.lost d.armed, tryD d)
theorem dapp1_sat (q : Nat) (x s : ByteArray) (h : ¬ 9223372036854775807 < x.size + s.size) {A : HP} (H : Sat w0 I (A :: blk q 9 [.string s] :: L) w) :
    Calls Tryd.prog 18 #[.string x, .pointer (some ⟨q, 0, none⟩)] w fun e w' => e = .returned (.string (x ++ s)) ∧ Sat w0 I (A :: blk q 9 [.string s] :: L) w' := by
  have c0 := H.swap.isBlk.cell 0 (v := .string s) rfl
  refine ret_sat ?_ H
  go_enter Tryd.func18, Tryd.ntmps18
  go_wp2_with fail
  go_ret
  exact ⟨rfl, 0, rfl⟩
theorem fw_le (f : Fst) {n : Nat} (h1 : f.nx.size ≤ n) (h2 : f.sx.size ≤ n) : fw f ≤ n := Nat.max_le.2 ⟨h1, h2⟩
theorem dchange_sat (q : Nat) (name : ByteArray) (hs : name.size ≤ maxLen) (hn : (name.toList == ([] : List UInt8)) = false) (s : ByteArray) {x : Fst} (hx : (d.F (.string name.data.toList)).getD fz = x) (hsz : x.nx.size + s.size ≤ 1000000000) (hsx : x.sx.size ≤ 1000000000) (hd : d.ok) {E : Int} {D : Dst} (hA : appS d (.string name.data.toList) s = (E, D)) (H : Sat w0 I (blk q 9 [.string s] :: dskp p d :: L) w) :
    Calls Tryd.prog 17 #[.pointer (some ⟨p, 0, none⟩), .string name, .func (Fn.func 18) #[] #[.pointer (some ⟨q, 0, none⟩)]] w fun e w' => e = .returned (.int .i64 E) ∧ Sat w0 I (blk q 9 [.string s] :: dskp p D :: L) w' := by
  have hkey := keyStr name hs
  have HX := hid hx
  unfold appS at hA
  rw [hx] at hA
  have HA := hid hA
  obtain ⟨E0, hE⟩ : ∃ E0, tryE d.lost d.armed = E0 := ⟨_, rfl⟩
  have HE := hid hE
  have HH := hid H
  obtain ⟨xnt, xnx, xst, xsx⟩ := x
  simp only at hsz hsx
  have has : (xnx ++ s).size = xnx.size + s.size := ByteArray.size_append
  have hadd : ¬ 9223372036854775807 < xnx.size + s.size := by omega
  clear hA H hx hE
  by_cases h0 : E0 = 0
  · subst h0
    have hA := HA.out
    rw [if_pos HE.out] at hA
    have hA' := hid hA
    clear hA HA
    go_enter Tryd.func17, Tryd.ntmps17
    go_wp2_with fail
    refine (dtry_sat hd HE.out HH.out.swap).mono ?_; rintro e w1 ⟨rfl, S1⟩
    obtain ⟨b, S2⟩ := S1.dskOpen
    have c4 := S2.isBlk.cell 4 (v := .map (some b)) rfl
    have hl := S2.swap.gmapGet fileT hkey
    rw [show (tryD d).F = d.F from rfl, HX.out] at hl
    unfold fenc fcs at hl
    obtain ⟨g, hg⟩ : ∃ g, w1.heap.size = g := ⟨_, rfl⟩
    have H2 := hid ((Sat.dskClose (d := tryD d) S2).alloc (b := g) (T := 70) (cs := [.bool xnt, .string xnx, .bool xst, .string xsx]) rfl hg.symm)
    clear S1 S2 HH
    go_upto_region 7 with fail
    refine wp_gen (fun w3 => Sat w0 I (blk g 70 [.bool xnt, .string xnx, .bool xst, .string xsx] :: dskp p (tryD d) :: blk q 9 [.string s] :: L) w3) H2.out ?_
    clear H2 hl c4 hg
    intro w3 S3
    have b1 := S3.isBlk.cell 1 (v := .string xnx) rfl
    have H3 := hid S3
    clear S3
    go_wp2_with fail
    refine (dapp1_sat q xnx s hadd (A := sepL [blk g 70 [.bool xnt, .string xnx, .bool xst, .string xsx], dskp p (tryD d)]) (H3.out.join (M := [_, _]))).mono ?_; rintro e w4 ⟨rfl, S4⟩
    have S5 := S4.flat
    have b0 := S5.isBlk.cell 0 (v := .bool xnt) rfl
    have b1 := S5.isBlk.cell 1 (v := .string xnx) rfl
    have b2 := S5.isBlk.cell 2 (v := .bool xst) rfl
    have b3 := S5.isBlk.cell 3 (v := .string xsx) rfl
    have f0 := S5.isBlk.frozen 0
    have f1 := S5.isBlk.frozen 1
    have H5 := hid S5
    clear S4 S5 H3
    go_upto_region 8 with fail
    have H6 := hid ((H5.out.set 0 (.bool true) rfl).set 1 (.string (xnx ++ s)) rfl)
    clear H5 b0 b1 b2 b3 f0 f1
    obtain ⟨y, hy⟩ : ∃ y, xnx ++ s = y := ⟨_, rfl⟩
    rw [hy] at H6 ⊢
    have hA := hA'.out
    rw [show (⟨true, (⟨xnt, xnx, xst, xsx⟩ : Fst).nx ++ s, (⟨xnt, xnx, xst, xsx⟩ : Fst).st, (⟨xnt, xnx, xst, xsx⟩ : Fst).sx⟩ : Fst) = ⟨true, y, xst, xsx⟩ by rw [← hy]] at hA
    have hA2 := hid hA
    have hw1 : (fw ⟨true, y, xst, xsx⟩ : Int) ≤ 4611686018427387904 := by
      have := fw_le ⟨true, y, xst, xsx⟩ (n := 1000000000) (by show y.size ≤ _; rw [← hy]; omega) hsx
      omega
    have hw2 : (fw (((tryD d).F (.string name.data.toList)).getD fz) : Int) ≤ 4611686018427387904 := by
      rw [show (tryD d).F = d.F from rfl, HX.out]
      have := fw_le ⟨xnt, xnx, xst, xsx⟩ (n := 1000000000) (by show xnx.size ≤ _; omega) hsx
      omega
    clear hA hA' hy hadd has
    refine wp_gen (fun w6 => Sat w0 I (blk g 70 [.bool true, .string y, .bool xst, .string xsx] :: dskp p (tryD d) :: blk q 9 [.string s] :: L) w6) H6.out ?_
    clear H6
    intro w6 S6
    have b0 := S6.isBlk.cell 0 (v := .bool true) rfl
    have b1 := S6.isBlk.cell 1 (v := .string y) rfl
    have b2 := S6.isBlk.cell 2 (v := .bool xst) rfl
    have b3 := S6.isBlk.cell 3 (v := .string xsx) rfl
    have H6 := hid S6
    clear S6
    go_wp2_with fail
    refine (dput_sat name hs ⟨true, y, xst, xsx⟩ rfl (tryD_ok hd) hw1 hw2 hA2.out H6.out.swap).mono ?_; rintro e w7 ⟨rfl, S7⟩
    have H7 := hid S7
    clear S7 H6
    go_wp2_with fail
    go_ret
    exact ⟨rfl, H7.out.swap.drop.swap⟩
  · have hA := HA.out
    rw [HE.out, if_neg h0] at hA
    cases hA
    go_enter Tryd.func17, Tryd.ntmps17
    go_wp2_with fail
    refine (dtry_sat hd HE.out HH.out.swap).mono ?_; rintro e w1 ⟨rfl, S1⟩
    have H1 := hid S1
    clear S1 HH
    go_wp2_with fail
    go_ret
    exact ⟨rfl, H1.out.swap⟩
theorem dappend_sat (name : ByteArray) (hs : name.size ≤ maxLen) (hn : (name.toList == ([] : List UInt8)) = false) (s : ByteArray) {x : Fst} (hx : (d.F (.string name.data.toList)).getD fz = x) (hsz : x.nx.size + s.size ≤ 1000000000) (hsx : x.sx.size ≤ 1000000000) (hd : d.ok) {E : Int} {D : Dst} (hA : appS d (.string name.data.toList) s = (E, D)) (H : Sat w0 I (dskp p d :: L) w) :
    Calls Tryd.prog 9 #[.pointer (some ⟨p, 0, none⟩), .string name, .string s] w fun e w' => e = .returned (.int .i64 E) ∧ Sat w0 I (dskp p D :: L) w' := by
  obtain ⟨q, hq⟩ : ∃ q, w.heap.size = q := ⟨_, rfl⟩
  have H1 := hid (H.alloc (b := q) (T := 9) (cs := [.string s]) rfl hq.symm)
  have HA := hid hA
  have HX := hid hx
  clear H hA hx
  go_enter Tryd.func9, Tryd.ntmps9
  go_wp2_with fail
  refine (dchange_sat q name hs hn s HX.out hsz hsx hd HA.out H1.out).mono ?_; rintro e w2 ⟨rfl, S2⟩
  have H2 := hid S2
  clear S2 H1
  go_wp2_with fail
  go_ret
  exact ⟨rfl, H2.out.drop⟩
end
end Go.Proofs.YtekioplbfoonkaaDoor
