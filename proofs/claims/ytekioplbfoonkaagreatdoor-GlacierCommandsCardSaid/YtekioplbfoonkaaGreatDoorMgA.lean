/- The disk of layer 4 in memory: New, weight, put, Append. The disk of layer 4: Append. The disk of layer 4, on which nothing fails: Read, Sync of one file. -/
import Derived.Test.YtekioplbfoonkaaGreatDoorMapG
import Derived.Test.YtekioplbfoonkaaGreatDoorMeter
import Derived.Test.YtekioplbfoonkaaGreatDoorMg1
import Derived.Carry
import Derived.Deep.CutBlock
import Derived.Deep.DeepCutAuto
import Derived.Deep.RegionHeld3
import Derived.Deep.RegionLaw
namespace Go.Proofs.YtekioplbfoonkaaGreatDoor
open Go.RowKit
set_option linter.unusedVariables false
set_option maxRecDepth 100000
set_option maxHeartbeats 4000000
section
variable {α : Type} {k e t : TypeId} {enc : α → Value} {w0 w : World} {I : Part} {L : List HP} {b c : Nat} {F : Lit → Option α} {x0 : α} {ops : Array Oper} {o : Oper} {a : Act} {Q : Exit → Act → World → Prop}
theorem step_gmapPut {K : Act → World → Prop} {E : Prop} (T : GMapT t k e enc x0) (hg : o.guard = none) (m x v : Operand) (hop : o.op = Op.mapUpdate t m x v) (hm : a.eval m = .map (some b)) {key : Value} {kl : Lit} (hx : a.eval x = key) (hkey : keyOf Tryz.prog k key = some kl) {y : α} (hv : a.eval v = enc y)
    (H : Sat w0 I (gmap k enc b c F :: L) w) (hc : c < 1000000) (hK : ∀ w', Sat w0 I (gmap k enc b (c + 1) (fnPut F kl y) :: L) w' → K (a.put o.dst undef) w') : if Region.wanted o (yielded ops a.tmps) = true then Oper.wp Tryz.prog o a w K Q else E := by
  have hw : Region.wanted o (yielded ops a.tmps) = true := by simp [Region.wanted, hg]
  rw [if_pos hw]
  obtain ⟨w', hrun, r1⟩ := H.gmapPut T hkey y hc
  unfold Oper.wp
  simp [execOp, hop, hm, hx, hv, hrun, Result.andThen]
  exact hK w' r1
end
/-- a file: what it is now, what is durable. -/
structure Fst where
  nt : Bool
  nx : ByteArray
  st : Bool
  sx : ByteArray
def fz : Fst := ⟨false, ⟨#[]⟩, false, ⟨#[]⟩⟩
def fcs (f : Fst) : List Value := [.bool f.nt, .string f.nx, .bool f.st, .string f.sx]
def fenc (f : Fst) : Value := .agg (fcs f).toArray
theorem fenc_inj : ∀ x y, fenc x = fenc y → x = y := by
  rintro ⟨a, b, c, d⟩ ⟨a', b', c', d'⟩ h
  simp [fenc, fcs] at h
  obtain ⟨rfl, rfl, rfl, rfl⟩ := h
  rfl
theorem fileT : GMapT 140 9 170 fenc fz := ⟨Maps.string_keyed Tryz.underlying9, Tryz.underlying140, fenc_inj, fun w => by simp [go_sem, fenc, fcs, fz]⟩
theorem keyStr (s : ByteArray) (h : s.size ≤ maxLen) : keyOf Tryz.prog 9 (.string s) = some (.string s.data.toList) := by simpa [keyOf, mapKey, go_sem] using h
def fw (f : Fst) : Nat := max f.nx.size f.sx.size
/-- a disk. -/
structure Dst where
  room : Int
  used : Int
  lost : Bool
  armed : Int
  F : Lit → Option Fst
  c : Nat
def dcells (d : Dst) (b : Nat) : List Value := [.int .i64 d.room, .int .i64 d.used, .bool d.lost, .int .i64 d.armed, .map (some b)]
def dskp (p : Nat) (d : Dst) : HP := fun g => ∃ b, sepL [blk p 142 (dcells d b), gmap 9 fenc b d.c d.F] g
section
variable {w0 w : World} {I : Part} {L : List HP} {p : Nat} {d : Dst}
theorem Sat.dskOpen (h : Sat w0 I (dskp p d :: L) w) : ∃ b, Sat w0 I (blk p 142 (dcells d b) :: gmap 9 fenc b d.c d.F :: L) w := by
  obtain ⟨g, hg, ⟨b, s⟩, r⟩ := h.sep
  have h2 : Sat w0 I (sepL [blk p 142 (dcells d b), gmap 9 fenc b d.c d.F] :: L) w := ⟨h.os, h.tape, h.output, h.size, h.imm, g, hg, s, r⟩
  exact ⟨b, h2.flat⟩
theorem Sat.dskClose {b : Nat} (h : Sat w0 I (blk p 142 (dcells d b) :: gmap 9 fenc b d.c d.F :: L) w) : Sat w0 I (dskp p d :: L) w :=
  h.of (M := [_, _]) fun g s => ⟨b, s⟩
theorem fweight_sat (f : Fst) {W : Int} (hW : (fw f : Int) = W) (H : Sat w0 I L w) :
    Calls Tryz.prog 138 #[.agg #[.bool f.nt, .string f.nx, .bool f.st, .string f.sx]] w fun e w' => e = .returned (.int .i64 W) ∧ Sat w0 I L w' := by
  have hm : max (f.nx.size : Int) (f.sx.size : Int) = W := by rw [← hW]; unfold fw; omega
  have HM := hid hm
  have HS := hid H
  clear hm hW H
  go_enter Tryz.func138, Tryz.ntmps138
  go_wp2_with (refine wpList_max (o := ⟨some 11, _, _, _, _, _⟩) rfl rfl rfl rfl HM.out ?_)
  go_ret
  exact ⟨rfl, HS.out.alloc_ _⟩
theorem fweight4 (nt : Bool) (nx : ByteArray) (st : Bool) (sx : ByteArray) {W : Int} (hW : (fw ⟨nt, nx, st, sx⟩ : Int) = W) (H : Sat w0 I L w) :
    Calls Tryz.prog 138 #[.agg #[.bool nt, .string nx, .bool st, .string sx]] w fun e w' => e = .returned (.int .i64 W) ∧ Sat w0 I L w' := fweight_sat ⟨nt, nx, st, sx⟩ hW H
theorem map_there (b : Nat) (w : World) : (binOp .eql 140 (.map (some b)) (.map none)).run Tryz.prog w = .ok (.bool false) w := by
  first
    | rfl
    | (simp [binOp, go_sem]; done)
theorem pmade_sat (r : Int) (hr : 0 ≤ r) (H : Sat w0 I L w) : Calls Tryz.prog 72 #[.int .i64 r] w fun e w' => e = .returned (.agg #[.int .i64 r, .int .i64 0]) ∧ Sat w0 I L w' :=
  (made_nn w r hr).mono fun e w' ⟨h1, n, h2⟩ => ⟨h1, by subst h2; exact (H.alloc_ _).drewN n⟩
theorem pnew_sat (r : Int) (hr : 0 ≤ r) (H : Sat w0 I L w) :
    Calls Tryz.prog 28 #[.int .i64 r] w fun e w' => ∃ p, e = .returned (.pointer (some ⟨p, 0, none⟩)) ∧ Sat w0 I (dskp p ⟨r, 0, false, 0, fun _ => none, 0⟩ :: L) w' := by
  have HS := hid H
  clear H
  go_enter Tryz.func28, Tryz.ntmps28
  go_wp2_with fail
  refine (pmade_sat r hr HS.out).mono ?_; rintro e w1 ⟨rfl, S1⟩
  clear HS
  have S2 := S1.gmapNew 9 fenc (b := w1.heap.size) rfl
  have H2 := hid (S2.alloc (b := w1.heap.size + 1) (T := 142) (cs := [.int .i64 r, .int .i64 0, .bool false, .int .i64 0, .map (some w1.heap.size)]) rfl (by simp))
  clear S1 S2
  have hmm := @run_makeMap Tryz.prog
  go_wp2_with fail
  go_ret
  exact ⟨_, rfl, Sat.dskClose (d := ⟨r, 0, false, 0, fun _ => none, 0⟩) H2.out⟩
theorem pused_sat {N : Int} (hN : d.used = N) (H : Sat w0 I (dskp p d :: L) w) :
    Calls Tryz.prog 140 #[.pointer (some ⟨p, 0, none⟩)] w fun e w' => e = .returned (.int .i64 N) ∧ Sat w0 I (dskp p d :: L) w' := by
  obtain ⟨b, H1⟩ := H.dskOpen
  subst hN
  exact ret_sat (used_any w p 0 _ (H1.isBlk.cell 1 rfl)) H
/-- put: the error, the disk behind it. -/
noncomputable def putS (d : Dst) (k : Lit) (f : Fst) : Int × Dst :=
  if 0 < (fw f : Int) - fw ((d.F k).getD fz) then
    (if (fw f : Int) - fw ((d.F k).getD fz) ≤ d.room - d.used then (0, {d with used := d.used + ((fw f : Int) - fw ((d.F k).getD fz)), F := fnPut d.F k f, c := d.c + 1}) else (7, d))
  else (0, {d with used := d.used - min (-((fw f : Int) - fw ((d.F k).getD fz))) d.used, F := fnPut d.F k f, c := d.c + 1})
structure Dst.ok (d : Dst) : Prop where
  used0 : 0 ≤ d.used
  used : d.used ≤ d.room
  room : d.room ≤ 9223372036854775807
  armed0 : 0 ≤ d.armed
  armed : d.armed ≤ 1073741825
  c : d.c < 1000000
theorem dtake {cs : List Value} (r u n : Int) {E U : Int} (hE : takeE r u n = E) (hU : takeU r u n = U) {cs' : List Value} (h0 : cs[0]? = some (.int .i64 r)) (h1 : cs[1]? = some (.int .i64 u)) (hc : cs.set 1 (.int .i64 U) = cs') (hu : 0 ≤ u) (hur : u ≤ r) (hr : r ≤ 9223372036854775807) (H : Sat w0 I (blk p 142 cs :: L) w) :
    Calls Tryz.prog 101 #[.pointer (some ⟨p, 0, none⟩), .int .i64 n] w fun e w' => e = .returned (.int .i64 E) ∧ Sat w0 I (blk p 142 cs' :: L) w' := by
  refine (take_eq w p 0 r u n hE hU (H.isBlk.cell 0 h0) (H.isBlk.cell 1 h1) (H.isBlk.frozen 1) hu hur hr).mono ?_
  rintro e w' ⟨rfl, m, rfl⟩
  exact ⟨rfl, Sat.drewN (H.set 1 _ hc) m⟩
theorem dgive {cs : List Value} (u n : Int) {E U : Int} (hE : giveE u n = E) (hU : giveU u n = U) {cs' : List Value} (h1 : cs[1]? = some (.int .i64 u)) (hc : cs.set 1 (.int .i64 U) = cs') (hu : 0 ≤ u) (hur : u ≤ 9223372036854775807) (H : Sat w0 I (blk p 142 cs :: L) w) :
    Calls Tryz.prog 139 #[.pointer (some ⟨p, 0, none⟩), .int .i64 n] w fun e w' => e = .returned (.int .i64 E) ∧ Sat w0 I (blk p 142 cs' :: L) w' := by
  refine (give_eq w p 0 u n hE hU (H.isBlk.cell 1 h1) (H.isBlk.frozen 1) hu hur).mono ?_
  rintro e w' ⟨rfl, m, rfl⟩
  exact ⟨rfl, Sat.drewN (H.set 1 _ hc) m⟩
theorem dput_sat (s : ByteArray) (hs : s.size ≤ maxLen) (f : Fst) (ht : f.nt = true) (hd : d.ok) (hf : (fw f : Int) ≤ 4611686018427387904) (hf2 : (fw ((d.F (.string s.data.toList)).getD fz) : Int) ≤ 4611686018427387904) {E : Int} {D : Dst} (hA : putS d (.string s.data.toList) f = (E, D)) (H : Sat w0 I (dskp p d :: L) w) :
    Calls Tryz.prog 85 #[.pointer (some ⟨p, 0, none⟩), .string s, fenc f] w fun e w' => e = .returned (.int .i64 E) ∧ Sat w0 I (dskp p D :: L) w' := by
  have hkey := keyStr s hs
  obtain ⟨k, hk⟩ : ∃ k : Lit, Lit.string s.data.toList = k := ⟨_, rfl⟩
  rw [hk] at hkey hf2 hA
  obtain ⟨b, H1⟩ := H.dskOpen
  obtain ⟨g, hg⟩ : ∃ g, w.heap.size = g := ⟨_, rfl⟩
  have H2 := hid (H1.alloc (b := g) (T := 170) (cs := fcs f) rfl hg.symm)
  obtain ⟨x, hx⟩ : ∃ x, (d.F k).getD fz = x := ⟨_, rfl⟩
  have HX := hid hx
  rw [hx] at hf2
  unfold putS at hA
  rw [hx] at hA
  obtain ⟨G, hG⟩ : ∃ G : Int, (fw f : Int) - fw x = G := ⟨_, rfl⟩
  rw [hG] at hA
  have HA := hid hA
  obtain ⟨a1, ha1⟩ : ∃ a : Int, (fw f : Int) = a := ⟨_, rfl⟩
  obtain ⟨a2, ha2⟩ : ∃ a : Int, (fw x : Int) = a := ⟨_, rfl⟩
  rw [ha1, ha2] at hG
  rw [ha1] at hf
  rw [ha2] at hf2
  have HW1 := hid ha1
  have HW2 := hid ha2
  have h10 : 0 ≤ a1 := by omega
  have h20 : 0 ≤ a2 := by omega
  have hwr : IntKind.i64.wrap G = G := IntWalk.i64_in _ (by omega)
  clear H H1 hk hx hA ha1 ha2
  obtain ⟨fnt, fnx, fst_, fsx⟩ := f
  simp only at ht
  subst ht
  obtain ⟨xnt, xnx, xst, xsx⟩ := x
  have hrd : ∀ {w : World} {L' : List HP}, Sat w0 I (gmap 9 fenc b d.c d.F :: L') w → (Instr.lookup 140 (.map (some b)) (.string s) false).run Tryz.prog w = .ok (.agg #[.bool xnt, .string xnx, .bool xst, .string xsx]) w := fun S => by
    have := S.gmapGet fileT hkey
    rw [HX.out] at this
    exact this
  unfold fenc fcs
  go_enter Tryz.func85, Tryz.ntmps85
  go_upto_region 1 with fail
  try rw [hg]
  refine wp_gen (fun w1 => Sat w0 I (blk g 170 [.bool true, .string fnx, .bool fst_, .string fsx] :: blk p 142 (dcells d b) :: gmap 9 fenc b d.c d.F :: L) w1) H2.out ?_
  clear H2 hg
  intro w1 S1
  have b0 := S1.isBlk.cell 0 (v := .bool true) rfl
  have b1 := S1.isBlk.cell 1 (v := .string fnx) rfl
  have b2 := S1.isBlk.cell 2 (v := .bool fst_) rfl
  have b3 := S1.isBlk.cell 3 (v := .string fsx) rfl
  have c4 := S1.swap.isBlk.cell 4 (v := .map (some b)) rfl
  have m0 := hrd (S1.pick 2).drew
  have H1 := hid S1
  clear S1
  go_cut [7] (fun t wx => t = .int .i64 G ∧ Sat w0 I (blk g 170 [.bool true, .string fnx, .bool fst_, .string fsx] :: blk p 142 (dcells d b) :: gmap 9 fenc b d.c d.F :: L) wx)
  case first =>
    go_region_held3 (fun w' => w'.cell? ⟨g, 0, none⟩ = some (.bool true) ∧ w'.cell? ⟨g, 1, none⟩ = some (.string fnx) ∧ w'.cell? ⟨g, 2, none⟩ = some (.bool fst_) ∧ w'.cell? ⟨g, 3, none⟩ = some (.string fsx) ∧ w'.cell? ⟨p, 4, none⟩ = some (.map (some b)) ∧ (Instr.lookup 140 (.map (some b)) (.string s) false).run Tryz.prog w' = .ok (.agg #[.bool xnt, .string xnx, .bool xst, .string xsx]) w') (first | with_reducible assumption | go_keep)
      (first | (go_at_call 138; with_reducible refine (fweight4 true fnx fst_ fsx HW1.out H1.out.drew).mono ?_; rintro e w5 ⟨rfl, S5⟩; have p0 := S5.isBlk.cell 0 (v := .bool true) rfl; have p1 := S5.isBlk.cell 1 (v := .string fnx) rfl; have p2 := S5.isBlk.cell 2 (v := .bool fst_) rfl; have p3 := S5.isBlk.cell 3 (v := .string fsx) rfl; have p4 := S5.swap.isBlk.cell 4 (v := .map (some b)) rfl; have p5 := hrd S5.drop.drop; have HS5 := hid S5; clear S5) | (go_at_call 138; with_reducible refine (fweight4 xnt xnx xst xsx HW2.out H1.out.drew).mono ?_; rintro e w5 ⟨rfl, S5⟩; have p0 := S5.isBlk.cell 0 (v := .bool true) rfl; have p1 := S5.isBlk.cell 1 (v := .string fnx) rfl; have p2 := S5.isBlk.cell 2 (v := .bool fst_) rfl; have p3 := S5.isBlk.cell 3 (v := .string fsx) rfl; have p4 := S5.swap.isBlk.cell 4 (v := .map (some b)) rfl; have p5 := hrd S5.drop.drop; have HS5 := hid S5; clear S5) | (go_at_call 138; with_reducible refine (fweight4 true fnx fst_ fsx HW1.out HS5.out).mono ?_; rintro e w6 ⟨rfl, S6⟩; have q0 := S6.isBlk.cell 0 (v := .bool true) rfl; have q1 := S6.isBlk.cell 1 (v := .string fnx) rfl; have q2 := S6.isBlk.cell 2 (v := .bool fst_) rfl; have q3 := S6.isBlk.cell 3 (v := .string fsx) rfl; have q4 := S6.swap.isBlk.cell 4 (v := .map (some b)) rfl; have q5 := hrd S6.drop.drop; have HS6 := hid S6; clear S6) | (go_at_call 138; with_reducible refine (fweight4 xnt xnx xst xsx HW2.out HS5.out).mono ?_; rintro e w6 ⟨rfl, S6⟩; have q0 := S6.isBlk.cell 0 (v := .bool true) rfl; have q1 := S6.isBlk.cell 1 (v := .string fnx) rfl; have q2 := S6.isBlk.cell 2 (v := .bool fst_) rfl; have q3 := S6.isBlk.cell 3 (v := .string fsx) rfl; have q4 := S6.swap.isBlk.cell 4 (v := .map (some b)) rfl; have q5 := hrd S6.drop.drop; have HS6 := hid S6; clear S6))
    all_goals
      go_wp2_with fail
      go_meet
      exact ⟨rfl, HS6.out⟩
  case rest =>
    obtain ⟨rfl, S3⟩ := hcut
    have H3 := hid S3.swap
    clear S3 H1 b0 b1 b2 b3 c4 m0
    have hu0 := hd.used0
    have hu := hd.used
    have hr := hd.room
    have hc := hd.c
    by_cases hpos : 0 < G
    · have hA := HA.out
      rw [if_pos hpos] at hA
      by_cases hfit : G ≤ d.room - d.used
      · rw [if_pos hfit] at hA
        cases hA
        have hE : takeE d.room d.used G = 0 := by unfold takeE; rw [if_neg (by omega), if_pos hfit]
        have hU : takeU d.room d.used G = d.used + G := by unfold takeU; rw [if_neg (by omega), if_pos hfit]
        go_wp2_with fail
        refine (dtake (cs := dcells d b) d.room d.used G hE hU (cs' := dcells {d with used := d.used + G} b) rfl rfl rfl hu0 hu hr H3.out).mono ?_; rintro e w4 ⟨rfl, S4⟩
        have b0 := S4.swap.isBlk.cell 0 (v := .bool true) rfl
        have b1 := S4.swap.isBlk.cell 1 (v := .string fnx) rfl
        have b2 := S4.swap.isBlk.cell 2 (v := .bool fst_) rfl
        have b3 := S4.swap.isBlk.cell 3 (v := .string fsx) rfl
        have c4 := S4.isBlk.cell 4 (v := .map (some b)) rfl
        have H4 := hid (S4.pick 2)
        clear S4 H3
        have mt := map_there b
        obtain ⟨w9, hrun, S9⟩ := H4.out.drew.gmapPut fileT hkey ⟨true, fnx, fst_, fsx⟩ hc
        have HS9 := hid S9
        unfold fenc fcs at hrun
        clear S9
        go_upto_region 12 with fail
        go_region
        all_goals
          go_wp2_with fail
          go_ret
          exact ⟨rfl, (Sat.dskClose (d := {d with used := _, F := fnPut d.F k ⟨true, fnx, fst_, fsx⟩, c := d.c + 1}) HS9.out.swap).swap.drop⟩
      · rw [if_neg hfit] at hA
        cases hA
        have hE : takeE d.room d.used G = 7 := by unfold takeE; rw [if_neg (by omega), if_neg hfit]
        have hU : takeU d.room d.used G = d.used := by unfold takeU; rw [if_neg (by omega), if_neg hfit]
        go_wp2_with fail
        refine (dtake (cs := dcells d b) d.room d.used G hE hU (cs' := dcells d b) rfl rfl rfl hu0 hu hr H3.out).mono ?_; rintro e w4 ⟨rfl, S4⟩
        have H4 := hid S4
        clear S4 H3
        go_wp2_with fail
        go_ret
        exact ⟨rfl, Sat.dskClose (H4.out.swap.drop)⟩
    · have hA := HA.out
      obtain ⟨M, hM⟩ : ∃ M, min (-G) d.used = M := ⟨_, rfl⟩
      have HM := hid hM
      rw [if_neg hpos, hM] at hA
      cases hA
      have hE : giveE d.used M = 0 := by unfold giveE; rw [if_neg (by omega)]
      have hU : giveU d.used M = d.used - M := by unfold giveU; rw [if_neg (by omega)]
      have hng : IntKind.i64.wrap (-G) = -G := IntWalk.i64_in _ (by omega)
      clear hM
      go_upto_region 6 with fail
      go_cut [38] (fun _ wx => Sat w0 I (blk p 142 (dcells {d with used := d.used - M} b) :: blk g 170 [.bool true, .string fnx, .bool fst_, .string fsx] :: gmap 9 fenc b d.c d.F :: L) wx)
      case first =>
        have c1 := H3.out.isBlk.cell 1 (v := .int .i64 d.used) rfl
        have hus := fun (w' : World) (S : Sat w0 I (blk p 142 (dcells d b) :: blk g 170 [.bool true, .string fnx, .bool fst_, .string fsx] :: gmap 9 fenc b d.c d.F :: L) w') => used_any w' p 0 d.used (S.isBlk.cell 1 rfl)
        have hum : d.used ≤ 9223372036854775807 := by omega
        have hmn1 : (if d.used < -G then d.used else -G) = M := by rw [← HM.out]; split <;> omega
        have hmn2 : (if -G < d.used then -G else d.used) = M := by rw [← HM.out]; split <;> omega
        go_region_with (first
          | (go_at_call 140; refine (hus _ H3.out.drew).mono ?_; rintro e w5 ⟨rfl, n5, rfl⟩)
          | (go_at_call 139; refine (dgive (cs := dcells d b) d.used M hE hU (cs' := dcells {d with used := d.used - M} b) rfl rfl hu0 hum (H3.out.drewN _)).mono ?_; rintro e w6 ⟨rfl, S6⟩; have HS6 := hid S6; clear S6))
        all_goals
          go_wp2_with fail
          go_meet
          exact HS6.out
      case rest =>
        have S4 := hcut
        clear hcut
        have b0 := S4.swap.isBlk.cell 0 (v := .bool true) rfl
        have b1 := S4.swap.isBlk.cell 1 (v := .string fnx) rfl
        have b2 := S4.swap.isBlk.cell 2 (v := .bool fst_) rfl
        have b3 := S4.swap.isBlk.cell 3 (v := .string fsx) rfl
        have c4 := S4.isBlk.cell 4 (v := .map (some b)) rfl
        have H4 := hid (S4.pick 2)
        clear S4 H3
        have mt := map_there b
        obtain ⟨w9, hrun, S9⟩ := H4.out.drew.gmapPut fileT hkey ⟨true, fnx, fst_, fsx⟩ hc
        have HS9 := hid S9
        unfold fenc fcs at hrun
        clear S9
        go_upto_region 12 with fail
        go_region
        all_goals
          go_wp2_with fail
          go_ret
          exact ⟨rfl, (Sat.dskClose (d := {d with used := _, F := fnPut d.F k ⟨true, fnx, fst_, fsx⟩, c := d.c + 1}) HS9.out.swap).swap.drop⟩
end
end Go.Proofs.YtekioplbfoonkaaGreatDoor
namespace Go.Proofs.YtekioplbfoonkaaGreatDoor
open Go.RowKit
set_option linter.unusedVariables false
set_option maxRecDepth 100000
set_option maxHeartbeats 1000000
def tryD (d : Dst) : Dst := {d with armed := tryA d.lost d.armed}
section
variable {w0 w : World} {I : Part} {L : List HP} {p : Nat} {d : Dst}
theorem tryD_ok (h : d.ok) : (tryD d).ok := by
  have := h.armed0; have := h.armed
  refine ⟨h.used0, h.used, h.room, ?_, ?_, h.c⟩ <;> (simp only [tryD, tryA]; split; omega; split <;> omega)
theorem dtry_sat (hd : d.ok) {E : Int} (hE : tryE d.lost d.armed = E) (H : Sat w0 I (dskp p d :: L) w) :
    Calls Tryz.prog 103 #[.pointer (some ⟨p, 2, none⟩)] w fun e w' => e = .returned (.int .i64 E) ∧ Sat w0 I (dskp p (tryD d) :: L) w' := by
  obtain ⟨b, H1⟩ := H.dskOpen
  have := hd.armed
  refine (try_eq w p 2 d.lost d.armed hE rfl (H1.isBlk.cell 2 rfl) (H1.isBlk.cell 3 rfl) (H1.isBlk.frozen 3) hd.armed0 (by omega)).mono ?_
  rintro e w' ⟨rfl, n, rfl⟩
  exact ⟨rfl, Sat.dskClose (d := tryD d) (Sat.drewN (H1.set 3 _ rfl) n)⟩
noncomputable def appS (d : Dst) (k : Lit) (s : ByteArray) : Int × Dst :=
  if tryE d.lost d.armed = 0 then putS (tryD d) k ⟨true, ((d.F k).getD fz).nx ++ s, ((d.F k).getD fz).st, ((d.F k).getD fz).sx⟩ else (tryE d.lost d.armed, tryD d)
theorem dapp1_sat (q : Nat) (x s : ByteArray) (h : ¬ 9223372036854775807 < x.size + s.size) {A : HP} (H : Sat w0 I (A :: blk q 9 [.string s] :: L) w) :
    Calls Tryz.prog 172 #[.string x, .pointer (some ⟨q, 0, none⟩)] w fun e w' => e = .returned (.string (x ++ s)) ∧ Sat w0 I (A :: blk q 9 [.string s] :: L) w' := by
  have c0 := H.swap.isBlk.cell 0 (v := .string s) rfl
  refine ret_sat ?_ H
  go_enter Tryz.func172, Tryz.ntmps172
  go_wp2_with fail
  go_ret
  exact ⟨rfl, 0, rfl⟩
theorem fw_le (f : Fst) {n : Nat} (h1 : f.nx.size ≤ n) (h2 : f.sx.size ≤ n) : fw f ≤ n := Nat.max_le.2 ⟨h1, h2⟩
theorem dchange_sat (q : Nat) (name : ByteArray) (hs : name.size ≤ maxLen) (hn : (name.toList == ([] : List UInt8)) = false) (s : ByteArray) {x : Fst} (hx : (d.F (.string name.data.toList)).getD fz = x) (hsz : x.nx.size + s.size ≤ 1000000000) (hsx : x.sx.size ≤ 1000000000) (hd : d.ok) {E : Int} {D : Dst} (hA : appS d (.string name.data.toList) s = (E, D)) (H : Sat w0 I (blk q 9 [.string s] :: dskp p d :: L) w) :
    Calls Tryz.prog 171 #[.pointer (some ⟨p, 0, none⟩), .string name, .func (Fn.func 172) #[] #[.pointer (some ⟨q, 0, none⟩)]] w fun e w' => e = .returned (.int .i64 E) ∧ Sat w0 I (blk q 9 [.string s] :: dskp p D :: L) w' := by
  have hkey := keyStr name hs
  have HX := hid hx
  unfold appS at hA
  rw [hx] at hA
  have HA := hid hA
  obtain ⟨E0, hE⟩ : ∃ E0, tryE d.lost d.armed = E0 := ⟨_, rfl⟩
  have HE := hid hE
  have HH := hid H
  obtain ⟨xnt, xnx, xst, xsx⟩ := x
  simp only at hsz hsx
  have has : (xnx ++ s).size = xnx.size + s.size := ByteArray.size_append
  have hadd : ¬ 9223372036854775807 < xnx.size + s.size := by omega
  clear hA H hx hE
  by_cases h0 : E0 = 0
  · subst h0
    have hA := HA.out
    rw [if_pos HE.out] at hA
    have hA' := hid hA
    clear hA HA
    go_enter Tryz.func171, Tryz.ntmps171
    go_wp2_with fail
    refine (dtry_sat hd HE.out HH.out.swap).mono ?_; rintro e w1 ⟨rfl, S1⟩
    obtain ⟨b, S2⟩ := S1.dskOpen
    have c4 := S2.isBlk.cell 4 (v := .map (some b)) rfl
    have hl := S2.swap.gmapGet fileT hkey
    rw [show (tryD d).F = d.F from rfl, HX.out] at hl
    unfold fenc fcs at hl
    obtain ⟨g, hg⟩ : ∃ g, w1.heap.size = g := ⟨_, rfl⟩
    have H2 := hid ((Sat.dskClose (d := tryD d) S2).alloc (b := g) (T := 170) (cs := [.bool xnt, .string xnx, .bool xst, .string xsx]) rfl hg.symm)
    clear S1 S2 HH
    go_upto_region 7 with fail
    refine wp_gen (fun w3 => Sat w0 I (blk g 170 [.bool xnt, .string xnx, .bool xst, .string xsx] :: dskp p (tryD d) :: blk q 9 [.string s] :: L) w3) H2.out ?_
    clear H2 hl c4 hg
    intro w3 S3
    have b1 := S3.isBlk.cell 1 (v := .string xnx) rfl
    have H3 := hid S3
    clear S3
    go_wp2_with fail
    refine (dapp1_sat q xnx s hadd (A := sepL [blk g 170 [.bool xnt, .string xnx, .bool xst, .string xsx], dskp p (tryD d)]) (H3.out.join (M := [_, _]))).mono ?_; rintro e w4 ⟨rfl, S4⟩
    have S5 := S4.flat
    have b0 := S5.isBlk.cell 0 (v := .bool xnt) rfl
    have b1 := S5.isBlk.cell 1 (v := .string xnx) rfl
    have b2 := S5.isBlk.cell 2 (v := .bool xst) rfl
    have b3 := S5.isBlk.cell 3 (v := .string xsx) rfl
    have f0 := S5.isBlk.frozen 0
    have f1 := S5.isBlk.frozen 1
    have H5 := hid S5
    clear S4 S5 H3
    go_upto_region 8 with fail
    have H6 := hid ((H5.out.set 0 (.bool true) rfl).set 1 (.string (xnx ++ s)) rfl)
    clear H5 b0 b1 b2 b3 f0 f1
    obtain ⟨y, hy⟩ : ∃ y, xnx ++ s = y := ⟨_, rfl⟩
    rw [hy] at H6 ⊢
    have hA := hA'.out
    rw [show (⟨true, (⟨xnt, xnx, xst, xsx⟩ : Fst).nx ++ s, (⟨xnt, xnx, xst, xsx⟩ : Fst).st, (⟨xnt, xnx, xst, xsx⟩ : Fst).sx⟩ : Fst) = ⟨true, y, xst, xsx⟩ by rw [← hy]] at hA
    have hA2 := hid hA
    have hw1 : (fw ⟨true, y, xst, xsx⟩ : Int) ≤ 4611686018427387904 := by
      have := fw_le ⟨true, y, xst, xsx⟩ (n := 1000000000) (by show y.size ≤ _; rw [← hy]; omega) hsx
      omega
    have hw2 : (fw (((tryD d).F (.string name.data.toList)).getD fz) : Int) ≤ 4611686018427387904 := by
      rw [show (tryD d).F = d.F from rfl, HX.out]
      have := fw_le ⟨xnt, xnx, xst, xsx⟩ (n := 1000000000) (by show xnx.size ≤ _; omega) hsx
      omega
    clear hA hA' hy hadd has
    refine wp_gen (fun w6 => Sat w0 I (blk g 170 [.bool true, .string y, .bool xst, .string xsx] :: dskp p (tryD d) :: blk q 9 [.string s] :: L) w6) H6.out ?_
    clear H6
    intro w6 S6
    have b0 := S6.isBlk.cell 0 (v := .bool true) rfl
    have b1 := S6.isBlk.cell 1 (v := .string y) rfl
    have b2 := S6.isBlk.cell 2 (v := .bool xst) rfl
    have b3 := S6.isBlk.cell 3 (v := .string xsx) rfl
    have H6 := hid S6
    clear S6
    go_wp2_with fail
    refine (dput_sat name hs ⟨true, y, xst, xsx⟩ rfl (tryD_ok hd) hw1 hw2 hA2.out H6.out.swap).mono ?_; rintro e w7 ⟨rfl, S7⟩
    have H7 := hid S7
    clear S7 H6
    go_wp2_with fail
    go_ret
    exact ⟨rfl, H7.out.swap.drop.swap⟩
  · have hA := HA.out
    rw [HE.out, if_neg h0] at hA
    cases hA
    go_enter Tryz.func171, Tryz.ntmps171
    go_wp2_with fail
    refine (dtry_sat hd HE.out HH.out.swap).mono ?_; rintro e w1 ⟨rfl, S1⟩
    have H1 := hid S1
    clear S1 HH
    go_wp2_with fail
    go_ret
    exact ⟨rfl, H1.out.swap⟩
theorem dappend_sat (name : ByteArray) (hs : name.size ≤ maxLen) (hn : (name.toList == ([] : List UInt8)) = false) (s : ByteArray) {x : Fst} (hx : (d.F (.string name.data.toList)).getD fz = x) (hsz : x.nx.size + s.size ≤ 1000000000) (hsx : x.sx.size ≤ 1000000000) (hd : d.ok) {E : Int} {D : Dst} (hA : appS d (.string name.data.toList) s = (E, D)) (H : Sat w0 I (dskp p d :: L) w) :
    Calls Tryz.prog 133 #[.pointer (some ⟨p, 0, none⟩), .string name, .string s] w fun e w' => e = .returned (.int .i64 E) ∧ Sat w0 I (dskp p D :: L) w' := by
  obtain ⟨q, hq⟩ : ∃ q, w.heap.size = q := ⟨_, rfl⟩
  have H1 := hid (H.alloc (b := q) (T := 9) (cs := [.string s]) rfl hq.symm)
  have HA := hid hA
  have HX := hid hx
  clear H hA hx
  go_enter Tryz.func133, Tryz.ntmps133
  go_wp2_with fail
  refine (dchange_sat q name hs hn s HX.out hsz hsx hd HA.out H1.out).mono ?_; rintro e w2 ⟨rfl, S2⟩
  have H2 := hid S2
  clear S2 H1
  go_wp2_with fail
  go_ret
  exact ⟨rfl, H2.out.drop⟩
end
end Go.Proofs.YtekioplbfoonkaaGreatDoor
namespace Go.Proofs.YtekioplbfoonkaaGreatDoor
open Go.RowKit
set_option linter.unusedVariables false
set_option maxRecDepth 100000
set_option maxHeartbeats 1000000
structure Dst.calm (d : Dst) : Prop where
  ok : d.ok
  lost : d.lost = false
  armed : d.armed = 0
theorem Dst.calm.try_ {d : Dst} (h : d.calm) : tryE d.lost d.armed = 0 ∧ tryD d = d := by
  obtain ⟨room, used, lost, armed, F, c⟩ := d
  have h1 := h.lost; have h2 := h.armed
  simp only at h1 h2
  subst h1 h2
  exact ⟨rfl, rfl⟩
section
variable {w0 w : World} {I : Part} {L : List HP} {p : Nat} {d : Dst}
theorem dtry_calm (hd : d.calm) (H : Sat w0 I (dskp p d :: L) w) :
    Calls Tryz.prog 103 #[.pointer (some ⟨p, 2, none⟩)] w fun e w' => e = .returned (.int .i64 0) ∧ Sat w0 I (dskp p d :: L) w' := by
  have := dtry_sat hd.ok hd.try_.1 H
  rwa [hd.try_.2] at this
theorem dread_sat (hd : d.calm) (name : ByteArray) (hs : name.size ≤ maxLen) {x : Fst} (hx : (d.F (.string name.data.toList)).getD fz = x) (H : Sat w0 I (dskp p d :: L) w) :
    Calls Tryz.prog 75 #[.pointer (some ⟨p, 0, none⟩), .string name] w fun e w' => e = .returned (if x.nt = true then .tuple #[.string x.nx, .int .i64 0] else .tuple #[.string ⟨#[]⟩, .int .i64 5]) ∧ Sat w0 I (dskp p d :: L) w' := by
  have hkey := keyStr name hs
  have HX := hid hx
  have HH := hid H
  obtain ⟨xnt, xnx, xst, xsx⟩ := x
  clear hx H
  go_enter Tryz.func75, Tryz.ntmps75
  go_wp2_with fail
  refine (dtry_calm hd HH.out).mono ?_; rintro e w1 ⟨rfl, S1⟩
  obtain ⟨b, S2⟩ := S1.dskOpen
  have c4 := S2.isBlk.cell 4 (v := .map (some b)) rfl
  have hl := S2.swap.gmapGet fileT hkey
  rw [HX.out] at hl
  unfold fenc fcs at hl
  obtain ⟨g, hg⟩ : ∃ g, w1.heap.size = g := ⟨_, rfl⟩
  have H2 := hid ((Sat.dskClose (d := d) S2).alloc (b := g) (T := 170) (cs := [.bool xnt, .string xnx, .bool xst, .string xsx]) rfl hg.symm)
  clear S1 S2
  go_upto_region 5 with fail
  refine wp_gen (fun w3 => Sat w0 I (blk g 170 [.bool xnt, .string xnx, .bool xst, .string xsx] :: dskp p d :: L) w3) H2.out ?_
  clear H2 hl c4 hg HH
  intro w3 S3
  have b0 := S3.isBlk.cell 0 (v := .bool xnt) rfl
  have b1 := S3.isBlk.cell 1 (v := .string xnx) rfl
  have H3 := hid S3.drop
  clear S3
  cases xnt
  all_goals
    go_wp2_with fail
    go_returns
    exact ⟨rfl, H3.out⟩
theorem dsync1_sat (hd : d.calm) (la : Option Addr) (cap : Nat) (name : ByteArray) (hs : name.size ≤ maxLen) (hr : Rd I la [.string name]) {x : Fst} (hx : (d.F (.string name.data.toList)).getD fz = x) (hnt : x.nt = true) (hsz : x.nx.size ≤ 1000000000) (hsx : x.sx.size ≤ 1000000000) {E : Int} {D : Dst} (hA : putS d (.string name.data.toList) ⟨true, x.nx, true, x.nx⟩ = (E, D)) (H : Sat w0 I (dskp p d :: L) w) :
    Calls Tryz.prog 79 #[.pointer (some ⟨p, 0, none⟩), .slice la 1 cap] w fun e w' => e = .returned (.int .i64 0) ∧ Sat w0 I (dskp p D :: L) w' := by
  have hkey := keyStr name hs
  have HX := hid hx
  have HH := hid H
  have HR := hid hr
  obtain ⟨xnt, xnx, xst, xsx⟩ := x
  simp only at hsz hsx hnt hA
  subst hnt
  have HA := hid hA
  have hw1 : (fw ⟨true, xnx, true, xnx⟩ : Int) ≤ 4611686018427387904 := by
    have := fw_le ⟨true, xnx, true, xnx⟩ (n := 1000000000) hsz hsz
    omega
  have hw2 : (fw ((d.F (.string name.data.toList)).getD fz) : Int) ≤ 4611686018427387904 := by
    rw [HX.out]
    have := fw_le ⟨true, xnx, xst, xsx⟩ (n := 1000000000) hsz hsx
    omega
  have HW1 := hid hw1
  have HW2 := hid hw2
  clear hx H hr hA hw1 hw2
  go_enter Tryz.func79, Tryz.ntmps79
  go_wp2_with fail
  refine (dtry_calm hd HH.out).mono ?_; rintro e w1 ⟨rfl, S1⟩
  have H1 := hid S1
  clear S1 HH
  go_wp2_with fail
  go_loopw [7, 8, 23] (fun _ _ i wr => (i = .int .i64 0 ∧ Sat w0 I (dskp p d :: L) wr) ∨ (i = .int .i64 1 ∧ Sat w0 I (dskp p D :: L) wr)) (fun _ _ i _ => 1 - (intOf i).toNat)
  case atStart => exact Or.inl ⟨rfl, H1.out⟩
  case round =>
    clear H1
    rcases hrel with ⟨rfl, S1⟩ | ⟨rfl, S1⟩
    · obtain ⟨b0, off, rfl, e0⟩ := HR.out.get S1 0 (u := .string name) rfl
      rw [Nat.add_zero] at e0
      obtain ⟨b, S2⟩ := S1.dskOpen
      have c4 := S2.isBlk.cell 4 (v := .map (some b)) rfl
      have hl := S2.swap.gmapGet fileT hkey
      rw [HX.out] at hl
      unfold fenc fcs at hl
      obtain ⟨g, hg⟩ : ∃ g, wr.heap.size = g := ⟨_, rfl⟩
      have H2 := hid ((Sat.dskClose (d := d) S2).alloc (b := g) (T := 170) (cs := [.bool true, .string xnx, .bool xst, .string xsx]) rfl hg.symm)
      clear S1 S2
      go_upto_region 10 with fail
      refine wp_gen (fun w3 => Sat w0 I (blk g 170 [.bool true, .string xnx, .bool xst, .string xsx] :: dskp p d :: L) w3) H2.out ?_
      clear H2 hl c4 hg e0
      intro w3 S3
      have b0 := S3.isBlk.cell 0 (v := .bool true) rfl
      have b1 := S3.isBlk.cell 1 (v := .string xnx) rfl
      have b2 := S3.isBlk.cell 2 (v := .bool xst) rfl
      have b3 := S3.isBlk.cell 3 (v := .string xsx) rfl
      have f2 := S3.isBlk.frozen 2
      have f3 := S3.isBlk.frozen 3
      have H3 := hid ((S3.set 2 (.bool true) rfl).set 3 (.string xnx) rfl)
      clear S3
      go_upto_region 11 with fail
      refine wp_gen (fun w4 => Sat w0 I (blk g 170 [.bool true, .string xnx, .bool true, .string xnx] :: dskp p d :: L) w4) H3.out ?_
      clear H3 b0 b1 b2 b3 f2 f3
      intro w4 S4
      have b0 := S4.isBlk.cell 0 (v := .bool true) rfl
      have b1 := S4.isBlk.cell 1 (v := .string xnx) rfl
      have b2 := S4.isBlk.cell 2 (v := .bool true) rfl
      have b3 := S4.isBlk.cell 3 (v := .string xnx) rfl
      have H4 := hid S4
      clear S4
      go_wp2_with fail
      refine (dput_sat name hs ⟨true, xnx, true, xnx⟩ rfl hd.ok HW1.out HW2.out HA.out H4.out.swap).mono ?_; rintro e w5 ⟨rfl, S5⟩
      have H5 := hid S5.swap.drop
      clear S5 H4
      go_wp2_with fail
      go_roundw
      case rel => exact Or.inr ⟨by go_num, H5.out⟩
      case measure => (simp [intOf] <;> omega)
    · have H1 := hid S1
      clear S1
      go_wp2_with fail
      go_ret
      exact ⟨rfl, H1.out⟩
end
end Go.Proofs.YtekioplbfoonkaaGreatDoor
