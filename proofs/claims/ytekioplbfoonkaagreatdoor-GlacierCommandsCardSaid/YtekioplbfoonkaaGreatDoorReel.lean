/- Volumes (package reel): what a volume is, and the contracts of its functions. -/
import Derived.Test.YtekioplbfoonkaaGreatDoorMg1
import Derived.Test.YtekioplbfoonkaaGreatDoorMeter
namespace Go.Proofs.YtekioplbfoonkaaGreatDoor
open Go.RowKit
set_option linter.unusedVariables false
set_option maxRecDepth 100000
set_option maxHeartbeats 1000000

/-- a block of a volume. -/
structure Bk where
  s : ByteArray
  mark : Bool
  torn : Bool
instance : Inhabited Bk := ⟨⟨⟨#[]⟩, false, false⟩⟩
def bc (b : Bk) : List Value := [.string b.s, .bool b.mark, .bool b.torn]
theorem bc_len (b : Bk) : (bc b).length = 3 := rfl
theorem bc_one1 (b : Bk) : ∀ u ∈ bc b, u.oneCell' = true := by
  intro u hu; simp [bc] at hu; rcases hu with rfl | rfl | rfl <;> rfl
theorem bc_one (l : List Bk) : ∀ u ∈ l.flatMap bc, u.oneCell' = true := by
  intro u hu; obtain ⟨b, _, hb⟩ := List.mem_flatMap.1 hu; exact bc_one1 b u hb
/-- what a block weighs. -/
def bwt (b : Bk) : Nat := b.s.size + 4
def wsum : List Bk → Nat
  | [] => 0
  | b :: l => bwt b + wsum l
theorem wsum_app (l m : List Bk) : wsum (l ++ m) = wsum l + wsum m := by
  induction l with
  | nil => simp [wsum]
  | cons b l ih => simp only [List.cons_append, wsum, ih]; omega
theorem wsum_get : ∀ (l : List Bk) (i : Nat) (h : i < l.length), bwt l[i] ≤ wsum l
  | b :: l, 0, _ => by simp [wsum]
  | b :: l, i + 1, h => by
    have := wsum_get l i (by simpa using h)
    simp only [wsum, List.getElem_cons_succ]; omega
theorem wsum_len (l : List Bk) : 4 * l.length ≤ wsum l := by
  induction l with
  | nil => simp [wsum]
  | cons b l ih => simp only [List.length_cons, wsum, bwt]; omega
def tornL (l : List Bk) : Bool := match l.getLast? with | some b => b.torn | none => false
/-- what a volume says. -/
structure Vst where
  room : Int
  lost : Bool
  armed : Int
  label : ByteArray
  bl : List Bk
  sure : Nat
  at_ : Nat
  erased : Int
  prot : Bool
def Vst.cells (v : Vst) (sv : Value) : List Value := [.int .i64 v.room, .int .i64 (wsum v.bl), .bool v.lost, .int .i64 v.armed, .string v.label, sv, .int .i64 v.sure, .int .i64 v.at_, .int .i64 v.erased, .bool v.prot]
structure Vst.ok (v : Vst) : Prop where
  room0 : 0 ≤ v.room
  room : v.room ≤ 9223372036854775807
  used : (wsum v.bl : Int) ≤ v.room
  armed0 : 0 ≤ v.armed
  armed : v.armed ≤ 1073741825
  sure : v.sure ≤ v.bl.length
  at_ : v.at_ ≤ v.bl.length
  len : v.bl.length ≤ 1048576
  erased0 : 0 ≤ v.erased
  erased : v.erased ≤ 4611686018427387904
theorem Vst.ok.size {v : Vst} (h : v.ok) (i : Nat) (hi : i < v.bl.length) : (v.bl[i].s.size : Int) + 4 ≤ 9223372036854775807 := by
  have h1 := wsum_get v.bl i hi
  have := h.room
  have := h.used
  unfold bwt at h1
  omega
/-- a volume in memory. -/
def volp (p : Nat) (v : Vst) : HP := fun g => ∃ ad cap, sepL [blk p 118 (v.cells (.slice ad v.bl.length cap)), row 186 3 (.slice ad v.bl.length cap) v.bl.length (v.bl.flatMap bc)] g
theorem slBlk : SliceT Tryz.prog 116 186 3 24 := ⟨Tryz.underlying116, ⟨_, _, rfl, rfl, rfl, rfl, rfl⟩, by decide⟩
section
variable {w0 w : World} {I : Part} {L : List HP} {p : Nat} {v : Vst}
theorem Sat.volOpen (h : Sat w0 I (volp p v :: L) w) : ∃ ad cap, v.bl.length ≤ cap ∧ cap ≤ 9223372036854775807 ∧ Sat w0 I (blk p 118 (v.cells (.slice ad v.bl.length cap)) :: row 186 3 (.slice ad v.bl.length cap) v.bl.length (v.bl.flatMap bc) :: L) w := by
  obtain ⟨g, hg, ⟨ad, cap, s⟩, r⟩ := h.sep
  have h2 : Sat w0 I (sepL [blk p 118 (v.cells (.slice ad v.bl.length cap)), row 186 3 (.slice ad v.bl.length cap) v.bl.length (v.bl.flatMap bc)] :: L) w := ⟨h.os, h.tape, h.output, h.size, h.imm, g, hg, s, r⟩
  have h3 := h2.flat
  obtain ⟨_, _, e, k1, k2⟩ := own_shape h3.swap.isRow
  simp only [Value.slice.injEq, true_and] at e
  obtain ⟨rfl, rfl⟩ := e
  exact ⟨ad, cap, k1, k2, h3⟩
theorem Sat.volClose {ad : Option Addr} {cap : Nat} (h : Sat w0 I (blk p 118 (v.cells (.slice ad v.bl.length cap)) :: row 186 3 (.slice ad v.bl.length cap) v.bl.length (v.bl.flatMap bc) :: L) w) : Sat w0 I (volp p v :: L) w :=
  h.of (M := [_, _]) fun g s => ⟨ad, cap, s⟩

theorem vnew (r : Int) (H : Sat w0 I L w) :
    Calls Tryz.prog 39 #[.int .i64 r] w fun e w' => ∃ p, e = .returned (.pointer (some ⟨p, 0, none⟩)) ∧ Sat w0 I (volp p ⟨max r 0, false, 0, ⟨#[]⟩, [], 0, 0, 0, false⟩ :: L) w' := by
  have HS := hid H
  clear H
  go_enter Tryz.func39, Tryz.ntmps39
  go_wp2_with fail
  refine (made_any _ r).mono ?_; rintro e w1 ⟨rfl, n, rfl⟩
  go_wp2_with fail
  go_ret
  have HS := HS.out
  refine ⟨_, rfl, Sat.volClose (ad := none) (cap := 0) ?_⟩
  refine Sat.alloc (Sat.nilRow (by (repeat' (first | (with_reducible assumption) | (with_reducible refine Sat.drewN ?_ _) | (with_reducible refine Sat.drew ?_) | ((with_reducible refine Sat.alloc ?_ ?_ ?_); rotate_left; (first | rfl | (simp; done)); (first | rfl | omega | (simp <;> omega))) | (with_reducible refine Sat.alloc_ ?_ _) | ((with_reducible refine Sat.set ?_ _ _ ?_); rotate_left; (first | rfl | (simp; done))) | ((with_reducible refine Sat.set1 ?_ _ _ ?_); rotate_left; (first | rfl | (simp; done))) | ((with_reducible refine Sat.set2 ?_ _ _ ?_); rotate_left; (first | rfl | (simp; done))) | ((with_reducible refine Sat.set3 ?_ _ _ ?_); rotate_left; (first | rfl | (simp; done)))))) _ _) rfl (by simp)
theorem vlabel (H : Sat w0 I (volp p v :: L) w) :
    Calls Tryz.prog 94 #[.pointer (some ⟨p, 0, none⟩)] w fun e w' => e = .returned (.string v.label) ∧ Sat w0 I (volp p v :: L) w' := by
  obtain ⟨ad, cap, k1, k2, H1⟩ := H.volOpen
  have c := H1.isBlk.cell 4 rfl
  refine ret_sat ?_ H
  go_enter Tryz.func94, Tryz.ntmps94
  go_wp2
  go_ret
  exact ⟨rfl, 0, rfl⟩
theorem vlen (H : Sat w0 I (volp p v :: L) w) :
    Calls Tryz.prog 90 #[.pointer (some ⟨p, 0, none⟩)] w fun e w' => e = .returned (.int .i64 v.bl.length) ∧ Sat w0 I (volp p v :: L) w' := by
  obtain ⟨ad, cap, k1, k2, H1⟩ := H.volOpen
  have c := H1.isBlk.cell 5 rfl
  refine ret_sat ?_ H
  go_enter Tryz.func90, Tryz.ntmps90
  go_wp2
  go_ret
  exact ⟨rfl, 0, rfl⟩
theorem vat (H : Sat w0 I (volp p v :: L) w) :
    Calls Tryz.prog 16 #[.pointer (some ⟨p, 0, none⟩)] w fun e w' => e = .returned (.int .i64 v.at_) ∧ Sat w0 I (volp p v :: L) w' := by
  obtain ⟨ad, cap, k1, k2, H1⟩ := H.volOpen
  have c := H1.isBlk.cell 7 rfl
  refine ret_sat ?_ H
  go_enter Tryz.func16, Tryz.ntmps16
  go_wp2
  go_ret
  exact ⟨rfl, 0, rfl⟩
theorem vused (H : Sat w0 I (volp p v :: L) w) :
    Calls Tryz.prog 140 #[.pointer (some ⟨p, 0, none⟩)] w fun e w' => e = .returned (.int .i64 (wsum v.bl)) ∧ Sat w0 I (volp p v :: L) w' := by
  obtain ⟨ad, cap, k1, k2, H1⟩ := H.volOpen
  exact ret_sat (used_any w p 0 _ (H1.isBlk.cell 1 rfl)) H
def tryV (v : Vst) : Vst := {v with armed := tryA v.lost v.armed}
theorem tryV_ok (h : v.ok) : (tryV v).ok := by
  have := h.armed0; have := h.armed
  refine ⟨h.room0, h.room, h.used, ?_, ?_, h.sure, h.at_, h.len, h.erased0, h.erased⟩ <;> (simp only [tryV, tryA]; split; omega; split <;> omega)
theorem vtry (hv : v.ok) (H : Sat w0 I (volp p v :: L) w) :
    Calls Tryz.prog 103 #[.pointer (some ⟨p, 2, none⟩)] w fun e w' => e = .returned (.int .i64 (tryE v.lost v.armed)) ∧ Sat w0 I (volp p (tryV v) :: L) w' := by
  obtain ⟨ad, cap, k1, k2, H1⟩ := H.volOpen
  refine (try_any w p 2 v.lost v.armed (H1.isBlk.cell 2 rfl) (H1.isBlk.cell 3 rfl) (H1.isBlk.frozen 3) hv.armed0 (by have := hv.armed; omega)).mono ?_
  rintro e w' ⟨rfl, n, rfl⟩
  exact ⟨rfl, Sat.volClose (v := tryV v) (Sat.drewN (H1.set 3 _ rfl) n)⟩
def flushE (v : Vst) : Int := tryE v.lost v.armed
def flushV (v : Vst) : Vst := if tryE v.lost v.armed = 0 then {tryV v with sure := v.bl.length} else tryV v
theorem vflush (hv : v.ok) (H : Sat w0 I (volp p v :: L) w) :
    Calls Tryz.prog 98 #[.pointer (some ⟨p, 0, none⟩)] w fun e w' => e = .returned (.int .i64 (flushE v)) ∧ Sat w0 I (volp p (flushV v) :: L) w' := by
  have HS := hid H
  clear H
  unfold flushE flushV
  generalize hE : tryE v.lost v.armed = E
  by_cases h0 : E = 0
  · rw [if_pos h0]
    subst h0
    have HE := hid hE; clear hE
    go_enter Tryz.func98, Tryz.ntmps98
    go_wp2_with fail
    refine (vtry hv HS.out).mono ?_; rintro e w1 ⟨rfl, H1⟩
    rw [HE.out]
    obtain ⟨ad, cap, k1, k2, H2⟩ := H1.volOpen
    have c := H2.isBlk.cell 5 rfl
    have f := H2.isBlk.frozen 6
    have c6 := H2.isBlk.cell 6 rfl
    have H3 := hid H2
    clear H1 H2
    go_wp2_with fail
    go_ret
    exact ⟨rfl, Sat.volClose (v := {tryV v with sure := v.bl.length}) (H3.out.set 6 _ rfl)⟩
  · rw [if_neg h0]
    have HE := hid hE; clear hE
    go_enter Tryz.func98, Tryz.ntmps98
    go_wp2_with fail
    refine (vtry hv HS.out).mono ?_; rintro e w1 ⟨rfl, H1⟩
    rw [HE.out]
    have H3 := hid H1
    clear H1
    go_wp2_with fail
    go_ret
    exact ⟨rfl, H3.out⟩
theorem weight_any (w : World) (b : Bk) (hb : (b.s.size : Int) + 4 ≤ 9223372036854775807) :
    Calls Tryz.prog 102 #[.agg (bc b).toArray] w (Ret (.int .i64 (bwt b)) (w.alloc (.cells (bc b).toArray 186))) := by
  unfold bwt bc
  go_enter Tryz.func102, Tryz.ntmps102
  go_wp2
  go_ret
  exact ⟨rfl, 0, rfl⟩
theorem weight_sat (b : Bk) (hb : (b.s.size : Int) + 4 ≤ 9223372036854775807) (H : Sat w0 I L w) :
    Calls Tryz.prog 102 #[.agg #[.string b.s, .bool b.mark, .bool b.torn]] w fun e w' => e = .returned (.int .i64 (bwt b)) ∧ Sat w0 I L w' :=
  (weight_any w b hb).mono fun e w' ⟨h1, n, h2⟩ => ⟨h1, by subst h2; exact (H.alloc_ _).drewN n⟩
theorem tornL_get (l : List Bk) (h : 0 < l.length) : tornL l = (l[l.length - 1]'(by omega)).torn := by
  unfold tornL
  rw [List.getLast?_eq_getElem?, List.getElem?_eq_getElem (by omega)]
theorem row_elem {b : Bk} {ad : Option Addr} {cap i : Nat} {l : List Bk} (H : Sat w0 I (row 186 3 (.slice ad l.length cap) l.length (l.flatMap bc) :: L) w) (hi : i < l.length) : ∃ g, ad = some ⟨g, 0, none⟩ ∧ w.cell? ⟨g, i * 3, none⟩ = some (.string l[i].s) ∧ w.cell? ⟨g, i * 3 + 1, none⟩ = some (.bool l[i].mark) ∧ w.cell? ⟨g, i * 3 + 2, none⟩ = some (.bool l[i].torn) := by
  obtain ⟨hl, h | ⟨g, c, cur, hv, _, hh, h1, h2, h3, h4⟩⟩ := H.isRow
  · omega
  · simp only [Value.slice.injEq, true_and] at hv
    obtain ⟨rfl, rfl⟩ := hv
    have key : ∀ j, j < 3 → w.cell? ⟨g, i * 3 + j, none⟩ = (bc l[i])[j]? := fun j hj => by
      unfold World.cell?
      rw [show (⟨g, i * 3 + j, none⟩ : Addr).block = g from rfl, hh]
      have := flat_get bc bc_len l i j hi hj
      rw [← this, ← h4, List.getElem?_take_of_lt (by omega)]
      simp
    exact ⟨g, rfl, key 0 (by omega), key 1 (by omega), key 2 (by omega)⟩
theorem vtorn (H : Sat w0 I (volp p v :: L) w) :
    Calls Tryz.prog 104 #[.pointer (some ⟨p, 0, none⟩)] w (Ret (.bool (tornL v.bl)) w) := by
  obtain ⟨ad, cap, k1, k2, H1⟩ := H.volOpen
  have c := H1.isBlk.cell 5 rfl
  have H2 := H1.swap
  clear H
  by_cases h0 : 0 < v.bl.length
  · obtain ⟨g, rfl, e1, e2, e3⟩ := row_elem (i := v.bl.length - 1) (b := default) H2 (by omega)
    rw [tornL_get _ h0]
    generalize ht : v.bl[v.bl.length - 1].torn = t at *
    clear H1 H2 ht e1 e2
    generalize v.bl.length = n at *
    obtain ⟨m, rfl⟩ : ∃ m, n = m + 1 := ⟨n - 1, by omega⟩
    have hm : ((m + 1 : Nat) : Int) - 1 = (m : Int) := by omega
    have hd : decide (0 < ((m + 1 : Nat) : Int)) = true := decide_eq_true (by omega)
    simp only [Nat.add_sub_cancel] at e3
    clear h0
    go_enter Tryz.func104, Tryz.ntmps104
    go_wp2
    go_quiet (fail)
    go_wp2
    go_ret
    exact ⟨rfl, _, rfl⟩
  · have hl : v.bl = [] := List.eq_nil_of_length_eq_zero (by omega)
    have hl0 : v.bl.length = 0 := by omega
    rw [hl]
    rw [hl0] at c
    have hd : decide (0 < ((0 : Nat) : Int)) = false := by simp
    go_enter Tryz.func104, Tryz.ntmps104
    go_wp2
    go_quiet (fail)
    go_wp2
    go_ret
    exact ⟨rfl, _, rfl⟩
end
end Go.Proofs.YtekioplbfoonkaaGreatDoor
