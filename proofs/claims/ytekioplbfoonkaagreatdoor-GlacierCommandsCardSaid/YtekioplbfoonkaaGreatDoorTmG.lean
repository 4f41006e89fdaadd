/- Layer 9's Load; layer 10's Open. -/
import Derived.Test.YtekioplbfoonkaaGreatDoorTmF
import Derived.Test.YtekioplbfoonkaaGreatDoorRow
namespace Go.Proofs.YtekioplbfoonkaaGreatDoor
open Go.RowKit
set_option linter.unusedVariables false
set_option maxRecDepth 100000
set_option maxHeartbeats 2000000
/-- what a node keeps. -/
structure Nst where
  term : Nat
  vote : Nat
  base : Nat
  bterm : Nat
  snap : ByteArray
  log : List Ent
structure Nst.Ok (s : Nst) : Prop where
  term : s.term ≤ 100
  vote : s.vote ≤ 5
  base : s.base ≤ 100
  bterm : s.bterm ≤ 100
  snap : s.snap.size ≤ 100
  log : ∀ x ∈ s.log, x.Ok
  len : s.log.length ≤ 20
  idx : ∀ i (h : i < s.log.length), s.log[i].idx = s.base + i + 1
structure Kd (d : Dst) (s : Nst) : Prop where
  t : d.F kT = some (fsf ⟨(termB s.term s.vote).toArray⟩)
  sn : d.F kSn = some (fsf ⟨(snapB s.base s.bterm s.snap).toArray⟩)
  lg : d.F kLg = some (fsf ⟨(logB s.log).toArray⟩)
def stc9 (s : Nst) (sv : Value) : List Value := [.int .i64 (s.term : Int), .int .i64 (s.vote : Int), .int .i64 (s.base : Int), .int .i64 (s.bterm : Int), .string s.snap, sv]
def st90 : List Value := [.int .i64 0, .int .i64 0, .int .i64 0, .int .i64 0, .string ⟨#[]⟩, .slice none 0 0]
theorem whSt : WholeT Tryz.prog 70 6 := ⟨⟨_, Tryz.underlying70, rfl⟩, by kernel_rfl⟩
theorem one_of_row {w : World} {b n sz : Nat} {e : TypeId} {sv : Value} {xs : List Value} (h : w.ownsRow b e sz sv n xs) : sv.oneCell' = true := by
  rcases h.2 with ⟨rfl, _⟩ | ⟨_, _, _, rfl, _⟩ <;> rfl
theorem stc9_one (s : Nst) {sv : Value} (h : sv.oneCell' = true) : ∀ u ∈ stc9 s sv, u.oneCell' = true := by
  intro u hu
  simp only [stc9, List.mem_cons, List.not_mem_nil, or_false] at hu
  rcases hu with rfl | rfl | rfl | rfl | rfl | rfl
  all_goals first | rfl | exact h
section
variable {w0 w : World} {I : Part} {L : List HP} {p q : Nat} {d : Dst}
theorem load_sat (hT : Rd I (some ⟨0, 0, none⟩) tabV) (hd : d.calm) (s : Nst) (hok : s.Ok) (hk : Kd d s) (H : Sat w0 I (dskp p d :: L) w) :
    Calls Tryz.prog 57 #[.pointer (some ⟨p, 0, none⟩)] w fun e w' => ∃ sv, e = .returned (.tuple #[.agg #[.int .i64 (s.term : Int), .int .i64 (s.vote : Int), .int .i64 (s.base : Int), .int .i64 (s.bterm : Int), .string s.snap, sv], .int .i64 0]) ∧ Sat w0 I (row 73 3 sv s.log.length (s.log.flatMap Ent.cells) :: dskp p d :: L) w' := by
  obtain ⟨g, hg⟩ := H.sizeQ
  have S1 := H.alloc (b := g) (T := 70) (cs := st90) rfl hg.symm
  have S2 := S1.alloc (b := g + 1) (T := 70) (cs := st90) rfl (by simp [hg])
  have H2 := hid (show Sat w0 I (blk (g + 1) 70 st90 :: dskp p d :: blk g 70 st90 :: L) _ from (S2.pick 2).swap)
  have HT := hid hT
  have HK := hid hk
  have h1 := hok.term; have h2 := hok.vote; have h3 := hok.base; have h4 := hok.bterm; have h5 := hok.snap; have h6 := hok.len
  have HOK := hid hok
  clear H S1 S2 hT hk hok
  go_enter Tryz.func57, Tryz.ntmps57
  go_wp2_with fail
  try rw [hg]
  refine (loadTerm_sat HT.out hd s.term s.vote (by omega) h2 HK.out.t _ _ _ _ _ _ H2.out).mono ?_; rintro e w2 ⟨rfl, S3⟩
  have H3 := hid S3
  clear S3 H2 hg
  go_wp2_with fail
  refine (loadSnap_sat HT.out hd s.base s.bterm s.snap (by omega) (by omega) h5 HK.out.sn _ _ _ _ _ _ H3.out).mono ?_; rintro e w3 ⟨rfl, S4⟩
  have H4 := hid S4
  clear S4 H3
  go_wp2_with fail
  refine (loadLog_sat HT.out hd s.log s.base (by omega) HOK.out.log HOK.out.idx (by omega) HK.out.lg _ _ _ _ H4.out).mono ?_; rintro e w4 ⟨sv, rfl, S5⟩
  have h1c := stc9_one s (one_of_row S5.swap.isRow)
  have H5 := hid (show Sat w0 I (blk (g + 1) 70 (stc9 s sv) :: row 73 3 sv s.log.length (s.log.flatMap Ent.cells) :: dskp p d :: blk g 70 st90 :: L) w4 from S5)
  have HC := hid h1c
  clear S5 H4 h1c
  go_wp2_with (first
    | (refine wpList_loadS whSt rfl _ rfl rfl rfl H5.out ?_)
    | (refine wpList_storeS whSt rfl _ _ rfl rfl rfl rfl rfl HC.out (H5.out.pick 3) ?_; intro w5 S6))
  refine bodyPost_ret (ret_cellS Tryz.results57 whSt _ rfl rfl rfl S6) rfl ?_
  exact ⟨sv, rfl, S6.drop.drop⟩
/-- the node's cells. -/
def ncells (p : Nat) (s : Nst) (sv : Value) (role leader commit applied timer : Int) (vo ma ne : Value) : List Value :=
  [.pointer (some ⟨p, 0, none⟩), .int .i64 0, .int .i64 1, .int .i64 (s.term : Int), .int .i64 (s.vote : Int), .int .i64 (s.base : Int), .int .i64 (s.bterm : Int), .string s.snap, sv, .int .i64 role, .int .i64 leader, .int .i64 commit, .int .i64 applied, .int .i64 timer, vo, ma, ne, .slice none 0 0, .int .i64 0]
/-- a follower. -/
def nodF (r p : Nat) (s : Nst) (tm : Nat) : HP := fun g => ∃ sv, sepL [blk r 129 (ncells p s sv 0 (-1) (s.base : Int) (s.base : Int) (tm : Int) (.slice none 0 0) (.slice none 0 0) (.slice none 0 0)), row 73 3 sv s.log.length (s.log.flatMap Ent.cells)] g
theorem Sat.nodFOpen {r : Nat} {s : Nst} {tm : Nat} (h : Sat w0 I (nodF r p s tm :: L) w) : ∃ sv, Sat w0 I (blk r 129 (ncells p s sv 0 (-1) (s.base : Int) (s.base : Int) (tm : Int) (.slice none 0 0) (.slice none 0 0) (.slice none 0 0)) :: row 73 3 sv s.log.length (s.log.flatMap Ent.cells) :: L) w := by
  obtain ⟨g, hg, ⟨b, x⟩, r'⟩ := h.sep
  have h2 : Sat w0 I (sepL [_, _] :: L) w := ⟨h.os, h.tape, h.output, h.size, h.imm, g, hg, x, r'⟩
  exact ⟨b, h2.flat⟩
theorem Sat.nodFShut {r : Nat} {s : Nst} {tm : Nat} {sv : Value} (h : Sat w0 I (blk r 129 (ncells p s sv 0 (-1) (s.base : Int) (s.base : Int) (tm : Int) (.slice none 0 0) (.slice none 0 0) (.slice none 0 0)) :: row 73 3 sv s.log.length (s.log.flatMap Ent.cells) :: L) w) : Sat w0 I (nodF r p s tm :: L) w :=
  h.of (M := [_, _]) fun g s => ⟨sv, s⟩
theorem ropen_sat (hT : Rd I (some ⟨0, 0, none⟩) tabV) (hd : d.calm) (s : Nst) (hok : s.Ok) (hk : Kd d s) (H : Sat w0 I (dskp p d :: L) w) :
    Calls Tryz.prog 21 #[.pointer (some ⟨p, 0, none⟩), .int .i64 0, .int .i64 1] w fun e w' => ∃ r, e = .returned (.tuple #[.pointer (some ⟨r, 0, none⟩), .int .i64 0]) ∧ Sat w0 I (nodF r p s 0 :: dskp p d :: L) w' := by
  have HH := hid H
  have HT := hid hT
  have HK := hid hk
  clear H hT hk
  go_enter Tryz.func21, Tryz.ntmps21
  go_wp2_with fail
  refine (load_sat HT.out hd s hok HK.out HH.out).mono ?_; rintro e w1 ⟨sv, rfl, S1⟩
  obtain ⟨ad, cp, rfl, hq1, hq2⟩ := own_shape S1.isRow
  obtain ⟨g, hg⟩ := S1.sizeQ
  have H2 := hid S1
  clear S1 HH
  have H3 := hid (((H2.out.alloc (b := g) (T := 70) (cs := stc9 s (.slice ad s.log.length cp)) rfl hg.symm).alloc (b := g + 1) (T := 129) (cs := ncells p s (.slice ad s.log.length cp) 0 (-1) (s.base : Int) (s.base : Int) ((0 : Nat) : Int) (.slice none 0 0) (.slice none 0 0) (.slice none 0 0)) rfl (by simp [hg])).swap.drop)
  clear H2
  go_wp2_with fail
  go_returns
  exact ⟨g + 1, rfl, Sat.nodFShut H3.out⟩
end
end Go.Proofs.YtekioplbfoonkaaGreatDoor
