/- The law's Shows. -/
import Derived.Test.YtecdnlmagaoccaaRefB
import Derived.Test.YtecdnlmagaoccaaReelF
namespace Go.Proofs.Ytecdnlmagaoccaa
open Go.RowKit
set_option linter.unusedVariables false
set_option maxHeartbeats 4000000
section
variable {w0 w : World} {I : Part} {L : List HP} {v : Vst} {a : Option Addr} {n c p : Nat}
set_option maxRecDepth 20000 in
theorem shows_sat (hv : v.ok) (hr : Rd I a (v.bl.flatMap bc)) (H : Sat w0 I (volp p v :: L) w) :
    Calls Try.prog 27 #[.pointer (some ⟨p, 0, none⟩), .agg (rvl v (.slice a v.bl.length c)).toArray] w fun e w' => e = .returned (.int .i64 0) ∧ Sat w0 I (volp p v :: L) w' := by
  have hlen := hv.len
  obtain ⟨U, hU⟩ : ∃ U : Int, (wsum v.bl : Int) = U := ⟨_, rfl⟩
  have hur := hv.used
  have hrm := hv.room
  rw [hU] at hur
  have hs : (wsum v.bl : Int) ≤ 9223372036854775807 := by omega
  have hnr : ¬ v.room < U := by omega
  have HU := hid hU
  have HR := hid hr
  obtain ⟨g, hg⟩ := H.sizeQ
  have S1 := H.alloc (b := g) (T := 56) (cs := rvl v (.slice a v.bl.length c)) rfl hg.symm
  have H2 := hid S1
  clear S1 H hU hr
  go_enter Try.func27, Try.ntmps27
  go_upto_region 1 with fail
  try rw [hg]
  refine wp_gen (fun w1 => Sat w0 I (blk g 56 (rvl v (.slice a v.bl.length c)) :: volp p v :: L) w1) H2.out ?_
  clear H2 hg
  intro w1 S1
  have c0 := S1.isBlk.cell 0 (v := .slice a v.bl.length c) rfl
  have c1 := S1.isBlk.cell 1 (v := .int .i64 v.sure) rfl
  have c2 := S1.isBlk.cell 2 (v := .int .i64 v.at_) rfl
  have c3 := S1.isBlk.cell 3 (v := .int .i64 v.room) rfl
  have c4 := S1.isBlk.cell 4 (v := .int .i64 v.erased) rfl
  have c5 := S1.isBlk.cell 5 (v := .string v.label) rfl
  have c6 := S1.isBlk.cell 6 (v := .bool v.prot) rfl
  have c7 := S1.isBlk.cell 7 (v := .bool v.lost) rfl
  have c8 := S1.isBlk.cell 8 (v := .int .i64 (v.armed - 1)) rfl
  have HSx := hid S1.drew
  clear S1
  go_region_held3 (fun w' => w'.cell? ⟨g, 0, none⟩ = some (.slice a v.bl.length c) ∧ w'.cell? ⟨g, 1, none⟩ = some (.int .i64 v.sure) ∧ w'.cell? ⟨g, 2, none⟩ = some (.int .i64 v.at_) ∧ w'.cell? ⟨g, 3, none⟩ = some (.int .i64 v.room) ∧ w'.cell? ⟨g, 4, none⟩ = some (.int .i64 v.erased) ∧ w'.cell? ⟨g, 5, none⟩ = some (.string v.label) ∧ w'.cell? ⟨g, 6, none⟩ = some (.bool v.prot) ∧ w'.cell? ⟨g, 7, none⟩ = some (.bool v.lost) ∧ w'.cell? ⟨g, 8, none⟩ = some (.int .i64 (v.armed - 1))) (first | with_reducible assumption | go_keep)
    (first
      | (go_at_call 14; refine (vlen_eq rfl HSx.out.swap).mono ?_; rintro e w5 ⟨rfl, S5⟩; replace S5 := S5.swap; have c0 := S5.isBlk.cell 0 (v := .slice a v.bl.length c) rfl; have c1 := S5.isBlk.cell 1 (v := .int .i64 v.sure) rfl; have c2 := S5.isBlk.cell 2 (v := .int .i64 v.at_) rfl; have c3 := S5.isBlk.cell 3 (v := .int .i64 v.room) rfl; have c4 := S5.isBlk.cell 4 (v := .int .i64 v.erased) rfl; have c5 := S5.isBlk.cell 5 (v := .string v.label) rfl; have c6 := S5.isBlk.cell 6 (v := .bool v.prot) rfl; have c7 := S5.isBlk.cell 7 (v := .bool v.lost) rfl; have c8 := S5.isBlk.cell 8 (v := .int .i64 (v.armed - 1)) rfl; clear HSx; have HSx := hid S5; clear S5)
      | (go_at_call 16; refine (vat_eq rfl HSx.out.swap).mono ?_; rintro e w5 ⟨rfl, S5⟩; replace S5 := S5.swap; have c0 := S5.isBlk.cell 0 (v := .slice a v.bl.length c) rfl; have c1 := S5.isBlk.cell 1 (v := .int .i64 v.sure) rfl; have c2 := S5.isBlk.cell 2 (v := .int .i64 v.at_) rfl; have c3 := S5.isBlk.cell 3 (v := .int .i64 v.room) rfl; have c4 := S5.isBlk.cell 4 (v := .int .i64 v.erased) rfl; have c5 := S5.isBlk.cell 5 (v := .string v.label) rfl; have c6 := S5.isBlk.cell 6 (v := .bool v.prot) rfl; have c7 := S5.isBlk.cell 7 (v := .bool v.lost) rfl; have c8 := S5.isBlk.cell 8 (v := .int .i64 (v.armed - 1)) rfl; clear HSx; have HSx := hid S5; clear S5)
      | (go_at_call 49; refine (vlabel HSx.out.swap).mono ?_; rintro e w5 ⟨rfl, S5⟩; replace S5 := S5.swap; have c0 := S5.isBlk.cell 0 (v := .slice a v.bl.length c) rfl; have c1 := S5.isBlk.cell 1 (v := .int .i64 v.sure) rfl; have c2 := S5.isBlk.cell 2 (v := .int .i64 v.at_) rfl; have c3 := S5.isBlk.cell 3 (v := .int .i64 v.room) rfl; have c4 := S5.isBlk.cell 4 (v := .int .i64 v.erased) rfl; have c5 := S5.isBlk.cell 5 (v := .string v.label) rfl; have c6 := S5.isBlk.cell 6 (v := .bool v.prot) rfl; have c7 := S5.isBlk.cell 7 (v := .bool v.lost) rfl; have c8 := S5.isBlk.cell 8 (v := .int .i64 (v.armed - 1)) rfl; clear HSx; have HSx := hid S5; clear S5)
      | (go_at_call 24; refine (verased_eq rfl HSx.out.swap).mono ?_; rintro e w5 ⟨rfl, S5⟩; replace S5 := S5.swap; have c0 := S5.isBlk.cell 0 (v := .slice a v.bl.length c) rfl; have c1 := S5.isBlk.cell 1 (v := .int .i64 v.sure) rfl; have c2 := S5.isBlk.cell 2 (v := .int .i64 v.at_) rfl; have c3 := S5.isBlk.cell 3 (v := .int .i64 v.room) rfl; have c4 := S5.isBlk.cell 4 (v := .int .i64 v.erased) rfl; have c5 := S5.isBlk.cell 5 (v := .string v.label) rfl; have c6 := S5.isBlk.cell 6 (v := .bool v.prot) rfl; have c7 := S5.isBlk.cell 7 (v := .bool v.lost) rfl; have c8 := S5.isBlk.cell 8 (v := .int .i64 (v.armed - 1)) rfl; clear HSx; have HSx := hid S5; clear S5)
      | (go_at_call 13; refine (vused_eq HU.out HSx.out.swap).mono ?_; rintro e w5 ⟨rfl, S5⟩; replace S5 := S5.swap; have c0 := S5.isBlk.cell 0 (v := .slice a v.bl.length c) rfl; have c1 := S5.isBlk.cell 1 (v := .int .i64 v.sure) rfl; have c2 := S5.isBlk.cell 2 (v := .int .i64 v.at_) rfl; have c3 := S5.isBlk.cell 3 (v := .int .i64 v.room) rfl; have c4 := S5.isBlk.cell 4 (v := .int .i64 v.erased) rfl; have c5 := S5.isBlk.cell 5 (v := .string v.label) rfl; have c6 := S5.isBlk.cell 6 (v := .bool v.prot) rfl; have c7 := S5.isBlk.cell 7 (v := .bool v.lost) rfl; have c8 := S5.isBlk.cell 8 (v := .int .i64 (v.armed - 1)) rfl; clear HSx; have HSx := hid S5; clear S5)
      | (go_at_call 51; refine (vroom HSx.out.swap).mono ?_; rintro e w5 ⟨rfl, S5⟩; replace S5 := S5.swap; have c0 := S5.isBlk.cell 0 (v := .slice a v.bl.length c) rfl; have c1 := S5.isBlk.cell 1 (v := .int .i64 v.sure) rfl; have c2 := S5.isBlk.cell 2 (v := .int .i64 v.at_) rfl; have c3 := S5.isBlk.cell 3 (v := .int .i64 v.room) rfl; have c4 := S5.isBlk.cell 4 (v := .int .i64 v.erased) rfl; have c5 := S5.isBlk.cell 5 (v := .string v.label) rfl; have c6 := S5.isBlk.cell 6 (v := .bool v.prot) rfl; have c7 := S5.isBlk.cell 7 (v := .bool v.lost) rfl; have c8 := S5.isBlk.cell 8 (v := .int .i64 (v.armed - 1)) rfl; clear HSx; have HSx := hid S5; clear S5)
      | (go_at_call 50; refine (rused_sat (v := v) hlen HR.out hs HU.out HSx.out).mono ?_; rintro e w5 ⟨rfl, S5⟩; have c0 := S5.isBlk.cell 0 (v := .slice a v.bl.length c) rfl; have c1 := S5.isBlk.cell 1 (v := .int .i64 v.sure) rfl; have c2 := S5.isBlk.cell 2 (v := .int .i64 v.at_) rfl; have c3 := S5.isBlk.cell 3 (v := .int .i64 v.room) rfl; have c4 := S5.isBlk.cell 4 (v := .int .i64 v.erased) rfl; have c5 := S5.isBlk.cell 5 (v := .string v.label) rfl; have c6 := S5.isBlk.cell 6 (v := .bool v.prot) rfl; have c7 := S5.isBlk.cell 7 (v := .bool v.lost) rfl; have c8 := S5.isBlk.cell 8 (v := .int .i64 (v.armed - 1)) rfl; clear HSx; have HSx := hid S5; clear S5))
  all_goals
    go_wp2_with fail
    go_ret
    exact ⟨rfl, HSx.out.drop⟩
end
end Go.Proofs.Ytecdnlmagaoccaa
