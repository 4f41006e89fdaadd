/- Libraries: contracts of Lost and Mount. -/
import Derived.Test.YtekioplbfoonkaaGreatDoorMg6
namespace Go.Proofs.YtekioplbfoonkaaGreatDoor
open Go.RowKit
set_option linter.unusedVariables false
set_option maxRecDepth 100000
set_option maxHeartbeats 2000000
section
variable {w0 w : World} {I : Part} {L : List HP} {q : Nat} {S : Lst}
theorem llost_sat (i : Nat) {p : Nat} {v : Vst} {l : List (Nat × Vst)} (hi : l[i]? = some (p, v)) (H : Sat w0 I (volsP l :: L) w) :
    Calls Tryz.prog 144 #[.pointer (some ⟨p, 2, none⟩)] w (Ret (.bool v.lost) w) := by
  obtain ⟨ad, cap, _, _, H1⟩ := (H.volTake i hi).volOpen
  exact lost_any w p 2 v.lost (H1.isBlk.cell 2 rfl)
/-- numbers that do not run over. -/
structure Lst.ok (S : Lst) : Prop where
  moves0 : 0 ≤ S.moves
  moves : S.moves ≤ 1000000
  mounts0 : 0 ≤ S.mounts
  mounts : S.mounts ≤ 1000000
theorem lib_four {a b c d : Value} {l : List Dr} {k : Nat} (hk : k < l.length) {x : Dr} (hx : dc x = [a, b, c, d]) : ((((l.flatMap dc).set (k * 4) a).set (k * 4 + 1) b).set (k * 4 + 2) c).set (k * 4 + 3) d = (l.set k x).flatMap dc := by
  unfold dc at hx
  simp only [List.cons.injEq, and_true] at hx
  obtain ⟨rfl, rfl, rfl, rfl⟩ := hx
  have e0 := flat_set dc dc_len l k 0 hk (.int .i64 x.vol) ⟨x.vol, l[k].holds, l[k].used, l[k].broken⟩ (by omega) rfl
  rw [Nat.add_zero] at e0
  rw [e0]
  have h1 : k < (l.set k ⟨x.vol, l[k].holds, l[k].used, l[k].broken⟩).length := by simpa using hk
  rw [flat_set dc dc_len _ k 1 h1 _ ⟨x.vol, x.holds, l[k].used, l[k].broken⟩ (by omega) (by simp [dc])]
  have h2 : k < ((l.set k ⟨x.vol, l[k].holds, l[k].used, l[k].broken⟩).set k ⟨x.vol, x.holds, l[k].used, l[k].broken⟩).length := by simpa using hk
  rw [flat_set dc dc_len _ k 2 h2 _ ⟨x.vol, x.holds, x.used, l[k].broken⟩ (by omega) (by simp [dc])]
  have h3 : k < (((l.set k ⟨x.vol, l[k].holds, l[k].used, l[k].broken⟩).set k ⟨x.vol, x.holds, l[k].used, l[k].broken⟩).set k ⟨x.vol, x.holds, x.used, l[k].broken⟩).length := by simpa using hk
  rw [flat_set dc dc_len _ k 3 h3 _ ⟨x.vol, x.holds, x.used, x.broken⟩ (by omega) (by simp [dc])]
  simp
theorem lib_one {l : List Dr} {k j : Nat} (hk : k < l.length) (hj : j < 4) {u : Value} {x : Dr} (hx : dc x = (dc l[k]).set j u) : (l.flatMap dc).set (k * 4 + j) u = (l.set k x).flatMap dc := flat_set dc dc_len l k j hk u x hj hx
theorem row4n {l : List Dr} {sv : Value} {m : Nat} (hm : l.length = m) (h : Sat w0 I (row 101 4 sv m (l.flatMap dc) :: L) w) (i : Nat) (hi : i < l.length) : ∃ g cap, sv = .slice (some ⟨g, 0, none⟩) m cap ∧
    w.cell? ⟨g, i * 4, none⟩ = some (.int .i64 l[i].vol) ∧ w.cell? ⟨g, i * 4 + 1, none⟩ = some (.int .i64 l[i].holds) ∧ w.cell? ⟨g, i * 4 + 2, none⟩ = some (.int .i64 l[i].used) ∧ w.cell? ⟨g, i * 4 + 3, none⟩ = some (.bool l[i].broken) ∧ ∀ j, w.frozen? ⟨g, j, none⟩ = false := by
  subst hm
  exact row4 h i hi
theorem Sat.drvSet {l : List Dr} {g n cap : Nat} (h : Sat w0 I (row 101 4 (.slice (some ⟨g, 0, none⟩) n cap) n (l.flatMap dc) :: L) w) {k j : Nat} (hk : k < l.length) (hj : j < 4) {u : Value} (x : Dr) (hx : dc x = (dc l[k]).set j u) : Sat w0 I (row 101 4 (.slice (some ⟨g, 0, none⟩) n cap) n ((l.set k x).flatMap dc) :: L) (w.setCell ⟨g, k * 4 + j, none⟩ u) :=
  lib_one hk hj hx ▸ h.rowSet (k * 4 + j) u
theorem Sat.drvPut {l : List Dr} {g n cap : Nat} (h : Sat w0 I (row 101 4 (.slice (some ⟨g, 0, none⟩) n cap) n (l.flatMap dc) :: L) w) {k : Nat} (hk : k < l.length) {a b c d : Value} (x : Dr) (hx : dc x = [a, b, c, d]) : Sat w0 I (row 101 4 (.slice (some ⟨g, 0, none⟩) n cap) n ((l.set k x).flatMap dc) :: L) ((((w.setCell ⟨g, k * 4, none⟩ a).setCell ⟨g, k * 4 + 1, none⟩ b).setCell ⟨g, k * 4 + 2, none⟩ c).setCell ⟨g, k * 4 + 3, none⟩ d) :=
  lib_four hk hx ▸ (((h.rowSet (k * 4) a).rowSet (k * 4 + 1) b).rowSet (k * 4 + 2) c).rowSet (k * 4 + 3) d
theorem Sat.libShut {T : Lst} {av ad : Option Addr} {cv cd n m : Nat} (hn : T.vols.length = n) (hm : T.drs.length = m) (h : Sat w0 I (blk q 99 [.slice av n cv, .slice ad m cd, .int .i64 T.moves, .int .i64 T.mounts] :: row 47 1 (.slice av n cv) n (ptrs T.vols) :: row 101 4 (.slice ad m cd) m (T.drs.flatMap dc) :: volsP T.vols :: L) w) : Sat w0 I (libp q T :: L) w := by
  subst hn hm
  exact Sat.libClose h
/-- with the drives ahead. -/
theorem Sat.libShut2 {T : Lst} {av ad : Option Addr} {cv cd n m : Nat} (hn : T.vols.length = n) (hm : T.drs.length = m) (h : Sat w0 I (row 101 4 (.slice ad m cd) m (T.drs.flatMap dc) :: blk q 99 [.slice av n cv, .slice ad m cd, .int .i64 T.moves, .int .i64 T.mounts] :: row 47 1 (.slice av n cv) n (ptrs T.vols) :: volsP T.vols :: L) w) : Sat w0 I (libp q T :: L) w :=
  Sat.libShut hn hm ((h.pick 2).pick 2)
theorem lmount_sat (hb : S.ok) {vol N E : Int} {T : Lst} (hA : mountS S vol = (N, E, T)) (H : Sat w0 I (libp q S :: L) w) :
    Calls Tryz.prog 89 #[.pointer (some ⟨q, 0, none⟩), .int .i64 vol] w fun e w' => e = .returned (.tuple #[.int .i64 N, .int .i64 E]) ∧ Sat w0 I (libp q T :: L) w' := by
  have HS := hid H
  have HB := hid hb
  clear H hb
  unfold mountS at hA
  by_cases h0 : vol < 0
  · rw [if_pos h0] at hA
    cases hA
    go_enter Tryz.func89, Tryz.ntmps89
    go_wp2_with fail
    refine (lvol_no vol (Or.inl h0) HS.out).mono ?_; rintro e w1 ⟨rfl, S1⟩
    have H1 := hid S1
    clear S1
    go_wp2_with fail
    go_returns
    exact ⟨rfl, H1.out⟩
  · rw [if_neg h0] at hA
    cases hx : S.vols[vol.toNat]? with
    | none =>
      rw [hx] at hA
      cases hA
      have hx' := List.getElem?_eq_none_iff.1 hx
      go_enter Tryz.func89, Tryz.ntmps89
      go_wp2_with fail
      refine (lvol_no vol (Or.inr (by omega)) HS.out).mono ?_; rintro e w1 ⟨rfl, S1⟩
      have H1 := hid S1
      clear S1
      go_wp2_with fail
      go_returns
      exact ⟨rfl, H1.out⟩
    | some x =>
      rw [hx] at hA
      obtain ⟨p, v⟩ := x
      simp only at hA
      have HX := hid hx
      clear hx
      cases hl : v.lost
      · rw [if_neg (by rw [hl]; decide)] at hA
        have HL := hid hl
        clear hl
        have hmb := HB.out.mounts
        have hmb0 := HB.out.mounts0
        have hvb := HB.out.moves
        have hvb0 := HB.out.moves0
        cases hin : inF S.drs vol with
        | some n =>
          rw [hin] at hA
          cases hA
          have HIN := hid hin
          obtain ⟨hn, hn1, hn2⟩ := inF_lt hin
          clear hin
          have e3 : ¬ (n : Int) = -1 := by omega
          go_enter Tryz.func89, Tryz.ntmps89
          go_wp2_with fail
          refine (lvol_yes vol.toNat (by omega) HX.out HS.out).mono ?_; rintro e w1 ⟨rfl, S1⟩
          obtain ⟨av, cv, ad, cd, k1, k2, k3, k4, S2⟩ := S1.libOpen
          have H1 := hid S1
          have HV := hid (S2.pick 3)
          clear S1 S2
          go_wp2_with fail
          refine (llost_sat vol.toNat HX.out HV.out).mono ?_; rintro e w2 ⟨rfl, m, rfl⟩
          rw [HL.out]
          have H2 := hid (H1.out.drewN m)
          clear H1 HV k1 k2 k3 k4
          go_wp2_with fail
          refine (lin_sat vol (N := (n : Int)) (by rw [HIN.out]; rfl) H2.out).mono ?_; rintro e w3 ⟨rfl, S3⟩
          obtain ⟨av, cv, ad, cd, k1, k2, k3, k4, S4⟩ := S3.libOpen
          obtain ⟨g, cap', hsv, c0, c1, c2, c3, fz⟩ := row4 (S4.pick 2) n hn
          cases hsv
          have d1 : w3.cell? ⟨q, 1, none⟩ = some (.slice (some ⟨g, 0, none⟩) S.drs.length cd) := S4.isBlk.cell 1 rfl
          have d3 : w3.cell? ⟨q, 3, none⟩ = some (.int .i64 S.mounts) := S4.isBlk.cell 3 rfl
          have f3 := S4.isBlk.frozen 3
          have H4 := hid S4
          clear S4 S3 H2 c0 c1 c3
          go_wp2_with fail
          refine wp_gen (fun w5 => Sat w0 I (blk q 99 [.slice av S.vols.length cv, .slice (some ⟨g, 0, none⟩) S.drs.length cd, .int .i64 S.moves, .int .i64 (S.mounts + 1)] :: row 47 1 (.slice av S.vols.length cv) S.vols.length (ptrs S.vols) :: row 101 4 (.slice (some ⟨g, 0, none⟩) S.drs.length cd) S.drs.length (S.drs.flatMap dc) :: volsP S.vols :: L) w5) (H4.out.set 3 _ rfl) ?_
          clear H4 d1 d3 f3 c2 fz
          intro w5 S5
          have d1 : w5.cell? ⟨q, 1, none⟩ = some (.slice (some ⟨g, 0, none⟩) S.drs.length cd) := S5.isBlk.cell 1 rfl
          have d3 : w5.cell? ⟨q, 3, none⟩ = some (.int .i64 (S.mounts + 1)) := S5.isBlk.cell 3 rfl
          obtain ⟨g', cap', hsv, c0, c1, c2, c3, fz⟩ := row4 (S5.pick 2) n hn
          cases hsv
          have f2 := fz (n * 4 + 2)
          have H5 := hid S5
          clear S5 c0 c1 c3 fz
          have nn1 : (0 : Int) ≤ (n : Int) := by omega
          have nn2 : (n : Int) < (S.drs.length : Int) := by omega
          go_region_with (fail)
          all_goals
            go_wp2_with fail
            go_returns
            refine ⟨rfl, ?_⟩
            have hg : S.drs[n]?.getD default = S.drs[n] := by rw [List.getElem?_eq_getElem hn]; rfl
            rw [hg]
            exact Sat.libShut2 (av := av) (ad := some ⟨g, 0, none⟩) (cv := cv) (cd := cd) (n := S.vols.length) (m := S.drs.length) rfl (by simp) ((H5.out.drew.pick 2).drvSet hn (by omega) _ rfl)
        | none =>
          rw [hin] at hA
          have HIN := hid hin
          clear hin
          cases hnx : nextF S.drs S.drs.length with
          | none =>
            rw [hnx] at hA
            cases hA
            have HNX := hid hnx
            clear hnx
            go_enter Tryz.func89, Tryz.ntmps89
            go_wp2_with fail
            refine (lvol_yes vol.toNat (by omega) HX.out HS.out).mono ?_; rintro e w1 ⟨rfl, S1⟩
            obtain ⟨av, cv, ad, cd, k1, k2, k3, k4, S2⟩ := S1.libOpen
            have H1 := hid S1
            have HV := hid (S2.pick 3)
            clear S1 S2
            go_wp2_with fail
            refine (llost_sat vol.toNat HX.out HV.out).mono ?_; rintro e w2 ⟨rfl, m, rfl⟩
            rw [HL.out]
            have H2 := hid (H1.out.drewN m)
            clear H1 HV k1 k2 k3 k4
            go_wp2_with fail
            refine (lin_sat vol (N := -1) (by rw [HIN.out]; rfl) H2.out).mono ?_; rintro e w3 ⟨rfl, S3⟩
            have H3 := hid S3
            clear S3 H2
            go_wp2_with fail
            refine (lnext_sat (N := -1) (by rw [HNX.out]; rfl) H3.out).mono ?_; rintro e w4 ⟨rfl, S4⟩
            have H4 := hid S4
            clear S4
            go_wp2_with fail
            go_returns
            exact ⟨rfl, H4.out⟩
          | some n =>
            rw [hnx] at hA
            cases hA
            have HNX := hid hnx
            have hn := (nextF_lt _ _ _ hnx).1
            clear hnx
            have e3 : ¬ (n : Int) = -1 := by omega
            go_enter Tryz.func89, Tryz.ntmps89
            go_wp2_with fail
            refine (lvol_yes vol.toNat (by omega) HX.out HS.out).mono ?_; rintro e w1 ⟨rfl, S1⟩
            obtain ⟨av, cv, ad, cd, k1, k2, k3, k4, S2⟩ := S1.libOpen
            have H1 := hid S1
            have HV := hid (S2.pick 3)
            clear S1 S2
            go_wp2_with fail
            refine (llost_sat vol.toNat HX.out HV.out).mono ?_; rintro e w2 ⟨rfl, m, rfl⟩
            rw [HL.out]
            have H2 := hid (H1.out.drewN m)
            clear H1 HV k1 k2 k3 k4
            go_wp2_with fail
            refine (lin_sat vol (N := -1) (by rw [HIN.out]; rfl) H2.out).mono ?_; rintro e w3 ⟨rfl, S3⟩
            have H3 := hid S3
            clear S3 H2
            go_wp2_with fail
            refine (lnext_sat (N := (n : Int)) (by rw [HNX.out]; rfl) H3.out).mono ?_; rintro e w4 ⟨rfl, S4⟩
            obtain ⟨av, cv, ad, cd, k1, k2, k3, k4, S5⟩ := S4.libOpen
            obtain ⟨g, cap', hsv, c0, c1, c2, c3, fz⟩ := row4 (S5.pick 2) n hn
            cases hsv
            have d1 : w4.cell? ⟨q, 1, none⟩ = some (.slice (some ⟨g, 0, none⟩) S.drs.length cd) := S5.isBlk.cell 1 rfl
            have d2 : w4.cell? ⟨q, 2, none⟩ = some (.int .i64 S.moves) := S5.isBlk.cell 2 rfl
            have d3 : w4.cell? ⟨q, 3, none⟩ = some (.int .i64 S.mounts) := S5.isBlk.cell 3 rfl
            have fq2 := S5.isBlk.frozen 2
            have fq3 := S5.isBlk.frozen 3
            have f0 := fz (n * 4)
            have f1 := fz (n * 4 + 1)
            have f2 := fz (n * 4 + 2)
            have f3 := fz (n * 4 + 3)
            have nn1 : (0 : Int) ≤ (n : Int) := by omega
            have nn2 : (n : Int) < (S.drs.length : Int) := by omega
            have hgq : g ≠ q := fun e => by have := (S5.pick 2).swap; exact absurd e (fun e => (Sat.rowBlk (S5.pick 2)) (by rw [← e]; rfl))
            have H5 := hid S5
            clear S5 S4 H3 fz
            go_wp2_with fail
            refine wp_gen (fun w5 => Sat w0 I (row 101 4 (.slice (some ⟨g, 0, none⟩) S.drs.length cd) S.drs.length ((S.drs.set n ⟨vol, 0, 0, false⟩).flatMap dc) :: blk q 99 [.slice av S.vols.length cv, .slice (some ⟨g, 0, none⟩) S.drs.length cd, .int .i64 (S.moves + 1), .int .i64 (S.mounts + 1)] :: row 47 1 (.slice av S.vols.length cv) S.vols.length (ptrs S.vols) :: volsP S.vols :: L) w5) ((((H5.out.pick 2).drvPut hn ⟨vol, 0, 0, false⟩ rfl).set1 2 _ rfl).set1 3 _ rfl) ?_
            clear H5 d1 d2 d3 fq2 fq3 f0 f1 f2 f3 c0 c1 c2 c3
            intro w5 S5
            have hset : (S.drs.set n ⟨vol, 0, 0, false⟩).length = S.drs.length := by simp
            have hn2 : n < (S.drs.set n ⟨vol, 0, 0, false⟩).length := by omega
            have d1 : w5.cell? ⟨q, 1, none⟩ = some (.slice (some ⟨g, 0, none⟩) S.drs.length cd) := S5.swap.isBlk.cell 1 rfl
            have d3 : w5.cell? ⟨q, 3, none⟩ = some (.int .i64 (S.mounts + 1)) := S5.swap.isBlk.cell 3 rfl
            obtain ⟨g', cap', hsv, c0, c1, c2, c3, fz⟩ := row4n hset S5 n hn2
            cases hsv
            have f2 := fz (n * 4 + 2)
            have H5 := hid S5
            clear S5 c0 c1 c3 fz
            go_region_with (fail)
            all_goals
              go_wp2_with fail
              go_returns
              refine ⟨rfl, ?_⟩
              have hss : (S.drs.set n ⟨vol, 0, 0, false⟩).set n ⟨vol, 0, S.mounts + 1, false⟩ = S.drs.set n ⟨vol, 0, S.mounts + 1, false⟩ := by simp
              have S7 := H5.out.drew.drvSet hn2 (j := 2) (u := .int .i64 (S.mounts + 1)) (by omega) ⟨vol, 0, S.mounts + 1, false⟩ (by simp [dc])
              rw [hss] at S7
              exact Sat.libShut2 (av := av) (ad := some ⟨g, 0, none⟩) (cv := cv) (cd := cd) (n := S.vols.length) (m := S.drs.length) rfl (by simp) S7
      · rw [if_pos hl] at hA
        cases hA
        have HL := hid hl
        clear hl
        go_enter Tryz.func89, Tryz.ntmps89
        go_wp2_with fail
        refine (lvol_yes vol.toNat (by omega) HX.out HS.out).mono ?_; rintro e w1 ⟨rfl, S1⟩
        obtain ⟨av, cv, ad, cd, k1, k2, k3, k4, S2⟩ := S1.libOpen
        have H1 := hid S1
        have HV := hid (S2.pick 3)
        clear S1 S2
        go_wp2_with fail
        refine (llost_sat vol.toNat HX.out HV.out).mono ?_; rintro e w2 ⟨rfl, m, rfl⟩
        rw [HL.out]
        have H2 := hid (H1.out.drewN m)
        clear H1 HV k1 k2 k3 k4
        go_wp2_with fail
        go_returns
        exact ⟨rfl, H2.out⟩
end
end Go.Proofs.YtekioplbfoonkaaGreatDoor
