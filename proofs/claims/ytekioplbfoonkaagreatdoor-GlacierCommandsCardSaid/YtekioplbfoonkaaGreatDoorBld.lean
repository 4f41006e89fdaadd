/- strings.Builder, in parts of the memory: copyCheck, WriteString, Len, String. -/
import Derived.Test.YtekioplbfoonkaaGreatDoorMg1
import Derived.Lib.Builder
import Derived.Deep.Upon
import Derived.Lib.BufferRead
namespace Go.Proofs.YtekioplbfoonkaaGreatDoor
open Go.RowKit
set_option linter.unusedVariables false
set_option maxRecDepth 100000
set_option maxHeartbeats 1000000
section
variable {w0 w : World} {I : Part} {L : List HP} {b : Nat} {pv sv : Value}
theorem shape_blk {cs : List Value} {T : TypeId} (h : Blk w b T cs) : w.shape? b = some (T, cs.length) := by
  unfold Blk at h
  simp [World.shape?, h]
theorem copyCheck_sat (hpv : pv = .pointer none ∨ pv = .pointer (some ⟨b, 0, none⟩)) (H : Sat w0 I (blk b 190 [pv, sv] :: L) w) :
    Calls Tryz.prog 151 #[.pointer (some ⟨b, 0, none⟩)] w fun e w' => e = .returned (.tuple #[]) ∧ Sat w0 I (blk b 190 [.pointer (some ⟨b, 0, none⟩), sv] :: L) w' := by
  have c0 : w.cell? ⟨b, 0, none⟩ = some pv := H.isBlk.cell 0 rfl
  have f0 := H.isBlk.frozen 0
  have hsh := shape_blk H.isBlk
  have HS := hid H
  clear H
  obtain ⟨j, hj, hjs⟩ := Option.map_eq_some_iff.1 (show (Tryz.prog.info? 190).map (·.size) = some 2 by kernel_rfl)
  have hlies : liesAt Tryz.prog Tryz.prog.depth 190 (2 / Tryz.prog.cellsOf 190) 0 190 1 = true := by kernel_rfl
  rcases hpv with rfl | rfl
  · go_enter Tryz.func151, Tryz.ntmps151
    go_wp2_with fail
    rw [Lib.run_to_unsafe w ⟨b, 0, none⟩ Tryz.underlying188 Tryz.underlying260 hj (by rw [hjs]; decide) hsh (Nat.zero_lt_succ 1)]
    simp only [Result.andThen]
    rw [Oper.upon_value]
    go_wp2_with fail
    rw [run_callFunc_extern Tryz.func182 (by kernel_rfl) (by kernel_rfl) (by kernel_rfl) (e := Extern.AbiNoEscape.same) (by kernel_rfl)]
    rw [Lib.run_noEscape]
    simp only [Result.andThen]
    rw [Oper.upon_value]
    go_wp2_with fail
    rw [Lib.run_from_unsafe w ⟨b, 0, none⟩ Tryz.underlying260 Tryz.underlying188 hj hsh hlies]
    simp only [Result.andThen]
    rw [Oper.upon_value]
    go_wp2_with fail
    go_returns
    exact ⟨rfl, HS.out.set 0 _ rfl⟩
  · go_enter Tryz.func151, Tryz.ntmps151
    go_wp2_with fail
    rw [Lib.run_neq_ptr_same w _ Tryz.underlying188 hj]
    go_wp2_with fail
    go_returns
    exact ⟨rfl, HS.out⟩
end
/-- an append out of a source, onto a row of the call's own, empty or not. -/
theorem run_appSrcA {P : Program} {w : World} {t tx ty e : TypeId} {size bytes : Nat} (T : SliceT P t e size bytes) (v : Value) (n m : Nat) (xs news : List Value) (x : Value) (hown : w.ownsRow 0 e size v n xs)
    (hs : Src P size tx x m news w) (hb : (n + m) * bytes ≤ 140737488355328) (hn : n + m ≤ 140737488355328) :
    ∃ v' w', (Builtin.append_ #[t, tx] ty #[v, x]).run P w = .ok v' w' ∧ w'.ownsRow 0 e size v' (n + m) (xs ++ news) ∧ w.grownBy w' v.ownBlock ∧ Moved w v v' ∧ (m = 0 → v' = v) := by
  by_cases hm : m = 0
  · subst hm
    have hw0 : news = [] := List.eq_nil_of_length_eq_zero (by simpa using hs.newsLen)
    subst hw0
    obtain ⟨ti, z, hti, hz, hsz, hby, hzs⟩ := T.hi
    obtain ⟨ad, cp, rfl, h1, h2⟩ := own_shape hown
    subst hsz
    exact ⟨_, _, run_append_nothing w t tx ty e ti T.ht hti ad n cp h1 x hs, by simpa using hown, ⟨rfl, rfl, rfl, Nat.le_refl _, fun _ _ _ => rfl⟩, fun k hk => Or.inl hk, fun _ => rfl⟩
  by_cases hv : v = .slice none 0 0
  · subst hv
    obtain ⟨ti, z, hti, hz, hsz, hby, hzs⟩ := T.hi
    have hn0 : n = 0 := by
      rcases hown.2 with ⟨_, h⟩ | ⟨g, cap, cur, h, _⟩
      · exact h
      · cases h
    subst hn0
    have hx0 : xs = [] := List.eq_nil_of_length_eq_zero (by simpa using hown.1)
    subst hx0
    have hnl := hs.newsLen
    have h0 : 0 < m := by omega
    · subst hsz hby
      have hold : (Builtin.firstCells ti.size 0 (.slice none 0 0)).run P w.drew = .ok ([] : List Value).toArray w.drew := run_firstCells_none w.drew ti.size 0 0 0
      have hr := run_append_grow_src (P := P) w t tx ty e ti z T.ht hti hz none 0 0 [] hold x m news hs (by omega) (by omega) (growslice_fits (by omega) hb)
      have h63 : 0 + m ≤ maxLen := by unfold maxLen; omega
      have hge := grownCap_ge w (0 + m) 0 e
      have hcm2 : grownCap w (0 + m) 0 e ≤ maxLen := grownCap_le_maxLen _ (0 + m) 0 e h63
      refine ⟨_, _, hr, ⟨by rw [List.length_append, hnl, Nat.add_mul]; simp, Or.inr ⟨_, _, _, rfl, Nat.zero_le _, _root_.Go.heap_alloc_new _ _, hge, hcm2, ?_, ?_⟩⟩, ⟨rfl, rfl, rfl, by simp, fun k hk _ => Below.heap_alloc w.drew _ k hk⟩, fun k hk => by simp [Value.ownBlock] at hk; right; omega, fun e => absurd e hm⟩
      · simp only [Array.size_append, List.size_toArray, List.length_append, size_zeroCells, hzs, hnl, List.length_nil]
        rw [Nat.zero_add, ← Nat.add_mul]; congr 1; omega
      · simp only [Array.toList_append]
        rw [show (0 + m) * ti.size = (([] : List Value) ++ news).length from by simp [hnl]]
        exact List.take_left
  · obtain ⟨v', w', h1, h2, h3, h4, _⟩ := run_appSrc' (ty := ty) T 0 v n m xs news x hown hv hs hb hn (Nat.zero_le _)
    exact ⟨v', w', h1, h2, h3, h4, fun e => absurd e hm⟩
section
variable {P : Program} {w0 w : World} {I : Part} {L : List HP} {a : Act} {o : Oper} {Q : Exit → Act → World → Prop} {ops : Array Oper} {rest : List Oper}
theorem wpList_appSA {t tx e : TypeId} {size bytes : Nat} (T : SliceT P t e size bytes) (hgd : o.guard = none) (s x : Operand)
    (ho : o.op = .call { callee := .builtin .append, args := #[s, x], argTypes := #[t, tx] })
    {v : Value} {n m : Nat} {xs news : List Value} {xv : Value} (H : Sat w0 I (row e size v n xs :: L) w) (hs : a.eval s = v) (hx : a.eval x = xv) (hsrc : Src P size tx xv m news w)
    (hb : (n + m) * bytes ≤ 140737488355328) (hn : n + m ≤ 140737488355328)
    (h : ∀ v' w', (m = 0 → v' = v) → Sat w0 I (row e size v' (n + m) (xs ++ news) :: L) w' → wpList P ops Q rest (a.put o.dst v') w') : wpList P ops Q (o :: rest) a w :=
  wpList_plain hgd fun K hK => by
    obtain ⟨v', w', hr, h2, h3, h4, h5⟩ := run_appSrcA (ty := o.type) T v n m xs news xv H.isRow hsrc hb hn
    have hKK := hK _ _ (h v' w' h5 (H.grown h2 h3 h4))
    unfold Oper.wp execOp
    simp only [ho, resolve, invoke, builtin, Sem.run_bind, Sem.run_pure, Result.andThen_ok, List.map_toArray, List.map_cons, List.map_nil, hs, hx, hr]
    exact hKK
end
def bld (b : Nat) (l : List UInt8) : HP := fun g => ∃ pv sv, (pv = .pointer none ∨ pv = .pointer (some ⟨b, 0, none⟩)) ∧ (l = [] → sv = .slice none 0 0) ∧ sepL [blk b 190 [pv, sv], row 5 1 sv l.length (Lib.byteCells l)] g
theorem slByteB : SliceT Tryz.prog 87 5 1 1 := ⟨Tryz.underlying87, ⟨_, _, rfl, rfl, rfl, rfl, rfl⟩, by decide⟩
theorem byteCellsB_app (a b : List UInt8) : Lib.byteCells (a ++ b) = Lib.byteCells a ++ Lib.byteCells b := by simp [Lib.byteCells]
section
variable {w0 w : World} {I : Part} {L : List HP} {b : Nat} {l : List UInt8}
theorem Sat.bldOpen (h : Sat w0 I (bld b l :: L) w) : ∃ pv sv, (pv = .pointer none ∨ pv = .pointer (some ⟨b, 0, none⟩)) ∧ (l = [] → sv = .slice none 0 0) ∧ Sat w0 I (blk b 190 [pv, sv] :: row 5 1 sv l.length (Lib.byteCells l) :: L) w := by
  obtain ⟨g, hg, ⟨pv, sv, hp, he, s⟩, r⟩ := h.sep
  have h2 : Sat w0 I (sepL [_, _] :: L) w := ⟨h.os, h.tape, h.output, h.size, h.imm, g, hg, s, r⟩
  exact ⟨pv, sv, hp, he, h2.flat⟩
theorem Sat.bldShut {pv sv : Value} (hp : pv = .pointer none ∨ pv = .pointer (some ⟨b, 0, none⟩)) (he : l = [] → sv = .slice none 0 0) (h : Sat w0 I (blk b 190 [pv, sv] :: row 5 1 sv l.length (Lib.byteCells l) :: L) w) : Sat w0 I (bld b l :: L) w :=
  h.of (M := [_, _]) fun g s => ⟨pv, sv, hp, he, s⟩
theorem Sat.bldNew (h : Sat w0 I L w) (hb : b = w.heap.size) : Sat w0 I (bld b [] :: L) (w.alloc (.cells #[.pointer none, .slice none 0 0] 190)) :=
  Sat.bldShut (Or.inl rfl) (fun _ => rfl) (((h.nilRow 5 1).alloc (b := b) (T := 190) (cs := [.pointer none, .slice none 0 0]) rfl hb))
theorem bwrite_sat (s : ByteArray) (hl : l.length + s.size ≤ 1000000) (H : Sat w0 I (bld b l :: L) w) :
    Calls Tryz.prog 107 #[.pointer (some ⟨b, 0, none⟩), .string s] w fun e w' => e = .returned (.tuple #[.int .i64 (s.size : Int), .nilIface]) ∧ Sat w0 I (bld b (l ++ s.data.toList) :: L) w' := by
  obtain ⟨pv, sv, hp, hem, S0⟩ := H.bldOpen
  have HS := hid S0
  have HEM := hid hem
  clear H S0 hem
  go_enter Tryz.func107, Tryz.ntmps107
  go_wp2_with fail
  refine (copyCheck_sat hp HS.out).mono ?_; rintro e w1 ⟨rfl, S1⟩
  have c1 : w1.cell? ⟨b, 1, none⟩ = some sv := S1.isBlk.cell 1 rfl
  have H1 := hid S1.swap
  clear S1 HS
  go_wp2_with (at_builtin; refine wpList_appSA (m := s.size) (news := Lib.byteCells s.data.toList) slByteB rfl (.tmp 12) (.tmp 13) rfl H1.out rfl rfl ?hs ?hb ?hn ?_)
  case hs => exact Src.ofString w1 Tryz.underlying9 s
  case hb => omega
  case hn => omega
  intro v' w2 hz2 S2
  obtain ⟨ad, cp, rfl, k1, k2⟩ := own_shape S2.isRow
  have HZ2 := hid hz2
  clear hz2
  have hf := S2.swap.isBlk.frozen 1
  have c2 : w2.cell? ⟨b, 1, none⟩ = some sv := S2.swap.isBlk.cell 1 rfl
  have H2 := hid S2
  clear S2 H1 c1
  go_wp2_with fail
  go_returns
  refine ⟨rfl, ?_⟩
  have S3 := H2.out.swap.set 1 (.slice ad (l.length + s.size) cp) (cs' := [.pointer (some ⟨b, 0, none⟩), .slice ad (l.length + s.size) cp]) rfl
  have e1 : (l ++ s.data.toList).length = l.length + s.size := by simp
  refine Sat.bldShut (pv := .pointer (some ⟨b, 0, none⟩)) (sv := .slice ad (l.length + s.size) cp) (Or.inr rfl) (fun e => by
    have h1 : l = [] := (List.append_eq_nil_iff.1 e).1
    have h2 : s.size = 0 := by have := congrArg List.length (List.append_eq_nil_iff.1 e).2; simpa using this
    rw [HZ2.out (by simpa using h2), HEM.out h1]) ?_
  rw [e1, byteCellsB_app]
  exact S3
theorem blen_sat (H : Sat w0 I (bld b l :: L) w) {N : Int} (hN : (l.length : Int) = N) :
    Calls Tryz.prog 108 #[.pointer (some ⟨b, 0, none⟩)] w fun e w' => e = .returned (.int .i64 N) ∧ Sat w0 I (bld b l :: L) w' := by
  subst hN
  obtain ⟨pv, sv, hp, hem, S0⟩ := H.bldOpen
  obtain ⟨ad, cp, rfl, k1, k2⟩ := own_shape S0.swap.isRow
  have c1 : w.cell? ⟨b, 1, none⟩ = some (.slice ad l.length cp) := S0.isBlk.cell 1 rfl
  refine ret_sat ?_ H
  clear H S0 hem
  go_enter Tryz.func108, Tryz.ntmps108
  go_wp2
  go_ret
  exact ⟨rfl, 0, rfl⟩
end
end Go.Proofs.YtekioplbfoonkaaGreatDoor
