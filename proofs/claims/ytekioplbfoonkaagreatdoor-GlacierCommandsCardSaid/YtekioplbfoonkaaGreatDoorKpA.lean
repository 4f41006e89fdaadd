/- Law 10's Kept: a disk that keeps a small state. -/
import Derived.Test.YtekioplbfoonkaaGreatDoorMgH
namespace Go.Proofs.YtekioplbfoonkaaGreatDoor
open Go.RowKit
set_option linter.unusedVariables false
set_option maxRecDepth 100000
set_option maxHeartbeats 4000000
theorem enc26 : ∀ k : Fin 26, (Utf8.encode (97 + ((k : Nat) : Int))).size ≤ 4 := by decide +kernel
theorem slEnt9 : SliceT Tryz.prog 57 121 3 32 := ⟨Tryz.underlying57, ⟨_, _, rfl, rfl, rfl, rfl, rfl⟩, by decide⟩
theorem whR9 : WholeT Tryz.prog 59 6 := ⟨⟨_, Tryz.underlying59, rfl⟩, by kernel_rfl⟩
/-- what Kept leaves. -/
structure Kpt (s : Nst) (D : Dst) : Prop where
  ok : s.Ok
  term : s.term ≤ 20
  len : s.log.length ≤ 6
  kd : Kd D s
  dk : Dk D 6394 6
def d00 : Dst := ⟨1048576, 0, false, 0, fun _ => none, 0⟩
theorem dk00 : Dk d00 0 0 := ⟨rfl, rfl, rfl, by decide, by decide, by decide⟩
theorem sf00 (k : Lit) : Sf d00 k ⟨#[]⟩ := ⟨rfl, rfl⟩
/-- entries that rise from a number on. -/
structure Ents (B : Nat) (l : List Ent) : Prop where
  ok : ∀ x ∈ l, x.Ok
  idx : ∀ i (h : i < l.length), l[i].idx = B + i + 1
theorem Ents.nil (B : Nat) : Ents B [] := ⟨fun x hx => by simp at hx, fun i h => absurd h (Nat.not_lt_zero _)⟩
theorem Ents.snoc {B : Nat} {l : List Ent} (h : Ents B l) (x : Ent) (hx : x.Ok) (hi : x.idx = B + l.length + 1) : Ents B (l ++ [x]) := by
  refine ⟨fun y hy => ?_, fun i hi2 => ?_⟩
  · rcases List.mem_append.1 hy with hy | hy
    · exact h.ok y hy
    · simp at hy; subst hy; exact hx
  · by_cases h2 : i < l.length
    · rw [List.getElem_append_left h2]; exact h.idx i h2
    · have hi' : i < l.length + 1 := by simpa using hi2
      obtain rfl : i = l.length := by omega
      rw [List.getElem_append_right (Nat.le_refl _)]
      simpa using hi
section
variable {w0 w : World} {I : Part} {L : List HP} {b n : Nat} {T ty : TypeId} {cs : List Value}
/-- a value and a struct in memory, returned. -/
theorem ret_tmpCell {P : Program} {fn : Func} {p u : Tmp} {r : Value} (h : fn.results = #[.tmp u, .cell p ty]) (W : WholeT P ty n) (tmps : Array Value) (hp : tmps.getD p undef = .pointer (some ⟨b, 0, none⟩)) (hu : tmps.getD u undef = r) (hn : cs.length = n) (H : Sat w0 I (blk b T cs :: L) w) :
    (results fn tmps).run P w = .ok (.tuple #[r, .agg cs.toArray]) w := by
  have e1 := run_loadS W hn H
  have hp' : tmps[p]?.getD undef = .pointer (some ⟨b, 0, none⟩) := by simpa using hp
  have hu' : tmps[u]?.getD undef = r := by simpa using hu
  simp only [results, h]
  simp [Result.andThen, hp', hu', asAddr, e1]
end
section
variable {w0 w : World} {I : Part} {L : List HP}
set_option maxHeartbeats 20000000 in
theorem kept_sat (hT : Rd I (some ⟨0, 0, none⟩) tabV) (a b c : Int) (la : Option Addr) (len cap : Nat) (zs : List Int) (hzl : zs.length = len) (hlen : len ≤ 9223372036854775807) (hr : Rd I la (zs.map (Value.int .i64))) (H : Sat w0 I L w) :
    Calls Tryz.prog 20 #[.agg #[.int .i64 a, .int .i64 b, .int .i64 c, .slice la len cap]] w fun e w' => ∃ J p s D sv, e = .returned (.tuple #[.pointer (some ⟨p, 0, none⟩), .agg (stc9 s sv).toArray]) ∧ sv.oneCell' = true ∧ Kpt s D ∧ I.le J ∧ Sat w0 J (dskp p D :: L) w' := by
  obtain ⟨T, hT1, hT2⟩ : ∃ T : Nat, min (max a 0) 20 = (T : Int) ∧ T ≤ 20 := ⟨(min (max a 0) 20).toNat, by omega, by omega⟩
  obtain ⟨V, hV1, hV2⟩ : ∃ V : Nat, min (max b 0) 5 = (V : Int) ∧ V ≤ 5 := ⟨(min (max b 0) 5).toNat, by omega, by omega⟩
  obtain ⟨B, hB1, hB2⟩ : ∃ B : Nat, min (max c 0) 4 = (B : Int) ∧ B ≤ 4 := ⟨(min (max c 0) 4).toNat, by omega, by omega⟩
  obtain ⟨a1, ha1⟩ : ∃ a1, max a 0 = a1 := ⟨_, rfl⟩
  obtain ⟨b1, hb1⟩ : ∃ b1, max b 0 = b1 := ⟨_, rfl⟩
  obtain ⟨c1, hc1⟩ : ∃ c1, max c 0 = c1 := ⟨_, rfl⟩
  rw [ha1] at hT1
  rw [hb1] at hV1
  rw [hc1] at hB1
  have HA1 := hid ha1
  have HB1 := hid hb1
  have HC1 := hid hc1
  have HA2 := hid hT1
  have HB2 := hid hV1
  have HC2 := hid hB1
  have HT := hid hT
  have HR := hid hr
  have HZ := hid hzl
  obtain ⟨g, hg⟩ := H.sizeQ
  have H0 := hid ((H.alloc (b := g) (T := 51) (cs := [.int .i64 a, .int .i64 b, .int .i64 c, .slice la len cap]) rfl hg.symm).alloc (b := g + 1) (T := 59) (cs := st90) rfl (by simp [hg]))
  clear H hT hr hzl ha1 hb1 hc1 hT1 hV1 hB1
  go_enter Tryz.func20, Tryz.ntmps20
  go_upto_region 1 with fail
  try rw [hg]
  refine wp_gen (fun w1 => Sat w0 I (blk (g + 1) 59 st90 :: blk g 51 [.int .i64 a, .int .i64 b, .int .i64 c, .slice la len cap] :: L) w1) H0.out ?_
  clear H0 hg
  intro w1 S1
  have H1 := hid S1
  clear S1
  go_wp2_with fail
  refine (pnew_sat 1048576 (by omega) H1.out).mono ?_; rintro e w2 ⟨p, rfl, S2⟩
  have c0 := (S2.pick 2).isBlk.cell 0 (v := .int .i64 a) rfl
  have c1' := (S2.pick 2).isBlk.cell 1 (v := .int .i64 b) rfl
  have c2 := (S2.pick 2).isBlk.cell 2 (v := .int .i64 c) rfl
  obtain ⟨x, hx⟩ := S2.sizeQ
  have H2 := hid (show Sat w0 I (blk x 59 [.int .i64 (T : Int), .int .i64 (V : Int), .int .i64 (B : Int), .int .i64 0, .string ⟨#[]⟩, .slice none 0 0] :: dskp p d00 :: blk (g + 1) 59 st90 :: blk g 51 [.int .i64 a, .int .i64 b, .int .i64 c, .slice la len cap] :: L) _ from S2.alloc (b := x) (T := 59) (cs := [.int .i64 (T : Int), .int .i64 (V : Int), .int .i64 (B : Int), .int .i64 0, .string ⟨#[]⟩, .slice none 0 0]) rfl hx.symm)
  clear S2 H1
  go_upto_region 2 with fail
  go_cut [5] (fun t wx => ∃ x, t = .pointer (some ⟨x, 0, none⟩) ∧ Sat w0 I (blk x 59 [.int .i64 (T : Int), .int .i64 (V : Int), .int .i64 (B : Int), .int .i64 0, .string ⟨#[]⟩, .slice none 0 0] :: dskp p d00 :: blk (g + 1) 59 st90 :: blk g 51 [.int .i64 a, .int .i64 b, .int .i64 c, .slice la len cap] :: L) wx)
  case first =>
    go_wp2_with (first
      | (refine wpList_max (o := ⟨some 14, _, _, _, _, _⟩) rfl rfl rfl rfl HA1.out ?_)
      | (refine wpList_min (o := ⟨some 15, _, _, _, _, _⟩) rfl rfl rfl rfl HA2.out ?_)
      | (refine wpList_max (o := ⟨some 18, _, _, _, _, _⟩) rfl rfl rfl rfl HB1.out ?_)
      | (refine wpList_min (o := ⟨some 19, _, _, _, _, _⟩) rfl rfl rfl rfl HB2.out ?_)
      | (refine wpList_max (o := ⟨some 22, _, _, _, _, _⟩) rfl rfl rfl rfl HC1.out ?_)
      | (refine wpList_min (o := ⟨some 23, _, _, _, _, _⟩) rfl rfl rfl rfl HC2.out ?_))
    try rw [hx]
    go_meet
    try rw [hx]
    exact ⟨x, rfl, H2.out⟩
  case rest =>
    clear H2 hx c0 c1' c2 HA1 HB1 HC1 HA2 HB2 HC2
    obtain ⟨x, rfl, S3⟩ := hcut
    have k2 := S3.isBlk.cell 2 (v := .int .i64 (B : Int)) rfl
    have H3 := hid S3
    clear S3
    go_upto_if 27 with fail
    go_cut [27] (fun _ wx => ∃ (BT : Nat) (sn : ByteArray), BT ≤ 20 ∧ sn.size ≤ 100 ∧ Sat w0 I (blk x 59 (stc9 ⟨T, V, B, BT, sn, []⟩ (.slice none 0 0)) :: dskp p d00 :: blk (g + 1) 59 st90 :: blk g 51 [.int .i64 a, .int .i64 b, .int .i64 c, .slice la len cap] :: L) wx)
    case first =>
      by_cases hB0 : (0 : Int) < (B : Int)
      · have k0 := H3.out.isBlk.cell 0 (v := .int .i64 (T : Int)) rfl
        have k3 := H3.out.isBlk.cell 3 (v := .int .i64 0) rfl
        have k4 := H3.out.isBlk.cell 4 (v := .string ⟨#[]⟩) rfl
        have f3 := H3.out.isBlk.frozen 3
        have f4 := H3.out.isBlk.frozen 4
        obtain ⟨BT, hBT, hBT2⟩ : ∃ BT : Nat, min 1 (T : Int) = (BT : Int) ∧ BT ≤ 20 := ⟨(min 1 (T : Int)).toNat, by omega, by omega⟩
        have HBT := hid hBT
        have H4 := hid ((H3.out.set 3 (.int .i64 (BT : Int)) rfl).set 4 (.string ⟨#[115, 110, 97, 112]⟩) (cs' := stc9 ⟨T, V, B, BT, ⟨#[115, 110, 97, 112]⟩, []⟩ (.slice none 0 0)) rfl)
        clear hBT
        go_wp2_with (refine wpList_min (o := ⟨some 30, _, _, _, _, _⟩) rfl rfl rfl rfl HBT.out ?_)
        go_meet
        exact ⟨BT, _, hBT2, by decide, H4.out⟩
      · go_wp2_with fail
        go_meet
        exact ⟨0, ⟨#[]⟩, by omega, by decide, H3.out⟩
    case rest =>
      obtain ⟨BT, sn, hBT, hsn, S4⟩ := hcut
      have k3 := S4.isBlk.cell 3 (v := .int .i64 (BT : Int)) rfl
      have H4 := hid S4
      clear S4 k2 H3
      go_upto_block 0 with fail
      clear k3
      go_cut [6, 7] (fun _ _ wx => ∃ (sv : Value) (l : List Ent), l.length ≤ 6 ∧ Ents B l ∧ Sat w0 I (blk x 59 (stc9 ⟨T, V, B, BT, sn, []⟩ sv) :: row 121 3 sv l.length (l.flatMap Ent.cells) :: dskp p d00 :: blk (g + 1) 59 st90 :: blk g 51 [.int .i64 a, .int .i64 b, .int .i64 c, .slice la len cap] :: L) wx)
      case first =>
        have H5 := hid ((H4.out.nilRow 121 3).swap)
        clear H4
        go_wp2_with fail
        go_loopw [6, 7] (fun lt ix wr => ∃ (i last : Nat) (sv : Value) (l : List Ent), i ≤ 6 ∧ i ≤ len ∧ ix = .int .i64 (i : Int) ∧ lt = .int .i64 (last : Int) ∧ last ≤ 20 ∧ l.length = i ∧ Ents B l ∧ Sat w0 I (blk x 59 (stc9 ⟨T, V, B, BT, sn, []⟩ sv) :: row 121 3 sv i (l.flatMap Ent.cells) :: dskp p d00 :: blk (g + 1) 59 st90 :: blk g 51 [.int .i64 a, .int .i64 b, .int .i64 c, .slice la len cap] :: L) wr) (fun _ ix _ => 10 - (intOf ix).toNat)
        case atStart => exact ⟨0, BT, _, [], Nat.zero_le _, Nat.zero_le _, rfl, rfl, hBT, rfl, Ents.nil B, H5.out⟩
        case round =>
          clear H5
          obtain ⟨i, last, sv, l, hi6, hil, rfl, rfl, hla, hll, hE, Sr⟩ := hrel
          obtain ⟨ad, cp, rfl, q1, q2⟩ := own_shape Sr.swap.isRow
          have c3 := (Sr.pick 4).isBlk.cell 3 (v := .slice la len cap) rfl
          have HS := hid Sr
          have HLL := hid hll
          have HE := hid hE
          clear Sr hll hE
          by_cases h1 : i < len
          case neg =>
            have h1i : ¬ (i : Int) < (len : Int) := by omega
            go_wp2_with fail
            go_meet
            exact ⟨_, l, by rw [HLL.out]; exact hi6, HE.out, by rw [HLL.out]; exact HS.out⟩
          have h1i : (i : Int) < (len : Int) := by omega
          by_cases h2 : i < 6
          case neg =>
            have h2i : ¬ (i : Int) < 6 := by omega
            go_wp2_with fail
            go_meet
            exact ⟨_, l, by rw [HLL.out]; exact hi6, HE.out, by rw [HLL.out]; exact HS.out⟩
          have h2i : (i : Int) < 6 := by omega
          have hi0 : (0 : Int) ≤ (i : Int) := by omega
          have hiz : i < zs.length := by rw [HZ.out]; exact h1
          obtain ⟨z, hz⟩ : ∃ z, zs[i] = z := ⟨_, rfl⟩
          have h3 : (zs.map (Value.int .i64))[i]? = some (.int .i64 z) := by rw [List.getElem?_map, List.getElem?_eq_getElem hiz, hz]; rfl
          obtain ⟨b0, o0, rfl, e0⟩ := HR.out.get HS.out i h3
          have k0 := HS.out.isBlk.cell 0 (v := .int .i64 (T : Int)) rfl
          clear hz h3
          obtain ⟨v1, hv1⟩ : ∃ v1, max z (last : Int) = v1 := ⟨_, rfl⟩
          obtain ⟨t2, ht2, ht3⟩ : ∃ t2 : Nat, min v1 (T : Int) = (t2 : Int) ∧ t2 ≤ 20 := ⟨(min v1 (T : Int)).toNat, by omega, by omega⟩
          have HV1 := hid hv1
          have HT2 := hid ht2
          go_upto_region 10 with fail
          go_region
          go_upto_region 11 with fail
          refine wp_gen (fun w1 => Sat w0 I (blk x 59 (stc9 ⟨T, V, B, BT, sn, []⟩ (.slice ad i cp)) :: row 121 3 (.slice ad i cp) i (l.flatMap Ent.cells) :: dskp p d00 :: blk (g + 1) 59 st90 :: blk g 51 [.int .i64 a, .int .i64 b, .int .i64 c, .slice (some ⟨b0, o0, none⟩) len cap] :: L) w1) HS.out.drew ?_
          clear HS c3 e0 k0 hv1 ht2 h1i h2i
          intro w5 S6
          have k2 := S6.isBlk.cell 2 (v := .int .i64 (B : Int)) rfl
          have k5 := S6.isBlk.cell 5 (v := .slice ad i cp) rfl
          have H6 := hid S6.swap
          clear S6
          obtain ⟨M, hM⟩ : ∃ M, B + i = M := ⟨_, rfl⟩
          obtain ⟨N, hN⟩ : ∃ N, M + 1 = N := ⟨_, rfl⟩
          have hw1 : IntKind.i64.wrap ((B : Int) + (i : Int)) = (M : Int) := by rw [IntWalk.i64_in _ (by omega)]; omega
          have hw2 : IntKind.i64.wrap ((M : Int) + 1) = (N : Int) := by rw [IntWalk.i64_in _ (by omega)]; omega
          obtain ⟨k, hk, hk2⟩ : ∃ k : Nat, (t2 : Int) % 26 = (k : Int) ∧ k < 26 := ⟨t2 % 26, by omega, Nat.mod_lt _ (by omega)⟩
          obtain ⟨ch, hch⟩ : ∃ ch : Int, 97 + (k : Int) = ch := ⟨_, rfl⟩
          have hw3 : IntKind.i64.wrap (97 + (k : Int)) = ch := by rw [IntWalk.i64_in _ (by omega)]; omega
          have hw4 : IntKind.i32.wrap ch = ch := by rw [IntKind.wrap_i32]; omega
          obtain ⟨E, hE1⟩ : ∃ E, Utf8.encode ch = E := ⟨_, rfl⟩
          have hEs : E.size ≤ 4 := by have := enc26 ⟨k, hk2⟩; rw [← hE1, ← hch]; exact this
          obtain ⟨cm, hcm⟩ : ∃ cm, (⟨#[99]⟩ : ByteArray) ++ E = cm := ⟨_, rfl⟩
          have h99 : (⟨#[99]⟩ : ByteArray).size = 1 := rfl
          have hcs : cm.size ≤ 5 := by rw [← hcm, ByteArray.size_append, h99]; omega
          have hsz : ¬ 9223372036854775807 < (⟨#[99]⟩ : ByteArray).size + E.size := by rw [h99]; omega
          have hsz2 : ¬ 9223372036854775807 < 1 + E.size := by omega
          have HE2 := hid (HE.out.snoc ⟨N, t2, cm⟩ ⟨by show N ≤ 1000; omega, by show t2 ≤ 1000; omega, by show cm.size ≤ 1000; omega⟩ (by show N = B + l.length + 1; rw [HLL.out]; omega))
          clear hM hN hch h99
          go_wp2_with (at_builtin; refine wpList_appS slEnt9 rfl _ _ rfl H6.out [.int .i64 (N : Int), .int .i64 (t2 : Int), .string cm] rfl rfl rfl rfl ?h1 ?hb ?hn ?_)
          case h1 =>
            intro u hu
            simp only [List.mem_cons, List.not_mem_nil, or_false] at hu
            rcases hu with rfl | rfl | rfl <;> rfl
          case hb => omega
          case hn => omega
          intro ad2 cp2 w9 hc1 hc2 S13
          have S14 := S13.swap
          have k5 := S14.isBlk.cell 5 (v := .slice ad i cp) rfl
          have f5 := S14.isBlk.frozen 5
          have H14 := hid (S14.set 5 (.slice ad2 (i + 1) cp2) (cs' := stc9 ⟨T, V, B, BT, sn, []⟩ (.slice ad2 (i + 1) cp2)) rfl)
          clear S13 S14 H6 k2
          go_wp2_with fail
          go_roundw
          case rel => exact ⟨i + 1, t2, _, l ++ [⟨N, t2, cm⟩], by omega, by omega, by go_num, rfl, ht3, by rw [List.length_append, HLL.out]; rfl, HE2.out, by rw [List.flatMap_append, List.flatMap_cons, List.flatMap_nil, List.append_nil]; exact H14.out⟩
          case measure => simp [intOf]; omega
      case rest =>
        obtain ⟨sv, l, hl6, hE, S5⟩ := hcut
        obtain ⟨n, hn⟩ : ∃ n, l.length = n := ⟨_, rfl⟩
        rw [hn] at hl6 S5
        obtain ⟨J1, ax, cx, hJ1, S6, hv, hc1, hc2, _, hrd⟩ := S5.swap.freezeRow
        cases hv
        have HJ1 := hid hJ1
        have HR1 := hid hrd
        have HN := hid hn
        have HE := hid hE
        obtain ⟨q, hq⟩ := S6.sizeQ
        have c5 := fun o => (S6.alloc_ o).isBlk.cell 5 (v := .slice ax n cx) rfl
        have H7 := hid ((S6.alloc (b := q) (T := 73) (cs := []) rfl hq.symm).emptyRow 3)
        clear hJ1 hrd hn hE S5 S6 H4 HR
        go_wp2_with fail
        try rw [hq]
        clear c5 hq
        go_loopw [8, 10, 78] (fun lt _ ix wr => ∃ j : Nat, j ≤ n ∧ ix = .int .i64 (j : Int) ∧ Sat w0 J1 (row 73 3 lt j ((l.take j).flatMap Ent.cells) :: blk x 59 (stc9 ⟨T, V, B, BT, sn, []⟩ (.slice ax n cx)) :: dskp p d00 :: blk (g + 1) 59 st90 :: blk g 51 [.int .i64 a, .int .i64 b, .int .i64 c, .slice la len cap] :: L) wr) (fun _ _ ix _ => 10 - (intOf ix).toNat)
        case atStart => exact ⟨0, Nat.zero_le _, rfl, H7.out⟩
        case round =>
          clear H7
          obtain ⟨j, hj, rfl, Sr⟩ := hrel
          obtain ⟨ad, cp, rfl, q1, q2⟩ := own_shape Sr.isRow
          have HS := hid Sr
          clear Sr
          by_cases hlt : j < n
          · have hjl : (j : Int) < (n : Int) := by omega
            have hj0 : (0 : Int) ≤ (j : Int) := by omega
            have hjx : j < l.length := by rw [HN.out]; exact hlt
            obtain ⟨y, hy⟩ : ∃ y, l[j] = y := ⟨_, rfl⟩
            have hc := fun k v h => entGet l hjx k v h
            have htk : (l.take (j + 1)).flatMap Ent.cells = (l.take j).flatMap Ent.cells ++ y.cells := by
              rw [List.take_succ_eq_append_getElem hjx, List.flatMap_append, hy]; simp
            rw [hy] at hc
            have HTK := hid htk
            obtain ⟨b0, o0, rfl, e0⟩ := HR1.out.get HS.out (j * 3 + 0) (hc 0 (.int .i64 (y.idx : Int)) rfl)
            obtain ⟨b1, o1, h1, e1⟩ := HR1.out.get HS.out (j * 3 + 1) (hc 1 (.int .i64 (y.term : Int)) rfl)
            cases h1
            obtain ⟨b1, o1, h1, e2⟩ := HR1.out.get HS.out (j * 3 + 2) (hc 2 (.string y.cmd) rfl)
            cases h1
            rw [← Nat.add_assoc] at e0 e1 e2
            rw [Nat.add_zero] at e0
            obtain ⟨rb, hrb⟩ := HS.out.sizeQ
            have HRB := hid (HS.out.alloc (b := rb) (T := 121) (cs := y.cells) rfl hrb.symm)
            clear HS hc hy htk
            go_upto_region 16 with fail
            try rw [hrb]
            refine wp_gen (fun w1 => Sat w0 J1 (blk rb 121 y.cells :: row 73 3 (.slice ad j cp) j ((l.take j).flatMap Ent.cells) :: blk x 59 (stc9 ⟨T, V, B, BT, sn, []⟩ (.slice (some ⟨b0, o0, none⟩) n cx)) :: dskp p d00 :: blk (g + 1) 59 st90 :: blk g 51 [.int .i64 a, .int .i64 b, .int .i64 c, .slice la len cap] :: L) w1) HRB.out ?_
            clear HRB hrb e0 e1 e2
            intro w1 S1
            have k0 := S1.isBlk.cell 0 (v := .int .i64 (y.idx : Int)) rfl
            have k1 := S1.isBlk.cell 1 (v := .int .i64 (y.term : Int)) rfl
            have k2 := S1.isBlk.cell 2 (v := .string y.cmd) rfl
            have H1 := hid S1.swap
            have HY1 := hid (ent_one1 y)
            clear S1
            go_wp2_with (at_builtin; refine wpList_appS slEnt rfl _ _ rfl H1.out [.int .i64 (y.idx : Int), .int .i64 (y.term : Int), .string y.cmd] rfl rfl rfl rfl ?h1 ?hb ?hn ?_)
            case h1 => exact HY1.out
            case hb => omega
            case hn => omega
            intro ad2 cp2 w8 hq1 hq2 S10
            have H10 := hid (show Sat w0 J1 (row 73 3 (.slice ad2 (j + 1) cp2) (j + 1) ((l.take (j + 1)).flatMap Ent.cells) :: blk x 59 (stc9 ⟨T, V, B, BT, sn, []⟩ (.slice (some ⟨b0, o0, none⟩) n cx)) :: dskp p d00 :: blk (g + 1) 59 st90 :: blk g 51 [.int .i64 a, .int .i64 b, .int .i64 c, .slice la len cap] :: L) w8 from by rw [HTK.out]; exact S10.swap.drop)
            clear S10 H1 k0 k1 k2
            go_wp2_with fail
            go_roundw
            case rel => exact ⟨j + 1, by omega, by go_num, H10.out⟩
            case measure => simp [intOf]; omega
          · obtain rfl : j = n := by omega
            have hjj : ¬ (j : Int) < (j : Int) := by omega
            have htk : l.take j = l := List.take_of_length_le (by rw [HN.out]; exact Nat.le_refl _)
            rw [htk] at HS
            obtain ⟨J2, al, cl, hJ2, S8, hv, hc3, hc4, _, hrd2⟩ := HS.out.freezeRow
            cases hv
            have HJ2 := hid (Part.le_trans HJ1.out hJ2)
            have HT2 := hid (HT.out.mono HJ2.out)
            have HR2 := hid hrd2
            have k0 := S8.isBlk.cell 0 (v := .int .i64 (T : Int)) rfl
            have k1 := S8.isBlk.cell 1 (v := .int .i64 (V : Int)) rfl
            have H8 := hid S8.swap
            have hlb := logB_len l HE.out.ok
            rw [HN.out] at hlb
            have hlb2 : (logB l).length ≤ 6228 := by omega
            have HLB := hid hlb2
            clear S8 HS hJ2 hrd2 htk hlb hlb2
            go_wp2_with fail
            refine (saveTerm_sat HT2.out dk00 T V (by omega) (by omega) (sf00 kT) (by decide) (by omega) (by omega) H8.out).mono ?_; rintro e w5 ⟨D1, rfl, d1, u1, S9⟩
            have k2 := S9.swap.isBlk.cell 2 (v := .int .i64 (B : Int)) rfl
            have k3 := S9.swap.isBlk.cell 3 (v := .int .i64 (BT : Int)) rfl
            have k4 := S9.swap.isBlk.cell 4 (v := .string sn) rfl
            have H9 := hid S9
            have D1H := hid d1
            have U1 := hid u1
            clear S9 H8 k0 k1 d1 u1
            go_wp2_with fail
            refine (saveSnap_sat HT2.out D1H.out B BT sn (by omega) (by omega) hsn ad j cp l HN.out HE.out.ok (by omega) HR2.out (U1.out.sfNe (fun e => kTS e.symm) (sf00 kSn)) (by decide) (U1.out.sfNe (fun e => kTL e.symm) (sf00 kLg)) (by decide) (m := 6228) HLB.out (by omega) (by omega) H9.out).mono ?_; rintro e w6 ⟨D2, D, rfl, d2, u2, u3, S10⟩
            have hkp : Kpt ⟨T, V, B, BT, sn, l⟩ D := by
              refine ⟨⟨by show T ≤ 100; omega, hV2, by show B ≤ 100; omega, by show BT ≤ 100; omega, hsn, HE.out.ok, by show l.length ≤ 20; rw [HN.out]; omega, HE.out.idx⟩, hT2, by show l.length ≤ 6; rw [HN.out]; exact hl6, ⟨?_, ?_, ?_⟩, d2⟩
              · rw [u3.ne kT kTL, u2.ne kT kTS]; exact U1.out.at_
              · rw [u3.ne kSn kSL]; exact u2.at_
              · exact u3.at_
            have HK := hid hkp
            have H10 := hid S10
            have HC := hid (stc9_one ⟨T, V, B, BT, sn, []⟩ (sv := .slice ax j cx) rfl)
            clear S10 H9 k2 k3 k4 d2 u2 u3 hkp
            have S1 := H10.out.swap
            have k0 := S1.isBlk.cell 0 (v := .int .i64 (T : Int)) rfl
            have k1 := S1.isBlk.cell 1 (v := .int .i64 (V : Int)) rfl
            have k2 := S1.isBlk.cell 2 (v := .int .i64 (B : Int)) rfl
            have k3 := S1.isBlk.cell 3 (v := .int .i64 (BT : Int)) rfl
            have k4 := S1.isBlk.cell 4 (v := .string sn) rfl
            have k5 := S1.isBlk.cell 5 (v := .slice ax j cx) rfl
            have S2 := H10.out.pick 2
            have m0 := S2.isBlk.cell 0 (v := .int .i64 0) rfl
            have m1 := S2.isBlk.cell 1 (v := .int .i64 0) rfl
            have m2 := S2.isBlk.cell 2 (v := .int .i64 0) rfl
            have m3 := S2.isBlk.cell 3 (v := .int .i64 0) rfl
            have m4 := S2.isBlk.cell 4 (v := .string ⟨#[]⟩) rfl
            have m5 := S2.isBlk.cell 5 (v := .slice none 0 0) rfl
            have f0 := S2.isBlk.frozen 0
            have f1 := S2.isBlk.frozen 1
            have f2 := S2.isBlk.frozen 2
            have f3 := S2.isBlk.frozen 3
            have f4 := S2.isBlk.frozen 4
            have f5 := S2.isBlk.frozen 5
            have HA := hid (show Sat w0 J2 (blk (g + 1) 59 (stc9 ⟨T, V, B, BT, sn, []⟩ (.slice ax j cx)) :: dskp p D :: blk x 59 (stc9 ⟨T, V, B, BT, sn, []⟩ (.slice ax j cx)) :: blk g 51 [.int .i64 a, .int .i64 b, .int .i64 c, .slice la len cap] :: L) _ from ((((((S2.set 0 (.int .i64 (T : Int)) rfl).set 1 (.int .i64 (V : Int)) rfl).set 2 (.int .i64 (B : Int)) rfl).set 3 (.int .i64 (BT : Int)) rfl).set 4 (.string sn) rfl).set 5 (.slice ax j cx) (cs' := stc9 ⟨T, V, B, BT, sn, []⟩ (.slice ax j cx)) rfl).drew)
            clear S1 S2
            go_upto_region 20 with fail
            go_region
            go_wp2_with fail
            with_reducible refine body_gen (fun w => Sat w0 J2 (blk (g + 1) 59 (stc9 ⟨T, V, B, BT, sn, []⟩ (.slice ax j cx)) :: dskp p D :: blk x 59 (stc9 ⟨T, V, B, BT, sn, []⟩ (.slice ax j cx)) :: blk g 51 [.int .i64 a, .int .i64 b, .int .i64 c, .slice la len cap] :: L) w) HA.out ?_
            intro w9 S11
            refine bodyPost_ret (ret_tmpCell Tryz.results20 whR9 _ rfl rfl rfl S11) rfl ?_
            exact ⟨J2, p, ⟨T, V, B, BT, sn, l⟩, D, .slice ax j cx, rfl, rfl, HK.out, HJ2.out, S11.drop.swap.drop.swap.drop⟩
end
end Go.Proofs.YtekioplbfoonkaaGreatDoor
