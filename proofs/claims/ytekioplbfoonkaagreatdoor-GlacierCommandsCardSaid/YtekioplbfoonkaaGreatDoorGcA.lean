/- GlacierCommands: the arguments opened; small laws. -/
import Derived.Test.YtekioplbfoonkaaGreatDoorCmR
import Derived.Test.YtekioplbfoonkaaGreatDoorCmD
import Derived.Test.YtekioplbfoonkaaGreatDoorKpA
import Derived.Test.YtekioplbfoonkaaGreatDoorLive
namespace Go.Proofs.YtekioplbfoonkaaGreatDoor
open Go.RowKit
set_option linter.unusedVariables false
set_option maxRecDepth 100000
theorem wf_u32 {n : Int} (h : (Lit.int .u32 n).wf = true) : 0 ≤ n ∧ n ≤ 4294967295 := by
  simp [Lit.wf, IntKind.min, IntKind.max, IntKind.bits, IntKind.signed] at h; omega
theorem whStart : WholeT Tryz.prog 51 4 := ⟨⟨_, Tryz.underlying51, rfl⟩, by kernel_rfl⟩
theorem list4 {α : Type} (l : List α) (h : l.length = 4) : ∃ a b c d, l = [a, b, c, d] := by
  match l, h with
  | [a, b, c, d], _ => exact ⟨a, b, c, d, rfl⟩
theorem list11 {α : Type} (l : List α) (h : l.length = 11) : ∃ a b c d e f g i j k m, l = [a, b, c, d, e, f, g, i, j, k, m] := by
  match l, h with
  | [a, b, c, d, e, f, g, i, j, k, m], _ => exact ⟨a, b, c, d, e, f, g, i, j, k, m, rfl⟩
theorem okT_start {w : World} {cs : List Value} (hok : OkT Tryz.prog w 6 51 cs) : ∃ a b c la len cap zs, cs = [.int .i64 a, .int .i64 b, .int .i64 c, .slice la len cap] ∧ len ≤ 9223372036854775807 ∧ (zs : List Int).length = len ∧ Rd (wpart w) la (zs.map (Value.int .i64)) := by
  have hl := okT_len Tryz.underlying51 hok
  rw [show Tryz.prog.cellsOf 51 = 4 by kernel_rfl] at hl
  obtain ⟨x0, x1, x2, x3, rfl⟩ := list4 cs hl
  obtain ⟨a0, h0, _⟩ := okT_int Tryz.underlying3 (okT_fld 0 (T := 3) (o := 0) Tryz.underlying51 rfl rfl rfl (by kernel_rfl) (by simp) hok)
  obtain ⟨a1, h1, _⟩ := okT_int Tryz.underlying3 (okT_fld 1 (T := 3) (o := 1) Tryz.underlying51 rfl rfl rfl (by kernel_rfl) (by simp) hok)
  obtain ⟨a2, h2, _⟩ := okT_int Tryz.underlying3 (okT_fld 2 (T := 3) (o := 2) Tryz.underlying51 rfl rfl rfl (by kernel_rfl) (by simp) hok)
  have k3 := okT_fld 3 (T := 23) (o := 3) Tryz.underlying51 rfl rfl rfl (by kernel_rfl) (by simp) hok
  simp only [List.getElem_cons_zero, List.getElem_cons_succ] at h0 h1 h2 k3
  obtain ⟨la, len, cap, rfl⟩ := okT_slc Tryz.underlying23 k3
  obtain ⟨m1, m2, zs, m3, m4, m5⟩ := okT_intl k3
  subst h0 h1 h2
  exact ⟨a0, a1, a2, la, len, cap, zs, rfl, by omega, m3, m4⟩
theorem okT_cmd {w : World} {cs : List Value} (hok : OkT Tryz.prog w 6 54 cs) : ∃ k cl sq nm bl sz sm la len cap po vo at_ zs, cs = [.int .i64 k, .int .i64 cl, .int .i64 sq, .string nm, .int .u64 bl, .int .i64 sz, .int .u32 sm, .slice la len cap, .int .i64 po, .int .i64 vo, .int .i64 at_] ∧ (zs : List Int).length = len ∧ Rd (wpart w) la (zs.map (Value.int .i64)) ∧ (0 ≤ bl ∧ bl ≤ 18446744073709551615) ∧ (0 ≤ sm ∧ sm ≤ 4294967295) := by
  have hl := okT_len Tryz.underlying54 hok
  rw [show Tryz.prog.cellsOf 54 = 11 by kernel_rfl] at hl
  obtain ⟨x0, x1, x2, x3, x4, x5, x6, x7, x8, x9, x10, rfl⟩ := list11 cs hl
  obtain ⟨a0, h0, _⟩ := okT_int Tryz.underlying3 (okT_fld 0 (T := 3) (o := 0) Tryz.underlying54 rfl rfl rfl (by kernel_rfl) (by simp) hok)
  obtain ⟨a1, h1, _⟩ := okT_int Tryz.underlying3 (okT_fld 1 (T := 3) (o := 1) Tryz.underlying54 rfl rfl rfl (by kernel_rfl) (by simp) hok)
  obtain ⟨a2, h2, _⟩ := okT_int Tryz.underlying3 (okT_fld 2 (T := 3) (o := 2) Tryz.underlying54 rfl rfl rfl (by kernel_rfl) (by simp) hok)
  obtain ⟨a3, h3, _⟩ := okT_str Tryz.underlying9 (okT_fld 3 (T := 9) (o := 3) Tryz.underlying54 rfl rfl rfl (by kernel_rfl) (by simp) hok)
  obtain ⟨a4, h4, w4⟩ := okT_int Tryz.underlying34 (okT_fld 4 (T := 34) (o := 4) Tryz.underlying54 rfl rfl rfl (by kernel_rfl) (by simp) hok)
  obtain ⟨a5, h5, _⟩ := okT_int Tryz.underlying3 (okT_fld 5 (T := 3) (o := 5) Tryz.underlying54 rfl rfl rfl (by kernel_rfl) (by simp) hok)
  obtain ⟨a6, h6, w6⟩ := okT_int Tryz.underlying52 (okT_fld 6 (T := 52) (o := 6) Tryz.underlying54 rfl rfl rfl (by kernel_rfl) (by simp) hok)
  have k7 := okT_fld 7 (T := 23) (o := 7) Tryz.underlying54 rfl rfl rfl (by kernel_rfl) (by simp) hok
  obtain ⟨a8, h8, _⟩ := okT_int Tryz.underlying3 (okT_fld 8 (T := 3) (o := 8) Tryz.underlying54 rfl rfl rfl (by kernel_rfl) (by simp) hok)
  obtain ⟨a9, h9, _⟩ := okT_int Tryz.underlying3 (okT_fld 9 (T := 3) (o := 9) Tryz.underlying54 rfl rfl rfl (by kernel_rfl) (by simp) hok)
  obtain ⟨a10, h10, _⟩ := okT_int Tryz.underlying3 (okT_fld 10 (T := 3) (o := 10) Tryz.underlying54 rfl rfl rfl (by kernel_rfl) (by simp) hok)
  simp only [List.getElem_cons_zero, List.getElem_cons_succ] at h0 h1 h2 h3 h4 h5 h6 k7 h8 h9 h10
  obtain ⟨la, len, cap, rfl⟩ := okT_slc Tryz.underlying23 k7
  obtain ⟨m1, m2, zs, m3, m4, m5⟩ := okT_intl k7
  subst h0 h1 h2 h3 h4 h5 h6 h8 h9 h10
  exact ⟨a0, a1, a2, a3, a4, a5, a6, la, len, cap, a8, a9, a10, zs, rfl, m3, m4, wf_u64 w4, wf_u32 w6⟩
theorem good_cmd {k cl sq : Int} {nm : ByteArray} {bl sz sm : Int} {zs : List Int} {po vo at_ : Int} (h : Raw.Good ⟨k, cl, sq, nm, bl, sz, sm, zs, po, vo, at_⟩) (hbl : 0 ≤ bl ∧ bl ≤ 18446744073709551615) (hsm : 0 ≤ sm ∧ sm ≤ 4294967295) :
    ∃ c : Cmd, c.Ok ∧ k = (c.kind : Int) ∧ cl = (c.client : Int) ∧ sq = (c.seq : Int) ∧ nm = c.name ∧ bl = (c.blob : Int) ∧ sz = (c.size : Int) ∧ sm = (c.sum : Int) ∧ zs = c.zs ∧ po = (c.pool : Int) ∧ vo = (c.vol : Int) ∧ at_ = (c.at_ : Int) := by
  have h1 := upB_t h.kind; have h2 := upB_t h.client; have h3 := upB_t h.seq; have h4 := upB_t h.size; have h5 := upB_t h.pool; have h6 := upB_t h.vol; have h7 := upB_t h.at_
  have h0 : k ≠ 0 := h.kind0
  have hz : ∀ i (hi : i < zs.length), 0 ≤ zs[i] ∧ zs[i] ≤ 5 := fun i hi => upB_t (h.disk i hi)
  have hr : ∀ i (hi : i + 1 < zs.length), zs[i] < zs[i + 1] := fun i hi => h.rise i hi
  have hnm : nm.size ≤ 32 := h.name
  simp only at h1 h2 h3 h4 h5 h6 h7
  refine ⟨⟨k.toNat, cl.toNat, sq.toNat, nm, bl.toNat, sz.toNat, sm.toNat, zs.map Int.toNat, po.toNat, vo.toNat, at_.toNat⟩, ⟨?_, ?_, ?_, ?_, hnm, ?_, ?_, ?_, ?_, ?_, ?_, ?_, ?_⟩, ?_, ?_, ?_, rfl, ?_, ?_, ?_, ?_, ?_, ?_, ?_⟩
  all_goals try (simp only; omega)
  · intro i hi
    have hi2 : i < zs.length := by simpa using hi
    have := hz i hi2
    simp only [List.getElem_map]
    omega
  · intro i hi
    have hi2 : i + 1 < zs.length := by simpa using hi
    have := hz i (by omega)
    have := hr i hi2
    simp only [List.getElem_map]
    omega
  · show zs = (zs.map Int.toNat).map fun n : Nat => (n : Int)
    apply List.ext_getElem
    · simp
    · intro i h1 h2
      have := hz i h1
      simp only [List.getElem_map]
      omega
theorem field_log (x0 x1 x2 x3 x4 x5 : Value) (w : World) : (Instr.field 70 (.agg #[x0, x1, x2, x3, x4, x5]) 5).run Tryz.prog w = .ok x5 w := by
  first
    | rfl
    | (simp [Instr.field, go_sem, run_underlying Tryz.underlying70, part, asAgg]; done)
theorem field_name (x0 x1 x2 x3 x4 x5 x6 x7 x8 x9 x10 : Value) (w : World) : (Instr.field 76 (.agg #[x0, x1, x2, x3, x4, x5, x6, x7, x8, x9, x10]) 3).run Tryz.prog w = .ok x3 w := by
  first
    | rfl
    | (simp [Instr.field, go_sem, run_underlying Tryz.underlying76, part, asAgg]; done)
section
variable {P : Program} {w0 w : World} {I : Part} {L : List HP} {b n : Nat} {T ty : TypeId} {cs : List Value} {a : Act} {o : Oper} {Q : Exit → Act → World → Prop} {ops : Array Oper}
theorem step_loadSG {K : Act → World → Prop} {E : Prop} (W : WholeT P ty n) (hw : Region.wanted o (yielded ops a.tmps) = true) (x : Operand) (ho : o.op = .load ty x) (hx : a.eval x = .pointer (some ⟨b, 0, none⟩)) (hn : cs.length = n) (H : Sat w0 I (blk b T cs :: L) w)
    (h : K (a.put o.dst (.agg cs.toArray)) w) : if Region.wanted o (yielded ops a.tmps) = true then Oper.wp P o a w K Q else E := by
  rw [if_pos hw]
  subst hn
  obtain ⟨d, hu, hd⟩ := W.d
  exact wp_load_row ty x ho b hx T cs.toArray (0, 0) d H.isBlk hu (by cases d <;> first | rfl | cases hd) (by simpa using W.sz) h
end
section
variable {w0 w : World} {I : Part} {L : List HP}
theorem diskN_sat (la : Option Addr) (len cap : Nat) (zs : List Int) (hl : zs.length = len) (hreach : len * 8 ≤ 140737488351232) (hr : Rd I la (zs.map (Value.int .i64))) (H : Sat w0 I L w) :
    Calls Tryz.prog 18 #[.slice la len cap] w fun e w' => ∃ J da n dc ds, e = .returned (.slice da n dc) ∧ (ds : List Int).length = n ∧ I.le J ∧ n ≤ dc ∧ n ≤ 1000000000000000 ∧ Rd J da (ds.map (Value.int .i64)) ∧ Sat w0 J L w' :=
  (disk_sat la len cap zs hl hreach hr H).mono fun e w' ⟨J, da, ds, dc, h1, h2, h3, h4, h5, h6⟩ => ⟨J, da, ds.length, dc, ds, h1, rfl, h2, h3, h4, h5, h6⟩
end
end Go.Proofs.YtekioplbfoonkaaGreatDoor
