/- Layer 10, a node alone: append. -/
import Derived.Test.YtekioplbfoonkaaGreatDoorMgF
import Derived.Deep.RegionLaw
import Derived.Test.YtekioplbfoonkaaGreatDoorInv
namespace Go.Proofs.YtekioplbfoonkaaGreatDoor
open Go.RowKit
set_option linter.unusedVariables false
set_option maxRecDepth 100000
set_option maxHeartbeats 4000000
/-- an entry more. -/
def Nst.add (s : Nst) (cmd : ByteArray) : Nst := {s with log := s.log ++ [⟨lastI s + 1, s.term, cmd⟩]}
theorem Nst.addOk {s : Nst} (h : s.Ok) (cmd : ByteArray) (hc : cmd.size ≤ 1000) (hl : s.log.length < 20) : (s.add cmd).Ok := by
  have hb := h.base
  have ht := h.term
  have hx : (⟨lastI s + 1, s.term, cmd⟩ : Ent).Ok := ⟨by show s.base + s.log.length + 1 ≤ 1000; omega, by show s.term ≤ 1000; omega, hc⟩
  refine ⟨h.term, h.vote, h.base, h.bterm, h.snap, fun x hm => ?_, ?_, fun i hi => ?_⟩
  · rcases List.mem_append.1 hm with hm | hm
    · exact h.log x hm
    · simp at hm; subst hm; exact hx
  · show (s.log ++ [_]).length ≤ 20
    simp; omega
  · have hi2 : i < (s.log ++ [(⟨lastI s + 1, s.term, cmd⟩ : Ent)]).length := hi
    show ((s.log ++ [(⟨lastI s + 1, s.term, cmd⟩ : Ent)])[i]'hi2).idx = s.base + i + 1
    by_cases h2 : i < s.log.length
    · rw [List.getElem_append_left h2]; exact h.idx i h2
    · have hi' : i < s.log.length + 1 := by have : i < (s.log ++ [(⟨lastI s + 1, s.term, cmd⟩ : Ent)]).length := hi; simpa using this
      obtain rfl : i = s.log.length := by omega
      rw [List.getElem_append_right (Nat.le_refl _)]
      simp [lastI]
theorem whEnt : WholeT Tryz.prog 73 3 := ⟨⟨_, Tryz.underlying73, rfl⟩, by kernel_rfl⟩
def apP (s : Nst) (Y : Int) (cmd : ByteArray) (xb : Nat) : Nat → List HP
  | 0 => []
  | 1 => [blk xb 73 [.int .i64 0, .int .i64 0, .string ⟨#[]⟩]]
  | _ + 2 => [blk xb 73 [.int .i64 Y, .int .i64 (s.term : Int), .string cmd]]
section
variable {P : Program} {w0 w : World} {I : Part} {L : List HP} {a : Act} {o : Oper} {Q : Exit → Act → World → Prop}
/-- append of cells that stay, to a slice of its own that may be nil. -/
theorem step_appRd {ops : Array Oper} {K : Act → World → Prop} {E : Prop} {t e : TypeId} {size bytes : Nat} (T : SliceT P t e size bytes) (hsz0 : 0 < size) (hgd : o.guard = none) (s x : Operand)
    (ho : o.op = .call { callee := .builtin .append, args := #[s, x], argTypes := #[t, t] })
    {n m c N : Nat} {v : Value} {ad : Addr} {xs news ys : List Value} (H : Sat w0 I (row e size v n xs :: L) w) (hs : a.eval s = v) (hx : a.eval x = .slice (some ad) m c) (hr : Rd I (some ad) news) (hl : news.length = m * size) (h1 : ∀ u ∈ news, u.oneCell' = true)
    (hN : n + m = N) (hys : xs ++ news = ys) (hb : N * bytes ≤ 140737488355328) (hn : N ≤ 140737488355328)
    (h : ∀ ad' cap' w', N ≤ cap' → cap' ≤ 9223372036854775807 → Sat w0 I (row e size (.slice ad' N cap') N ys :: L) w' → K (a.put o.dst (.slice ad' N cap')) w') :
    if Region.wanted o (yielded ops a.tmps) = true then Oper.wp P o a w K Q else E := by
  subst hN hys
  have hw : Region.wanted o (yielded ops a.tmps) = true := by simp [Region.wanted, hgd]
  rw [if_pos hw]
  have hrow := H.isRow
  rcases hrow.2 with ⟨rfl, h0⟩ | ⟨g0, cap, cur, rfl, _⟩
  · obtain ⟨ti, z, hti, hz, hsz, hby, hzs⟩ := T.hi
    have hown' : w.ownsRow w.heap.size e size (.slice none 0 0) n xs := ⟨hrow.1, Or.inl ⟨rfl, h0⟩⟩
    refine wp_append_own w s x t ho w.heap.size e ti z size bytes T.ht hti hz hsz hby hzs hsz0 _ n xs hs hown' ad m c news hx hl (fun j u hj => ?_) h1 (by unfold maxLen; omega) hb (Nat.le_refl _) fun v' w' h2 h3 _ => ?_
    · obtain ⟨b, off, e1, e2⟩ := hr.get H j hj
      cases e1
      rw [add_off]; exact e2
    · obtain ⟨ad', cap', rfl, hc1, hc2⟩ := own_shape h2
      exact h ad' cap' w' hc1 hc2 (H.grown h2 h3 fun k hk => Or.inr (h2.lt k hk).1)
  · exact wp_appSrcS T s x ho H hs hx (Src.ofRd T H hr hl h1) hb hn fun g' cap' w' h1 h2 h3 => h _ cap' w' h1 h2 h3
end
def svA (a b : Value) : Nat → Value
  | 0 => a
  | 1 => a
  | _ + 2 => b
theorem svA_le (a b : Value) {n : Nat} (h : ¬ 1 < n) : svA a b n = a := by
  match n with
  | 0 => rfl
  | 1 => rfl
  | n + 2 => omega
def rwA (A B : HP) : Nat → HP
  | 0 => A
  | _ + 1 => B
def apD (d D : Dst) : Nat → Dst
  | 0 => d
  | _ + 1 => D
inductive apPhi (w0 : World) (I : Part) (L : List HP) (p r : Nat) (d : Dst) (s : Nst) (sv vo ma ne : Value) (role leader commit applied timer m0 Y : Int) (X : Nat) (cmd : ByteArray) (f : Nat → Bool) (w : World) : Act → Prop
  | mk (x0 x1 x2 x3 x4 x5 x6 x7 x8 x9 x10 x11 : Value) (xb : Nat) (n : Nat) (F0 : Hid (f 0 = true → x0 = (.pointer (some ⟨r, 0, none⟩) : Value))) (F1 : Hid (f 1 = true → x1 = (.int .i64 (X : Int) : Value))) (F2 : Hid (f 2 = true → x2 = (.int .i64 Y : Value))) (F3 : Hid (f 3 = true → x3 = (.pointer (some ⟨r, 0, none⟩) : Value))) (F4 : Hid (f 4 = true → x4 = (.pointer (some ⟨r, 0, none⟩) : Value))) (F5 : Hid (f 5 = true → x5 = (.pointer (some ⟨r, 3, none⟩) : Value))) (F6 : Hid (f 6 = true → x6 = (.pointer (some ⟨r, 3, none⟩) : Value))) (F7 : Hid (f 7 = true → x7 = (.int .i64 (s.term : Int) : Value))) (F8 : Hid (f 8 = true → x8 = (.string cmd : Value))) (F9 : Hid (f 9 = true → x9 = (.agg #[.int .i64 Y, .int .i64 (s.term : Int), .string cmd] : Value))) (F10 : Hid (f 10 = true → x10 = (.pointer (some ⟨xb, 0, none⟩) : Value))) (F11 : Hid (f 11 = true → True)) (C0 : Hid (f 10 = decide (0 < n))) (C1 : Hid (f 11 = decide (1 < n)))
    (HS : Hid (Sat w0 I (blk r 129 (ncells p s sv role leader commit applied timer vo ma ne) :: row 73 3 sv s.log.length (s.log.flatMap Ent.cells) :: row 3 1 ma 1 [.int .i64 m0] :: dskp p d :: (apP s Y cmd xb n ++ L)) w)) : apPhi w0 I L p r d s sv vo ma ne role leader commit applied timer m0 Y X cmd f w ⟨#[.pointer (some ⟨r, 0, none⟩), .string cmd, undef, undef, .int .i64 0, x10, x0, x1, x2, x3, x4, x5, x6, x7, x8, x9, undef, undef, undef, undef, undef, undef, undef, undef, undef, undef, undef, undef, undef, undef, undef, undef, undef, undef, undef, undef, undef, undef, undef, undef, undef, undef, undef, undef, undef, undef, undef, undef, undef, undef, undef, undef, undef, undef, undef], []⟩
inductive apPhi2 (w0 : World) (I : Part) (L : List HP) (p r : Nat) (d : Dst) (s : Nst) (al : Option Addr) (cl gm cm xb U C : Nat) (vo ne : Value) (role leader commit applied timer m0 Y : Int) (X : Nat) (cmd : ByteArray) (v6 : Value) (v7 : Value) (v8 : Value) (v9 : Value) (v10 : Value) (v11 : Value) (v12 : Value) (v13 : Value) (v14 : Value) (v15 : Value) (f : Nat → Bool) (w : World) : Act → Prop
  | mk (y0 y1 y2 y3 y4 y5 y6 y7 y8 y9 : Value) (g6 : Nat) (n : Nat) (D : Dst) (J : Part) (hIJ : I.le J) (F0 : Hid (f 0 = true → y0 = (.pointer (some ⟨r, 0, none⟩) : Value))) (F1 : Hid (f 1 = true → y1 = (.pointer (some ⟨r, 0, none⟩) : Value))) (F2 : Hid (f 2 = true → y2 = (.pointer (some ⟨r, 0, none⟩) : Value))) (F3 : Hid (f 3 = true → y3 = (.pointer (some ⟨r, 0, none⟩) : Value))) (F4 : Hid (f 4 = true → y4 = (.pointer (some ⟨p, 0, none⟩) : Value))) (F5 : Hid (f 5 = true → y5 = (.agg #[.int .i64 Y, .int .i64 (s.term : Int), .string cmd] : Value))) (F6 : Hid (f 6 = true → y6 = (.slice (some ⟨g6, 0, none⟩) 1 1 : Value) ∧ Rd J (some ⟨g6, 0, none⟩) [.int .i64 Y, .int .i64 (s.term : Int), .string cmd])) (F7 : Hid (f 7 = true → y7 = (.int .i64 0 : Value) ∧ Dk D (U + 1038) (C + 2) ∧ Upd d D kLg ⟨(logB (s.log ++ [⟨X + 1, s.term, cmd⟩])).toArray⟩)) (F8 : Hid (f 8 = true → y8 = (.bool true : Value))) (F9 : Hid (f 9 = true → y9 = (.bool false : Value))) (C0 : Hid (f 7 = decide (0 < n)))
    (HS : Hid (Sat w0 J (blk xb 73 [.int .i64 Y, .int .i64 (s.term : Int), .string cmd] :: blk r 129 (ncells p s (.slice al s.log.length cl) role leader commit applied timer vo (.slice (some ⟨gm, 0, none⟩) 1 cm) ne) :: row 73 3 (.slice al s.log.length cl) s.log.length (s.log.flatMap Ent.cells) :: row 3 1 (.slice (some ⟨gm, 0, none⟩) 1 cm) 1 [.int .i64 m0] :: dskp p (apD d D n) :: L) w)) : apPhi2 w0 I L p r d s al cl gm cm xb U C vo ne role leader commit applied timer m0 Y X cmd v6 v7 v8 v9 v10 v11 v12 v13 v14 v15 f w ⟨#[.pointer (some ⟨r, 0, none⟩), .string cmd, undef, undef, .int .i64 0, .pointer (some ⟨xb, 0, none⟩), v6, v7, v8, v9, v10, v11, v12, v13, v14, v15, y0, y1, y2, y3, y4, y5, y6, y7, y8, y9, undef, undef, undef, undef, undef, undef, undef, undef, undef, undef, undef, undef, undef, undef, undef, undef, undef, undef, undef, undef, undef, undef, undef, undef, undef, undef, undef, undef, undef], []⟩
inductive apPhi4 (w0 : World) (I : Part) (L : List HP) (p r : Nat) (D : Dst) (s : Nst) (al : Option Addr) (cl gm cm xb N : Nat) (vo ne : Value) (role leader commit applied timer m0 Y : Int) (X : Nat) (cmd : ByteArray) (v6 : Value) (v7 : Value) (v8 : Value) (v9 : Value) (v10 : Value) (v11 : Value) (v12 : Value) (v13 : Value) (v14 : Value) (v15 : Value) (v16 : Value) (v17 : Value) (v18 : Value) (v19 : Value) (v20 : Value) (v21 : Value) (v22 : Value) (v23 : Value) (v24 : Value) (v25 : Value) (f : Nat → Bool) (w : World) : Act → Prop
  | mk (z0 z1 z2 z3 z4 z5 z6 z7 z8 z9 z10 z11 z12 : Value) (g7 : Nat) (n : Nat) (ad2 : Option Addr) (cp2 : Nat) (J : Part) (hIJ : I.le J) (F0 : Hid (f 0 = true → z0 = (.pointer (some ⟨r, 0, none⟩) : Value))) (F1 : Hid (f 1 = true → z1 = (.pointer (some ⟨r, 0, none⟩) : Value))) (F2 : Hid (f 2 = true → z2 = (.pointer (some ⟨r, 0, none⟩) : Value))) (F3 : Hid (f 3 = true → z3 = (.pointer (some ⟨r, 3, none⟩) : Value))) (F4 : Hid (f 4 = true → z4 = (.pointer (some ⟨r, 8, none⟩) : Value))) (F5 : Hid (f 5 = true → z5 = ((.slice al N cl) : Value))) (F6 : Hid (f 6 = true → z6 = (.agg #[.int .i64 Y, .int .i64 (s.term : Int), .string cmd] : Value))) (F7 : Hid (f 7 = true → z7 = (.slice (some ⟨g7, 0, none⟩) 1 1 : Value) ∧ Rd J (some ⟨g7, 0, none⟩) [.int .i64 Y, .int .i64 (s.term : Int), .string cmd])) (F8 : Hid (f 8 = true → z8 = ((.slice ad2 (N + 1) cp2) : Value) ∧ f 5 = true ∧ N + 1 ≤ cp2)) (F9 : Hid (f 9 = true → z9 = (.pointer (some ⟨r, 0, none⟩) : Value))) (F10 : Hid (f 10 = true → z10 = (.pointer (some ⟨r, 3, none⟩) : Value))) (F11 : Hid (f 11 = true → z11 = (.pointer (some ⟨r, 8, none⟩) : Value))) (F12 : Hid (f 12 = true → f 5 = true)) (C0 : Hid (f 8 = decide (0 < n))) (C1 : Hid (f 12 = decide (1 < n)))
    (HS : Hid (Sat w0 J (blk r 129 (ncells p s (svA (.slice al N cl) (.slice ad2 (N + 1) cp2) n) role leader commit applied timer vo (.slice (some ⟨gm, 0, none⟩) 1 cm) ne) :: rwA (row 73 3 (.slice al N cl) N (s.log.flatMap Ent.cells)) (row 73 3 (.slice ad2 (N + 1) cp2) (N + 1) (s.log.flatMap Ent.cells ++ [.int .i64 Y, .int .i64 (s.term : Int), .string cmd])) n :: row 3 1 (.slice (some ⟨gm, 0, none⟩) 1 cm) 1 [.int .i64 m0] :: dskp p D :: blk xb 73 [.int .i64 Y, .int .i64 (s.term : Int), .string cmd] :: L) w)) : apPhi4 w0 I L p r D s al cl gm cm xb N vo ne role leader commit applied timer m0 Y X cmd v6 v7 v8 v9 v10 v11 v12 v13 v14 v15 v16 v17 v18 v19 v20 v21 v22 v23 v24 v25 f w ⟨#[.pointer (some ⟨r, 0, none⟩), .string cmd, undef, undef, .int .i64 0, .pointer (some ⟨xb, 0, none⟩), v6, v7, v8, v9, v10, v11, v12, v13, v14, v15, v16, v17, v18, v19, v20, v21, v22, v23, v24, v25, z0, z1, z2, z3, z4, z5, z6, z7, z8, z9, z10, z11, undef, undef, undef, undef, undef, undef, undef, undef, undef, undef, undef, undef, undef, undef, undef, undef, undef], []⟩

section
variable {w0 w : World} {I : Part} {L : List HP} {p r : Nat} {d : Dst} {s : Nst} {sv vo ma ne : Value} {role leader commit applied timer : Int}
theorem rappend_sat (hT : Rd I (some ⟨0, 0, none⟩) tabV) {U C : Nat} (h : Dk d U C) (hk : Kd d s) (hok : s.Ok) (cmd : ByteArray) (hc : cmd.size ≤ 1000) (hl : s.log.length < 20) (hU : U + 1038 ≤ 1048576) (hC : C ≤ 1000) (m0 : Int) (hcm : commit < ((lastI s + 1 : Nat) : Int)) (H : Sat w0 I (blk r 129 (ncells p s sv role leader commit applied timer vo ma ne) :: row 73 3 sv s.log.length (s.log.flatMap Ent.cells) :: row 3 1 ma 1 [.int .i64 m0] :: dskp p d :: L) w) :
    Calls Tryz.prog 60 #[.pointer (some ⟨r, 0, none⟩), .string cmd] w fun e w' => ∃ D sv', e = .returned (.int .i64 ((lastI s + 1 : Nat) : Int)) ∧ Dk D (U + 1038) (C + 2) ∧ Kd D (s.add cmd) ∧ Sat w0 I (blk r 129 (ncells p (s.add cmd) sv' role leader ((lastI s + 1 : Nat) : Int) applied timer vo ma ne) :: row 73 3 sv' (s.add cmd).log.length ((s.add cmd).log.flatMap Ent.cells) :: row 3 1 ma 1 [.int .i64 ((lastI s + 1 : Nat) : Int)] :: dskp p D :: L) w' := by
  have hok2 := Nst.addOk hok cmd hc hl
  have hb := hok.base
  have hlI : lastI s + 1 ≤ 200 := by unfold lastI; omega
  obtain ⟨X, hX⟩ : ∃ X, lastI s = X := ⟨_, rfl⟩
  rw [hX] at hlI
  have hxo : (⟨X + 1, s.term, cmd⟩ : Ent).Ok := by
    refine hok2.log _ ?_
    show _ ∈ s.log ++ [(⟨lastI s + 1, s.term, cmd⟩ : Ent)]
    rw [hX]; simp
  have hlog : (s.add cmd).log = s.log ++ [⟨X + 1, s.term, cmd⟩] := by show s.log ++ [_] = _; rw [hX]
  have HLOG := hid hlog
  have HX := hid hX
  rw [hX] at hcm ⊢
  obtain ⟨Y, hY⟩ : ∃ Y : Int, ((X + 1 : Nat) : Int) = Y := ⟨_, rfl⟩
  rw [hY] at hcm ⊢
  have hw : IntKind.i64.wrap ((X : Int) + 1) = Y := by rw [IntWalk.i64_in _ (by omega)]; omega
  have hxc : Ent.cells ⟨X + 1, s.term, cmd⟩ = [.int .i64 Y, .int .i64 (s.term : Int), .string cmd] := by unfold Ent.cells; rw [hY]
  obtain ⟨am, cm, rfl, hm1, hm2⟩ := own_shape (H.pick 2).isRow
  have ham : ∃ g, am = some ⟨g, 0, none⟩ := by
    rcases (H.pick 2).isRow.2 with ⟨h, hn⟩ | ⟨g, cap, cur, h, _⟩
    · cases hn
    · cases h; exact ⟨g, rfl⟩
  obtain ⟨gm, rfl⟩ := ham
  obtain ⟨al, cl, rfl, hl1, hl2⟩ := own_shape H.swap.isRow
  have HY := hid hY
  have HXE := hid hxc
  have HT := hid hT
  have HD := hid h
  have HK := hid hk
  have HOK := hid hok
  have HOK2 := hid hok2
  have HXO := hid hxo
  have HH := hid H
  have hlb := logB_len s.log hok.log
  have hlb2 : (logB [(⟨X + 1, s.term, cmd⟩ : Ent)]).length ≤ 1038 := by
    have := logB_len [(⟨X + 1, s.term, cmd⟩ : Ent)] (by intro x hx; simp at hx; subst hx; exact hxo)
    simpa using this
  have HLB := hid hlb
  have HLB2 := hid hlb2
  have HSF := hid (show Sf d kLg ⟨(logB s.log).toArray⟩ from ⟨by rw [hk.lg]; rfl, by rw [hk.lg]; rfl⟩)
  have HXC : Hid (∀ u ∈ ([.int .i64 Y, .int .i64 (s.term : Int), .string cmd] : List Value), u.oneCell' = true) := hid (by
    intro u hu
    simp only [List.mem_cons, List.not_mem_nil, or_false] at hu
    rcases hu with rfl | rfl | rfl <;> rfl)
  obtain ⟨N, hN⟩ : ∃ N, s.log.length = N := ⟨_, rfl⟩
  have HN := hid hN
  have HNB := hid (show N < 20 by rw [← hN]; exact hl)
  clear hT h hk hok hok2 hxo H hlog hX hlb hlb2 hY hxc hN
  go_enter Tryz.func60, Tryz.ntmps60
  go_upto_region 1 with fail
  refine wp_region_inv (by kernel_rfl) (by kernel_rfl) (fun f a w => apPhi w0 I L p r d s (.slice al s.log.length cl) vo (.slice (some ⟨gm, 0, none⟩) 1 cm) ne role leader commit applied timer m0 Y X cmd f w a) ?h0 ?hs ?he
  case h0 => exact apPhi.mk _ _ _ _ _ _ _ _ _ _ _ undef (0) (0) (hid (fun h => by cases h)) (hid (fun h => by cases h)) (hid (fun h => by cases h)) (hid (fun h => by cases h)) (hid (fun h => by cases h)) (hid (fun h => by cases h)) (hid (fun h => by cases h)) (hid (fun h => by cases h)) (hid (fun h => by cases h)) (hid (fun h => by cases h)) (hid (fun h => by cases h)) (hid (fun h => by cases h)) (hid rfl) (hid rfl) (hid HH.out.drew)
  case hs =>
    clear HH
    rintro f a w i o ⟨x0, x1, x2, x3, x4, x5, x6, x7, x8, x9, x10, x11, xb, n, F0, F1, F2, F3, F4, F5, F6, F7, F8, F9, F10, F11, C0, C1, HS⟩ ho hf hall K' hK
    have hi : i < 12 := (Array.getElem?_eq_some_iff.1 ho).1
    have hi2 : i = 0 ∨ i = 1 ∨ i = 2 ∨ i = 3 ∨ i = 4 ∨ i = 5 ∨ i = 6 ∨ i = 7 ∨ i = 8 ∨ i = 9 ∨ i = 10 ∨ i = 11 := by omega
    clear hi
    rcases hi2 with rfl | rfl | rfl | rfl | rfl | rfl | rfl | rfl | rfl | rfl | rfl | rfl
    · obtain rfl := Option.some.inj ho
      go_simp
      exact hK _ _ (apPhi.mk _ x1 x2 x3 x4 x5 x6 x7 x8 x9 x10 x11 (xb) (n) (hid (fun _ => rfl)) (F1) (F2) (F3) (F4) (F5) (F6) (F7) (F8) (F9) (F10) (F11) (C0) (C1) HS)
    · obtain rfl := Option.some.inj ho
      have d0 : f 0 = true := hall { on := 0, ground := Ground.data } (by simp) (by rfl)
      obtain rfl := F0.out d0
      go_simp
      go_at_call 124
      refine (rlast_sat HOK.out HS.out).mono ?_
      rintro e w5 ⟨rfl, S5⟩
      rw [HX.out]
      have H5 := hid S5
      clear S5 HS
      exact hK _ _ (apPhi.mk _ _ x2 x3 x4 x5 x6 x7 x8 x9 x10 x11 (xb) (n) (F0) (hid (fun _ => rfl)) (F2) (F3) (F4) (F5) (F6) (F7) (F8) (F9) (F10) (F11) (C0) (C1) H5)
    · obtain rfl := Option.some.inj ho
      have d1 : f 1 = true := hall { on := 1, ground := Ground.data } (by simp) (by rfl)
      obtain rfl := F1.out d1
      go_simp
      exact hK _ _ (apPhi.mk x0 _ _ x3 x4 x5 x6 x7 x8 x9 x10 x11 (xb) (n) (F0) (F1) (hid (fun _ => rfl)) (F3) (F4) (F5) (F6) (F7) (F8) (F9) (F10) (F11) (C0) (C1) HS)
    · obtain rfl := Option.some.inj ho
      go_simp
      exact hK _ _ (apPhi.mk x0 x1 x2 _ x4 x5 x6 x7 x8 x9 x10 x11 (xb) (n) (F0) (F1) (F2) (hid (fun _ => rfl)) (F4) (F5) (F6) (F7) (F8) (F9) (F10) (F11) (C0) (C1) HS)
    · obtain rfl := Option.some.inj ho
      have d3 : f 3 = true := hall { on := 3, ground := Ground.data } (by simp) (by rfl)
      obtain rfl := F3.out d3
      go_simp
      exact hK _ _ (apPhi.mk x0 x1 x2 _ _ x5 x6 x7 x8 x9 x10 x11 (xb) (n) (F0) (F1) (F2) (F3) (hid (fun _ => rfl)) (F5) (F6) (F7) (F8) (F9) (F10) (F11) (C0) (C1) HS)
    · obtain rfl := Option.some.inj ho
      have d4 : f 4 = true := hall { on := 4, ground := Ground.data } (by simp) (by rfl)
      obtain rfl := F4.out d4
      go_simp
      exact hK _ _ (apPhi.mk x0 x1 x2 x3 _ _ x6 x7 x8 x9 x10 x11 (xb) (n) (F0) (F1) (F2) (F3) (F4) (hid (fun _ => rfl)) (F6) (F7) (F8) (F9) (F10) (F11) (C0) (C1) HS)
    · obtain rfl := Option.some.inj ho
      have d5 : f 5 = true := hall { on := 5, ground := Ground.data } (by simp) (by rfl)
      obtain rfl := F5.out d5
      go_simp
      exact hK _ _ (apPhi.mk x0 x1 x2 x3 x4 _ _ x7 x8 x9 x10 x11 (xb) (n) (F0) (F1) (F2) (F3) (F4) (F5) (hid (fun _ => rfl)) (F7) (F8) (F9) (F10) (F11) (C0) (C1) HS)
    · obtain rfl := Option.some.inj ho
      have d6 : f 6 = true := hall { on := 6, ground := Ground.data } (by simp) (by rfl)
      obtain rfl := F6.out d6
      have c0 : w.cell? ⟨r, 3, none⟩ = some (.int .i64 (s.term : Int)) := HS.out.isBlk.cell 3 rfl
      go_simp
      exact hK _ _ (apPhi.mk x0 x1 x2 x3 x4 x5 _ _ x8 x9 x10 x11 (xb) (n) (F0) (F1) (F2) (F3) (F4) (F5) (F6) (hid (fun _ => rfl)) (F8) (F9) (F10) (F11) (C0) (C1) HS)
    · obtain rfl := Option.some.inj ho
      go_simp
      exact hK _ _ (apPhi.mk x0 x1 x2 x3 x4 x5 x6 x7 _ x9 x10 x11 (xb) (n) (F0) (F1) (F2) (F3) (F4) (F5) (F6) (F7) (hid (fun _ => rfl)) (F9) (F10) (F11) (C0) (C1) HS)
    · obtain rfl := Option.some.inj ho
      have d2 : f 2 = true := hall { on := 2, ground := Ground.data } (by simp) (by rfl)
      have d7 : f 7 = true := hall { on := 7, ground := Ground.data } (by simp) (by rfl)
      have d8 : f 8 = true := hall { on := 8, ground := Ground.data } (by simp) (by rfl)
      obtain rfl := F2.out d2
      obtain rfl := F7.out d7
      obtain rfl := F8.out d8
      go_simp
      exact hK _ _ (apPhi.mk x0 x1 _ x3 x4 x5 x6 _ _ _ x10 x11 (xb) (n) (F0) (F1) (F2) (F3) (F4) (F5) (F6) (F7) (F8) (hid (fun _ => rfl)) (F10) (F11) (C0) (C1) HS)
    · obtain rfl := Option.some.inj ho
      have hn : n = 0 := by
        have h2 := C0.out; rw [hf] at h2; have h4 := of_decide_eq_false h2.symm; omega
      subst hn
      obtain ⟨xn, hxn⟩ := HS.out.sizeQ
      have H2 := hid ((((HS.out.alloc (b := xn) (T := 73) (cs := [.int .i64 0, .int .i64 0, .string ⟨#[]⟩]) rfl hxn.symm).pick 4).pick 4).pick 4 |>.pick 4)
      clear HS
      go_simp
      try rw [hxn]
      exact hK _ _ (apPhi.mk x0 x1 x2 x3 x4 x5 x6 x7 x8 x9 _ x11 (xn) (1) (F0) (F1) (F2) (F3) (F4) (F5) (F6) (F7) (F8) (F9) (hid (fun _ => rfl)) (F11) (hid rfl) (hid (C1.out.trans (by decide))) H2)
    · obtain rfl := Option.some.inj ho
      have d10 : f 10 = true := hall { on := 10, ground := Ground.data } (by simp) (by rfl)
      have d9 : f 9 = true := hall { on := 9, ground := Ground.data } (by simp) (by rfl)
      obtain rfl := F10.out d10
      obtain rfl := F9.out d9
      have hn : n = 1 := by
        have h1 := C0.out; rw [d10] at h1; have h3 := of_decide_eq_true h1.symm
        have h2 := C1.out; rw [hf] at h2; have h4 := of_decide_eq_false h2.symm
        omega
      subst hn
      refine step_storeS whEnt rfl (.tmp 5) (.tmp 15) rfl rfl rfl rfl rfl HXC.out (HS.out.pick 4) ?_
      intro w5 S5
      have H5 := hid (((S5.pick 4).pick 4).pick 4 |>.pick 4)
      clear S5 HS
      exact hK _ _ (apPhi.mk x0 x1 x2 x3 x4 x5 x6 x7 x8 _ _ undef (xb) (2) (F0) (F1) (F2) (F3) (F4) (F5) (F6) (F7) (F8) (F9) (F10) (hid (fun _ => trivial)) (hid (C0.out.trans (by decide))) (hid rfl) H5)
  case he =>
    clear HH
    rintro f a w ⟨x0, x1, x2, x3, x4, x5, x6, x7, x8, x9, x10, x11, xb, n, F0, F1, F2, F3, F4, F5, F6, F7, F8, F9, F10, F11, C0, C1, HS⟩ hall
    have h11 := hall 11 (by decide)
    have h10 := hall 10 (by decide)
    have hn : 1 < n := by
      have h1 := C1.out; rw [h11] at h1; exact of_decide_eq_true h1.symm
    obtain ⟨m, rfl⟩ : ∃ m, n = m + 2 := ⟨n - 2, by omega⟩
    obtain rfl := F10.out h10
    have H1 := hid (show Sat w0 I (blk xb 73 [.int .i64 Y, .int .i64 (s.term : Int), .string cmd] :: blk r 129 (ncells p s (.slice al s.log.length cl) role leader commit applied timer vo (.slice (some ⟨gm, 0, none⟩) 1 cm) ne) :: row 73 3 (.slice al s.log.length cl) s.log.length (s.log.flatMap Ent.cells) :: row 3 1 (.slice (some ⟨gm, 0, none⟩) 1 cm) 1 [.int .i64 m0] :: dskp p d :: L) w from HS.out.pick 4)
    clear HS hn h11 h10 hall F0 F1 F2 F3 F4 F5 F6 F7 F8 F9 F10 F11 C0 C1
    go_upto_region 2 with fail
    refine wp_region_inv (by kernel_rfl) (by kernel_rfl) (fun f a w => apPhi2 w0 I L p r d s al cl gm cm xb U C vo ne role leader commit applied timer m0 Y X cmd x0 x1 x2 x3 x4 x5 x6 x7 x8 x9 f w a) ?h0 ?hs ?he
    case h0 => exact apPhi2.mk _ _ _ _ _ _ _ _ _ _ (0) (0) (d) (I) (Part.le_refl _) (hid (fun h => by cases h)) (hid (fun h => by cases h)) (hid (fun h => by cases h)) (hid (fun h => by cases h)) (hid (fun h => by cases h)) (hid (fun h => by cases h)) (hid (fun h => by cases h)) (hid (fun h => by cases h)) (hid (fun h => by cases h)) (hid (fun h => by cases h)) (hid rfl) (hid H1.out.drew)
    case hs =>
      clear H1
      rintro f a w i o ⟨y0, y1, y2, y3, y4, y5, y6, y7, y8, y9, g6, n, D, J, hIJ, F0, F1, F2, F3, F4, F5, F6, F7, F8, F9, C0, HS⟩ ho hf hall K' hK
      have hi : i < 10 := (Array.getElem?_eq_some_iff.1 ho).1
      have hi2 : i = 0 ∨ i = 1 ∨ i = 2 ∨ i = 3 ∨ i = 4 ∨ i = 5 ∨ i = 6 ∨ i = 7 ∨ i = 8 ∨ i = 9 := by omega
      clear hi
      rcases hi2 with rfl | rfl | rfl | rfl | rfl | rfl | rfl | rfl | rfl | rfl
      · obtain rfl := Option.some.inj ho
        go_simp
        exact hK _ _ (apPhi2.mk _ y1 y2 y3 y4 y5 y6 y7 y8 y9 (g6) (n) (D) (J) (hIJ) (hid (fun _ => rfl)) (F1) (F2) (F3) (F4) (F5) (F6) (F7) (F8) (F9) (C0) HS)
      · obtain rfl := Option.some.inj ho
        go_simp
        exact hK _ _ (apPhi2.mk y0 _ y2 y3 y4 y5 y6 y7 y8 y9 (g6) (n) (D) (J) (hIJ) (F0) (hid (fun _ => rfl)) (F2) (F3) (F4) (F5) (F6) (F7) (F8) (F9) (C0) HS)
      · obtain rfl := Option.some.inj ho
        have d1 : f 1 = true := hall { on := 1, ground := Ground.data } (by simp) (by rfl)
        obtain rfl := F1.out d1
        go_simp
        exact hK _ _ (apPhi2.mk y0 _ _ y3 y4 y5 y6 y7 y8 y9 (g6) (n) (D) (J) (hIJ) (F0) (F1) (hid (fun _ => rfl)) (F3) (F4) (F5) (F6) (F7) (F8) (F9) (C0) HS)
      · obtain rfl := Option.some.inj ho
        have d2 : f 2 = true := hall { on := 2, ground := Ground.data } (by simp) (by rfl)
        obtain rfl := F2.out d2
        go_simp
        exact hK _ _ (apPhi2.mk y0 y1 _ _ y4 y5 y6 y7 y8 y9 (g6) (n) (D) (J) (hIJ) (F0) (F1) (F2) (hid (fun _ => rfl)) (F4) (F5) (F6) (F7) (F8) (F9) (C0) HS)
      · obtain rfl := Option.some.inj ho
        have d3 : f 3 = true := hall { on := 3, ground := Ground.data } (by simp) (by rfl)
        obtain rfl := F3.out d3
        have c0 : w.cell? ⟨r, 0, none⟩ = some (.pointer (some ⟨p, 0, none⟩)) := HS.out.swap.isBlk.cell 0 rfl
        go_simp
        exact hK _ _ (apPhi2.mk y0 y1 y2 _ _ y5 y6 y7 y8 y9 (g6) (n) (D) (J) (hIJ) (F0) (F1) (F2) (F3) (hid (fun _ => rfl)) (F5) (F6) (F7) (F8) (F9) (C0) HS)
      · obtain rfl := Option.some.inj ho
        refine step_loadS whEnt rfl (.tmp 5) rfl rfl rfl HS.out ?_
        exact hK _ _ (apPhi2.mk y0 y1 y2 y3 y4 _ y6 y7 y8 y9 (g6) (n) (D) (J) (hIJ) (F0) (F1) (F2) (F3) (F4) (hid (fun _ => rfl)) (F6) (F7) (F8) (F9) (C0) HS)
      · obtain rfl := Option.some.inj ho
        have d5 : f 5 = true := hall { on := 5, ground := Ground.data } (by simp) (by rfl)
        obtain rfl := F5.out d5
        obtain ⟨gn, hgn⟩ := HS.out.sizeQ
        obtain ⟨J2, hJ2, S1, hrd⟩ := (HS.out.alloc (b := gn) (T := 73) (cs := [.int .i64 Y, .int .i64 (s.term : Int), .string cmd]) rfl hgn.symm).freezeBlk
        have H2 := hid S1
        have HRD := hid hrd
        clear S1 hrd HS
        go_simp
        try rw [hgn]
        exact hK _ _ (apPhi2.mk y0 y1 y2 y3 y4 _ _ y7 y8 y9 (gn) (n) (D) (J2) (Part.le_trans hIJ hJ2) (F0) (F1) (F2) (F3) (F4) (F5) (hid (fun _ => ⟨rfl, HRD.out⟩)) (F7) (F8) (F9) (C0) H2)
      · obtain rfl := Option.some.inj ho
        have d4 : f 4 = true := hall { on := 4, ground := Ground.data } (by simp) (by rfl)
        have d6 : f 6 = true := hall { on := 6, ground := Ground.data } (by simp) (by rfl)
        obtain rfl := F4.out d4
        obtain ⟨rfl, hrd⟩ := F6.out d6
        have HRD := hid hrd
        clear hrd
        have hn : n = 0 := by
          have h2 := C0.out; rw [hf] at h2; have h4 := of_decide_eq_false h2.symm; omega
        subst hn
        go_simp
        go_at_call 126
        refine (tappend_sat (HT.out.mono hIJ) HD.out (some ⟨g6, 0, none⟩) 1 1 s.log [⟨X + 1, s.term, cmd⟩] rfl (by intro x hx; simp at hx; subst hx; exact HXO.out) (by omega) (by rw [List.flatMap_cons, List.flatMap_nil, List.append_nil, HXE.out]; exact HRD.out) HSF.out (by have := HLB.out; omega) HLB2.out hU hC (HS.out.pick 4)).mono ?_
        rintro e w5 ⟨D2, rfl, k1, k2, S5⟩
        have H5 := hid (((S5.pick 4).pick 4).pick 4 |>.pick 4)
        have K1 := hid k1
        have K2 := hid k2
        clear S5 HS k1 k2
        exact hK _ _ (apPhi2.mk y0 y1 y2 y3 _ y5 _ _ y8 y9 (g6) (1) (D2) (J) (hIJ) (F0) (F1) (F2) (F3) (F4) (F5) (F6) (hid (fun _ => ⟨rfl, K1.out, K2.out⟩)) (F8) (F9) (hid rfl) H5)
      · obtain rfl := Option.some.inj ho
        have d0 : f 0 = true := hall { on := 0, ground := Ground.data } (by simp) (by rfl)
        have d7 : f 7 = true := hall { on := 7, ground := Ground.data } (by simp) (by rfl)
        obtain rfl := F0.out d0
        obtain ⟨rfl, k1, k2⟩ := F7.out d7
        have K1 := hid k1
        have K2 := hid k2
        clear k1 k2
        go_simp
        go_at_call 125
        refine (stored_sat HS.out).mono ?_
        rintro e w5 ⟨rfl, S5⟩
        have H5 := hid S5
        clear S5 HS
        exact hK _ _ (apPhi2.mk _ y1 y2 y3 y4 y5 y6 _ _ y9 (g6) (n) (D) (J) (hIJ) (F0) (F1) (F2) (F3) (F4) (F5) (F6) (hid (fun _ => ⟨rfl, K1.out, K2.out⟩)) (hid (fun _ => rfl)) (F9) (C0) H5)
      · obtain rfl := Option.some.inj ho
        have d8 : f 8 = true := hall { on := 8, ground := Ground.data } (by simp) (by rfl)
        obtain rfl := F8.out d8
        go_simp
        exact hK _ _ (apPhi2.mk y0 y1 y2 y3 y4 y5 y6 y7 _ _ (g6) (n) (D) (J) (hIJ) (F0) (F1) (F2) (F3) (F4) (F5) (F6) (F7) (F8) (hid (fun _ => rfl)) (C0) HS)
    case he =>
      clear H1
      rintro f a w ⟨y0, y1, y2, y3, y4, y5, y6, y7, y8, y9, g6, n, D, J, hIJ, F0, F1, F2, F3, F4, F5, F6, F7, F8, F9, C0, HS⟩ hall
      have h9 := hall 9 (by decide)
      have h7 := hall 7 (by decide)
      have hn : 0 < n := by
        have h1 := C0.out; rw [h7] at h1; exact of_decide_eq_true h1.symm
      obtain ⟨m, rfl⟩ : ∃ m, n = m + 1 := ⟨n - 1, by omega⟩
      obtain rfl := F9.out h9
      obtain ⟨rfl, k1, k2⟩ := F7.out h7
      have K1 := hid k1
      have K2 := hid k2
      have H2 := hid (show Sat w0 I (blk xb 73 [.int .i64 Y, .int .i64 (s.term : Int), .string cmd] :: blk r 129 (ncells p s (.slice al s.log.length cl) role leader commit applied timer vo (.slice (some ⟨gm, 0, none⟩) 1 cm) ne) :: row 73 3 (.slice al s.log.length cl) s.log.length (s.log.flatMap Ent.cells) :: row 3 1 (.slice (some ⟨gm, 0, none⟩) 1 cm) 1 [.int .i64 m0] :: dskp p D :: L) w from HS.out.thaw hIJ)
      clear HS hn h9 h7 hall k1 k2 F0 F1 F2 F3 F4 F5 F6 F7 F8 F9 C0
      go_upto_region 4 with fail
      refine wp_region_inv (by kernel_rfl) (by kernel_rfl) (fun f a w => apPhi4 w0 I L p r D s al cl gm cm xb N vo ne role leader commit applied timer m0 Y X cmd x0 x1 x2 x3 x4 x5 x6 x7 x8 x9 y0 y1 y2 y3 y4 y5 y6 (.int .i64 0) y8 (.bool false) f w a) ?h0 ?hs ?he
      case h0 => exact apPhi4.mk _ _ _ _ _ _ _ _ _ _ _ _ undef (0) (0) (none) (0) (I) (Part.le_refl _) (hid (fun h => by cases h)) (hid (fun h => by cases h)) (hid (fun h => by cases h)) (hid (fun h => by cases h)) (hid (fun h => by cases h)) (hid (fun h => by cases h)) (hid (fun h => by cases h)) (hid (fun h => by cases h)) (hid (fun h => by cases h)) (hid (fun h => by cases h)) (hid (fun h => by cases h)) (hid (fun h => by cases h)) (hid (fun h => by cases h)) (hid rfl) (hid rfl) (hid (by have h := H2.out; rw [HN.out] at h; exact ((((h.pick 4).pick 4).pick 4).pick 4).drew))
      case hs =>
        clear H2
        rintro f a w i o ⟨z0, z1, z2, z3, z4, z5, z6, z7, z8, z9, z10, z11, z12, g7, n, ad2, cp2, J, hIJ, F0, F1, F2, F3, F4, F5, F6, F7, F8, F9, F10, F11, F12, C0, C1, HS⟩ ho hf hall K' hK
        have hi : i < 13 := (Array.getElem?_eq_some_iff.1 ho).1
        have hi2 : i = 0 ∨ i = 1 ∨ i = 2 ∨ i = 3 ∨ i = 4 ∨ i = 5 ∨ i = 6 ∨ i = 7 ∨ i = 8 ∨ i = 9 ∨ i = 10 ∨ i = 11 ∨ i = 12 := by omega
        clear hi
        rcases hi2 with rfl | rfl | rfl | rfl | rfl | rfl | rfl | rfl | rfl | rfl | rfl | rfl | rfl
        · obtain rfl := Option.some.inj ho
          go_simp
          exact hK _ _ (apPhi4.mk _ z1 z2 z3 z4 z5 z6 z7 z8 z9 z10 z11 z12 (g7) (n) (ad2) (cp2) (J) (hIJ) (hid (fun _ => rfl)) (F1) (F2) (F3) (F4) (F5) (F6) (F7) (F8) (F9) (F10) (F11) (F12) (C0) (C1) HS)
        · obtain rfl := Option.some.inj ho
          go_simp
          exact hK _ _ (apPhi4.mk z0 _ z2 z3 z4 z5 z6 z7 z8 z9 z10 z11 z12 (g7) (n) (ad2) (cp2) (J) (hIJ) (F0) (hid (fun _ => rfl)) (F2) (F3) (F4) (F5) (F6) (F7) (F8) (F9) (F10) (F11) (F12) (C0) (C1) HS)
        · obtain rfl := Option.some.inj ho
          have d1 : f 1 = true := hall { on := 1, ground := Ground.data } (by simp) (by rfl)
          obtain rfl := F1.out d1
          go_simp
          exact hK _ _ (apPhi4.mk z0 _ _ z3 z4 z5 z6 z7 z8 z9 z10 z11 z12 (g7) (n) (ad2) (cp2) (J) (hIJ) (F0) (F1) (hid (fun _ => rfl)) (F3) (F4) (F5) (F6) (F7) (F8) (F9) (F10) (F11) (F12) (C0) (C1) HS)
        · obtain rfl := Option.some.inj ho
          have d2 : f 2 = true := hall { on := 2, ground := Ground.data } (by simp) (by rfl)
          obtain rfl := F2.out d2
          go_simp
          exact hK _ _ (apPhi4.mk z0 z1 _ _ z4 z5 z6 z7 z8 z9 z10 z11 z12 (g7) (n) (ad2) (cp2) (J) (hIJ) (F0) (F1) (F2) (hid (fun _ => rfl)) (F4) (F5) (F6) (F7) (F8) (F9) (F10) (F11) (F12) (C0) (C1) HS)
        · obtain rfl := Option.some.inj ho
          have d3 : f 3 = true := hall { on := 3, ground := Ground.data } (by simp) (by rfl)
          obtain rfl := F3.out d3
          go_simp
          exact hK _ _ (apPhi4.mk z0 z1 z2 _ _ z5 z6 z7 z8 z9 z10 z11 z12 (g7) (n) (ad2) (cp2) (J) (hIJ) (F0) (F1) (F2) (F3) (hid (fun _ => rfl)) (F5) (F6) (F7) (F8) (F9) (F10) (F11) (F12) (C0) (C1) HS)
        · obtain rfl := Option.some.inj ho
          have d4 : f 4 = true := hall { on := 4, ground := Ground.data } (by simp) (by rfl)
          obtain rfl := F4.out d4
          have hn : ¬ 1 < n := fun h => by have h2 := F12.out (C1.out.trans (decide_eq_true h)); rw [hf] at h2; cases h2
          have c0 : w.cell? ⟨r, 8, none⟩ = some (.slice al N cl) := by have h3 := HS.out.isBlk.cell 8 (v := svA (.slice al N cl) (.slice ad2 (N + 1) cp2) n) rfl; rwa [svA_le _ _ hn] at h3
          go_simp
          exact hK _ _ (apPhi4.mk z0 z1 z2 z3 _ _ z6 z7 z8 z9 z10 z11 z12 (g7) (n) (ad2) (cp2) (J) (hIJ) (F0) (F1) (F2) (F3) (F4) (hid (fun _ => rfl)) (F6) (F7) (hid (fun h => ⟨(F8.out h).1, rfl, (F8.out h).2.2⟩)) (F9) (F10) (F11) (hid (fun _ => rfl)) (C0) (C1) HS)
        · obtain rfl := Option.some.inj ho
          refine step_loadS whEnt rfl (.tmp 5) rfl rfl rfl (HS.out.pick 4) ?_
          exact hK _ _ (apPhi4.mk z0 z1 z2 z3 z4 z5 _ z7 z8 z9 z10 z11 z12 (g7) (n) (ad2) (cp2) (J) (hIJ) (F0) (F1) (F2) (F3) (F4) (F5) (hid (fun _ => rfl)) (F7) (F8) (F9) (F10) (F11) (F12) (C0) (C1) HS)
        · obtain rfl := Option.some.inj ho
          have d6 : f 6 = true := hall { on := 6, ground := Ground.data } (by simp) (by rfl)
          obtain rfl := F6.out d6
          obtain ⟨gn, hgn⟩ := HS.out.sizeQ
          obtain ⟨J2, hJ2, S1, hrd⟩ := (HS.out.alloc (b := gn) (T := 73) (cs := [.int .i64 Y, .int .i64 (s.term : Int), .string cmd]) rfl hgn.symm).freezeBlk
          have H2 := hid S1
          have HRD := hid hrd
          clear S1 hrd HS
          go_simp
          try rw [hgn]
          exact hK _ _ (apPhi4.mk z0 z1 z2 z3 z4 z5 _ _ z8 z9 z10 z11 z12 (gn) (n) (ad2) (cp2) (J2) (Part.le_trans hIJ hJ2) (F0) (F1) (F2) (F3) (F4) (F5) (F6) (hid (fun _ => ⟨rfl, HRD.out⟩)) (F8) (F9) (F10) (F11) (F12) (C0) (C1) H2)
        · obtain rfl := Option.some.inj ho
          have d5 : f 5 = true := hall { on := 5, ground := Ground.data } (by simp) (by rfl)
          have d7 : f 7 = true := hall { on := 7, ground := Ground.data } (by simp) (by rfl)
          obtain rfl := F5.out d5
          obtain ⟨rfl, hrd⟩ := F7.out d7
          have HRD := hid hrd
          clear hrd
          have hn : n = 0 := by
            have h2 := C0.out; rw [hf] at h2; have h4 := of_decide_eq_false h2.symm; omega
          subst hn
          refine step_appRd slEnt (by decide) rfl (.tmp 31) (.tmp 33) rfl (N := N + 1) HS.out.swap rfl rfl HRD.out rfl HXC.out rfl rfl (by have := HNB.out; omega) (by have := HNB.out; omega) ?_
          intro ad3 cp3 w5 hc1 hc2 S5
          have H5 := hid S5.swap
          clear S5 HS
          exact hK _ _ (apPhi4.mk z0 z1 z2 z3 z4 _ z6 _ _ z9 z10 z11 z12 (g7) (1) (ad3) (cp3) (J) (hIJ) (F0) (F1) (F2) (F3) (F4) (F5) (F6) (F7) (hid (fun _ => ⟨rfl, d5, hc1⟩)) (F9) (F10) (F11) (F12) (hid rfl) (hid (C1.out.trans (by decide))) H5)
        · obtain rfl := Option.some.inj ho
          have d0 : f 0 = true := hall { on := 0, ground := Ground.data } (by simp) (by rfl)
          obtain rfl := F0.out d0
          go_simp
          exact hK _ _ (apPhi4.mk _ z1 z2 z3 z4 z5 z6 z7 z8 _ z10 z11 z12 (g7) (n) (ad2) (cp2) (J) (hIJ) (F0) (F1) (F2) (F3) (F4) (F5) (F6) (F7) (F8) (hid (fun _ => rfl)) (F10) (F11) (F12) (C0) (C1) HS)
        · obtain rfl := Option.some.inj ho
          have d9 : f 9 = true := hall { on := 9, ground := Ground.data } (by simp) (by rfl)
          obtain rfl := F9.out d9
          go_simp
          exact hK _ _ (apPhi4.mk z0 z1 z2 z3 z4 z5 z6 z7 z8 _ _ z11 z12 (g7) (n) (ad2) (cp2) (J) (hIJ) (F0) (F1) (F2) (F3) (F4) (F5) (F6) (F7) (F8) (F9) (hid (fun _ => rfl)) (F11) (F12) (C0) (C1) HS)
        · obtain rfl := Option.some.inj ho
          have d10 : f 10 = true := hall { on := 10, ground := Ground.data } (by simp) (by rfl)
          obtain rfl := F10.out d10
          go_simp
          exact hK _ _ (apPhi4.mk z0 z1 z2 z3 z4 z5 z6 z7 z8 z9 _ _ z12 (g7) (n) (ad2) (cp2) (J) (hIJ) (F0) (F1) (F2) (F3) (F4) (F5) (F6) (F7) (F8) (F9) (F10) (hid (fun _ => rfl)) (F12) (C0) (C1) HS)
        · obtain rfl := Option.some.inj ho
          have d8 : f 8 = true := hall { on := 8, ground := Ground.data } (by simp) (by rfl)
          have d11 : f 11 = true := hall { on := 11, ground := Ground.data } (by simp) (by rfl)
          obtain ⟨rfl, k5, k6⟩ := F8.out d8
          obtain rfl := F11.out d11
          have hn : n = 1 := by
            have h1 := C0.out; rw [d8] at h1; have h3 := of_decide_eq_true h1.symm
            have h2 := C1.out; rw [hf] at h2; have h4 := of_decide_eq_false h2.symm
            omega
          subst hn
          have c0 : w.cell? ⟨r, 8, none⟩ = some (.slice al N cl) := HS.out.isBlk.cell 8 rfl
          have f0 := HS.out.isBlk.frozen 8
          have H5 := hid (HS.out.set 8 (.slice ad2 (N + 1) cp2) (cs' := ncells p s (.slice ad2 (N + 1) cp2) role leader commit applied timer vo (.slice (some ⟨gm, 0, none⟩) 1 cm) ne) rfl)
          clear HS
          go_simp
          exact hK _ _ (apPhi4.mk z0 z1 z2 z3 z4 z5 z6 z7 _ z9 z10 _ undef (g7) (2) (ad2) (cp2) (J) (hIJ) (F0) (F1) (F2) (F3) (F4) (F5) (F6) (F7) (hid (fun _ => ⟨rfl, k5, k6⟩)) (F9) (F10) (F11) (hid (fun _ => k5)) (hid (C0.out.trans (by decide))) (hid rfl) H5)
      case he =>
        clear H2
        rintro f a w ⟨z0, z1, z2, z3, z4, z5, z6, z7, z8, z9, z10, z11, z12, g7, n, ad2, cp2, J, hIJ, F0, F1, F2, F3, F4, F5, F6, F7, F8, F9, F10, F11, F12, C0, C1, HS⟩ hall
        have h12 := hall 12 (by decide)
        have h8 := hall 8 (by decide)
        have hn : 1 < n := by
          have h1 := C1.out; rw [h12] at h1; exact of_decide_eq_true h1.symm
        obtain ⟨m, rfl⟩ : ∃ m, n = m + 2 := ⟨n - 2, by omega⟩
        have k6 := (F8.out h8).2.2
        have H4 := hid (show Sat w0 I (blk r 129 (ncells p s (.slice ad2 (N + 1) cp2) role leader commit applied timer vo (.slice (some ⟨gm, 0, none⟩) 1 cm) ne) :: row 73 3 (.slice ad2 (N + 1) cp2) (N + 1) (s.log.flatMap Ent.cells ++ [.int .i64 Y, .int .i64 (s.term : Int), .string cmd]) :: row 3 1 (.slice (some ⟨gm, 0, none⟩) 1 cm) 1 [.int .i64 m0] :: dskp p D :: blk xb 73 [.int .i64 Y, .int .i64 (s.term : Int), .string cmd] :: L) w from HS.out.thaw hIJ)
        clear HS hn h12 h8 hall F0 F1 F2 F3 F4 F5 F6 F7 F8 F9 F10 F11 F12 C0 C1
        go_upto_region 5 with fail
        have S1 := H4.out
        have c15 : w.cell? ⟨r, 15, none⟩ = some (.slice (some ⟨gm, 0, none⟩) 1 cm) := S1.isBlk.cell 15 rfl
        have c1 : w.cell? ⟨r, 1, none⟩ = some (.int .i64 0) := S1.isBlk.cell 1 rfl
        have e0 : w.cell? ⟨xb, 0, none⟩ = some (.int .i64 Y) := (S1.pick 4).isBlk.cell 0 rfl
        have m1 := own_cell (S1.pick 2).isRow 0 (u := .int .i64 m0) rfl
        have m2 := own_frozen (S1.pick 2).isRow 0
        have HA := hid ((S1.pick 2).rowSet 0 (.int .i64 Y)).drew
        clear S1
        go_region
        go_upto_region 6 with fail
        refine wp_gen (fun w1 => Sat w0 I (row 3 1 (.slice (some ⟨gm, 0, none⟩) 1 cm) 1 [.int .i64 Y] :: blk r 129 (ncells p s (.slice ad2 (N + 1) cp2) role leader commit applied timer vo (.slice (some ⟨gm, 0, none⟩) 1 cm) ne) :: row 73 3 (.slice ad2 (N + 1) cp2) (N + 1) (s.log.flatMap Ent.cells ++ ([.int .i64 Y, .int .i64 (s.term : Int), .string cmd] : List Value)) :: dskp p D :: blk xb 73 [.int .i64 Y, .int .i64 (s.term : Int), .string cmd] :: L) w1) HA.out ?_
        clear HA c15 c1 e0 m1 m2 H4
        intro w5 S5
        have H5 := hid (S5.pick 1)
        clear S5
        go_wp2_with fail
        refine (sendAll_sat H5.out).mono ?_; rintro e w6 ⟨rfl, S6⟩
        have hlen2 : (s.add cmd).log.length = N + 1 := by rw [HLOG.out, List.length_append, HN.out]; rfl
        have hfm2 : (s.add cmd).log.flatMap Ent.cells = s.log.flatMap Ent.cells ++ ([.int .i64 Y, .int .i64 (s.term : Int), .string cmd] : List Value) := by rw [HLOG.out, List.flatMap_append, List.flatMap_cons, List.flatMap_nil, List.append_nil, HXE.out]
        have hx2 : (s.add cmd).log[(s.add cmd).log.length - 1]? = some ⟨X + 1, s.term, cmd⟩ := by rw [HLOG.out]; simp
        have H6 := hid (show Sat w0 I (blk r 129 (ncells p (s.add cmd) (.slice ad2 (N + 1) cp2) role leader commit applied timer vo (.slice (some ⟨gm, 0, none⟩) 1 cm) ne) :: row 73 3 (.slice ad2 (N + 1) cp2) (s.add cmd).log.length ((s.add cmd).log.flatMap Ent.cells) :: row 3 1 (.slice (some ⟨gm, 0, none⟩) 1 cm) 1 [.int .i64 ((X + 1 : Nat) : Int)] :: dskp p D :: blk xb 73 [.int .i64 Y, .int .i64 (s.term : Int), .string cmd] :: L) w6 from by
          rw [hlen2, hfm2, HY.out]; exact (S6.pick 2).swap)
        have HX2 := hid hx2
        clear S6 H5 hlen2 hfm2 hx2
        go_wp2_with fail
        refine (advance_sat HOK2.out ⟨X + 1, s.term, cmd⟩ HX2.out rfl (by rw [HY.out]; exact hcm) H6.out).mono ?_; rintro e w7 ⟨rfl, S7⟩
        have e0 : w7.cell? ⟨xb, 0, none⟩ = some (.int .i64 Y) := (S7.pick 4).isBlk.cell 0 rfl
        have S8 := ((((S7.pick 4).drop)))
        rw [show (((⟨X + 1, s.term, cmd⟩ : Ent).idx : Nat) : Int) = Y from HY.out] at S8
        have H7 := hid S8
        clear S7 S8 H6
        have hkd : Kd D (s.add cmd) := by
          refine ⟨?_, ?_, ?_⟩
          · rw [K2.out.ne kT kTL]; exact HK.out.t
          · rw [K2.out.ne kSn kSL]; exact HK.out.sn
          · rw [HLOG.out]; exact K2.out.at_
        have HKD := hid hkd
        clear hkd
        go_wp2_with fail
        go_ret
        exact ⟨D, _, rfl, K1.out, HKD.out, H7.out⟩
end
end Go.Proofs.YtekioplbfoonkaaGreatDoor
