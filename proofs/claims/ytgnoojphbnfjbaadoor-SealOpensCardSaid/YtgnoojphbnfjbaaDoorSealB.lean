/- Frames with up to four bytes in a row that are others: plain laws. -/
import Derived.Test.YtgnoojphbnfjbaaDoorSealP
import Derived.Test.YtgnoojphbnfjbaaDoorCrcL
namespace Go.Proofs.YtgnoojphbnfjbaaDoor
set_option linter.unusedVariables false
theorem list4 (q : List UInt8) (h : q.length = 4) : ∃ a b c d, q = [a, b, c, d] := by
  match q, h with
  | [a, b, c, d], _ => exact ⟨a, b, c, d, rfl⟩
theorem valS_inj (p q : List UInt8) (hp : p.length = 4) (hq : q.length = 4) (h : valS p = valS q) : p = q := by
  obtain ⟨a, b, c, d, rfl⟩ := list4 p hp
  obtain ⟨a', b', c', d', rfl⟩ := list4 q hq
  have h1 : val4 a b c d = val4 a' b' c' d' := h
  unfold val4 at h1
  have := u8_lt a; have := u8_lt b; have := u8_lt c; have := u8_lt d
  have := u8_lt a'; have := u8_lt b'; have := u8_lt c'; have := u8_lt d'
  rw [UInt8.toNat.inj (show a.toNat = a'.toNat by omega), UInt8.toNat.inj (show b.toNat = b'.toNat by omega), UInt8.toNat.inj (show c.toNat = c'.toNat by omega), UInt8.toNat.inj (show d.toNat = d'.toNat by omega)]
theorem openR_raw (q d X : List UInt8) (hq : q.length = 4) (hd : d.length ≤ 1048576) (hne : crc (be4 d.length ++ d) ≠ valS q) : openR (be4 d.length ++ (q ++ (d ++ X))) = ([], 0, 4) := by
  have h4 : (be4 d.length ++ (q ++ (d ++ X))).take 4 = be4 d.length := by rw [List.take_append_of_le_length (by rw [be4_len]; omega)]; rfl
  have hd4 : (be4 d.length ++ (q ++ (d ++ X))).drop 4 = q ++ (d ++ X) := by rw [List.drop_append_of_le_length (by rw [be4_len]; omega)]; rfl
  have hd8 : (be4 d.length ++ (q ++ (d ++ X))).drop 8 = d ++ X := by
    have : (be4 d.length ++ (q ++ (d ++ X))).drop 8 = ((be4 d.length ++ (q ++ (d ++ X))).drop 4).drop 4 := by rw [List.drop_drop]
    rw [this, hd4, List.drop_append_of_le_length (by omega), ← hq, List.drop_length, List.nil_append]
  have hl : (be4 d.length ++ (q ++ (d ++ X))).length = d.length + 8 + X.length := by simp only [List.length_append, be4_len, hq]; omega
  have hv : valS (be4 d.length) = d.length := valS_be4 _ (by omega)
  unfold openR
  rw [h4, hv, hd8, hd4, hl, if_neg (by omega), if_neg (by omega), if_neg (by omega)]
  have h5 : (q ++ (d ++ X)).take 4 = q := by rw [List.take_append_of_le_length (by omega), ← hq, List.take_length]
  have h6 : (d ++ X).take d.length = d := by rw [List.take_append_of_le_length (Nat.le_refl _), List.take_length]
  rw [h5, h6, if_neg hne]
theorem scanR_ahead : ∀ (A : List (List UInt8)) (Y : List UInt8), (∀ c ∈ A, c.length ≤ 50) → scanR (laidL A ++ Y) = (A ++ (scanR Y).1, (laidL A).length + (scanR Y).2)
  | [], Y, _ => by
    have e : laidL [] ++ Y = Y := rfl
    rw [e]; simp [laidL]
  | c :: r, Y, h => by
    have ih := scanR_ahead r Y (fun x hx => h x (by simp [hx]))
    have hc := h c (by simp)
    have e : laidL (c :: r) ++ Y = frameL c ++ (laidL r ++ Y) := by show (frameL c ++ laidL r) ++ Y = _; rw [List.append_assoc]
    rw [e, scanR_frame c _ (by omega), ih]
    refine Prod.ext rfl ?_
    show c.length + 8 + ((laidL r).length + (scanR Y).2) = (frameL c ++ laidL r).length + (scanR Y).2
    rw [List.length_append, frameL_len]; omega
theorem cs_split (cs : List (List UInt8)) (k : Nat) (h : k < cs.length) : laidL cs = laidL (cs.take k) ++ (frameL cs[k] ++ laidL (cs.drop (k + 1))) := by
  have e : cs = cs.take k ++ (cs[k] :: cs.drop (k + 1)) := by rw [← List.drop_eq_getElem_cons h, List.take_append_drop]
  have h2 := congrArg laidL e
  rw [laidL_app] at h2
  exact h2
theorem mid_split (l : List UInt8) (a m : Nat) : l = l.take a ++ ((l.drop a).take m ++ l.drop (a + m)) := by
  have h1 : (l.drop a).take m ++ (l.drop a).drop m = l.drop a := List.take_append_drop _ _
  rw [List.drop_drop] at h1
  rw [h1, List.take_append_drop]
/-- where a frame begins. -/
def begL (cs : List (List UInt8)) (k : Nat) : Nat := (laidL (cs.take k)).length
/-- the bytes that may be others: P ahead, M, T behind. -/
theorem bent_law (cs : List (List UInt8)) (h50 : ∀ c ∈ cs, c.length ≤ 50) (k : Nat) (hk : k < cs.length) (sum : Bool) (o m : Nat)
    (hb : begL cs k + (if sum then 4 else 8) ≤ o) (he : o + m ≤ (if sum then begL cs k + 8 else endL cs k)) (hm : m ≤ 4) :
    ∃ P M T, laidL cs = P ++ (M ++ T) ∧ P.length = o ∧ M.length = m ∧ ∀ M', M'.length = m → M' ≠ M → scanR (P ++ (M' ++ T)) = (cs.take k, begL cs k) := by
  have hend : endL cs k = begL cs k + (cs[k].length + 8) := by
    unfold endL begL
    rw [List.take_succ_eq_append_getElem hk, laidL_app, List.length_append]
    congr 1
    show (frameL cs[k] ++ []).length = _
    rw [List.append_nil, frameL_len]
  have hsp := cs_split cs k hk
  have hA : ∀ c ∈ cs.take k, c.length ≤ 50 := fun c hc => h50 c (List.mem_of_mem_take hc)
  have hc50 := h50 cs[k] (List.getElem_mem hk)
  have hbl : begL cs k = (laidL (cs.take k)).length := rfl
  generalize cs[k] = c at *
  generalize laidL (cs.drop (k + 1)) = R at *
  have key : ∀ Y, openR Y = ([], 0, 4) → scanR (laidL (cs.take k) ++ Y) = (cs.take k, begL cs k) := fun Y hY => by
    rw [scanR_ahead _ _ hA, scanR_no hY (by decide)]; simp [begL]
  cases sum
  · simp only [Bool.false_eq_true, if_false] at hb he
    obtain ⟨a, ha⟩ : ∃ a, o = begL cs k + 8 + a := ⟨o - (begL cs k + 8), by omega⟩
    have ham : a + m ≤ c.length := by omega
    have hcs := mid_split c a m
    have hMl : ((c.drop a).take m).length = m := by rw [List.length_take, List.length_drop]; omega
    refine ⟨laidL (cs.take k) ++ (be4 c.length ++ (be4 (crc (be4 c.length ++ c)) ++ c.take a)), (c.drop a).take m, c.drop (a + m) ++ R, ?_, ?_, hMl, fun M' hM' hne => ?_⟩
    · rw [hsp]
      have : frameL c = be4 c.length ++ (be4 (crc (be4 c.length ++ c)) ++ (c.take a ++ ((c.drop a).take m ++ c.drop (a + m)))) := by
        rw [← hcs]; simp [frameL]
      rw [this]; simp only [List.append_assoc]
    · simp only [List.length_append, be4_len, List.length_take]; omega
    · obtain ⟨d, hd⟩ : ∃ d, c.take a ++ (M' ++ c.drop (a + m)) = d := ⟨_, rfl⟩
      have hdl : d.length = c.length := by
        rw [← hd]; simp only [List.length_append, List.length_take, List.length_drop, hM']; omega
      have e : laidL (cs.take k) ++ (be4 c.length ++ (be4 (crc (be4 c.length ++ c)) ++ c.take a)) ++ (M' ++ (c.drop (a + m) ++ R)) = laidL (cs.take k) ++ (be4 d.length ++ (be4 (crc (be4 c.length ++ c)) ++ (d ++ R))) := by
        rw [hdl, ← hd]; simp only [List.append_assoc]
      rw [e]
      refine key _ (openR_raw _ d R (be4_len _) (by omega) ?_)
      rw [valS_be4 _ (crc_lt _), hdl]
      intro h
      have h2 : crc ((be4 c.length ++ c.take a) ++ (M' ++ c.drop (a + m))) = crc ((be4 c.length ++ c.take a) ++ ((c.drop a).take m ++ c.drop (a + m))) := by
        rw [List.append_assoc, List.append_assoc, ← hcs, hd]; exact h
      exact hne (crc_bent _ M' _ _ (by rw [hM', hMl]) (by omega) h2)
  · simp only [if_true] at hb he
    obtain ⟨a, ha⟩ : ∃ a, o = begL cs k + 4 + a := ⟨o - (begL cs k + 4), by omega⟩
    have ham : a + m ≤ 4 := by omega
    obtain ⟨S, hS⟩ : ∃ S, be4 (crc (be4 c.length ++ c)) = S := ⟨_, rfl⟩
    have hS4 : S.length = 4 := by rw [← hS]; rfl
    have hcs := mid_split S a m
    have hMl : ((S.drop a).take m).length = m := by rw [List.length_take, List.length_drop]; omega
    refine ⟨laidL (cs.take k) ++ (be4 c.length ++ S.take a), (S.drop a).take m, S.drop (a + m) ++ (c ++ R), ?_, ?_, hMl, fun M' hM' hne => ?_⟩
    · rw [hsp]
      have : frameL c = be4 c.length ++ ((S.take a ++ ((S.drop a).take m ++ S.drop (a + m))) ++ c) := by
        rw [← hcs, ← hS]; simp [frameL]
      rw [this]; simp only [List.append_assoc]
    · simp only [List.length_append, be4_len, List.length_take]; omega
    · obtain ⟨q, hq⟩ : ∃ q, S.take a ++ (M' ++ S.drop (a + m)) = q := ⟨_, rfl⟩
      have hql : q.length = 4 := by
        rw [← hq]; simp only [List.length_append, List.length_take, List.length_drop, hM']; omega
      have e : laidL (cs.take k) ++ (be4 c.length ++ S.take a) ++ (M' ++ (S.drop (a + m) ++ (c ++ R))) = laidL (cs.take k) ++ (be4 c.length ++ (q ++ (c ++ R))) := by
        rw [← hq]; simp only [List.append_assoc]
      rw [e]
      refine key _ (openR_raw q c R hql (by omega) ?_)
      intro h
      have h1 : valS q = valS S := by rw [← h, ← hS, valS_be4 _ (crc_lt _)]
      have h2 := valS_inj q S hql hS4 h1
      rw [← hq] at h2
      have h3 : S.take a ++ (M' ++ S.drop (a + m)) = S.take a ++ ((S.drop a).take m ++ S.drop (a + m)) := by rw [h2, ← hcs]
      have h4 := List.append_cancel_left h3
      exact hne (List.append_cancel_right h4)
/-! ### The bytes that are written -/
def xorB (v k : Nat) : UInt8 := UInt8.ofNat (v / 2 ^ (8 * k) % 256)
def xM (v : Nat) : List UInt8 → Nat → List UInt8
  | [], _ => []
  | c :: r, j => (c ^^^ xorB v j) :: xM v r (j + 1)
theorem xM_len (v : Nat) : ∀ (l : List UInt8) (j : Nat), (xM v l j).length = l.length
  | [], _ => rfl
  | c :: r, j => by simp [xM, xM_len v r (j + 1)]
theorem xM_snoc (v : Nat) (c : UInt8) : ∀ (l : List UInt8) (j : Nat), xM v (l ++ [c]) j = xM v l j ++ [c ^^^ xorB v (j + l.length)]
  | [], j => by simp [xM]
  | d :: r, j => by
    simp only [List.cons_append, xM, xM_snoc v c r (j + 1), List.length_cons]
    rw [show j + 1 + r.length = j + (r.length + 1) by omega]
def chB (v k : Nat) : Bool := (List.range k).any fun i => xorB v i != 0
theorem chB_succ (v k : Nat) : chB v (k + 1) = (chB v k || (xorB v k != 0)) := by
  simp [chB, List.range_succ]
theorem xM_same (v : Nat) : ∀ (l : List UInt8) (j : Nat), (∀ i, i < l.length → xorB v (j + i) = 0) → xM v l j = l
  | [], _, _ => rfl
  | c :: r, j, h => by
    have h0 := h 0 (by simp)
    rw [Nat.add_zero] at h0
    have ih := xM_same v r (j + 1) (fun i hi => by have := h (i + 1) (by simpa using hi); rw [show j + 1 + i = j + (i + 1) by omega]; exact this)
    simp only [xM, h0, ih]; simp
theorem xM_diff (v : Nat) : ∀ (l : List UInt8) (j i : Nat), i < l.length → xorB v (j + i) ≠ 0 → xM v l j ≠ l
  | [], _, _, h, _ => by simp at h
  | c :: r, j, 0, _, hne => fun h => by
    simp only [xM, List.cons.injEq] at h
    apply hne
    rw [Nat.add_zero]
    have := congrArg (c ^^^ ·) h.1
    simpa [← UInt8.xor_assoc] using this
  | c :: r, j, i + 1, hl, hne => fun h => by
    simp only [xM, List.cons.injEq] at h
    exact xM_diff v r (j + 1) i (by simpa using hl) (by rw [show j + 1 + i = j + (i + 1) by omega]; exact hne) h.2
theorem chB_no {v k : Nat} (h : chB v k = false) : ∀ i, i < k → xorB v i = 0 := fun i hi => by
  unfold chB at h
  have := List.any_eq_false.1 h i (List.mem_range.2 hi)
  simpa using this
theorem chB_yes {v k : Nat} (h : chB v k = true) : ∃ i, i < k ∧ xorB v i ≠ 0 := by
  unfold chB at h
  obtain ⟨i, hi, hx⟩ := List.any_eq_true.1 h
  exact ⟨i, List.mem_range.1 hi, by simpa using hx⟩
theorem set_mid (P A R : List UInt8) (c d : UInt8) (n : Nat) (h : n = P.length + A.length) : (P ++ (A ++ (c :: R))).set n d = P ++ (A ++ (d :: R)) := by
  subst h
  rw [← List.append_assoc, List.set_append_right _ _ (by simp), List.length_append, Nat.sub_self, List.set_cons_zero, List.append_assoc]
theorem get_mid (P A R : List UInt8) (c : UInt8) (n : Nat) (h : n = P.length + A.length) (hn : n < (P ++ (A ++ (c :: R))).length) : (P ++ (A ++ (c :: R)))[n] = c := by
  subst h
  rw [List.getElem_append_right (by omega), List.getElem_append_right (by omega)]
  simp
end Go.Proofs.YtgnoojphbnfjbaaDoor
