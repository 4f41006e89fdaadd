/- Layer 7, plain: a Write that fails, a crash, Mend: what is left, and what Scan finds there. TapefmtTorn, walked. -/
import Derived.Test.YtcogjlfdhiomnaaDoorTpC
import Derived.Deep.CutBlock
import Derived.Deep.DeepCutAuto
namespace Go.Proofs.YtcogjlfdhiomnaaDoor
open Go.RowKit
set_option linter.unusedVariables false
set_option maxRecDepth 100000
/-- the volume V is v, but for blocks that came behind, and what counts the calls. -/
structure Grew (v V : Vst) (bs : List Bk) : Prop where
  bl : V.bl = v.bl ++ bs
  room : V.room = v.room
  lost : V.lost = v.lost
  label : V.label = v.label
  erased : V.erased = v.erased
  prot : V.prot = v.prot
theorem Grew.refl (v : Vst) : Grew v v [] := ⟨by simp, rfl, rfl, rfl, rfl, rfl⟩
theorem Grew.trans {u v w : Vst} {a b : List Bk} (h : Grew u v a) (k : Grew v w b) : Grew u w (a ++ b) :=
  ⟨by rw [k.bl, h.bl, List.append_assoc], k.room.trans h.room, k.lost.trans h.lost, k.label.trans h.label, k.erased.trans h.erased, k.prot.trans h.prot⟩
theorem Grew.try_ (v : Vst) : Grew v (tryV v) [] := ⟨by simp [tryV], rfl, rfl, rfl, rfl, rfl⟩
theorem addS_grew (v : Vst) (b : Bk) : (addS v b).2.sure = v.sure ∧ (((addS v b).1 = 0 ∧ Grew v (addS v b).2 [b]) ∨ ((addS v b).1 ≠ 0 ∧ Grew v (addS v b).2 [])) := by
  unfold addS
  split
  · split
    · exact ⟨rfl, Or.inr ⟨by simp, Grew.try_ v⟩⟩
    · split
      · split
        · exact ⟨rfl, Or.inr ⟨by simp, Grew.try_ v⟩⟩
        · split
          · exact ⟨rfl, Or.inl ⟨rfl, ⟨rfl, rfl, rfl, rfl, rfl, rfl⟩⟩⟩
          · exact ⟨rfl, Or.inr ⟨by simp, Grew.try_ v⟩⟩
      · exact ⟨rfl, Or.inr ⟨by simp, Grew.try_ v⟩⟩
  · rename_i h
    exact ⟨rfl, Or.inr ⟨h, Grew.try_ v⟩⟩
theorem seekS_grew (v : Vst) (n : Int) : (seekS v n).2.sure = v.sure ∧ Grew v (seekS v n).2 [] := by
  unfold seekS
  split
  · split
    · exact ⟨rfl, Grew.try_ v⟩
    · split
      · exact ⟨rfl, Grew.try_ v⟩
      · exact ⟨rfl, ⟨by simp [tryV], rfl, rfl, rfl, rfl, rfl⟩⟩
  · exact ⟨rfl, Grew.try_ v⟩
theorem wFin_grew (v : Vst) : ∃ bs, (bs = [] ∨ bs = [markB]) ∧ Grew v (wFin v).2 bs ∧ ((wFin v).2.sure = v.sure ∨ (wFin v).2.sure = (wFin v).2.bl.length) ∧ ((wFin v).1 = 0 → bs = [markB] ∧ (wFin v).2.sure = (wFin v).2.bl.length) := by
  obtain ⟨h1, h2⟩ := addS_grew v markB
  unfold wFin
  rcases h2 with ⟨h3, h4⟩ | ⟨h3, h4⟩
  · rw [if_pos h3]
    unfold flushE flushV
    by_cases h5 : tryE (addS v markB).2.lost (addS v markB).2.armed = 0
    · rw [if_pos h5]
      exact ⟨[markB], Or.inr rfl, ⟨h4.bl, h4.room, h4.lost, h4.label, h4.erased, h4.prot⟩, Or.inr rfl, fun _ => ⟨rfl, rfl⟩⟩
    · rw [if_neg h5]
      refine ⟨[markB], Or.inr rfl, ⟨h4.bl, h4.room, h4.lost, h4.label, h4.erased, h4.prot⟩, Or.inl h1, fun h => absurd h h5⟩
  · rw [if_neg h3]
    exact ⟨[], Or.inl rfl, h4, Or.inl h1, fun h => absurd h h3⟩
theorem wGo_grew (lab : ByteArray) (frm blob : Nat) (data : ByteArray) : ∀ r k v, ∃ m, Grew v (wGo lab frm blob data r k v).2 ((tpBks lab frm blob data r k ++ [markB]).take m) ∧ m ≤ r + 1 ∧ ((wGo lab frm blob data r k v).2.sure = v.sure ∨ (wGo lab frm blob data r k v).2.sure = (wGo lab frm blob data r k v).2.bl.length) ∧
    ((wGo lab frm blob data r k v).1 = 0 → m = r + 1 ∧ (wGo lab frm blob data r k v).2.sure = (wGo lab frm blob data r k v).2.bl.length)
  | 0, k, v => by
    obtain ⟨bs, h1, h2, h3, h4⟩ := wFin_grew v
    unfold wGo
    rcases h1 with rfl | rfl
    · exact ⟨0, by simpa using h2, by omega, h3, fun h => by have := (h4 h).1; cases this⟩
    · exact ⟨1, by simpa [tpBks] using h2, by omega, h3, fun h => ⟨rfl, (h4 h).2⟩⟩
  | r + 1, k, v => by
    obtain ⟨h1, h2⟩ := addS_grew v (tpBlock lab frm blob data k)
    unfold wGo
    rcases h2 with ⟨h3, h4⟩ | ⟨h3, h4⟩
    · rw [if_pos h3]
      obtain ⟨m, k1, k2, k3, k4⟩ := wGo_grew lab frm blob data r (k + 1) (addS v (tpBlock lab frm blob data k)).2
      rw [h1] at k3
      refine ⟨m + 1, ?_, by omega, k3, fun h => ⟨by have := (k4 h).1; omega, (k4 h).2⟩⟩
      have := h4.trans k1
      simpa [tpBks] using this
    · rw [if_neg h3]
      exact ⟨0, by simpa using h4, by omega, Or.inl h1, fun h => absurd h h3⟩
/-- Write, whatever fails. -/
theorem writeS_grew (v : Vst) (blob : Nat) (data : ByteArray) : ∃ m, Grew v (writeS v blob data).2.2 ((tpAll v.label v.bl.length blob data).take m) ∧ m ≤ nparts data.size + 1 ∧ ((writeS v blob data).2.2.sure = v.sure ∨ (writeS v blob data).2.2.sure = (writeS v blob data).2.2.bl.length) ∧
    ((writeS v blob data).2.1 = 0 → m = nparts data.size + 1 ∧ (writeS v blob data).2.2.sure = (writeS v blob data).2.2.bl.length) := by
  unfold writeS
  by_cases h1 : 4000 < data.size
  · rw [if_pos h1]
    exact ⟨0, by simpa using Grew.refl v, by omega, Or.inl rfl, fun h => absurd h (show ¬ (11 : Int) = 0 by decide)⟩
  rw [if_neg h1]
  obtain ⟨s1, s2⟩ := seekS_grew v v.bl.length
  by_cases h2 : (seekS v v.bl.length).1 = 0
  · rw [if_pos h2]
    by_cases h3 : (weightN data.size : Int) ≤ (seekS v v.bl.length).2.room - wsum (seekS v v.bl.length).2.bl
    · rw [if_pos h3]
      obtain ⟨m, k1, k2, k3, k4⟩ := wGo_grew v.label v.bl.length blob data (nparts data.size) 0 (seekS v v.bl.length).2
      have k5 := s2.trans k1
      rw [s1] at k3
      rw [List.nil_append] at k5
      by_cases h4 : (wGo v.label v.bl.length blob data (nparts data.size) 0 (seekS v v.bl.length).2).1 = 0
      · rw [if_pos h4]
        exact ⟨m, k5, k2, k3, fun _ => k4 h4⟩
      · rw [if_neg h4]
        exact ⟨m, k5, k2, k3, fun h => absurd h h4⟩
    · rw [if_neg h3]
      exact ⟨0, by simpa using s2, by omega, Or.inl s1, fun h => absurd h (show ¬ (7 : Int) = 0 by decide)⟩
  · rw [if_neg h2]
    exact ⟨0, by simpa using s2, by omega, Or.inl s1, fun h => absurd h h2⟩
/-- behind a crash and Mend a beginning of the blocks is left, and all that was sure. -/
theorem mend_crash {lab : ByteArray} {er room : Int} {bl : List Bk} {sure at_ : Nat} (zs : List Int) (ht : ∀ b ∈ bl, b.torn = false) (hs : sure ≤ bl.length) :
    ∃ c, sure ≤ c ∧ c ≤ bl.length ∧ mendS (crashV (lv lab er room bl sure at_) zs) = (0, lv lab er room (bl.take c) c c) := by
  obtain ⟨c, hc⟩ : ∃ c, crashN (lv lab er room bl sure at_) zs = c := ⟨_, rfl⟩
  have hb : sure ≤ c ∧ c ≤ bl.length := by
    have h1 := pickM_bd zs 0 (((lv lab er room bl sure at_).bl.length : Int) - (lv lab er room bl sure at_).sure + 1)
    rw [← hc]
    unfold crashN
    have e1 : (lv lab er room bl sure at_).bl.length = bl.length := rfl
    have e2 : (lv lab er room bl sure at_).sure = sure := rfl
    rw [e1, e2] at h1 ⊢
    omega
  have htl : (bl.take c).length = c := by rw [List.length_take]; omega
  have htt : tornL (bl.take c) = false := tornL_all (fun b hb => ht b (List.mem_of_mem_take hb))
  refine ⟨c, hb.1, hb.2, ?_⟩
  obtain ⟨T, hT⟩ : ∃ T, crashB (lv lab er room bl sure at_) zs = T := ⟨_, rfl⟩
  have hTT : T = [] ∨ ∃ t, T = [⟨t, false, true⟩] := by
    rw [← hT]
    unfold crashB
    split
    · split
      · exact Or.inl rfl
      · exact Or.inr ⟨_, rfl⟩
    · exact Or.inl rfl
  have e : crashV (lv lab er room bl sure at_) zs = lv lab er room (bl.take c ++ T) (c + T.length) 0 := by
    unfold crashV
    rw [hc, hT]
    rfl
  rw [e]
  rcases hTT with rfl | ⟨t, rfl⟩
  · have h1 : trimS (lv lab er room (bl.take c ++ []) (c + ([] : List Bk).length) 0) = (5, lv lab er room (bl.take c) c 0) := by
      unfold trimS
      rw [if_pos (show tryE _ _ = 0 from rfl)]
      have : tornL (lv lab er room (bl.take c ++ []) (c + ([] : List Bk).length) 0).bl = false := by show tornL (bl.take c ++ []) = false; rw [List.append_nil]; exact htt
      rw [if_neg (by rw [this]; simp)]
      simp [lv, tryV, tryA]
    unfold mendS
    rw [h1, if_pos (Or.inr rfl)]
    have := lv_seek (lab := lab) (er := er) (room := room) (bl := bl.take c) (sure := c) (at_ := 0) (bl.take c).length (Nat.le_refl _)
    rw [htl] at this
    show seekS (lv lab er room (bl.take c) c 0) (((bl.take c).length : Nat) : Int) = _
    rw [htl]
    exact this
  · have h1 : trimS (lv lab er room (bl.take c ++ [⟨t, false, true⟩]) (c + [(⟨t, false, true⟩ : Bk)].length) 0) = (0, lv lab er room (bl.take c) c 0) := by
      unfold trimS
      rw [if_pos (show tryE _ _ = 0 from rfl)]
      have : tornL (lv lab er room (bl.take c ++ [⟨t, false, true⟩]) (c + [(⟨t, false, true⟩ : Bk)].length) 0).bl = true := by show tornL (bl.take c ++ [⟨t, false, true⟩]) = true; rw [tornL_app]
      rw [if_pos this, if_neg (by show ¬ false = true; simp)]
      have e2 : (bl.take c ++ [(⟨t, false, true⟩ : Bk)]).length - 1 = c := by rw [List.length_append, htl]; rfl
      have e3 : (bl.take c ++ [(⟨t, false, true⟩ : Bk)]).take c = bl.take c := by rw [List.take_append_of_le_length (by omega), List.take_take, Nat.min_self]
      show (0, cutV (tryV _) ((bl.take c ++ [(⟨t, false, true⟩ : Bk)]).length - 1)) = _
      rw [e2]
      unfold cutV
      show (0, ({ lv lab er room ((bl.take c ++ [(⟨t, false, true⟩ : Bk)]).take c) (min (c + 1) c) (min 0 c) with armed := 0 } : Vst)) = _
      rw [e3, Nat.min_eq_right (by omega), Nat.min_eq_left (Nat.zero_le _)]
      rfl
    unfold mendS
    rw [h1, if_pos (Or.inl rfl)]
    have := lv_seek (lab := lab) (er := er) (room := room) (bl := bl.take c) (sure := c) (at_ := 0) (bl.take c).length (Nat.le_refl _)
    rw [htl] at this
    show seekS (lv lab er room (bl.take c) c 0) (((bl.take c).length : Nat) : Int) = _
    rw [htl]
    exact this
section
variable {lab : ByteArray} {er room : Int} {sure : Nat}
theorem itmT_pre (es : List (Nat × ByteArray)) (e : Nat × ByteArray) {j : Nat} (hj : j < es.length) : itmT lab (es ++ [e]) j = itmT lab es j := by
  rw [itmT_eq (es ++ [e]) j (e := es[j]) (by rw [List.getElem?_append_left hj, List.getElem?_eq_getElem hj]), itmT_eq es j (List.getElem?_eq_getElem hj)]
  unfold tapeAt
  rw [List.take_append_of_le_length (by omega)]
theorem itsT_pre (es : List (Nat × ByteArray)) (e : Nat × ByteArray) : itsT lab (es ++ [e]) es.length = itsT lab es es.length := by
  unfold itsT
  refine List.map_congr_left fun j hj => itmT_pre es e (List.mem_range.1 hj)
theorem tapeAt_last (es : List (Nat × ByteArray)) (e : Nat × ByteArray) : tapeAt lab (es ++ [e]) es.length = (tapeB lab es).length := by
  unfold tapeAt
  rw [List.take_left]
theorem itsT_snoc (es : List (Nat × ByteArray)) (e : Nat × ByteArray) : itsT lab (es ++ [e]) (es.length + 1) = itsT lab es es.length ++ [⟨e.1, (tapeB lab es).length, e.2.size⟩] := by
  rw [itsT_succ, itsT_pre, itmT_eq (es ++ [e]) es.length (e := e) (by simp), tapeAt_last]
/-- a tape with a beginning of one blob more. -/
def tornB (lab : ByteArray) (es : List (Nat × ByteArray)) (e : Nat × ByteArray) (m : Nat) : List Bk := tapeB lab es ++ (tpAll lab (tapeB lab es).length e.1 e.2).take m
theorem tornB_get (es : List (Nat × ByteArray)) (e : Nat × ByteArray) (m i : Nat) (hi : i < m) (hn : i < nparts e.2.size) : (tornB lab es e m)[(tapeB lab es).length + i]? = some (tpBlock lab (tapeB lab es).length e.1 e.2 i) := by
  unfold tornB tpAll
  rw [List.getElem?_append_right (by omega), Nat.add_sub_cancel_left, List.getElem?_take_of_lt hi, List.getElem?_append_left (by rw [tpBks_len]; exact hn), tpBks_get _ _ _ hn, Nat.zero_add]
theorem tornB_len (es : List (Nat × ByteArray)) (e : Nat × ByteArray) (m : Nat) (hm : m ≤ nparts e.2.size + 1) : (tornB lab es e m).length = (tapeB lab es).length + m := by
  unfold tornB
  rw [List.length_append, List.length_take, tpAll_len]; omega
theorem tornB_torn (hl : lab.size ≤ 32) (es : List (Nat × ByteArray)) (hes : ∀ e ∈ es, okE e) (hlen : es.length ≤ 11) (e : Nat × ByteArray) (m : Nat) : ∀ b ∈ tornB lab es e m, b.torn = false := by
  intro b hb
  rcases List.mem_append.1 hb with h | h
  · exact (tape_snoc hl es hes (by omega)).1 b h
  · exact tpAll_torn b (List.mem_of_mem_take h)
/-- parts of a blob that breaks off are skipped. -/
theorem torn_skip (hl : lab.size ≤ 32) (es : List (Nat × ByteArray)) (hes : ∀ e ∈ es, okE e) (hlen : es.length ≤ 10) {e : Nat × ByteArray} (he : okE e) {m : Nat} (hm : m < nparts e.2.size) (acc : List Itm) (end_ : Nat) :
    ∀ r k, k + r = m → ScR lab er room (tornB lab es e m) sure r ((tapeB lab es).length + k) acc end_ (acc, end_)
  | 0, k, hk => ScR.stop (by rw [tornB_len es e m (by omega)]; omega)
  | r + 1, k, hk => by
    have hL := (tape_snoc hl es hes (by omega)).2.2
    have he2 := he.2
    have hb := tornB_get (lab := lab) es e m k (by omega) (by omega)
    have ih := torn_skip hl es hes hlen he hm acc end_ r (k + 1) (by omega)
    have hok := tpPiece_ok (lab := lab) (frm := (tapeB lab es).length) (blob := e.1) (data := e.2) (k := k) hl (by omega) he.1 (by omega) (by omega)
    have hlt := (List.getElem?_eq_some_iff.1 hb).1
    rcases Nat.eq_zero_or_pos k with rfl | hk0
    · -- Read runs to the end
      have key : ∀ n j accd, j + n = m → RdR lab (((tapeB lab es).length : Nat) : Int) e.1 n (lv lab er room (tornB lab es e m) sure ((tapeB lab es).length + j)) j accd ([], 2, lv lab er room (tornB lab es e m) sure ((tapeB lab es).length + m)) := by
        intro n
        induction n with
        | zero =>
          intro j accd hj
          obtain rfl : j = m := by omega
          exact RdR.err (lv_readEnd (by rw [tornB_len es e j (by omega)]; exact Nat.le_refl _)) (by decide)
        | succ n ih2 =>
          intro j accd hj
          have hbj := tornB_get (lab := lab) es e m j (by omega) (by omega)
          exact RdR.more (lv_read hbj rfl) (tpPiece_ok hl (by omega) he.1 (by omega) (by omega)) ⟨rfl, by show (((tapeB lab es).length + j : Nat) : Int) = _; omega, rfl, rfl, rfl⟩ (by show j + 1 < nparts e.2.size; omega) (ih2 (j + 1) _ (by omega))
      have h0 := key m 0 [] (by omega)
      rw [Nat.add_zero] at h0 hb
      have hlen2 := tornB_len (lab := lab) es e m (by omega)
      have hnp : nparts e.2.size ≤ 3 := by unfold nparts; omega
      exact ScR.no (N := m) (at2 := (tapeB lab es).length + m) hb hok (by omega) h0 (by omega) (by omega) ih
    · have h0 : RdR lab (((tapeB lab es).length + k : Nat) : Int) e.1 0 (lv lab er room (tornB lab es e m) sure ((tapeB lab es).length + k)) 0 [] ([], 3, lv lab er room (tornB lab es e m) sure ((tapeB lab es).length + k + 1)) :=
        RdR.other (lv_read hb rfl) hok (fun h => by have h4 : k = 0 := h.2.2.2.1; omega)
      exact ScR.no (N := 0) (at2 := (tapeB lab es).length + k + 1) hb hok (by omega) h0 (by omega) (by omega) ih
/-- what Scan finds behind a crash and Mend. -/
theorem torn_scan (hl : lab.size ≤ 32) (es : List (Nat × ByteArray)) (hes : ∀ e ∈ es, okE e) (hlen : es.length ≤ 10) {e : Nat × ByteArray} (he : okE e) {m : Nat} (hm : m ≤ nparts e.2.size + 1) :
    ∃ N EN, N ≤ 100 ∧ ScR lab er room (tornB lab es e m) sure N 0 [] 0 (itsT lab (es ++ [e]) (if m < nparts e.2.size then es.length else es.length + 1), EN) := by
  have hL := (tape_snoc hl es hes (by omega)).2.2
  have he2 := he.2
  have hnp : 1 ≤ nparts e.2.size ∧ nparts e.2.size ≤ 3 := by unfold nparts; omega
  have hon : ∀ {n0 : Nat} {R : List Itm × Nat}, ScR lab er room (tornB lab es e m) sure n0 (tapeB lab es).length (itsT lab es es.length) ((tapeB lab es).length - 1) R → ScR lab er room (tornB lab es e m) sure (n0 + 2 * es.length) 0 [] 0 R := fun hr =>
    tape_scan_on hl es hes (by omega) ⟨_, rfl⟩ hr es.length 0 (by omega)
  by_cases h1 : m < nparts e.2.size
  · rw [if_pos h1, itsT_pre]
    have h := torn_skip (lab := lab) (er := er) (room := room) (sure := sure) hl es hes hlen he h1 (itsT lab es es.length) ((tapeB lab es).length - 1) m 0 (by omega)
    exact ⟨_, _, by omega, hon h⟩
  · rw [if_neg h1, itsT_snoc]
    have hsz : e.2.data.toList.length = e.2.size := by simp
    have hg := fun i hi => tornB_get (lab := lab) es e m i (by omega) hi
    have hlen2 := tornB_len (lab := lab) es e m hm
    by_cases h2 : m = nparts e.2.size
    · have hR := rdR_back (lab := lab) (frm := (tapeB lab es).length) (blob := e.1) (data := e.2) (er := er) (room := room) (bl := tornB lab es e m) (sure := sure) hl (by omega) he.1 (by omega) hg (nparts e.2.size - 1) 0 (by omega)
      rw [Nat.zero_mul, List.take_zero, Nat.add_zero] at hR
      have hb0 := hg 0 (by omega)
      rw [Nat.add_zero] at hb0
      have h := ScR.take (lab := lab) (er := er) (room := room) (bl := tornB lab es e m) (sure := sure) (end_ := (tapeB lab es).length - 1) (acc := itsT lab es es.length) (P := tpPiece lab (tapeB lab es).length e.1 e.2 0) (N := nparts e.2.size - 1) (D := e.2.data.toList) (at2 := (tapeB lab es).length + nparts e.2.size) hb0 (tpPiece_ok hl (by omega) he.1 (by omega) (by omega)) (by omega) hR (by omega) (by rw [hsz]; omega) (ScR.stop (by rw [hsz]; omega))
      rw [hsz] at h
      exact ⟨_, _, by omega, hon h⟩
    · have hm2 : m = nparts e.2.size + 1 := by omega
      have hmk : (tornB lab es e m)[(tapeB lab es).length + nparts e.2.size]? = some markB := by
        unfold tornB tpAll
        rw [List.getElem?_append_right (by omega), Nat.add_sub_cancel_left, List.getElem?_take_of_lt (by omega), List.getElem?_append_right (by rw [tpBks_len]; omega), tpBks_len, Nat.sub_self]
        rfl
      have h := scan_blob (lab := lab) (er := er) (room := room) (bl := tornB lab es e m) (sure := sure) (end_ := (tapeB lab es).length - 1) (acc := itsT lab es es.length) hl (by omega) he.1 (by omega) hg hmk (ScR.stop (by omega))
      exact ⟨_, _, by omega, hon h⟩
end
theorem crashB_len (v : Vst) (zs : List Int) : (crashB v zs).length ≤ 1 ∧ crashN v zs + (crashB v zs).length ≤ max (crashN v zs) v.bl.length := by
  unfold crashB
  split
  · split <;> simp <;> omega
  · simp; omega
theorem crashB_wt (v : Vst) (zs : List Int) : wsum (v.bl.take (crashN v zs)) + wsum (crashB v zs) ≤ wsum v.bl := by
  have h1 := wsum_split v.bl (crashN v zs)
  unfold crashB
  split
  · rename_i h
    have hj := (crashJ_le v zs h).1
    have hdr : v.bl.drop (crashN v zs) = v.bl[crashN v zs] :: v.bl.drop (crashN v zs + 1) := List.drop_eq_getElem_cons h
    rw [hdr] at h1
    simp only [wsum, bwt] at h1
    split
    · simp only [wsum]; omega
    · have hs : (v.bl[crashN v zs].s.extract 0 (crashJ v zs)).size ≤ crashJ v zs := by rw [ByteArray.size_extract]; omega
      simp only [wsum, bwt]; omega
  · simp only [wsum]; omega
theorem crashV_ok {v : Vst} (hv : v.ok) (zs : List Int) : (crashV v zs).ok := by
  have h1 := crashN_le hv zs
  have h2 := crashB_len v zs
  have h3 := crashB_wt v zs
  have hl : (v.bl.take (crashN v zs)).length = crashN v zs := by rw [List.length_take]; omega
  have := hv.used; have := hv.len
  refine ⟨hv.room0, hv.room, ?_, hv.armed0, hv.armed, ?_, ?_, ?_, hv.erased0, hv.erased⟩
  · show ((wsum (v.bl.take (crashN v zs) ++ crashB v zs) : Nat) : Int) ≤ v.room
    rw [wsum_app]; omega
  · show crashN v zs + (crashB v zs).length ≤ (v.bl.take (crashN v zs) ++ crashB v zs).length
    rw [List.length_append, hl]; omega
  · show 0 ≤ _; omega
  · show (v.bl.take (crashN v zs) ++ crashB v zs).length ≤ 1048576
    rw [List.length_append, hl]; omega
/-! ### the fit of what Write leaves -/
theorem Vst.fit.flush {v : Vst} (h : v.fit) : (flushV v).fit := by
  unfold flushV
  have h1 := tryV_ok h.ok
  split
  · exact ⟨⟨h.ok.room0, h.ok.room, h.ok.used, h1.armed0, h1.armed, Nat.le_refl _, h.ok.at_, h.ok.len, h.ok.erased0, h.ok.erased⟩, h.room⟩
  · exact h.try_
theorem Vst.fit.wFin {v : Vst} (h : v.fit) : (wFin v).2.fit := by
  unfold Go.Proofs.YtcogjlfdhiomnaaDoor.wFin
  split
  · exact (h.add markB).1.flush
  · exact (h.add markB).1
theorem Vst.fit.wGo (lab : ByteArray) (frm blob : Nat) (data : ByteArray) : ∀ r k {v : Vst}, v.fit → (wGo lab frm blob data r k v).2.fit
  | 0, k, v, h => h.wFin
  | r + 1, k, v, h => by
    unfold Go.Proofs.YtcogjlfdhiomnaaDoor.wGo
    split
    · exact Vst.fit.wGo lab frm blob data r (k + 1) (h.add _).1
    · exact (h.add _).1
theorem Vst.fit.write {v : Vst} (h : v.fit) (blob : Nat) (data : ByteArray) : (writeS v blob data).2.2.fit := by
  have hs := (h.seek v.bl.length).1
  unfold writeS
  split
  · exact h
  · split
    · split
      · have := Vst.fit.wGo v.label v.bl.length blob data (nparts data.size) 0 hs
        split
        · exact this
        · exact this
      · exact hs
    · exact hs
theorem tornB_take {lab : ByteArray} (es : List (Nat × ByteArray)) (e : Nat × ByteArray) (m c : Nat) (h1 : (tapeB lab es).length ≤ c) (h2 : c ≤ (tapeB lab es).length + m) : (tornB lab es e m).take c = tornB lab es e (c - (tapeB lab es).length) := by
  unfold tornB
  rw [List.take_append, List.take_of_length_le h1, List.take_take]
  congr 2
  omega
/-- Write that fails anywhere, Fail(-1), Crash, Mend: a beginning is left. -/
theorem torn_all {lab : ByteArray} (hl : lab.size ≤ 32) (es : List (Nat × ByteArray)) (hes : ∀ e ∈ es, okE e) (hlen : es.length ≤ 10) {e : Nat × ByteArray} (he : okE e) (fl : Int) (zs : List Int) {v1 : Vst} (hv1 : v1 = { tpv lab 1 100000 es (tapeB lab es).length (tapeB lab es).length with armed := failA fl }) {N E : Int} {V : Vst} (hW : writeS v1 e.1 e.2 = (N, E, V)) :
    v1.fit ∧ V.fit ∧ ∃ m, m ≤ nparts e.2.size + 1 ∧ (E = 0 → m = nparts e.2.size + 1) ∧ ({ V with armed := failA (-1) } : Vst).ok ∧ (crashV { V with armed := failA (-1) } zs).ok ∧
      mendS (crashV { V with armed := failA (-1) } zs) = (0, lv lab 1 100000 (tornB lab es e m) (tornB lab es e m).length (tornB lab es e m).length) ∧ (lv lab 1 100000 (tornB lab es e m) (tornB lab es e m).length (tornB lab es e m).length).fit := by
  obtain ⟨t1, t2, t3⟩ := tape_snoc hl es hes (by omega)
  have t4 := tapeW_le es hes
  have f0 : (tpv lab 1 100000 es (tapeB lab es).length (tapeB lab es).length).fit := lv_fit (by omega) (by omega) (by omega) (Nat.le_refl _) (Nat.le_refl _) (by omega) (by omega)
  have ha : 0 ≤ failA fl ∧ failA fl ≤ 1073741825 := by unfold failA; split <;> omega
  have f1 : v1.fit := by
    rw [hv1]
    exact ⟨⟨f0.ok.room0, f0.ok.room, f0.ok.used, ha.1, ha.2, f0.ok.sure, f0.ok.at_, f0.ok.len, f0.ok.erased0, f0.ok.erased⟩, f0.room⟩
  have f2 := f1.write e.1 e.2
  obtain ⟨m0, g1, g2, g3, g4⟩ := writeS_grew v1 e.1 e.2
  rw [hW] at f2 g1 g3 g4
  simp only at f2 g1 g3 g4
  have b1 : v1.bl = tapeB lab es := by rw [hv1]; rfl
  have b2 : v1.label = lab := by rw [hv1]; rfl
  have b3 : v1.sure = (tapeB lab es).length := by rw [hv1]; rfl
  have hbl : V.bl = tornB lab es e m0 := by rw [g1.bl, b1, b2]; rfl
  have hVlen : V.bl.length = (tapeB lab es).length + m0 := by rw [hbl, tornB_len es e m0 g2]
  have e1 : ({ V with armed := failA (-1) } : Vst) = lv lab 1 100000 V.bl V.sure V.at_ := by
    have h1 := g1.room; have h2 := g1.lost; have h3 := g1.label; have h4 := g1.erased; have h5 := g1.prot
    rw [hv1] at h1 h2 h3 h4 h5
    obtain ⟨r, lo, ar, la, bl, su, at_, er, pr⟩ := V
    simp only at h1 h2 h3 h4 h5
    subst h1 h2 h3 h4 h5
    rfl
  have hsure : (tapeB lab es).length ≤ V.sure ∧ V.sure ≤ V.bl.length := by
    rcases g3 with h | h
    · rw [h, b3]; omega
    · rw [h]; omega
  obtain ⟨c, c1, c2, c3⟩ := mend_crash (lab := lab) (er := 1) (room := 100000) (bl := V.bl) (sure := V.sure) (at_ := V.at_) zs (by rw [hbl]; exact tornB_torn hl es hes (by omega) e m0) hsure.2
  have hok : ({ V with armed := failA (-1) } : Vst).ok := ⟨f2.ok.room0, f2.ok.room, f2.ok.used, by show (0 : Int) ≤ failA (-1); decide, by show failA (-1) ≤ 1073741825; decide, f2.ok.sure, f2.ok.at_, f2.ok.len, f2.ok.erased0, f2.ok.erased⟩
  have htk : V.bl.take c = tornB lab es e (c - (tapeB lab es).length) := by rw [hbl]; exact tornB_take es e m0 c (by omega) (by omega)
  have hc : (tornB lab es e (c - (tapeB lab es).length)).length = c := by rw [tornB_len es e _ (by omega)]; omega
  have hu : ((wsum (V.bl.take c) : Nat) : Int) ≤ 100000 := by
    have h1 := wsum_split V.bl c
    have h2 := f2.ok.used
    have h3 : V.room = 100000 := by rw [g1.room, hv1]; rfl
    omega
  refine ⟨f1, f2, c - (tapeB lab es).length, by omega, fun h => ?_, hok, crashV_ok hok zs, ?_, ?_⟩
  · have := g4 h
    omega
  · rw [e1, c3, htk, hc]
  · rw [htk] at hu
    exact lv_fit (by omega) (by omega) hu (Nat.le_refl _) (Nat.le_refl _) (by omega) (by omega)
section
variable {lab : ByteArray} {frm blob : Nat} {data : ByteArray} {er room : Int} {bl : List Bk} {sure : Nat}
variable {w0 w : World} {I : Part} {L : List HP} {p at_ : Nat}
theorem tread_lv (hT : Rd I (some ⟨0, 0, none⟩) tabV) (hv : (lv lab er room bl sure at_).fit) (hl : lab.size ≤ 32) (hb : blob < 18446744073709551616) (hd : data.size ≤ 600) (hf : frm ≤ 1000) (hbl : ∀ i, i < nparts data.size → bl[frm + i]? = some (tpBlock lab frm blob data i)) (H : Sat w0 I (volp p (lv lab er room bl sure at_) :: L) w) :
    Calls Tryd.prog 20 #[.pointer (some ⟨p, 0, none⟩), .int .i64 (frm : Int), .int .u64 (blob : Int)] w fun e w' => e = .returned (.tuple #[.string data, .int .i64 0]) ∧ frm + nparts data.size ≤ bl.length ∧ Sat w0 I (volp p (lv lab er room bl sure (frm + nparts data.size)) :: L) w' := by
  have hnp : 1 ≤ nparts data.size ∧ nparts data.size ≤ 3 := by unfold nparts; omega
  have hlast := (List.getElem?_eq_some_iff.1 (hbl (nparts data.size - 1) (by omega))).1
  have hs : seekS (lv lab er room bl sure at_) (frm : Int) = (0, lv lab er room bl sure frm) := lv_seek frm (by omega)
  have hr := rdR_back (lab := lab) (frm := frm) (blob := blob) (data := data) (er := er) (room := room) (bl := bl) (sure := sure) hl (by omega) hb (by omega) hbl (nparts data.size - 1) 0 (by omega)
  rw [Nat.zero_mul, List.take_zero, Nat.add_zero] at hr
  refine (tread_sat hT hv (lab := lab) rfl (frm : Int) (by omega) blob hs (N := nparts data.size - 1) (by omega) (R := (data.data.toList, 0, lv lab er room bl sure (frm + nparts data.size))) (fun _ => hr) (fun e => absurd rfl e) H).mono ?_
  rintro e w' ⟨rfl, S⟩
  exact ⟨rfl, by omega, S⟩
end
theorem wsum_take (l : List Bk) (n : Nat) : wsum (l.take n) ≤ wsum l := by
  have := wsum_split l n
  omega
theorem tornB_wt {lab : ByteArray} (hl : lab.size ≤ 32) (es : List (Nat × ByteArray)) (hes : ∀ e ∈ es, okE e) (hlen : es.length ≤ 10) {e : Nat × ByteArray} (he : okE e) (m : Nat) : wsum (tornB lab es e m) ≤ 832 * (es.length + 1) := by
  obtain ⟨t1, t2, t3⟩ := tape_snoc hl es hes (by omega)
  have t4 := tapeW_le es hes
  have he2 := he.2
  have t5 := tpAll_wt (lab := lab) (frm := (tapeB lab es).length) (blob := e.1) (data := e.2) hl (by omega) he.1 (by omega)
  have t6 := wsum_take (tpAll lab (tapeB lab es).length e.1 e.2) m
  have t7 : weightN e.2.size ≤ 832 := by unfold weightN nparts; omega
  unfold tornB
  rw [wsum_app]
  omega
end Go.Proofs.YtcogjlfdhiomnaaDoor
namespace Go.Proofs.YtcogjlfdhiomnaaDoor
open Go.RowKit
set_option linter.unusedVariables false
set_option maxRecDepth 100000
theorem lenT (bs : List Bl) (h : ∀ b ∈ bs, b.ok) (k : Nat) (hk : k ≤ 10) (hb : k ≤ bs.length) : (tapeB ⟨#[65]⟩ (esOf bs k)).length ≤ 40 := by
  have := (tape_snoc (lab := ⟨#[65]⟩) (by decide) (esOf bs k) (esOf_ok bs h k) (by rw [esOf_len bs k hb]; omega)).2.2
  rw [esOf_len bs k hb] at this
  omega
set_option maxHeartbeats 12000000 in
theorem tapefmtTorn_walk0 (la : Option Addr) (len cap : Nat) (bs : List Bl) (hlen : len ≤ 9223372036854775807) (hlc : len ≤ cap) (hbl : bs.length = len) (hbs : ∀ b ∈ bs, b.ok) (x : Bl) (hx : x.ok) (fl : Int) (ca : Option Addr) (zl cc : Nat) (zs : List Int) (hzl : zs.length = zl) (hzm : zl ≤ 9223372036854775807) (hzb : ∀ z ∈ zs, -9223372036854775808 ≤ z ∧ z ≤ 9223372036854775807) (w : World) (hBA : ∀ i (hi : i < bs.length), BlAt (wpart w) la i bs[i]) (hzr : Rd (wpart w) ca (zs.map (Value.int .i64))) (hT : Rd (wpart w) (some ⟨0, 0, none⟩) tabV) :
    Calls Tryd.prog 7 #[.slice la len cap, .agg #[.int .u64 (x.id : Int), .string x.s, .int .i64 x.n], .int .i64 fl, .slice ca zl cc] w (RetB (.bool true) w.heap.size w) := by
  have H0 := hid (Sat.start w)
  have HT := hid hT
  have HBA := hid hBA
  have HBS := hid hbs
  have HX := hid hx
  have HZR := hid hzr
  have HZB := hid hzb
  have HZL := hid hzl
  obtain ⟨n, hn⟩ : ∃ n, min len 5 = n := ⟨_, rfl⟩
  have hn6 : n ≤ 5 := by omega
  have hnl : n ≤ len := by omega
  have hnb : n ≤ bs.length := by omega
  have HMIN := hid (show min (len : Int) 5 = (n : Int) by omega)
  have TP := hid (fun k (hk : k ≤ n) => esOf_tp (lab := ⟨#[65]⟩) (by decide) bs hbs k (by omega) (by omega))
  have LB := hid (fun k (hk : k ≤ n) => lenT bs hbs k (by omega) (by omega))
  have OKS := hid (show (⟨100000, false, 0, ⟨#[]⟩, [], 0, 0, 0, false⟩ : Vst).ok from ⟨by simp, by simp, by simp [wsum], by simp, by simp, by simp, by simp, by simp, by simp, by simp⟩)
  obtain ⟨q, hq⟩ := H0.out.sizeEx
  have H0b := hid (H0.out.alloc (b := q) (T := 24) (cs := blc x) rfl hq.symm)
  clear hT hBA hbs hn hx hzr hzb hzl H0
  go_enter Tryd.func7, Tryd.ntmps7
  go_wp2_with fail
  try rw [hq]
  refine (vnew_eq 100000 (R := 100000) (by omega) H0b.out).mono ?_; rintro e w1 ⟨p, rfl, S1⟩
  have H1 := hid S1
  clear S1 H0b hq
  go_wp2_with fail
  refine (tawake_sat HT.out H1.out).mono ?_; rintro e w2 ⟨rfl, S2⟩
  have H2 := hid S2
  clear S2 H1
  go_wp2_with fail
  refine (verase ⟨#[65]⟩ OKS.out (lv_erase 100000 ⟨#[65]⟩) H2.out).mono ?_; rintro e w3 ⟨rfl, S3⟩
  have H4 := hid (show Sat w (wpart w) [volp p (tpv ⟨#[65]⟩ 1 100000 [] 0 0), blk q 24 (blc x)] w3 from S3)
  clear S3 H2
  go_wp2_with (refine wpList_min (o := ⟨some 42, _, _, _, _, _⟩) rfl rfl rfl rfl HMIN.out ?_)
  go_loopw [11, 12, 13] (fun i _ _ wr => ∃ (k : Nat), k ≤ n ∧ i = .int .i64 (k : Int) ∧ Sat w (wpart w) [volp p (tpv ⟨#[65]⟩ 1 100000 (esOf bs k) (tapeB ⟨#[65]⟩ (esOf bs k)).length (tapeB ⟨#[65]⟩ (esOf bs k)).length), blk q 24 (blc x)] wr) (fun i _ _ _ => 10 - (intOf i).toNat)
  case atStart => exact ⟨0, Nat.zero_le _, rfl, H4.out⟩
  case round =>
    clear H4
    obtain ⟨k, hk, rfl, Sr⟩ := hrel
    have HS := hid Sr
    clear Sr
    by_cases hlt : k < n
    · have hkn : (k : Int) < (n : Int) := by omega
      have hkl : (k : Int) < (len : Int) := by omega
      have hk0 : (0 : Int) ≤ (k : Int) := by omega
      have hkb : k < bs.length := by omega
      obtain ⟨g, off, hla, e0, e1, e2⟩ := HBA.out k hkb
      have bok := HBS.out bs[k] (List.getElem_mem _)
      have hes := esOf_succ bs k hkb
      obtain ⟨D, hD⟩ : ∃ D, longS bs[k].s bs[k].n = D := ⟨_, rfl⟩
      have hD2 : bs[k].data = D := hD
      have hDs : D.size ≤ 600 := by rw [← hD]; exact longS_size _ _
      rw [hD2] at hes
      have OK1 := hid (show okE (bs[k].id, D) from ⟨bok.id, hDs⟩)
      obtain ⟨y, hy⟩ : ∃ y, bs[k] = y := ⟨_, rfl⟩
      rw [hy] at e0 e1 e2 bok hes hD OK1
      subst hla
      have HES := hid hes
      have HD := hid hD
      have BOK := hid bok
      have E0 := hid e0
      have TK := hid (TP.out k (by omega))
      have c0 := HS.out.atI e0
      have c1 := HS.out.atI e1
      have c2 := HS.out.atI e2
      clear hy hes hD hD2 bok e0 e1 e2
      go_wp2_with fail
      go_upto_region 8 with fail
      go_cut [12, 13] (fun t u wx => u = .int .i64 0 ∧ Sat w (wpart w) [volp p (tpv ⟨#[65]⟩ 1 100000 (esOf bs (k + 1)) (tapeB ⟨#[65]⟩ (esOf bs (k + 1))).length (tapeB ⟨#[65]⟩ (esOf bs (k + 1))).length), blk q 24 (blc x)] wx)
      case first =>
        go_region_with (first
          | (go_at_call 13; refine (long_sat y.s y.n BOK.out.s BOK.out.n HD.out HS.out.drew).mono ?_; rintro e w7 ⟨rfl, S7⟩; have d0 := S7.atI E0.out; have H7 := hid S7; clear S7)
          | (go_at_call 14; refine (twrite_tp HT.out TK.out y.id D OK1.out (by rw [esOf_len bs k (by omega)]; omega) (N := ((tapeB ⟨#[65]⟩ (esOf bs k)).length : Int)) rfl H7.out).mono ?_; rintro e w8 ⟨rfl, S8⟩; have H8 := hid S8; clear S8))
        all_goals
          go_wp2_with fail
          go_meet
          refine ⟨rfl, ?_⟩
          have h := H8.out
          rw [← HES.out] at h
          exact h
      case rest =>
        obtain ⟨rfl, S8⟩ := hcut
        have H8 := hid S8
        clear S8 HS c0 c1 c2
        go_wp2_with fail
        go_roundw
        case rel => exact ⟨k + 1, by omega, by go_num, H8.out⟩
        case measure => simp [intOf]; omega
    · obtain rfl : k = n := by omega
      have hkk : ¬ (k : Int) < (k : Int) := by omega
      have hel := esOf_len bs k hnb
      have TK := hid (TP.out k (by omega))
      obtain ⟨D, hD⟩ : ∃ D, longS x.s x.n = D := ⟨_, rfl⟩
      have hDs : D.size ≤ 600 := by rw [← hD]; exact longS_size _ _
      have OKX := hid (show okE (x.id, D) from ⟨HX.out.id, hDs⟩)
      have HD := hid hD
      obtain ⟨v1, hv1⟩ : ∃ v, ({ tpv ⟨#[65]⟩ 1 100000 (esOf bs k) (tapeB ⟨#[65]⟩ (esOf bs k)).length (tapeB ⟨#[65]⟩ (esOf bs k)).length with armed := failA fl } : Vst) = v := ⟨_, rfl⟩
      obtain ⟨⟨N, E, V⟩, hW⟩ : ∃ r, writeS v1 x.id D = r := ⟨_, rfl⟩
      obtain ⟨f1, f2, m, m1, m2, m3, m4, m5, m6⟩ := torn_all (lab := ⟨#[65]⟩) (by decide) (esOf bs k) (esOf_ok bs HBS.out k) (by rw [hel]; omega) (e := (x.id, D)) OKX.out fl zs hv1.symm hW
      obtain ⟨NN, EN, n1, n2⟩ := torn_scan (lab := ⟨#[65]⟩) (er := 1) (room := 100000) (sure := (tornB ⟨#[65]⟩ (esOf bs k) (x.id, D) m).length) (by decide) (esOf bs k) (esOf_ok bs HBS.out k) (by rw [hel]; omega) (e := (x.id, D)) OKX.out m1
      obtain ⟨its, hits⟩ : ∃ l, itsT ⟨#[65]⟩ (esOf bs k ++ [(x.id, D)]) (if m < nparts ((x.id, D) : Nat × ByteArray).2.size then (esOf bs k).length else (esOf bs k).length + 1) = l := ⟨_, rfl⟩
      rw [hits] at n2
      obtain ⟨C, hC⟩ : ∃ C, its.length = C := ⟨_, rfl⟩
      have hC2 : (m < nparts D.size ∧ C = k) ∨ (nparts D.size ≤ m ∧ C = k + 1) := by
        rw [← hC, ← hits, itsT_len, hel]
        by_cases h : m < nparts D.size
        · rw [if_pos h]; exact Or.inl ⟨h, rfl⟩
        · rw [if_neg h]; exact Or.inr ⟨by omega, rfl⟩
      have hent : ∀ j (hj : j < C), ∃ (y : Bl) (A : Nat), y.ok ∧ (j < k → ∃ hjb : j < bs.length, bs[j] = y) ∧ (¬ j < k → y = x) ∧ its[j]? = some ⟨y.id, A, y.data.size⟩ ∧ A ≤ 40 ∧ ∀ i, i < nparts y.data.size → (tornB ⟨#[65]⟩ (esOf bs k) (x.id, D) m)[A + i]? = some (tpBlock ⟨#[65]⟩ A y.id y.data i) := fun j hj => by
        have hL := LB.out k (by omega)
        have hit : its[j]? = some (itmT ⟨#[65]⟩ (esOf bs k ++ [(x.id, D)]) j) := by
          rw [← hits]
          unfold itsT
          rw [List.getElem?_map, List.getElem?_range (by rw [← hits, itsT_len] at hC; omega)]
          rfl
        by_cases hjk : j < k
        · have hjb : j < bs.length := by omega
          have hg := esOf_get bs k j hjk hnb
          refine ⟨bs[j], tapeAt ⟨#[65]⟩ (esOf bs k) j, HBS.out _ (List.getElem_mem _), fun _ => ⟨hjb, rfl⟩, fun h => absurd hjk h, ?_, ?_, fun i hi => ?_⟩
          · rw [hit, itmT_pre (esOf bs k) (x.id, D) (by rw [hel]; exact hjk), itmT_eq (esOf bs k) j hg]
          · have := tapeAt_le (lab := ⟨#[65]⟩) (esOf bs k) j
            omega
          · have h := tape_get (lab := ⟨#[65]⟩) (esOf bs k) j hg i hi
            unfold tornB
            rw [List.getElem?_append_left (List.getElem?_eq_some_iff.1 h).1]
            exact h
        · have hj2 : j = k ∧ nparts D.size ≤ m := by omega
          obtain ⟨rfl, hmm⟩ := hj2
          refine ⟨x, (tapeB ⟨#[65]⟩ (esOf bs j)).length, HX.out, fun h => absurd h hjk, fun _ => rfl, ?_, by omega, fun i hi => ?_⟩
          · rw [hit, itmT_eq (esOf bs j ++ [(x.id, D)]) j (e := (x.id, D)) (by rw [List.getElem?_append_right (by rw [hel]; exact Nat.le_refl _), hel, Nat.sub_self]; rfl)]
            have e := tapeAt_last (lab := ⟨#[65]⟩) (esOf bs j) (x.id, D)
            rw [hel] at e
            rw [e, ← hD]
            rfl
          · have hi2 : i < nparts D.size := by rw [← hD]; exact hi
            have h := tornB_get (lab := ⟨#[65]⟩) (esOf bs j) (x.id, D) m i (by omega) hi2
            rw [h, ← hD]
            rfl
      have HENT := hid hent
      have HC2 := hid hC2
      have HC := hid hC
      clear hits hent hC2 hC
      have hvl : v1.label.size ≤ 32 := by rw [← hv1]; show (⟨#[65]⟩ : ByteArray).size ≤ 32; decide
      obtain ⟨B, hB⟩ : ∃ B, tornB ⟨#[65]⟩ (esOf bs k) (x.id, D) m = B := ⟨_, rfl⟩
      rw [hB] at m5 m6 n2 HENT
      have HBW := hid (show wsum B ≤ 832 * 6 ∧ B.length ≤ 60 by
        have h1 := tornB_wt (lab := ⟨#[65]⟩) (by decide) (esOf bs k) (esOf_ok bs HBS.out k) (by rw [hel]; omega) (e := (x.id, D)) OKX.out m
        have h2 := tornB_len (lab := ⟨#[65]⟩) (esOf bs k) (x.id, D) m m1
        have h3 := LB.out k (by omega)
        have h4 : nparts D.size ≤ 3 := by unfold nparts; omega
        have h5 : m ≤ nparts D.size + 1 := m1
        rw [hB, hel] at h1
        rw [hB] at h2
        omega)
      have HBT := hid (show ∀ b ∈ B, b.torn = false by rw [← hB]; exact tornB_torn (by decide) (esOf bs k) (esOf_ok bs HBS.out k) (by rw [hel]; omega) (x.id, D) m)
      have HV1 := hid hv1
      have HW := hid hW
      have F1 := hid f1
      have F2 := hid f2
      have M1 := hid m1
      have M2 := hid m2
      have M3 := hid m3
      have M4 := hid m4
      have M5 := hid m5
      have M6 := hid m6
      have N2 := hid n2
      have HB := hid hB
      have HVL := hid hvl
      have c0 := HS.out.swap.isBlk.cell 0 (v := .int .u64 (x.id : Int)) rfl
      clear hv1 hW f1 f2 m1 m2 m3 m4 m5 m6 n2 hB hvl hD c0
      go_wp2_with fail
      refine (vfail fl HS.out).mono ?_; rintro e w6 ⟨rfl, S6⟩
      rw [HV1.out] at S6
      have c0 := S6.swap.isBlk.cell 0 (v := .int .u64 (x.id : Int)) rfl
      have c1 := S6.swap.isBlk.cell 1 (v := .string x.s) rfl
      have c2 := S6.swap.isBlk.cell 2 (v := .int .i64 x.n) rfl
      have H6 := hid S6
      clear S6 HS
      go_upto_region 12 with fail
      go_cut [14, 15] (fun t u wx => u = .int .i64 E ∧ Sat w (wpart w) [volp p V, blk q 24 (blc x)] wx)
      case first =>
        go_region_with (first
          | (go_at_call 13; refine (long_sat x.s x.n HX.out.s HX.out.n HD.out H6.out.drew).mono ?_; rintro e w7 ⟨rfl, S7⟩; have d0 := S7.swap.isBlk.cell 0 (v := .int .u64 (x.id : Int)) rfl; have H7 := hid S7; clear S7)
          | (go_at_call 14; refine (twrite_sat HT.out F1.out HVL.out x.id HX.out.id D (by omega) HW.out H7.out).mono ?_; rintro e w8 ⟨rfl, S8⟩; have H8 := hid S8; clear S8))
        all_goals
          go_wp2_with fail
          go_meet
          exact ⟨rfl, H8.out⟩
      case rest =>
        obtain ⟨rfl, S8⟩ := hcut
        have H8 := hid S8
        clear S8 H6 c0 c1 c2
        go_wp2_with fail
        refine (vfail (-1) H8.out).mono ?_; rintro e w9 ⟨rfl, S9⟩
        have H9 := hid S9
        clear S9 H8
        go_wp2_with fail
        refine (vcrash ca cc zl zs HZL.out hzm HZR.out HZB.out M3.out rfl H9.out).mono ?_; rintro e w10 ⟨rfl, S10⟩
        have H10 := hid S10
        clear S10 H9
        go_wp2_with fail
        refine (mend_sat M4.out M5.out H10.out).mono ?_; rintro e w11 ⟨rfl, S11⟩
        have H11 := hid S11
        clear S11 H10
        go_wp2_with fail
        refine (scan_sat HT.out M6.out (NN := NN) (by omega) N2.out H11.out).mono ?_
        rintro e w12 ⟨J, a3, c3, at3, rfl, d1, d2, hJ, hrd, hat3, S12⟩
        have e1 : ((its, EN) : List Itm × Nat).1.length = C := HC.out
        rw [e1]
        have d3 : C ≤ c3 := by rw [← e1]; exact d1
        have hck3 : C ≤ 6 := by have := HC2.out; omega
        have H12 := hid (show Sat w J [volp p (lv ⟨#[65]⟩ 1 100000 B B.length at3), blk q 24 (blc x)] w12 from S12)
        have HRD := hid (show Rd J a3 (its.flatMap itc) from hrd)
        have HJ := hid hJ
        clear S12 hrd hJ H11 e1 d1
        go_upto_region 18 with fail
        go_cut [129] (fun t wx => t = .bool false ∧ Sat w J [volp p (lv ⟨#[65]⟩ 1 100000 B B.length at3), blk q 24 (blc x)] wx)
        case first =>
          have hk1 : ¬ (k : Int) + 1 < (k : Int) := by omega
          rcases HC2.out with ⟨hm, hc⟩ | ⟨hm, hc⟩
          · have hE0 : (E == 0) = false := by
              have : E ≠ 0 := fun h => by have := M2.out h; omega
              simpa using this
            have hci : (C : Int) = (k : Int) := by omega
            clear hm hc
            go_wp2_with fail
            go_meet
            exact ⟨rfl, H12.out⟩
          · have hci : (C : Int) = (k : Int) + 1 := by omega
            clear hm hc
            by_cases hE : E = 0
            · subst hE
              go_wp2_with fail
              go_meet
              exact ⟨rfl, H12.out⟩
            · have hE0 : (E == 0) = false := by simpa using hE
              go_wp2_with fail
              go_meet
              exact ⟨rfl, H12.out⟩
        case rest =>
          obtain ⟨rfl, S13⟩ := hcut
          clear H12
          go_wp2_with fail
          go_loopw [19, 20, 21, 22, 23, 132] (fun _ _ _ _ _ i wr => ∃ (j at2 : Nat), j ≤ C ∧ i = .int .i64 (j : Int) ∧ at2 ≤ B.length ∧ Sat w J [volp p (lv ⟨#[65]⟩ 1 100000 B B.length at2), blk q 24 (blc x)] wr) (fun _ _ _ _ _ i _ => 10 - (intOf i).toNat)
          case atStart => exact ⟨0, at3, Nat.zero_le _, rfl, hat3, S13⟩
          case round =>
            clear S13
            obtain ⟨j, at2, hj, rfl, hat2, Sr⟩ := hrel
            have HS := hid Sr
            clear Sr
            by_cases hlt : j < C
            · obtain ⟨y, A, yok, y1, y2, hit, hA40, hblk⟩ := HENT.out j hlt
              obtain ⟨D2, hD2⟩ : ∃ D, longS y.s y.n = D := ⟨_, rfl⟩
              have hD3 : y.data = D2 := hD2
              rw [hD3] at hit hblk
              have hDs2 : D2.size ≤ 600 := by rw [← hD2]; exact longS_size _ _
              have hjC : (j : Int) < (C : Int) := by omega
              have hj0 : (0 : Int) ≤ (j : Int) := by omega
              have hjc3 : (j : Int) < (c3 : Int) := by omega
              have hji : j < its.length := by rw [HC.out]; exact hlt
              have hi0 := flat_get itc (sz := 3) (fun _ => rfl) its j 0 hji (by omega)
              have hi1 := flat_get itc (sz := 3) (fun _ => rfl) its j 1 hji (by omega)
              have hi2 := flat_get itc (sz := 3) (fun _ => rfl) its j 2 hji (by omega)
              have hij : its[j]'hji = ⟨y.id, A, D2.size⟩ := (List.getElem?_eq_some_iff.1 hit).2
              rw [hij] at hi0 hi1 hi2
              obtain ⟨b5, o5, rfl, v0⟩ := HRD.out.get HS.out (j * 3) (u := .int .u64 (y.id : Int)) hi0
              obtain ⟨b6, o6, hb6, v1'⟩ := HRD.out.get HS.out (j * 3 + 1) (u := .int .i64 (A : Int)) hi1
              obtain ⟨b7, o7, hb7, v2'⟩ := HRD.out.get HS.out (j * 3 + 2) (u := .int .i64 (D2.size : Int)) hi2
              cases hb6
              cases hb7
              rw [← Nat.add_assoc] at v1' v2'
              have c0 := HS.out.swap.isBlk.cell 0 (v := .int .u64 (x.id : Int)) rfl
              have c1 := HS.out.swap.isBlk.cell 1 (v := .string x.s) rfl
              have c2 := HS.out.swap.isBlk.cell 2 (v := .int .i64 x.n) rfl
              obtain ⟨gi, hgi⟩ := HS.out.sizeEx
              have YOK := hid yok
              have HD2 := hid hD2
              have HBLK := hid hblk
              clear hit yok hD2 hD3 hblk hi0 hi1 hi2 hij hji
              by_cases hjk : j < k
              · obtain ⟨hjb, hyy⟩ := y1 hjk
                obtain ⟨g, off, hla, e0, e1, e2⟩ := HBA.out j hjb
                rw [hyy] at e0 e1 e2
                subst hla
                have t0 := (HS.out.thaw HJ.out).atI e0
                have t1 := (HS.out.thaw HJ.out).atI e1
                have t2 := (HS.out.thaw HJ.out).atI e2
                have hjki : (j : Int) < (k : Int) := by omega
                have hjl : (j : Int) < (len : Int) := by omega
                clear t0 t1 t2
                have S1 := HS.out.alloc (b := gi) (T := 53) (cs := itc ⟨y.id, A, D2.size⟩) rfl hgi.symm
                have H1 := hid S1
                clear S1
                go_upto_region 23 with fail
                try rw [hgi]
                refine wp_gen (fun w13 => Sat w J [blk gi 53 (itc ⟨y.id, A, D2.size⟩), volp p (lv ⟨#[65]⟩ 1 100000 B B.length at2), blk q 24 (blc x)] w13) H1.out ?_
                clear H1 HS c0 c1 c2 v0 v1' v2' hgi
                intro w13 S13
                have c0 := (S13.pick 2).isBlk.cell 0 (v := .int .u64 (x.id : Int)) rfl
                have c1 := (S13.pick 2).isBlk.cell 1 (v := .string x.s) rfl
                have c2 := (S13.pick 2).isBlk.cell 2 (v := .int .i64 x.n) rfl
                obtain ⟨gb, hgb⟩ := S13.sizeEx
                have S13b := S13.alloc (b := gb) (T := 24) (cs := blc x) rfl hgb.symm
                have H13 := hid S13b
                clear S13 S13b
                go_upto_region 24 with fail
                try rw [hgb]
                refine wp_gen (fun w14 => Sat w J [blk gb 24 (blc x), blk gi 53 (itc ⟨y.id, A, D2.size⟩), volp p (lv ⟨#[65]⟩ 1 100000 B B.length at2), blk q 24 (blc x)] w14) H13.out ?_
                clear H13 c0 c1 c2 hgb
                intro w14 S14
                have t0 := (S14.thaw HJ.out).atI e0
                have t1 := (S14.thaw HJ.out).atI e1
                have t2 := (S14.thaw HJ.out).atI e2
                have a0 := S14.isBlk.cell 0 (v := .int .u64 (x.id : Int)) rfl
                have a1 := S14.isBlk.cell 1 (v := .string x.s) rfl
                have a2 := S14.isBlk.cell 2 (v := .int .i64 x.n) rfl
                have f0 := S14.isBlk.frozen 0
                have f1 := S14.isBlk.frozen 1
                have f2 := S14.isBlk.frozen 2
                have S15 := ((S14.set 0 (.int .u64 (y.id : Int)) (cs' := [.int .u64 (y.id : Int), .string x.s, .int .i64 x.n]) rfl).set 1 (.string y.s) (cs' := [.int .u64 (y.id : Int), .string y.s, .int .i64 x.n]) rfl).set 2 (.int .i64 y.n) (cs' := blc y) rfl
                have H2 := hid (S15.pick 2)
                clear S14 S15 y1 y2 hyy e0 e1 e2
                go_upto_region 26 with fail
                refine wp_gen (fun w15 => Sat w J [volp p (lv ⟨#[65]⟩ 1 100000 B B.length at2), blk gb 24 (blc y), blk gi 53 (itc ⟨y.id, A, D2.size⟩), blk q 24 (blc x)] w15) H2.out ?_
                clear H2 a0 a1 a2 f0 f1 f2 t0 t1 t2
                intro w15 S15
                have g0 := (S15.pick 2).isBlk.cell 0 (v := .int .u64 (y.id : Int)) rfl
                have g1 := (S15.pick 2).isBlk.cell 1 (v := .int .i64 (A : Int)) rfl
                have H2 := hid S15
                clear S15
                go_wp2_with fail
                refine (tread_lv (HT.out.mono HJ.out) (lv_fit2 M6.out hat2) (by decide) YOK.out.id hDs2 (by omega) HBLK.out H2.out).mono ?_; rintro e w14 ⟨rfl, hz, S14⟩
                have HZ := hid hz
                have z0 := (S14.pick 2).isBlk.cell 0 (v := .int .u64 (y.id : Int)) rfl
                have u0 := (S14.pick 1).isBlk.cell 0 (v := .int .u64 (y.id : Int)) rfl
                have u1 := (S14.pick 1).isBlk.cell 1 (v := .string y.s) rfl
                have u2 := (S14.pick 1).isBlk.cell 2 (v := .int .i64 y.n) rfl
                have H14 := hid S14
                clear S14 H2 hz
                go_wp2_with fail
                refine (long_sat y.s y.n YOK.out.s YOK.out.n HD2.out H14.out).mono ?_; rintro e w15 ⟨rfl, S15⟩
                have H15 := hid S15
                clear S15 H14
                go_wp2_with fail
                go_roundw
                case rel => exact ⟨j + 1, _, by omega, by go_num, HZ.out, H15.out.swap.drop.swap.drop⟩
                case measure => simp [intOf]; omega
              · obtain rfl := y2 hjk
                have hjki : ¬ (j : Int) < (k : Int) := by omega
                have S1 := HS.out.alloc (b := gi) (T := 53) (cs := itc ⟨y.id, A, D2.size⟩) rfl hgi.symm
                have H1 := hid S1
                clear S1
                go_upto_region 23 with fail
                try rw [hgi]
                refine wp_gen (fun w13 => Sat w J [blk gi 53 (itc ⟨y.id, A, D2.size⟩), volp p (lv ⟨#[65]⟩ 1 100000 B B.length at2), blk q 24 (blc y)] w13) H1.out ?_
                clear H1 HS c0 c1 c2 v0 v1' v2' hgi
                intro w13 S13
                have c0 := (S13.pick 2).isBlk.cell 0 (v := .int .u64 (y.id : Int)) rfl
                have c1 := (S13.pick 2).isBlk.cell 1 (v := .string y.s) rfl
                have c2 := (S13.pick 2).isBlk.cell 2 (v := .int .i64 y.n) rfl
                obtain ⟨gb, hgb⟩ := S13.sizeEx
                have S13b := S13.alloc (b := gb) (T := 24) (cs := blc y) rfl hgb.symm
                have g0 := S13.isBlk.cell 0 (v := .int .u64 (y.id : Int)) rfl
                have g1 := S13.isBlk.cell 1 (v := .int .i64 (A : Int)) rfl
                have H2 := hid (S13b.pick 2)
                clear S13 S13b y1 y2
                go_upto_region 26 with fail
                try rw [hgb]
                refine wp_gen (fun w14 => Sat w J [volp p (lv ⟨#[65]⟩ 1 100000 B B.length at2), blk gb 24 (blc y), blk gi 53 (itc ⟨y.id, A, D2.size⟩), blk q 24 (blc y)] w14) H2.out ?_
                clear H2 c0 c1 c2 hgb g0 g1
                intro w14 S14
                have g0 := (S14.pick 2).isBlk.cell 0 (v := .int .u64 (y.id : Int)) rfl
                have g1 := (S14.pick 2).isBlk.cell 1 (v := .int .i64 (A : Int)) rfl
                have H2 := hid S14
                clear S14
                go_wp2_with fail
                refine (tread_lv (HT.out.mono HJ.out) (lv_fit2 M6.out hat2) (by decide) YOK.out.id hDs2 (by omega) HBLK.out H2.out).mono ?_; rintro e w14 ⟨rfl, hz, S14⟩
                have HZ := hid hz
                have z0 := (S14.pick 2).isBlk.cell 0 (v := .int .u64 (y.id : Int)) rfl
                have u0 := (S14.pick 1).isBlk.cell 0 (v := .int .u64 (y.id : Int)) rfl
                have u1 := (S14.pick 1).isBlk.cell 1 (v := .string y.s) rfl
                have u2 := (S14.pick 1).isBlk.cell 2 (v := .int .i64 y.n) rfl
                have H14 := hid S14
                clear S14 H2 hz
                go_wp2_with fail
                refine (long_sat y.s y.n YOK.out.s YOK.out.n HD2.out H14.out).mono ?_; rintro e w15 ⟨rfl, S15⟩
                have H15 := hid S15
                clear S15 H14
                go_wp2_with fail
                go_roundw
                case rel => exact ⟨j + 1, _, by omega, by go_num, HZ.out, H15.out.swap.drop.swap.drop⟩
                case measure => simp [intOf]; omega
            · obtain rfl : j = C := by omega
              have hjC : ¬ (j : Int) < (j : Int) := by omega
              obtain ⟨MM, hMM⟩ : ∃ l : ByteArray, (⟨#[109, 111, 114, 101]⟩ : ByteArray) = l := ⟨_, rfl⟩
              have hMs : MM.size = 4 := by subst hMM; rfl
              obtain ⟨B2, hB2⟩ : ∃ l, B ++ tpAll ⟨#[65]⟩ B.length 99 MM = l := ⟨_, rfl⟩
              have hwn : weightN MM.size = 84 := by rw [hMs]; rfl
              have hwr := lv_write (lab := ⟨#[65]⟩) (er := 1) (room := 100000) (bl := B) (sure := B.length) (at_ := at2) (blob := 99) (data := MM) (by decide) (by have := HBW.out; omega) (by decide) (by omega) HBT.out (by have := HBW.out.1; omega)
              rw [hB2] at hwr
              have hfb : (lv ⟨#[65]⟩ 1 100000 B2 B2.length B2.length).fit := by
                have h3 := tpAll_wt (lab := ⟨#[65]⟩) (frm := B.length) (blob := 99) (data := MM) (by decide) (by have := HBW.out; omega) (by decide) (by omega)
                have h4 : wsum B2 = wsum B + wsum (tpAll ⟨#[65]⟩ B.length 99 MM) := by rw [← hB2, wsum_app]
                have h5 := HBW.out.1
                exact lv_fit (by omega) (by omega) (by omega) (Nat.le_refl _) (Nat.le_refl _) (by omega) (by omega)
              have hgb : ∀ i, i < nparts MM.size → B2[B.length + i]? = some (tpBlock ⟨#[65]⟩ B.length 99 MM i) := fun i hi => by
                rw [← hB2, List.getElem?_append_right (by omega), Nat.add_sub_cancel_left]
                unfold tpAll
                rw [List.getElem?_append_left (by rw [tpBks_len]; exact hi), tpBks_get _ _ _ hi, Nat.zero_add]
              have HWR := hid hwr
              have HFB := hid hfb
              have HGB := hid hgb
              have HBL := hid HBW.out.2
              clear hwr hfb hgb hB2 hwn
              go_wp2_with fail
              refine (twrite_sat (HT.out.mono HJ.out) (lv_fit2 M6.out hat2) (by show (⟨#[65]⟩ : ByteArray).size ≤ 32; decide) 99 (by decide) MM (by omega) HWR.out HS.out).mono ?_; rintro e w14 ⟨rfl, S14⟩
              have H14 := hid S14
              clear S14 HS
              go_wp2_with fail
              refine (tread_lv (lab := ⟨#[65]⟩) (frm := B.length) (blob := 99) (data := MM) (HT.out.mono HJ.out) HFB.out (by decide) (by decide) (by omega) (by have := HBL.out; omega) HGB.out H14.out).mono ?_; rintro e w15 ⟨rfl, hz, S15⟩
              have H15 := hid S15
              clear S15 H14 hz
              go_wp2_with fail
              go_ret
              exact ⟨rfl, H15.out.toBelow HJ.out⟩
theorem tapefmtTorn_walk (la : Option Addr) (len cap : Nat) (cs : Array Value) (fl : Int) (ca : Option Addr) (zl cc : Nat) (w : World) (hT : Rd (wpart w) (some ⟨0, 0, none⟩) tabV) (hl : OkT Tryd.prog w 6 43 [.slice la len cap]) (hz : cs.size = Tryd.prog.cellsOf 24) (hm : OkT Tryd.prog w 6 24 cs.toList) (hw1 : (Lit.int .i64 fl).wf = true) (hc : OkT Tryd.prog w 6 44 [.slice ca zl cc]) :
    Calls Tryd.prog 7 #[.slice la len cap, .agg cs, .int .i64 fl, .slice ca zl cc] w (RetB (.bool true) w.heap.size w) := by
  obtain ⟨h1, h2, h3, bs, e1, e2, e3⟩ := okT_blobs hl
  obtain ⟨x, hx, rfl⟩ := blob_agg hz hm
  obtain ⟨k1, k2, zs, k3, k4, k5⟩ := okT_intl hc
  exact tapefmtTorn_walk0 la len cap bs h1 h2 e1 e2 x hx fl ca zl cc zs k3 (by omega) k5 w e3 k4 hT
end Go.Proofs.YtcogjlfdhiomnaaDoor
