/- Libraries on which nothing fails: Write, Read, Erase, Scan of a volume, through its drive. -/
import Derived.Test.YtcogjlfdhiomnaaDoorLibD
import Derived.Test.YtcogjlfdhiomnaaDoorTpC
namespace Go.Proofs.YtcogjlfdhiomnaaDoor
open Go.RowKit
set_option linter.unusedVariables false
set_option maxRecDepth 100000
set_option maxHeartbeats 2000000
theorem mem_setd {l : List Dr} {k : Nat} {d x : Dr} (h : x ∈ l.set k d) : x = d ∨ x ∈ l := by
  rcases List.mem_or_eq_of_mem_set h with h | h
  · exact Or.inr h
  · exact Or.inl h
/-- drives that work, of which none is held; so many Mounts at most. -/
structure Calm (k : Nat) (S : Lst) : Prop where
  any : 0 < S.drs.length
  free : ∀ d ∈ S.drs, d.holds = 0 ∧ d.broken = false
  moves0 : 0 ≤ S.moves
  moves : S.moves ≤ k
  mounts0 : 0 ≤ S.mounts
  mounts : S.mounts ≤ k
theorem Calm.ok {k : Nat} {S : Lst} (h : Calm k S) (hk : k ≤ 1000) : S.ok := ⟨h.moves0, by have := h.moves; omega, h.mounts0, by have := h.mounts; omega⟩
theorem Calm.vols_ {k : Nat} {S : Lst} (h : Calm k S) (vs : List (Nat × Vst)) : Calm k {S with vols := vs} := ⟨h.any, h.free, h.moves0, h.moves, h.mounts0, h.mounts⟩
theorem nextF_some {l : List Dr} (hf : ∀ d ∈ l, d.holds = 0 ∧ d.broken = false) (h0 : 0 < l.length) : ∃ b, nextF l l.length = some b := by
  obtain ⟨k, hk⟩ : ∃ k, l.length = k + 1 := ⟨l.length - 1, by omega⟩
  have hlt : k < l.length := by omega
  have hfr := hf _ (List.getElem_mem hlt)
  rw [hk, nextF_lt2 hlt, if_neg (by rw [hfr.1, hfr.2]; simp)]
  cases nextF l k with
  | none => exact ⟨_, rfl⟩
  | some b => simp only; split <;> exact ⟨_, rfl⟩
theorem Calm.mount {k : Nat} {S : Lst} (h : Calm k S) (hf : fineV S.vols) {i : Nat} (hi : i < S.vols.length) : ∃ N T, mountS S (i : Int) = (N, 0, T) ∧ T.vols = S.vols ∧ Calm (k + 1) T := by
  have m0 := h.mounts0; have m1 := h.mounts; have v0 := h.moves0; have v1 := h.moves
  rw [mountS_fine rfl hf (by omega) (by omega)]
  cases hin : inF S.drs (i : Int) with
  | some n =>
    obtain ⟨hn, _, _⟩ := inF_lt hin
    refine ⟨_, _, rfl, rfl, ⟨by simpa using h.any, fun d hd => ?_, v0, by show S.moves ≤ ((k + 1 : Nat) : Int); omega, by show 0 ≤ S.mounts + 1; omega, by show S.mounts + 1 ≤ ((k + 1 : Nat) : Int); omega⟩⟩
    rcases mem_setd hd with rfl | hd
    · have := h.free _ (List.getElem_mem hn); rw [List.getElem?_eq_getElem hn]; exact this
    · exact h.free d hd
  | none =>
    obtain ⟨b, hb⟩ := nextF_some h.free h.any
    rw [hb]
    refine ⟨_, _, rfl, rfl, ⟨by simpa using h.any, fun d hd => ?_, by show 0 ≤ S.moves + 1; omega, by show S.moves + 1 ≤ ((k + 1 : Nat) : Int); omega, by show 0 ≤ S.mounts + 1; omega, by show S.mounts + 1 ≤ ((k + 1 : Nat) : Int); omega⟩⟩
    rcases mem_setd hd with rfl | hd
    · exact ⟨rfl, rfl⟩
    · exact h.free d hd
/-- what a tape is: its label, how often it was erased, its blobs. -/
structure TV where
  lab : ByteArray
  er : Int
  es : List (Nat × ByteArray)
def tvSet (t : Nat → TV) (i : Nat) (x : TV) : Nat → TV := fun j => if j = i then x else t j
theorem tvSet_eq (t : Nat → TV) (i : Nat) (x : TV) : tvSet t i x i = x := if_pos rfl
theorem tvSet_ne (t : Nat → TV) (i : Nat) (x : TV) {j : Nat} (h : j ≠ i) : tvSet t i x j = t j := if_neg h
def TVat (room : Int) (x : TV) (p : Nat) (y : Nat × Vst) : Prop := ∃ sure at_, TpOk x.lab x.er room x.es sure at_ ∧ y = (p, tpv x.lab x.er room x.es sure at_)
/-- the volumes are these tapes. -/
structure VsOk (room : Int) (ps : List Nat) (t : Nat → TV) (vs : List (Nat × Vst)) : Prop where
  len : vs.length = ps.length
  get : ∀ j (h : j < ps.length) (h2 : j < vs.length), TVat room (t j) ps[j] vs[j]
theorem VsOk.fine {room : Int} {ps : List Nat} {t : Nat → TV} {vs : List (Nat × Vst)} (h : VsOk room ps t vs) : fineV vs := by
  intro x hx
  obtain ⟨j, hj, rfl⟩ := List.getElem_of_mem hx
  obtain ⟨s, a, _, e⟩ := h.get j (by rw [← h.len]; exact hj) hj
  rw [e]; rfl
theorem VsOk.set {room : Int} {ps : List Nat} {t : Nat → TV} {vs : List (Nat × Vst)} (h : VsOk room ps t vs) {i : Nat} (hi : i < ps.length) {x : TV} {y : Nat × Vst} (hx : TVat room x ps[i] y) : VsOk room ps (tvSet t i x) (vs.set i y) := by
  refine ⟨by simpa using h.len, fun j hj h2 => ?_⟩
  by_cases e : i = j
  · subst e
    rw [tvSet_eq, List.getElem_set_self]; exact hx
  · rw [tvSet_ne _ _ _ (fun x => e x.symm), List.getElem_set_ne e]
    exact h.get j hj (by simpa using h2)
theorem VsOk.same {room : Int} {ps : List Nat} {t : Nat → TV} {vs : List (Nat × Vst)} (h : VsOk room ps t vs) {i : Nat} (hi : i < ps.length) {y : Nat × Vst} (hx : TVat room (t i) ps[i] y) : VsOk room ps t (vs.set i y) := by
  have h2 := h.set hi hx
  have e : tvSet t i (t i) = t := by funext j; unfold tvSet; split <;> simp_all
  rw [e] at h2; exact h2
theorem VsOk.at_ {room : Int} {ps : List Nat} {t : Nat → TV} {vs : List (Nat × Vst)} (h : VsOk room ps t vs) {i p : Nat} (hp : ps[i]? = some p) : ∃ sure at_, TpOk (t i).lab (t i).er room (t i).es sure at_ ∧ vs[i]? = some (p, tpv (t i).lab (t i).er room (t i).es sure at_) := by
  obtain ⟨hi, rfl⟩ := List.getElem?_eq_some_iff.1 hp
  have hi2 : i < vs.length := by rw [h.len]; exact hi
  obtain ⟨s, a, k, e⟩ := h.get i hi hi2
  exact ⟨s, a, k, by rw [List.getElem?_eq_getElem hi2, e]⟩
theorem VsOk.put {room : Int} {ps : List Nat} {t : Nat → TV} {vs : List (Nat × Vst)} (h : VsOk room ps t vs) {i p : Nat} (hp : ps[i]? = some p) (lab : ByteArray) (er : Int) (es : List (Nat × ByteArray)) {sure at_ : Nat} (hk : TpOk lab er room es sure at_) : VsOk room ps (tvSet t i ⟨lab, er, es⟩) (vs.set i (p, tpv lab er room es sure at_)) := by
  obtain ⟨hi, rfl⟩ := List.getElem?_eq_some_iff.1 hp
  exact h.set hi ⟨sure, at_, hk, rfl⟩
theorem VsOk.keep {room : Int} {ps : List Nat} {t : Nat → TV} {vs : List (Nat × Vst)} (h : VsOk room ps t vs) {i p : Nat} (hp : ps[i]? = some p) {sure at_ : Nat} (hk : TpOk (t i).lab (t i).er room (t i).es sure at_) : VsOk room ps t (vs.set i (p, tpv (t i).lab (t i).er room (t i).es sure at_)) := by
  obtain ⟨hi, rfl⟩ := List.getElem?_eq_some_iff.1 hp
  exact h.same hi ⟨sure, at_, hk, rfl⟩
/-- a library on which nothing fails, with these tapes. -/
def libV (room : Int) (q k : Nat) (ps : List Nat) (t : Nat → TV) : HP := fun g => ∃ S : Lst, VsOk room ps t S.vols ∧ Calm k S ∧ libp q S g
section
variable {w0 w : World} {I : Part} {L : List HP} {q k : Nat} {room : Int} {ps : List Nat} {t : Nat → TV}
theorem Sat.libVo (H : Sat w0 I (libV room q k ps t :: L) w) : ∃ S : Lst, VsOk room ps t S.vols ∧ Calm k S ∧ Sat w0 I (libp q S :: L) w := by
  obtain ⟨g, ⟨S, h1, h2, h3⟩, hle, hput⟩ := H.elim
  exact ⟨S, h1, h2, hput _ h3⟩
theorem Sat.toLibV {S : Lst} (h1 : VsOk room ps t S.vols) (h2 : Calm k S) (H : Sat w0 I (libp q S :: L) w) : Sat w0 I (libV room q k ps t :: L) w := H.weaken fun g h => ⟨S, h1, h2, h⟩
theorem ptrs_set {l : List (Nat × Vst)} {i p : Nat} {v v' : Vst} (hi : l[i]? = some (p, v)) : ptrs (l.set i (p, v')) = ptrs l := by
  unfold ptrs
  rw [List.map_set]
  apply List.ext_getElem?
  intro j
  rw [List.getElem?_set]
  split
  · rename_i e; subst e
    split
    · rw [List.getElem?_map, hi]; rfl
    · rename_i h; rw [List.getElem?_eq_none (by omega)]
  · rfl
/-- the volume's own, and the rest of the library. -/
def libR (q : Nat) (S : Lst) (i : Nat) : HP := fun g => ∃ av cv ad cd, sepL [volsB S.vols i, blk q 103 (lcells S (.slice av S.vols.length cv) (.slice ad S.drs.length cd)), row 26 1 (.slice av S.vols.length cv) S.vols.length (ptrs S.vols), row 105 4 (.slice ad S.drs.length cd) S.drs.length (S.drs.flatMap dc)] g
theorem Sat.libSplit {S : Lst} {i p : Nat} {v : Vst} (hi : S.vols[i]? = some (p, v)) (H : Sat w0 I (libp q S :: L) w) : Sat w0 I (volp p v :: libR q S i :: L) w := by
  obtain ⟨av, cv, ad, cd, _, _, _, _, H1⟩ := H.libOpen
  have H2 := (H1.pick 3).volTake i hi
  have H3 : Sat w0 I (volsB S.vols i :: blk q 103 (lcells S (.slice av S.vols.length cv) (.slice ad S.drs.length cd)) :: row 26 1 (.slice av S.vols.length cv) S.vols.length (ptrs S.vols) :: row 105 4 (.slice ad S.drs.length cd) S.drs.length (S.drs.flatMap dc) :: volp p v :: L) w := (((H2.pick 4).pick 4).pick 4).pick 4
  have H4 := H3.of (M := [_, _, _, _]) (B := libR q S i) fun g s => ⟨av, cv, ad, cd, s⟩
  exact H4.swap
theorem Sat.libUnsplit {S : Lst} {i p : Nat} {v v' : Vst} (hi : S.vols[i]? = some (p, v)) (H : Sat w0 I (volp p v' :: libR q S i :: L) w) : Sat w0 I (libp q {S with vols := S.vols.set i (p, v')} :: L) w := by
  obtain ⟨g, hg, ⟨av, cv, ad, cd, s⟩, r⟩ := H.swap.sep
  have h2 : Sat w0 I (sepL [_, _, _, _] :: volp p v' :: L) w := ⟨H.os, H.tape, H.output, H.size, H.imm, g, hg, s, r⟩
  have h3 := h2.flat
  have h4 : Sat w0 I (volp p v' :: volsB S.vols i :: blk q 103 (lcells S (.slice av S.vols.length cv) (.slice ad S.drs.length cd)) :: row 26 1 (.slice av S.vols.length cv) S.vols.length (ptrs S.vols) :: row 105 4 (.slice ad S.drs.length cd) S.drs.length (S.drs.flatMap dc) :: L) w := h3.pick 4
  have h5 := h4.volPut hi
  have h6 := ((h5.pick 3).pick 3).pick 3
  rw [← ptrs_set (v' := v') hi] at h6
  exact Sat.libShut (T := {S with vols := S.vols.set i (p, v')}) (by simp) rfl h6
end
/-! ### the operations, as closures -/
section
variable {w0 w : World} {I : Part} {L : List HP} {q k p a b c i : Nat} {room : Int} {ps : List Nat} {t : Nat → TV} {lab : ByteArray} {er : Int} {es : List (Nat × ByteArray)} {sure at_ : Nat}
theorem lw1_sat (hT : Rd I (some ⟨0, 0, none⟩) tabV) (h : TpOk lab er room es sure at_) (blob : Nat) (data : ByteArray) (he : okE (blob, data)) (hn : es.length ≤ 10) {F : Int} (hF : ((tapeB lab es).length : Int) = F) (H : Sat w0 I (volp p (tpv lab er room es sure at_) :: blk a 22 [.int .u64 (blob : Int)] :: blk b 9 [.string data] :: blk c 3 [.int .i64 0] :: L) w) :
    Calls Tryd.prog 61 #[.pointer (some ⟨p, 0, none⟩), .pointer (some ⟨a, 0, none⟩), .pointer (some ⟨b, 0, none⟩), .pointer (some ⟨c, 0, none⟩)] w fun e w' => e = .returned (.int .i64 0) ∧ Sat w0 I (volp p (tpv lab er room (es ++ [(blob, data)]) (tapeB lab (es ++ [(blob, data)])).length (tapeB lab (es ++ [(blob, data)])).length) :: blk a 22 [.int .u64 (blob : Int)] :: blk b 9 [.string data] :: blk c 3 [.int .i64 F] :: L) w' := by
  have HT := hid hT
  have HP := hid h
  have HE := hid he
  have HF := hid hF
  have c0 := (H.pick 1).isBlk.cell 0 (v := .int .u64 (blob : Int)) rfl
  have c1 := (H.pick 2).isBlk.cell 0 (v := .string data) rfl
  have HS := hid H
  clear hT h he hF H
  go_enter Tryd.func61, Tryd.ntmps61
  go_wp2_with fail
  refine (twrite_tp HT.out HP.out blob data HE.out hn HF.out HS.out).mono ?_; rintro e w1 ⟨rfl, S1⟩
  have c2 := (S1.pick 3).isBlk.cell 0 (v := .int .i64 0) rfl
  have f2 := (S1.pick 3).isBlk.frozen 0
  have H1 := hid S1
  clear S1 HS c0 c1
  go_wp2_with fail
  go_ret
  exact ⟨rfl, H1.out.set3 0 _ rfl⟩
theorem lr1_sat (hT : Rd I (some ⟨0, 0, none⟩) tabV) (h : TpOk lab er room es sure at_) (j : Nat) {blob : Nat} {data : ByteArray} (hj : es[j]? = some (blob, data)) {frm : Nat} (hf : tapeAt lab es j = frm) (H : Sat w0 I (volp p (tpv lab er room es sure at_) :: blk a 3 [.int .i64 (frm : Int)] :: blk b 22 [.int .u64 (blob : Int)] :: blk c 9 [.string ⟨#[]⟩] :: L) w) :
    Calls Tryd.prog 63 #[.pointer (some ⟨p, 0, none⟩), .pointer (some ⟨a, 0, none⟩), .pointer (some ⟨b, 0, none⟩), .pointer (some ⟨c, 0, none⟩)] w fun e w' => e = .returned (.int .i64 0) ∧ ∃ at2, TpOk lab er room es sure at2 ∧ Sat w0 I (volp p (tpv lab er room es sure at2) :: blk a 3 [.int .i64 (frm : Int)] :: blk b 22 [.int .u64 (blob : Int)] :: blk c 9 [.string data] :: L) w' := by
  have HT := hid hT
  have HP := hid h
  have HJ := hid hj
  have HF := hid hf
  have c0 := (H.pick 1).isBlk.cell 0 (v := .int .i64 (frm : Int)) rfl
  have c1 := (H.pick 2).isBlk.cell 0 (v := .int .u64 (blob : Int)) rfl
  have HS := hid H
  clear hT h hj hf H
  go_enter Tryd.func63, Tryd.ntmps63
  go_wp2_with fail
  refine (tread_tp HT.out HP.out j HJ.out HF.out HS.out).mono ?_; rintro e w1 ⟨rfl, at2, hok, S1⟩
  have c2 := (S1.pick 3).isBlk.cell 0 (v := .string ⟨#[]⟩) rfl
  have f2 := (S1.pick 3).isBlk.frozen 0
  have HOK := hid hok
  have H1 := hid S1
  clear S1 HS c0 c1 hok
  go_wp2_with fail
  go_ret
  exact ⟨rfl, at2, HOK.out, H1.out.set3 0 _ rfl⟩
theorem tp_erase (h : TpOk lab er room es sure at_) {l2 : ByteArray} (hl : l2.size ≤ 32) (her : er ≤ 900000) : eraseS (tpv lab er room es sure at_) l2 = (0, tpv l2 (er + 1) room [] 0 0) ∧ TpOk l2 (er + 1) room [] 0 0 := by
  refine ⟨?_, ⟨hl, by have := h.her; omega, h.hroom, fun e he => (by cases he), by simp, Nat.zero_le _, Nat.zero_le _⟩⟩
  simp [eraseS, tpv, lv, tryE, tryV, tryA, cutV, tapeB]
theorem le1_sat (h : TpOk lab er room es sure at_) (her : er ≤ 900000) {l2 : ByteArray} (hl : l2.size ≤ 32) (H : Sat w0 I (volp p (tpv lab er room es sure at_) :: blk a 9 [.string l2] :: L) w) :
    Calls Tryd.prog 62 #[.pointer (some ⟨p, 0, none⟩), .pointer (some ⟨a, 0, none⟩)] w fun e w' => e = .returned (.int .i64 0) ∧ Sat w0 I (volp p (tpv l2 (er + 1) room [] 0 0) :: blk a 9 [.string l2] :: L) w' := by
  have HP := hid h.fit.ok
  have HE := hid (tp_erase h hl her).1
  have c0 := (H.pick 1).isBlk.cell 0 (v := .string l2) rfl
  have HS := hid H
  clear h hl H
  go_enter Tryd.func62, Tryd.ntmps62
  go_wp2_with fail
  refine (verase l2 HP.out HE.out HS.out).mono ?_; rintro e w1 ⟨rfl, S1⟩
  have H1 := hid S1
  clear S1 HS c0
  go_wp2_with fail
  go_ret
  exact ⟨rfl, H1.out⟩
theorem ls1_sat (hT : Rd I (some ⟨0, 0, none⟩) tabV) (h : TpOk lab er room es sure at_) (H : Sat w0 I (volp p (tpv lab er room es sure at_) :: blk a 49 [.slice none 0 0] :: L) w) :
    Calls Tryd.prog 64 #[.pointer (some ⟨p, 0, none⟩), .pointer (some ⟨a, 0, none⟩)] w fun e w' => e = .returned (.int .i64 0) ∧ ∃ J ad cap at2, I.le J ∧ TpOk lab er room es sure at2 ∧ es.length ≤ cap ∧ cap ≤ 9223372036854775807 ∧ Sat w0 J (volp p (tpv lab er room es sure at2) :: blk a 49 [.slice ad es.length cap] :: L) w' := by
  have HT := hid hT
  have HP := hid h
  have HSC := hid (tape_scan (er := er) (room := room) (sure := sure) h.hlab es h.hes h.hlen)
  have HS := hid H
  have hl := h.hlen
  clear hT h H
  go_enter Tryd.func64, Tryd.ntmps64
  go_wp2_with fail
  refine (scan_sat HT.out HP.out.fit (NN := 2 * es.length) (by omega) HSC.out HS.out).mono ?_
  rintro e w1 ⟨J, ad, cap, at2, rfl, d1, d2, hJ, hrd, hat, S1⟩
  have hlen : ((itsT lab es es.length, (tapeB lab es).length - 1) : List Itm × Nat).1.length = es.length := itsT_len lab es es.length
  rw [hlen] at d1 ⊢
  have c2 := (S1.pick 1).isBlk.cell 0 (v := .slice none 0 0) rfl
  have f2 := (S1.pick 1).isBlk.frozen 0
  have HJ := hid hJ
  have HA := hid hat
  have H1 := hid S1
  clear S1 HS hJ hat hrd hlen
  go_wp2_with fail
  go_ret
  exact ⟨rfl, J, ad, cap, at2, HJ.out, ⟨HP.out.hlab, HP.out.her, HP.out.hroom, HP.out.hes, HP.out.hlen, HP.out.hsure, HA.out⟩, d1, d2, H1.out.set1 0 _ rfl⟩
/-! ### mounted -/
theorem lmw_sat (hT : Rd I (some ⟨0, 0, none⟩) tabV) (hk : k ≤ 1000) (hp : ps[i]? = some p) (blob : Nat) (data : ByteArray) (he : okE (blob, data)) (hn : (t i).es.length ≤ 10) {F : Int} (hF : ((tapeB (t i).lab (t i).es).length : Int) = F) (H : Sat w0 I (libV room q k ps t :: blk a 22 [.int .u64 (blob : Int)] :: blk b 9 [.string data] :: blk c 3 [.int .i64 0] :: L) w) :
    Calls Tryd.prog 60 #[.pointer (some ⟨q, 0, none⟩), .int .i64 (i : Int), .func (.func 61) #[] #[.pointer (some ⟨a, 0, none⟩), .pointer (some ⟨b, 0, none⟩), .pointer (some ⟨c, 0, none⟩)]] w fun e w' => e = .returned (.int .i64 0) ∧
      Sat w0 I (libV room q (k + 1) ps (tvSet t i ⟨(t i).lab, (t i).er, (t i).es ++ [(blob, data)]⟩) :: blk a 22 [.int .u64 (blob : Int)] :: blk b 9 [.string data] :: blk c 3 [.int .i64 F] :: L) w' := by
  have HT := hid hT
  have HE := hid he
  have HF := hid hF
  clear hT he hF
  obtain ⟨S, hvs, hcm, HL0⟩ := H.libVo
  have hi := (List.getElem?_eq_some_iff.1 hp).1
  have hlt : i < S.vols.length := by rw [hvs.len]; exact hi
  obtain ⟨N, T, hA, hTv, hTC⟩ := hcm.mount hvs.fine hlt
  have HOK := hid (hcm.ok hk)
  rw [← hTv] at hvs hlt
  obtain ⟨sure, at_, htp, hTi⟩ := hvs.at_ hp
  have HVS := hid hvs
  have HTC := hid hTC
  have HTI := hid hTi
  have HA := hid hA
  have HTP := hid htp
  have H0 := hid HL0
  have HPS := hid hp
  clear hvs hcm HL0 hA hTv hTC hTi htp H hp
  go_enter Tryd.func60, Tryd.ntmps60
  go_wp2_with fail
  refine (lmount_sat HOK.out HA.out H0.out).mono ?_; rintro e w1 ⟨rfl, S1⟩
  obtain ⟨av, cv, ad, cd, k1, k2, k3, k4, S2⟩ := S1.libOpen
  obtain ⟨g, cap', hsv, c1⟩ := row1 (S2.pick 1) i hlt
  cases hsv
  have hTi2 : T.vols[i] = (p, tpv (t i).lab (t i).er room (t i).es sure at_) := (List.getElem?_eq_some_iff.1 HTI.out).2
  rw [hTi2] at c1
  have c0 : w1.cell? ⟨q, 0, none⟩ = some (.slice (some ⟨g, 0, none⟩) T.vols.length cv) := S2.isBlk.cell 0 rfl
  have hi1 : (i : Int) < (T.vols.length : Int) := by omega
  have hi0 : (0 : Int) ≤ (i : Int) := by omega
  have HS1 := S1.libSplit HTI.out
  clear S1 S2 H0 hTi2
  have H1 := hid ((((HS1.pick 4).pick 4).pick 4).pick 3)
  clear HS1
  go_wp2_with fail
  refine (lw1_sat HT.out HTP.out blob data HE.out hn HF.out H1.out).mono ?_; rintro e w2 ⟨rfl, S2⟩
  have H2 := hid S2
  clear S2 H1
  go_wp2_with fail
  go_ret
  exact ⟨rfl, Sat.toLibV (S := {T with vols := T.vols.set i _}) (HVS.out.put HPS.out _ _ _ (HTP.out.snoc HE.out hn)) (HTC.out.vols_ _) (((H2.out.pick 4).swap).libUnsplit HTI.out)⟩
theorem lmr_sat (hT : Rd I (some ⟨0, 0, none⟩) tabV) (hk : k ≤ 1000) (hp : ps[i]? = some p) (j : Nat) {blob : Nat} {data : ByteArray} (hj : (t i).es[j]? = some (blob, data)) {frm : Nat} (hf : tapeAt (t i).lab (t i).es j = frm) (H : Sat w0 I (libV room q k ps t :: blk a 3 [.int .i64 (frm : Int)] :: blk b 22 [.int .u64 (blob : Int)] :: blk c 9 [.string ⟨#[]⟩] :: L) w) :
    Calls Tryd.prog 60 #[.pointer (some ⟨q, 0, none⟩), .int .i64 (i : Int), .func (.func 63) #[] #[.pointer (some ⟨a, 0, none⟩), .pointer (some ⟨b, 0, none⟩), .pointer (some ⟨c, 0, none⟩)]] w fun e w' => e = .returned (.int .i64 0) ∧
      Sat w0 I (libV room q (k + 1) ps t :: blk a 3 [.int .i64 (frm : Int)] :: blk b 22 [.int .u64 (blob : Int)] :: blk c 9 [.string data] :: L) w' := by
  have HT := hid hT
  have HJ := hid hj
  have HF := hid hf
  clear hT hj hf
  obtain ⟨S, hvs, hcm, HL0⟩ := H.libVo
  have hi := (List.getElem?_eq_some_iff.1 hp).1
  have hlt : i < S.vols.length := by rw [hvs.len]; exact hi
  obtain ⟨N, T, hA, hTv, hTC⟩ := hcm.mount hvs.fine hlt
  have HOK := hid (hcm.ok hk)
  rw [← hTv] at hvs hlt
  obtain ⟨sure, at_, htp, hTi⟩ := hvs.at_ hp
  have HVS := hid hvs
  have HTC := hid hTC
  have HTI := hid hTi
  have HA := hid hA
  have HTP := hid htp
  have H0 := hid HL0
  have HPS := hid hp
  clear hvs hcm HL0 hA hTv hTC hTi htp H hp
  go_enter Tryd.func60, Tryd.ntmps60
  go_wp2_with fail
  refine (lmount_sat HOK.out HA.out H0.out).mono ?_; rintro e w1 ⟨rfl, S1⟩
  obtain ⟨av, cv, ad, cd, k1, k2, k3, k4, S2⟩ := S1.libOpen
  obtain ⟨g, cap', hsv, c1⟩ := row1 (S2.pick 1) i hlt
  cases hsv
  have hTi2 : T.vols[i] = (p, tpv (t i).lab (t i).er room (t i).es sure at_) := (List.getElem?_eq_some_iff.1 HTI.out).2
  rw [hTi2] at c1
  have c0 : w1.cell? ⟨q, 0, none⟩ = some (.slice (some ⟨g, 0, none⟩) T.vols.length cv) := S2.isBlk.cell 0 rfl
  have hi1 : (i : Int) < (T.vols.length : Int) := by omega
  have hi0 : (0 : Int) ≤ (i : Int) := by omega
  have HS1 := S1.libSplit HTI.out
  clear S1 S2 H0 hTi2
  have H1 := hid ((((HS1.pick 4).pick 4).pick 4).pick 3)
  clear HS1
  go_wp2_with fail
  refine (lr1_sat HT.out HTP.out j HJ.out HF.out H1.out).mono ?_; rintro e w2 ⟨rfl, at2, hok, S2⟩
  have H2 := hid S2
  have HOK2 := hid hok
  clear S2 H1 hok
  go_wp2_with fail
  go_ret
  exact ⟨rfl, Sat.toLibV (S := {T with vols := T.vols.set i _}) (HVS.out.keep HPS.out HOK2.out) (HTC.out.vols_ _) (((H2.out.pick 4).swap).libUnsplit HTI.out)⟩
theorem lme_sat (hk : k ≤ 1000) (hp : ps[i]? = some p) (her : (t i).er ≤ 900000) {l2 : ByteArray} (hl : l2.size ≤ 32) (H : Sat w0 I (libV room q k ps t :: blk a 9 [.string l2] :: L) w) :
    Calls Tryd.prog 60 #[.pointer (some ⟨q, 0, none⟩), .int .i64 (i : Int), .func (.func 62) #[] #[.pointer (some ⟨a, 0, none⟩)]] w fun e w' => e = .returned (.int .i64 0) ∧
      Sat w0 I (libV room q (k + 1) ps (tvSet t i ⟨l2, (t i).er + 1, []⟩) :: blk a 9 [.string l2] :: L) w' := by
  have HL2 := hid hl
  have HER := hid her
  clear hl her
  obtain ⟨S, hvs, hcm, HL0⟩ := H.libVo
  have hi := (List.getElem?_eq_some_iff.1 hp).1
  have hlt : i < S.vols.length := by rw [hvs.len]; exact hi
  obtain ⟨N, T, hA, hTv, hTC⟩ := hcm.mount hvs.fine hlt
  have HOK := hid (hcm.ok hk)
  rw [← hTv] at hvs hlt
  obtain ⟨sure, at_, htp, hTi⟩ := hvs.at_ hp
  have HVS := hid hvs
  have HTC := hid hTC
  have HTI := hid hTi
  have HA := hid hA
  have HTP := hid htp
  have H0 := hid HL0
  have HPS := hid hp
  clear hvs hcm HL0 hA hTv hTC hTi htp H hp
  go_enter Tryd.func60, Tryd.ntmps60
  go_wp2_with fail
  refine (lmount_sat HOK.out HA.out H0.out).mono ?_; rintro e w1 ⟨rfl, S1⟩
  obtain ⟨av, cv, ad, cd, k1, k2, k3, k4, S2⟩ := S1.libOpen
  obtain ⟨g, cap', hsv, c1⟩ := row1 (S2.pick 1) i hlt
  cases hsv
  have hTi2 : T.vols[i] = (p, tpv (t i).lab (t i).er room (t i).es sure at_) := (List.getElem?_eq_some_iff.1 HTI.out).2
  rw [hTi2] at c1
  have c0 : w1.cell? ⟨q, 0, none⟩ = some (.slice (some ⟨g, 0, none⟩) T.vols.length cv) := S2.isBlk.cell 0 rfl
  have hi1 : (i : Int) < (T.vols.length : Int) := by omega
  have hi0 : (0 : Int) ≤ (i : Int) := by omega
  have HS1 := S1.libSplit HTI.out
  clear S1 S2 H0 hTi2
  have H1 := hid ((HS1.pick 2).swap)
  clear HS1
  go_wp2_with fail
  refine (le1_sat HTP.out HER.out HL2.out H1.out).mono ?_; rintro e w2 ⟨rfl, S2⟩
  have H2 := hid S2
  clear S2 H1
  go_wp2_with fail
  go_ret
  exact ⟨rfl, Sat.toLibV (S := {T with vols := T.vols.set i _}) (HVS.out.put HPS.out _ _ _ (tp_erase HTP.out HL2.out HER.out).2) (HTC.out.vols_ _) (((H2.out.pick 2).swap).libUnsplit HTI.out)⟩
theorem lms_sat (hT : Rd I (some ⟨0, 0, none⟩) tabV) (hk : k ≤ 1000) (hp : ps[i]? = some p) (H : Sat w0 I (libV room q k ps t :: blk a 49 [.slice none 0 0] :: L) w) :
    Calls Tryd.prog 60 #[.pointer (some ⟨q, 0, none⟩), .int .i64 (i : Int), .func (.func 64) #[] #[.pointer (some ⟨a, 0, none⟩)]] w fun e w' => e = .returned (.int .i64 0) ∧ ∃ J ad cap, I.le J ∧ (t i).es.length ≤ cap ∧ cap ≤ 9223372036854775807 ∧
      Sat w0 J (libV room q (k + 1) ps t :: blk a 49 [.slice ad (t i).es.length cap] :: L) w' := by
  have HT := hid hT
  clear hT
  obtain ⟨S, hvs, hcm, HL0⟩ := H.libVo
  have hi := (List.getElem?_eq_some_iff.1 hp).1
  have hlt : i < S.vols.length := by rw [hvs.len]; exact hi
  obtain ⟨N, T, hA, hTv, hTC⟩ := hcm.mount hvs.fine hlt
  have HOK := hid (hcm.ok hk)
  rw [← hTv] at hvs hlt
  obtain ⟨sure, at_, htp, hTi⟩ := hvs.at_ hp
  have HVS := hid hvs
  have HTC := hid hTC
  have HTI := hid hTi
  have HA := hid hA
  have HTP := hid htp
  have H0 := hid HL0
  have HPS := hid hp
  clear hvs hcm HL0 hA hTv hTC hTi htp H hp
  go_enter Tryd.func60, Tryd.ntmps60
  go_wp2_with fail
  refine (lmount_sat HOK.out HA.out H0.out).mono ?_; rintro e w1 ⟨rfl, S1⟩
  obtain ⟨av, cv, ad, cd, k1, k2, k3, k4, S2⟩ := S1.libOpen
  obtain ⟨g, cap', hsv, c1⟩ := row1 (S2.pick 1) i hlt
  cases hsv
  have hTi2 : T.vols[i] = (p, tpv (t i).lab (t i).er room (t i).es sure at_) := (List.getElem?_eq_some_iff.1 HTI.out).2
  rw [hTi2] at c1
  have c0 : w1.cell? ⟨q, 0, none⟩ = some (.slice (some ⟨g, 0, none⟩) T.vols.length cv) := S2.isBlk.cell 0 rfl
  have hi1 : (i : Int) < (T.vols.length : Int) := by omega
  have hi0 : (0 : Int) ≤ (i : Int) := by omega
  have HS1 := S1.libSplit HTI.out
  clear S1 S2 H0 hTi2
  have H1 := hid ((HS1.pick 2).swap)
  clear HS1
  go_wp2_with fail
  refine (ls1_sat HT.out HTP.out H1.out).mono ?_; rintro e w2 ⟨rfl, J, ad2, cap2, at2, hJ, hok, d1, d2, S2⟩
  have H2 := hid S2
  have HOK2 := hid hok
  have HJ := hid hJ
  clear S2 H1 hok hJ
  go_wp2_with fail
  go_ret
  exact ⟨rfl, J, ad2, cap2, HJ.out, d1, d2, Sat.toLibV (S := {T with vols := T.vols.set i _}) (HVS.out.keep HPS.out HOK2.out) (HTC.out.vols_ _) (((H2.out.pick 2).swap).libUnsplit HTI.out)⟩
end
/-! ### Write, Read, Erase, Scan -/
section
variable {w0 w : World} {I : Part} {L : List HP} {q k p i : Nat} {room : Int} {ps : List Nat} {t : Nat → TV}
theorem lwriteV (hT : Rd I (some ⟨0, 0, none⟩) tabV) (hk : k ≤ 1000) (hp : ps[i]? = some p) {V : Int} (hV : V = (i : Int)) (blob : Nat) (data : ByteArray) (he : okE (blob, data)) (hn : (t i).es.length ≤ 10) {F : Int} (hF : ((tapeB (t i).lab (t i).es).length : Int) = F) (H : Sat w0 I (libV room q k ps t :: L) w) :
    Calls Tryd.prog 30 #[.pointer (some ⟨q, 0, none⟩), .int .i64 V, .int .u64 (blob : Int), .string data] w fun e w' => e = .returned (.tuple #[.int .i64 F, .int .i64 0]) ∧
      Sat w0 I (libV room q (k + 1) ps (tvSet t i ⟨(t i).lab, (t i).er, (t i).es ++ [(blob, data)]⟩) :: L) w' := by
  subst hV
  have HT := hid hT
  have HE := hid he
  have HF := hid hF
  have HPS := hid hp
  obtain ⟨g, hg⟩ := H.sizeEx
  have S1 := H.alloc (b := g) (T := 22) (cs := [.int .u64 (blob : Int)]) rfl hg.symm
  have S2 := S1.alloc (b := g + 1) (T := 9) (cs := [.string data]) rfl (by simp [hg])
  have S3 := S2.alloc (b := g + 1 + 1) (T := 3) (cs := [.int .i64 0]) rfl (by simp [hg])
  have c3 := S3.isBlk.cell 0 (v := .int .i64 0) rfl
  have f3 := S3.isBlk.frozen 0
  have H4 := hid (((S3.pick 1).pick 2).pick 3)
  clear S1 S2 S3 H hT he hF hp
  go_enter Tryd.func30, Tryd.ntmps30
  go_wp2_with fail
  refine (lmw_sat HT.out hk HPS.out blob data HE.out hn HF.out (a := g) (b := g + 1) (c := g + 1 + 1) H4.out).mono ?_; rintro e w5 ⟨rfl, S5⟩
  have c5 := (S5.pick 3).isBlk.cell 0 (v := .int .i64 F) rfl
  have H5 := hid S5
  clear S5 H4 c3 f3 hg
  go_wp2_with fail
  go_returns
  exact ⟨rfl, H5.out.swap.drop.swap.drop.swap.drop⟩
theorem lreadV (hT : Rd I (some ⟨0, 0, none⟩) tabV) (hk : k ≤ 1000) (hp : ps[i]? = some p) {V : Int} (hV : V = (i : Int)) (j : Nat) {blob : Nat} {data : ByteArray} (hj : (t i).es[j]? = some (blob, data)) {frm : Nat} (hf : tapeAt (t i).lab (t i).es j = frm) (H : Sat w0 I (libV room q k ps t :: L) w) :
    Calls Tryd.prog 33 #[.pointer (some ⟨q, 0, none⟩), .int .i64 V, .int .i64 (frm : Int), .int .u64 (blob : Int)] w fun e w' => e = .returned (.tuple #[.string data, .int .i64 0]) ∧ Sat w0 I (libV room q (k + 1) ps t :: L) w' := by
  subst hV
  have HT := hid hT
  have HJ := hid hj
  have HF := hid hf
  have HPS := hid hp
  obtain ⟨g, hg⟩ := H.sizeEx
  have S1 := H.alloc (b := g) (T := 3) (cs := [.int .i64 (frm : Int)]) rfl hg.symm
  have S2 := S1.alloc (b := g + 1) (T := 22) (cs := [.int .u64 (blob : Int)]) rfl (by simp [hg])
  have S3 := S2.alloc (b := g + 1 + 1) (T := 9) (cs := [.string ⟨#[]⟩]) rfl (by simp [hg])
  have c3 := S3.isBlk.cell 0 (v := .string ⟨#[]⟩) rfl
  have f3 := S3.isBlk.frozen 0
  have H4 := hid (((S3.pick 1).pick 2).pick 3)
  clear S1 S2 S3 H hT hj hf hp
  go_enter Tryd.func33, Tryd.ntmps33
  go_wp2_with fail
  refine (lmr_sat HT.out hk HPS.out j HJ.out HF.out (a := g) (b := g + 1) (c := g + 1 + 1) H4.out).mono ?_; rintro e w5 ⟨rfl, S5⟩
  have c5 := (S5.pick 3).isBlk.cell 0 (v := .string data) rfl
  have H5 := hid S5
  clear S5 H4 c3 f3 hg
  go_wp2_with fail
  go_returns
  exact ⟨rfl, H5.out.swap.drop.swap.drop.swap.drop⟩
theorem leraseV (hk : k ≤ 1000) (hp : ps[i]? = some p) {V : Int} (hV : V = (i : Int)) (her : (t i).er ≤ 900000) {l2 : ByteArray} (hl : l2.size ≤ 32) (H : Sat w0 I (libV room q k ps t :: L) w) :
    Calls Tryd.prog 32 #[.pointer (some ⟨q, 0, none⟩), .int .i64 V, .string l2] w fun e w' => e = .returned (.int .i64 0) ∧ Sat w0 I (libV room q (k + 1) ps (tvSet t i ⟨l2, (t i).er + 1, []⟩) :: L) w' := by
  subst hV
  have HPS := hid hp
  have HER := hid her
  have HL2 := hid hl
  obtain ⟨g, hg⟩ := H.sizeEx
  have S1 := H.alloc (b := g) (T := 9) (cs := [.string l2]) rfl hg.symm
  have H4 := hid S1.swap
  clear S1 H hp her hl
  go_enter Tryd.func32, Tryd.ntmps32
  go_wp2_with fail
  refine (lme_sat hk HPS.out HER.out HL2.out (a := g) H4.out).mono ?_; rintro e w5 ⟨rfl, S5⟩
  have H5 := hid S5
  clear S5 H4 hg
  go_wp2_with fail
  go_ret
  exact ⟨rfl, H5.out.swap.drop⟩
theorem lscanV (hT : Rd I (some ⟨0, 0, none⟩) tabV) (hk : k ≤ 1000) (hp : ps[i]? = some p) {V : Int} (hV : V = (i : Int)) {M : Nat} (hM : (t i).es.length = M) (H : Sat w0 I (libV room q k ps t :: L) w) :
    Calls Tryd.prog 35 #[.pointer (some ⟨q, 0, none⟩), .int .i64 V] w fun e w' => ∃ ad cap, e = .returned (.tuple #[.slice ad M cap, .int .i64 0]) ∧ M ≤ cap ∧ cap ≤ 9223372036854775807 ∧ Sat w0 I (libV room q (k + 1) ps t :: L) w' := by
  subst hV
  subst hM
  have HT := hid hT
  have HPS := hid hp
  obtain ⟨g, hg⟩ := H.sizeEx
  have S1 := H.alloc (b := g) (T := 49) (cs := [.slice none 0 0]) rfl hg.symm
  have H4 := hid S1.swap
  clear S1 H hp hT
  go_enter Tryd.func35, Tryd.ntmps35
  go_wp2_with fail
  refine (lms_sat HT.out hk HPS.out (a := g) H4.out).mono ?_; rintro e w5 ⟨rfl, J, ad, cap, hJ, d1, d2, S5⟩
  have c5 := S5.swap.isBlk.cell 0 (v := .slice ad (t i).es.length cap) rfl
  have H5 := hid S5
  have HJ := hid hJ
  clear S5 H4 hg hJ
  go_wp2_with fail
  go_returns
  exact ⟨ad, cap, rfl, d1, d2, H5.out.swap.drop.thaw HJ.out⟩
/-! ### what is asked of a volume -/
theorem lvolV (hp : ps[i]? = some p) {V : Int} (hV : V = (i : Int)) (H : Sat w0 I (libV room q k ps t :: L) w) :
    Calls Tryd.prog 31 #[.pointer (some ⟨q, 0, none⟩), .int .i64 V] w fun e w' => e = .returned (.pointer (some ⟨p, 0, none⟩)) ∧ Sat w0 I (libV room q k ps t :: L) w' := by
  obtain ⟨S, hvs, hcm, H1⟩ := H.libVo
  obtain ⟨s, a, htp, hi⟩ := hvs.at_ hp
  exact (lvol_yes i hV hi H1).mono fun e w' ⟨h1, h2⟩ => ⟨h1, Sat.toLibV hvs hcm h2⟩
/-- a volume of the library's, asked for what it says. -/
theorem Sat.libVvol (hp : ps[i]? = some p) (H : Sat w0 I (libV room q k ps t :: L) w) : ∃ M sure at_, TpOk (t i).lab (t i).er room (t i).es sure at_ ∧ Sat w0 I (volp p (tpv (t i).lab (t i).er room (t i).es sure at_) :: M :: L) w ∧
    ∀ w', Sat w0 I (volp p (tpv (t i).lab (t i).er room (t i).es sure at_) :: M :: L) w' → Sat w0 I (libV room q k ps t :: L) w' := by
  obtain ⟨S, hvs, hcm, H1⟩ := H.libVo
  obtain ⟨s, a, htp, hi⟩ := hvs.at_ hp
  exact ⟨libR q S i, s, a, htp, H1.libSplit hi, fun w' h => Sat.toLibV (S := {S with vols := S.vols.set i (p, _)}) (hvs.keep hp htp) ⟨hcm.any, hcm.free, hcm.moves0, hcm.moves, hcm.mounts0, hcm.mounts⟩ (h.libUnsplit hi)⟩
theorem lusedV (hp : ps[i]? = some p) {U : Int} (hU : (wsum (tapeB (t i).lab (t i).es) : Int) = U) (H : Sat w0 I (libV room q k ps t :: L) w) :
    Calls Tryd.prog 15 #[.pointer (some ⟨p, 0, none⟩)] w fun e w' => e = .returned (.int .i64 U) ∧ Sat w0 I (libV room q k ps t :: L) w' := by
  subst hU
  obtain ⟨M, s, a, htp, H1, hb⟩ := H.libVvol hp
  exact (vused H1).mono fun e w' ⟨h1, h2⟩ => ⟨h1, hb w' h2⟩
theorem llabelV (hp : ps[i]? = some p) {B : ByteArray} (hB : (t i).lab = B) (H : Sat w0 I (libV room q k ps t :: L) w) :
    Calls Tryd.prog 34 #[.pointer (some ⟨p, 0, none⟩)] w fun e w' => e = .returned (.string B) ∧ Sat w0 I (libV room q k ps t :: L) w' := by
  subst hB
  obtain ⟨M, s, a, htp, H1, hb⟩ := H.libVvol hp
  exact (vlabel H1).mono fun e w' ⟨h1, h2⟩ => ⟨h1, hb w' h2⟩
/-- a new library. -/
def tv0 : Nat → TV := fun _ => ⟨⟨#[]⟩, 0, []⟩
theorem Sat.libVnew {n m : Nat} (hm : 0 < m) (hl : ps.length = n) (hr : 10000 ≤ room ∧ room ≤ 1000000) (H : Sat w0 I (libp q ⟨ps.zip ((List.replicate n room).map vNew), List.replicate m ⟨-1, 0, 0, false⟩, 0, 0⟩ :: L) w) : Sat w0 I (libV room q 0 ps tv0 :: L) w := by
  refine Sat.toLibV ⟨by simp [hl], fun j hj h2 => ?_⟩ ⟨by simpa using hm, fun d hd => ?_, Int.le_refl _, Int.le_refl _, Int.le_refl _, Int.le_refl _⟩ H
  · refine ⟨0, 0, ⟨by show (⟨#[]⟩ : ByteArray).size ≤ 32; decide, by show (0 : Int) ≤ 0 ∧ (0 : Int) ≤ 1000000; omega, hr, fun e he => (by cases he), by show (0 : Nat) ≤ 11; omega, Nat.zero_le _, Nat.zero_le _⟩, ?_⟩
    simp only [List.getElem_zip, List.getElem_map, List.getElem_replicate]
    have e : max room 0 = room := by omega
    show (ps[j], vNew room) = (ps[j], tpv ⟨#[]⟩ 0 room [] 0 0)
    unfold vNew tpv lv
    rw [e]; rfl
  · have := List.eq_of_mem_replicate hd
    subst this; exact ⟨rfl, rfl⟩
end
theorem and1 (a : Int) : ∃ v : Nat, v ≤ 1 ∧ bits .and .i64 a 1 = (v : Int) := by
  have h := Nat.and_one_is_mod (BitVec.ofInt 64 a).toNat
  refine ⟨(BitVec.ofInt 64 a).toNat &&& 1, by omega, ?_⟩
  show IntKind.i64.wrap ((BitVec.ofInt 64 a &&& BitVec.ofInt 64 1).toNat : Int) = _
  rw [BitVec.toNat_and]
  have e : (BitVec.ofInt 64 1).toNat = 1 := by decide
  rw [e]
  exact IntWalk.i64_in _ (by omega)
end Go.Proofs.YtcogjlfdhiomnaaDoor
