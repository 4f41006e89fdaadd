/- Libraries on which nothing fails: Write, Read, Erase, Scan of a volume, through its drive. -/
import Derived.Test.YtekioplbfoonkaaGreatDoorLibC
import Derived.Test.YtekioplbfoonkaaGreatDoorTpC
namespace Go.Proofs.YtekioplbfoonkaaGreatDoor
open Go.RowKit
set_option linter.unusedVariables false
set_option maxRecDepth 100000
set_option maxHeartbeats 2000000
theorem mem_setd {l : List Dr} {k : Nat} {d x : Dr} (h : x ∈ l.set k d) : x = d ∨ x ∈ l := by
  rcases List.mem_or_eq_of_mem_set h with h | h
  · exact Or.inr h
  · exact Or.inl h
/-- drives that work, of which none is held; so many Mounts at most. -/
structure Calm (k : Nat) (S : Lst) : Prop where
  any : 0 < S.drs.length
  free : ∀ d ∈ S.drs, d.holds = 0 ∧ d.broken = false
  moves0 : 0 ≤ S.moves
  moves : S.moves ≤ k
  mounts0 : 0 ≤ S.mounts
  mounts : S.mounts ≤ k
theorem Calm.ok {k : Nat} {S : Lst} (h : Calm k S) (hk : k ≤ 1000) : S.ok := ⟨h.moves0, by have := h.moves; omega, h.mounts0, by have := h.mounts; omega⟩
theorem Calm.vols_ {k : Nat} {S : Lst} (h : Calm k S) (vs : List (Nat × Vst)) : Calm k {S with vols := vs} := ⟨h.any, h.free, h.moves0, h.moves, h.mounts0, h.mounts⟩
theorem nextF_some {l : List Dr} (hf : ∀ d ∈ l, d.holds = 0 ∧ d.broken = false) (h0 : 0 < l.length) : ∃ b, nextF l l.length = some b := by
  obtain ⟨k, hk⟩ : ∃ k, l.length = k + 1 := ⟨l.length - 1, by omega⟩
  have hlt : k < l.length := by omega
  have hfr := hf _ (List.getElem_mem hlt)
  rw [hk, nextF_lt2 hlt, if_neg (by rw [hfr.1, hfr.2]; simp)]
  cases nextF l k with
  | none => exact ⟨_, rfl⟩
  | some b => simp only; split <;> exact ⟨_, rfl⟩
theorem Calm.mount {k : Nat} {S : Lst} (h : Calm k S) (hf : fineV S.vols) {i : Nat} (hi : i < S.vols.length) : ∃ N T, mountS S (i : Int) = (N, 0, T) ∧ T.vols = S.vols ∧ Calm (k + 1) T := by
  have m0 := h.mounts0; have m1 := h.mounts; have v0 := h.moves0; have v1 := h.moves
  rw [mountS_fine rfl hf (by omega) (by omega)]
  cases hin : inF S.drs (i : Int) with
  | some n =>
    obtain ⟨hn, _, _⟩ := inF_lt hin
    refine ⟨_, _, rfl, rfl, ⟨by simpa using h.any, fun d hd => ?_, v0, by show S.moves ≤ ((k + 1 : Nat) : Int); omega, by show 0 ≤ S.mounts + 1; omega, by show S.mounts + 1 ≤ ((k + 1 : Nat) : Int); omega⟩⟩
    rcases mem_setd hd with rfl | hd
    · have := h.free _ (List.getElem_mem hn); rw [List.getElem?_eq_getElem hn]; exact this
    · exact h.free d hd
  | none =>
    obtain ⟨b, hb⟩ := nextF_some h.free h.any
    rw [hb]
    refine ⟨_, _, rfl, rfl, ⟨by simpa using h.any, fun d hd => ?_, by show 0 ≤ S.moves + 1; omega, by show S.moves + 1 ≤ ((k + 1 : Nat) : Int); omega, by show 0 ≤ S.mounts + 1; omega, by show S.mounts + 1 ≤ ((k + 1 : Nat) : Int); omega⟩⟩
    rcases mem_setd hd with rfl | hd
    · exact ⟨rfl, rfl⟩
    · exact h.free d hd
/-- what a tape is: its label, how often it was erased, its blobs. -/
structure TV where
  lab : ByteArray
  er : Int
  es : List (Nat × ByteArray)
def tvSet (t : Nat → TV) (i : Nat) (x : TV) : Nat → TV := fun j => if j = i then x else t j
theorem tvSet_eq (t : Nat → TV) (i : Nat) (x : TV) : tvSet t i x i = x := if_pos rfl
theorem tvSet_ne (t : Nat → TV) (i : Nat) (x : TV) {j : Nat} (h : j ≠ i) : tvSet t i x j = t j := if_neg h
def TVat (room : Int) (x : TV) (p : Nat) (y : Nat × Vst) : Prop := ∃ at_, TpOk x.lab x.er room x.es (tapeB x.lab x.es).length at_ ∧ y = (p, tpv x.lab x.er room x.es (tapeB x.lab x.es).length at_)
/-- the volumes are these tapes. -/
structure VsOk (room : Int) (ps : List Nat) (t : Nat → TV) (vs : List (Nat × Vst)) : Prop where
  len : vs.length = ps.length
  get : ∀ j (h : j < ps.length) (h2 : j < vs.length), TVat room (t j) ps[j] vs[j]
theorem VsOk.fine {room : Int} {ps : List Nat} {t : Nat → TV} {vs : List (Nat × Vst)} (h : VsOk room ps t vs) : fineV vs := by
  intro x hx
  obtain ⟨j, hj, rfl⟩ := List.getElem_of_mem hx
  obtain ⟨a, _, e⟩ := h.get j (by rw [← h.len]; exact hj) hj
  rw [e]; rfl
theorem VsOk.set {room : Int} {ps : List Nat} {t : Nat → TV} {vs : List (Nat × Vst)} (h : VsOk room ps t vs) {i : Nat} (hi : i < ps.length) {x : TV} {y : Nat × Vst} (hx : TVat room x ps[i] y) : VsOk room ps (tvSet t i x) (vs.set i y) := by
  refine ⟨by simpa using h.len, fun j hj h2 => ?_⟩
  by_cases e : i = j
  · subst e
    rw [tvSet_eq, List.getElem_set_self]; exact hx
  · rw [tvSet_ne _ _ _ (fun x => e x.symm), List.getElem_set_ne e]
    exact h.get j hj (by simpa using h2)
theorem VsOk.same {room : Int} {ps : List Nat} {t : Nat → TV} {vs : List (Nat × Vst)} (h : VsOk room ps t vs) {i : Nat} (hi : i < ps.length) {y : Nat × Vst} (hx : TVat room (t i) ps[i] y) : VsOk room ps t (vs.set i y) := by
  have h2 := h.set hi hx
  have e : tvSet t i (t i) = t := by funext j; unfold tvSet; split <;> simp_all
  rw [e] at h2; exact h2
theorem VsOk.at_ {room : Int} {ps : List Nat} {t : Nat → TV} {vs : List (Nat × Vst)} (h : VsOk room ps t vs) {i p : Nat} (hp : ps[i]? = some p) : ∃ at_, TpOk (t i).lab (t i).er room (t i).es (tapeB (t i).lab (t i).es).length at_ ∧ vs[i]? = some (p, tpv (t i).lab (t i).er room (t i).es (tapeB (t i).lab (t i).es).length at_) := by
  obtain ⟨hi, rfl⟩ := List.getElem?_eq_some_iff.1 hp
  have hi2 : i < vs.length := by rw [h.len]; exact hi
  obtain ⟨a, k, e⟩ := h.get i hi hi2
  exact ⟨a, k, by rw [List.getElem?_eq_getElem hi2, e]⟩
theorem VsOk.put {room : Int} {ps : List Nat} {t : Nat → TV} {vs : List (Nat × Vst)} (h : VsOk room ps t vs) {i p : Nat} (hp : ps[i]? = some p) (lab : ByteArray) (er : Int) (es : List (Nat × ByteArray)) {at_ : Nat} (hk : TpOk lab er room es (tapeB lab es).length at_) : VsOk room ps (tvSet t i ⟨lab, er, es⟩) (vs.set i (p, tpv lab er room es (tapeB lab es).length at_)) := by
  obtain ⟨hi, rfl⟩ := List.getElem?_eq_some_iff.1 hp
  exact h.set hi ⟨at_, hk, rfl⟩
theorem VsOk.keep {room : Int} {ps : List Nat} {t : Nat → TV} {vs : List (Nat × Vst)} (h : VsOk room ps t vs) {i p : Nat} (hp : ps[i]? = some p) {at_ : Nat} (hk : TpOk (t i).lab (t i).er room (t i).es (tapeB (t i).lab (t i).es).length at_) : VsOk room ps t (vs.set i (p, tpv (t i).lab (t i).er room (t i).es (tapeB (t i).lab (t i).es).length at_)) := by
  obtain ⟨hi, rfl⟩ := List.getElem?_eq_some_iff.1 hp
  exact h.same hi ⟨at_, hk, rfl⟩
/-- a library with these tapes, of whose drives P is said. -/
def libP (room : Int) (q : Nat) (P : Lst → Prop) (ps : List Nat) (t : Nat → TV) : HP := fun g => ∃ S : Lst, VsOk room ps t S.vols ∧ P S ∧ libp q S g
/-- .. on which nothing fails. -/
abbrev libV (room : Int) (q k : Nat) (ps : List Nat) (t : Nat → TV) : HP := libP room q (Calm k) ps t
/-- a Mount of volume i goes well, and leads from P to Q. -/
def Mnt (P Q : Lst → Prop) (i : Nat) : Prop := ∀ S : Lst, P S → fineV S.vols → i < S.vols.length → S.ok ∧ ∃ N T, mountS S (i : Int) = (N, 0, T) ∧ T.vols = S.vols ∧ ∀ vs, Q {T with vols := vs}
theorem calm_mnt {k : Nat} (hk : k ≤ 1000) (i : Nat) : Mnt (Calm k) (Calm (k + 1)) i := fun S h hf hi => by
  obtain ⟨N, T, h1, h2, h3⟩ := h.mount hf hi
  exact ⟨h.ok hk, N, T, h1, h2, fun vs => h3.vols_ vs⟩
section
variable {w0 w : World} {I : Part} {L : List HP} {q k : Nat} {room : Int} {P : Lst → Prop} {ps : List Nat} {t : Nat → TV}
theorem Sat.libVo (H : Sat w0 I (libP room q P ps t :: L) w) : ∃ S : Lst, VsOk room ps t S.vols ∧ P S ∧ Sat w0 I (libp q S :: L) w := by
  obtain ⟨g, ⟨S, h1, h2, h3⟩, hle, hput⟩ := H.elim
  exact ⟨S, h1, h2, hput _ h3⟩
theorem Sat.toLibV {S : Lst} (h1 : VsOk room ps t S.vols) (h2 : P S) (H : Sat w0 I (libp q S :: L) w) : Sat w0 I (libP room q P ps t :: L) w := H.weaken fun g h => ⟨S, h1, h2, h⟩
theorem ptrs_set {l : List (Nat × Vst)} {i p : Nat} {v v' : Vst} (hi : l[i]? = some (p, v)) : ptrs (l.set i (p, v')) = ptrs l := by
  unfold ptrs
  rw [List.map_set]
  apply List.ext_getElem?
  intro j
  rw [List.getElem?_set]
  split
  · rename_i e; subst e
    split
    · rw [List.getElem?_map, hi]; rfl
    · rename_i h; rw [List.getElem?_eq_none (by omega)]
  · rfl
/-- the volume's own, and the rest of the library. -/
def libR (q : Nat) (S : Lst) (i : Nat) : HP := fun g => ∃ av cv ad cd, sepL [volsB S.vols i, blk q 99 (lcells S (.slice av S.vols.length cv) (.slice ad S.drs.length cd)), row 47 1 (.slice av S.vols.length cv) S.vols.length (ptrs S.vols), row 101 4 (.slice ad S.drs.length cd) S.drs.length (S.drs.flatMap dc)] g
theorem Sat.libSplit {S : Lst} {i p : Nat} {v : Vst} (hi : S.vols[i]? = some (p, v)) (H : Sat w0 I (libp q S :: L) w) : Sat w0 I (volp p v :: libR q S i :: L) w := by
  obtain ⟨av, cv, ad, cd, _, _, _, _, H1⟩ := H.libOpen
  have H2 := (H1.pick 3).volTake i hi
  have H3 : Sat w0 I (volsB S.vols i :: blk q 99 (lcells S (.slice av S.vols.length cv) (.slice ad S.drs.length cd)) :: row 47 1 (.slice av S.vols.length cv) S.vols.length (ptrs S.vols) :: row 101 4 (.slice ad S.drs.length cd) S.drs.length (S.drs.flatMap dc) :: volp p v :: L) w := (((H2.pick 4).pick 4).pick 4).pick 4
  have H4 := H3.of (M := [_, _, _, _]) (B := libR q S i) fun g s => ⟨av, cv, ad, cd, s⟩
  exact H4.swap
theorem Sat.libUnsplit {S : Lst} {i p : Nat} {v v' : Vst} (hi : S.vols[i]? = some (p, v)) (H : Sat w0 I (volp p v' :: libR q S i :: L) w) : Sat w0 I (libp q {S with vols := S.vols.set i (p, v')} :: L) w := by
  obtain ⟨g, hg, ⟨av, cv, ad, cd, s⟩, r⟩ := H.swap.sep
  have h2 : Sat w0 I (sepL [_, _, _, _] :: volp p v' :: L) w := ⟨H.os, H.tape, H.output, H.size, H.imm, g, hg, s, r⟩
  have h3 := h2.flat
  have h4 : Sat w0 I (volp p v' :: volsB S.vols i :: blk q 99 (lcells S (.slice av S.vols.length cv) (.slice ad S.drs.length cd)) :: row 47 1 (.slice av S.vols.length cv) S.vols.length (ptrs S.vols) :: row 101 4 (.slice ad S.drs.length cd) S.drs.length (S.drs.flatMap dc) :: L) w := h3.pick 4
  have h5 := h4.volPut hi
  have h6 := ((h5.pick 3).pick 3).pick 3
  rw [← ptrs_set (v' := v') hi] at h6
  exact Sat.libShut (T := {S with vols := S.vols.set i (p, v')}) (by simp) rfl h6
end
/-! ### the operations, as closures -/
section
variable {w0 w : World} {I : Part} {L : List HP} {q k p a b c i : Nat} {room : Int} {P Q : Lst → Prop} {ps : List Nat} {t : Nat → TV} {lab : ByteArray} {er : Int} {es : List (Nat × ByteArray)} {sure at_ : Nat}
theorem lw1_sat (hT : Rd I (some ⟨0, 0, none⟩) tabV) (h : TpOk lab er room es sure at_) (blob : Nat) (data : ByteArray) (he : okE (blob, data)) (hn : es.length ≤ 10) {F : Int} (hF : ((tapeB lab es).length : Int) = F) (H : Sat w0 I (volp p (tpv lab er room es sure at_) :: blk a 34 [.int .u64 (blob : Int)] :: blk b 9 [.string data] :: blk c 3 [.int .i64 0] :: L) w) :
    Calls Tryz.prog 41 #[.pointer (some ⟨p, 0, none⟩), .pointer (some ⟨a, 0, none⟩), .pointer (some ⟨b, 0, none⟩), .pointer (some ⟨c, 0, none⟩)] w fun e w' => e = .returned (.int .i64 0) ∧ Sat w0 I (volp p (tpv lab er room (es ++ [(blob, data)]) (tapeB lab (es ++ [(blob, data)])).length (tapeB lab (es ++ [(blob, data)])).length) :: blk a 34 [.int .u64 (blob : Int)] :: blk b 9 [.string data] :: blk c 3 [.int .i64 F] :: L) w' := by
  have HT := hid hT
  have HP := hid h
  have HE := hid he
  have HF := hid hF
  have c0 := (H.pick 1).isBlk.cell 0 (v := .int .u64 (blob : Int)) rfl
  have c1 := (H.pick 2).isBlk.cell 0 (v := .string data) rfl
  have HS := hid H
  clear hT h he hF H
  go_enter Tryz.func41, Tryz.ntmps41
  go_wp2_with fail
  refine (twrite_tp HT.out HP.out blob data HE.out hn HF.out HS.out).mono ?_; rintro e w1 ⟨rfl, S1⟩
  have c2 := (S1.pick 3).isBlk.cell 0 (v := .int .i64 0) rfl
  have f2 := (S1.pick 3).isBlk.frozen 0
  have H1 := hid S1
  clear S1 HS c0 c1
  go_wp2_with fail
  go_ret
  exact ⟨rfl, H1.out.set3 0 _ rfl⟩
theorem lr1_sat (hT : Rd I (some ⟨0, 0, none⟩) tabV) (h : TpOk lab er room es sure at_) (j : Nat) {blob : Nat} {data : ByteArray} (hj : es[j]? = some (blob, data)) {frm : Nat} (hf : tapeAt lab es j = frm) (H : Sat w0 I (volp p (tpv lab er room es sure at_) :: blk a 3 [.int .i64 (frm : Int)] :: blk b 34 [.int .u64 (blob : Int)] :: blk c 9 [.string ⟨#[]⟩] :: L) w) :
    Calls Tryz.prog 50 #[.pointer (some ⟨p, 0, none⟩), .pointer (some ⟨a, 0, none⟩), .pointer (some ⟨b, 0, none⟩), .pointer (some ⟨c, 0, none⟩)] w fun e w' => e = .returned (.int .i64 0) ∧ ∃ at2, TpOk lab er room es sure at2 ∧ Sat w0 I (volp p (tpv lab er room es sure at2) :: blk a 3 [.int .i64 (frm : Int)] :: blk b 34 [.int .u64 (blob : Int)] :: blk c 9 [.string data] :: L) w' := by
  have HT := hid hT
  have HP := hid h
  have HJ := hid hj
  have HF := hid hf
  have c0 := (H.pick 1).isBlk.cell 0 (v := .int .i64 (frm : Int)) rfl
  have c1 := (H.pick 2).isBlk.cell 0 (v := .int .u64 (blob : Int)) rfl
  have HS := hid H
  clear hT h hj hf H
  go_enter Tryz.func50, Tryz.ntmps50
  go_wp2_with fail
  refine (tread_tp HT.out HP.out j HJ.out HF.out HS.out).mono ?_; rintro e w1 ⟨rfl, at2, hok, S1⟩
  have c2 := (S1.pick 3).isBlk.cell 0 (v := .string ⟨#[]⟩) rfl
  have f2 := (S1.pick 3).isBlk.frozen 0
  have HOK := hid hok
  have H1 := hid S1
  clear S1 HS c0 c1 hok
  go_wp2_with fail
  go_ret
  exact ⟨rfl, at2, HOK.out, H1.out.set3 0 _ rfl⟩
/-! ### mounted -/
theorem lmw_sat (hT : Rd I (some ⟨0, 0, none⟩) tabV) (hm : Mnt P Q i) (hp : ps[i]? = some p) (blob : Nat) (data : ByteArray) (he : okE (blob, data)) (hn : (t i).es.length ≤ 10) {F : Int} (hF : ((tapeB (t i).lab (t i).es).length : Int) = F) (H : Sat w0 I (libP room q P ps t :: blk a 34 [.int .u64 (blob : Int)] :: blk b 9 [.string data] :: blk c 3 [.int .i64 0] :: L) w) :
    Calls Tryz.prog 40 #[.pointer (some ⟨q, 0, none⟩), .int .i64 (i : Int), .func (.func 41) #[] #[.pointer (some ⟨a, 0, none⟩), .pointer (some ⟨b, 0, none⟩), .pointer (some ⟨c, 0, none⟩)]] w fun e w' => e = .returned (.int .i64 0) ∧
      Sat w0 I (libP room q Q ps (tvSet t i ⟨(t i).lab, (t i).er, (t i).es ++ [(blob, data)]⟩) :: blk a 34 [.int .u64 (blob : Int)] :: blk b 9 [.string data] :: blk c 3 [.int .i64 F] :: L) w' := by
  have HT := hid hT
  have HE := hid he
  have HF := hid hF
  clear hT he hF
  obtain ⟨S, hvs, hcm, HL0⟩ := H.libVo
  have hi := (List.getElem?_eq_some_iff.1 hp).1
  have hlt : i < S.vols.length := by rw [hvs.len]; exact hi
  obtain ⟨hok, N, T, hA, hTv, hTC⟩ := hm S hcm hvs.fine hlt
  have HOK := hid hok
  rw [← hTv] at hvs hlt
  obtain ⟨at_, htp, hTi⟩ := hvs.at_ hp
  have HVS := hid hvs
  have HTC := hid hTC
  have HTI := hid hTi
  have HA := hid hA
  have HTP := hid htp
  have H0 := hid HL0
  have HPS := hid hp
  clear hvs hcm HL0 hA hTv hTC hTi htp H hp hok hm
  go_enter Tryz.func40, Tryz.ntmps40
  go_wp2_with fail
  refine (lmount_sat HOK.out HA.out H0.out).mono ?_; rintro e w1 ⟨rfl, S1⟩
  obtain ⟨av, cv, ad, cd, k1, k2, k3, k4, S2⟩ := S1.libOpen
  obtain ⟨g, cap', hsv, c1⟩ := row1 (S2.pick 1) i hlt
  cases hsv
  have hTi2 : T.vols[i] = (p, tpv (t i).lab (t i).er room (t i).es (tapeB (t i).lab (t i).es).length at_) := (List.getElem?_eq_some_iff.1 HTI.out).2
  rw [hTi2] at c1
  have c0 : w1.cell? ⟨q, 0, none⟩ = some (.slice (some ⟨g, 0, none⟩) T.vols.length cv) := S2.isBlk.cell 0 rfl
  have hi1 : (i : Int) < (T.vols.length : Int) := by omega
  have hi0 : (0 : Int) ≤ (i : Int) := by omega
  have HS1 := S1.libSplit HTI.out
  clear S1 S2 H0 hTi2
  have H1 := hid ((((HS1.pick 4).pick 4).pick 4).pick 3)
  clear HS1
  go_wp2_with fail
  refine (lw1_sat HT.out HTP.out blob data HE.out hn HF.out H1.out).mono ?_; rintro e w2 ⟨rfl, S2⟩
  have H2 := hid S2
  clear S2 H1
  go_wp2_with fail
  go_ret
  exact ⟨rfl, Sat.toLibV (S := {T with vols := T.vols.set i _}) (HVS.out.put HPS.out _ _ _ (HTP.out.snoc HE.out hn)) (HTC.out _) (((H2.out.pick 4).swap).libUnsplit HTI.out)⟩
theorem lmr_sat (hT : Rd I (some ⟨0, 0, none⟩) tabV) (hm : Mnt P Q i) (hp : ps[i]? = some p) (j : Nat) {blob : Nat} {data : ByteArray} (hj : (t i).es[j]? = some (blob, data)) {frm : Nat} (hf : tapeAt (t i).lab (t i).es j = frm) (H : Sat w0 I (libP room q P ps t :: blk a 3 [.int .i64 (frm : Int)] :: blk b 34 [.int .u64 (blob : Int)] :: blk c 9 [.string ⟨#[]⟩] :: L) w) :
    Calls Tryz.prog 40 #[.pointer (some ⟨q, 0, none⟩), .int .i64 (i : Int), .func (.func 50) #[] #[.pointer (some ⟨a, 0, none⟩), .pointer (some ⟨b, 0, none⟩), .pointer (some ⟨c, 0, none⟩)]] w fun e w' => e = .returned (.int .i64 0) ∧
      Sat w0 I (libP room q Q ps t :: blk a 3 [.int .i64 (frm : Int)] :: blk b 34 [.int .u64 (blob : Int)] :: blk c 9 [.string data] :: L) w' := by
  have HT := hid hT
  have HJ := hid hj
  have HF := hid hf
  clear hT hj hf
  obtain ⟨S, hvs, hcm, HL0⟩ := H.libVo
  have hi := (List.getElem?_eq_some_iff.1 hp).1
  have hlt : i < S.vols.length := by rw [hvs.len]; exact hi
  obtain ⟨hok, N, T, hA, hTv, hTC⟩ := hm S hcm hvs.fine hlt
  have HOK := hid hok
  rw [← hTv] at hvs hlt
  obtain ⟨at_, htp, hTi⟩ := hvs.at_ hp
  have HVS := hid hvs
  have HTC := hid hTC
  have HTI := hid hTi
  have HA := hid hA
  have HTP := hid htp
  have H0 := hid HL0
  have HPS := hid hp
  clear hvs hcm HL0 hA hTv hTC hTi htp H hp hok hm
  go_enter Tryz.func40, Tryz.ntmps40
  go_wp2_with fail
  refine (lmount_sat HOK.out HA.out H0.out).mono ?_; rintro e w1 ⟨rfl, S1⟩
  obtain ⟨av, cv, ad, cd, k1, k2, k3, k4, S2⟩ := S1.libOpen
  obtain ⟨g, cap', hsv, c1⟩ := row1 (S2.pick 1) i hlt
  cases hsv
  have hTi2 : T.vols[i] = (p, tpv (t i).lab (t i).er room (t i).es (tapeB (t i).lab (t i).es).length at_) := (List.getElem?_eq_some_iff.1 HTI.out).2
  rw [hTi2] at c1
  have c0 : w1.cell? ⟨q, 0, none⟩ = some (.slice (some ⟨g, 0, none⟩) T.vols.length cv) := S2.isBlk.cell 0 rfl
  have hi1 : (i : Int) < (T.vols.length : Int) := by omega
  have hi0 : (0 : Int) ≤ (i : Int) := by omega
  have HS1 := S1.libSplit HTI.out
  clear S1 S2 H0 hTi2
  have H1 := hid ((((HS1.pick 4).pick 4).pick 4).pick 3)
  clear HS1
  go_wp2_with fail
  refine (lr1_sat HT.out HTP.out j HJ.out HF.out H1.out).mono ?_; rintro e w2 ⟨rfl, at2, hok, S2⟩
  have H2 := hid S2
  have HOK2 := hid hok
  clear S2 H1 hok
  go_wp2_with fail
  go_ret
  exact ⟨rfl, Sat.toLibV (S := {T with vols := T.vols.set i _}) (HVS.out.keep HPS.out HOK2.out) (HTC.out _) (((H2.out.pick 4).swap).libUnsplit HTI.out)⟩
end
/-! ### Write, Read, Erase, Scan -/
section
variable {w0 w : World} {I : Part} {L : List HP} {q k p i : Nat} {room : Int} {P Q : Lst → Prop} {ps : List Nat} {t : Nat → TV}
theorem lwriteP (hT : Rd I (some ⟨0, 0, none⟩) tabV) (hm : Mnt P Q i) (hp : ps[i]? = some p) {V : Int} (hV : V = (i : Int)) (blob : Nat) (data : ByteArray) (he : okE (blob, data)) (hn : (t i).es.length ≤ 10) {F : Int} (hF : ((tapeB (t i).lab (t i).es).length : Int) = F) (H : Sat w0 I (libP room q P ps t :: L) w) :
    Calls Tryz.prog 8 #[.pointer (some ⟨q, 0, none⟩), .int .i64 V, .int .u64 (blob : Int), .string data] w fun e w' => e = .returned (.tuple #[.int .i64 F, .int .i64 0]) ∧
      Sat w0 I (libP room q Q ps (tvSet t i ⟨(t i).lab, (t i).er, (t i).es ++ [(blob, data)]⟩) :: L) w' := by
  subst hV
  have HT := hid hT
  have HE := hid he
  have HF := hid hF
  have HPS := hid hp
  obtain ⟨g, hg⟩ := H.sizeEx
  have S1 := H.alloc (b := g) (T := 34) (cs := [.int .u64 (blob : Int)]) rfl hg.symm
  have S2 := S1.alloc (b := g + 1) (T := 9) (cs := [.string data]) rfl (by simp [hg])
  have S3 := S2.alloc (b := g + 1 + 1) (T := 3) (cs := [.int .i64 0]) rfl (by simp [hg])
  have c3 := S3.isBlk.cell 0 (v := .int .i64 0) rfl
  have f3 := S3.isBlk.frozen 0
  have H4 := hid (((S3.pick 1).pick 2).pick 3)
  clear S1 S2 S3 H hT he hF hp
  go_enter Tryz.func8, Tryz.ntmps8
  go_wp2_with fail
  refine (lmw_sat HT.out hm HPS.out blob data HE.out hn HF.out (a := g) (b := g + 1) (c := g + 1 + 1) H4.out).mono ?_; rintro e w5 ⟨rfl, S5⟩
  have c5 := (S5.pick 3).isBlk.cell 0 (v := .int .i64 F) rfl
  have H5 := hid S5
  clear S5 H4 c3 f3 hg
  go_wp2_with fail
  go_returns
  exact ⟨rfl, H5.out.swap.drop.swap.drop.swap.drop⟩
theorem lreadP (hT : Rd I (some ⟨0, 0, none⟩) tabV) (hm : Mnt P Q i) (hp : ps[i]? = some p) {V : Int} (hV : V = (i : Int)) (j : Nat) {blob : Nat} {data : ByteArray} (hj : (t i).es[j]? = some (blob, data)) {frm : Nat} (hf : tapeAt (t i).lab (t i).es j = frm) (H : Sat w0 I (libP room q P ps t :: L) w) :
    Calls Tryz.prog 14 #[.pointer (some ⟨q, 0, none⟩), .int .i64 V, .int .i64 (frm : Int), .int .u64 (blob : Int)] w fun e w' => e = .returned (.tuple #[.string data, .int .i64 0]) ∧ Sat w0 I (libP room q Q ps t :: L) w' := by
  subst hV
  have HT := hid hT
  have HJ := hid hj
  have HF := hid hf
  have HPS := hid hp
  obtain ⟨g, hg⟩ := H.sizeEx
  have S1 := H.alloc (b := g) (T := 3) (cs := [.int .i64 (frm : Int)]) rfl hg.symm
  have S2 := S1.alloc (b := g + 1) (T := 34) (cs := [.int .u64 (blob : Int)]) rfl (by simp [hg])
  have S3 := S2.alloc (b := g + 1 + 1) (T := 9) (cs := [.string ⟨#[]⟩]) rfl (by simp [hg])
  have c3 := S3.isBlk.cell 0 (v := .string ⟨#[]⟩) rfl
  have f3 := S3.isBlk.frozen 0
  have H4 := hid (((S3.pick 1).pick 2).pick 3)
  clear S1 S2 S3 H hT hj hf hp
  go_enter Tryz.func14, Tryz.ntmps14
  go_wp2_with fail
  refine (lmr_sat HT.out hm HPS.out j HJ.out HF.out (a := g) (b := g + 1) (c := g + 1 + 1) H4.out).mono ?_; rintro e w5 ⟨rfl, S5⟩
  have c5 := (S5.pick 3).isBlk.cell 0 (v := .string data) rfl
  have H5 := hid S5
  clear S5 H4 c3 f3 hg
  go_wp2_with fail
  go_returns
  exact ⟨rfl, H5.out.swap.drop.swap.drop.swap.drop⟩
theorem lwriteV (hT : Rd I (some ⟨0, 0, none⟩) tabV) (hk : k ≤ 1000) (hp : ps[i]? = some p) {V : Int} (hV : V = (i : Int)) (blob : Nat) (data : ByteArray) (he : okE (blob, data)) (hn : (t i).es.length ≤ 10) {F : Int} (hF : ((tapeB (t i).lab (t i).es).length : Int) = F) (H : Sat w0 I (libV room q k ps t :: L) w) :
    Calls Tryz.prog 8 #[.pointer (some ⟨q, 0, none⟩), .int .i64 V, .int .u64 (blob : Int), .string data] w fun e w' => e = .returned (.tuple #[.int .i64 F, .int .i64 0]) ∧
      Sat w0 I (libV room q (k + 1) ps (tvSet t i ⟨(t i).lab, (t i).er, (t i).es ++ [(blob, data)]⟩) :: L) w' := lwriteP hT (calm_mnt hk i) hp hV blob data he hn hF H
theorem lreadV (hT : Rd I (some ⟨0, 0, none⟩) tabV) (hk : k ≤ 1000) (hp : ps[i]? = some p) {V : Int} (hV : V = (i : Int)) (j : Nat) {blob : Nat} {data : ByteArray} (hj : (t i).es[j]? = some (blob, data)) {frm : Nat} (hf : tapeAt (t i).lab (t i).es j = frm) (H : Sat w0 I (libV room q k ps t :: L) w) :
    Calls Tryz.prog 14 #[.pointer (some ⟨q, 0, none⟩), .int .i64 V, .int .i64 (frm : Int), .int .u64 (blob : Int)] w fun e w' => e = .returned (.tuple #[.string data, .int .i64 0]) ∧ Sat w0 I (libV room q (k + 1) ps t :: L) w' := lreadP hT (calm_mnt hk i) hp hV j hj hf H
/-! ### what is asked of a volume -/
theorem lvolV (hp : ps[i]? = some p) {V : Int} (hV : V = (i : Int)) (H : Sat w0 I (libP room q P ps t :: L) w) :
    Calls Tryz.prog 15 #[.pointer (some ⟨q, 0, none⟩), .int .i64 V] w fun e w' => e = .returned (.pointer (some ⟨p, 0, none⟩)) ∧ Sat w0 I (libP room q P ps t :: L) w' := by
  obtain ⟨S, hvs, hcm, H1⟩ := H.libVo
  obtain ⟨a, htp, hi⟩ := hvs.at_ hp
  exact (lvol_yes i hV hi H1).mono fun e w' ⟨h1, h2⟩ => ⟨h1, Sat.toLibV hvs hcm h2⟩
/-- a volume of the library's, asked for what it says. -/
theorem Sat.libVvol (hp : ps[i]? = some p) (H : Sat w0 I (libP room q P ps t :: L) w) : ∃ M at_, TpOk (t i).lab (t i).er room (t i).es (tapeB (t i).lab (t i).es).length at_ ∧ Sat w0 I (volp p (tpv (t i).lab (t i).er room (t i).es (tapeB (t i).lab (t i).es).length at_) :: M :: L) w ∧
    ∀ w', Sat w0 I (volp p (tpv (t i).lab (t i).er room (t i).es (tapeB (t i).lab (t i).es).length at_) :: M :: L) w' → Sat w0 I (libP room q P ps t :: L) w' := by
  obtain ⟨S, hvs, hcm, H1⟩ := H.libVo
  obtain ⟨a, htp, hi⟩ := hvs.at_ hp
  have hset : S.vols.set i (p, tpv (t i).lab (t i).er room (t i).es (tapeB (t i).lab (t i).es).length a) = S.vols := by
    obtain ⟨hlt, he⟩ := List.getElem?_eq_some_iff.1 hi
    rw [← he]; simp
  refine ⟨libR q S i, a, htp, H1.libSplit hi, fun w' h => ?_⟩
  have h2 := h.libUnsplit hi
  rw [hset] at h2
  exact Sat.toLibV hvs hcm h2
theorem lusedV (hp : ps[i]? = some p) {U : Int} (hU : (wsum (tapeB (t i).lab (t i).es) : Int) = U) (H : Sat w0 I (libP room q P ps t :: L) w) :
    Calls Tryz.prog 140 #[.pointer (some ⟨p, 0, none⟩)] w fun e w' => e = .returned (.int .i64 U) ∧ Sat w0 I (libP room q P ps t :: L) w' := by
  subst hU
  obtain ⟨M, a, htp, H1, hb⟩ := H.libVvol hp
  exact (vused H1).mono fun e w' ⟨h1, h2⟩ => ⟨h1, hb w' h2⟩
theorem llabelV (hp : ps[i]? = some p) {B : ByteArray} (hB : (t i).lab = B) (H : Sat w0 I (libP room q P ps t :: L) w) :
    Calls Tryz.prog 94 #[.pointer (some ⟨p, 0, none⟩)] w fun e w' => e = .returned (.string B) ∧ Sat w0 I (libP room q P ps t :: L) w' := by
  subst hB
  obtain ⟨M, a, htp, H1, hb⟩ := H.libVvol hp
  exact (vlabel H1).mono fun e w' ⟨h1, h2⟩ => ⟨h1, hb w' h2⟩
/-- a new library. -/
def tv0 : Nat → TV := fun _ => ⟨⟨#[]⟩, 0, []⟩
theorem Sat.libVnew {n m : Nat} (hm : 0 < m) (hl : ps.length = n) (hr : 10000 ≤ room ∧ room ≤ 1000000) (H : Sat w0 I (libp q ⟨ps.zip ((List.replicate n room).map vNew), List.replicate m ⟨-1, 0, 0, false⟩, 0, 0⟩ :: L) w) : Sat w0 I (libV room q 0 ps tv0 :: L) w := by
  refine Sat.toLibV ⟨by simp [hl], fun j hj h2 => ?_⟩ ⟨by simpa using hm, fun d hd => ?_, Int.le_refl _, Int.le_refl _, Int.le_refl _, Int.le_refl _⟩ H
  · refine ⟨0, ⟨by show (⟨#[]⟩ : ByteArray).size ≤ 32; decide, by show (0 : Int) ≤ 0 ∧ (0 : Int) ≤ 1000000; omega, hr, fun e he => (by cases he), by show (0 : Nat) ≤ 11; omega, Nat.zero_le _, Nat.zero_le _⟩, ?_⟩
    simp only [List.getElem_zip, List.getElem_map, List.getElem_replicate]
    have e : max room 0 = room := by omega
    show (ps[j], vNew room) = (ps[j], tpv ⟨#[]⟩ 0 room [] 0 0)
    unfold vNew tpv lv
    rw [e]; rfl
  · have := List.eq_of_mem_replicate hd
    subst this; exact ⟨rfl, rfl⟩
end
theorem and1 (a : Int) : ∃ v : Nat, v ≤ 1 ∧ bits .and .i64 a 1 = (v : Int) := by
  have h := Nat.and_one_is_mod (BitVec.ofInt 64 a).toNat
  refine ⟨(BitVec.ofInt 64 a).toNat &&& 1, by omega, ?_⟩
  show IntKind.i64.wrap ((BitVec.ofInt 64 a &&& BitVec.ofInt 64 1).toNat : Int) = _
  rw [BitVec.toNat_and]
  have e : (BitVec.ofInt 64 1).toNat = 1 := by decide
  rw [e]
  exact IntWalk.i64_in _ (by omega)
end Go.Proofs.YtekioplbfoonkaaGreatDoor
