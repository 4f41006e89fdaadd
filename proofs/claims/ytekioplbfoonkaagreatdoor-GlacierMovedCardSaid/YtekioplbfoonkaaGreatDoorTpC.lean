/- Layer 7: itemAt. Layer 7, plain: a volume on which nothing fails; what Write leaves there, what Read finds. Layer 7: Write and Read on a tape on which nothing fails. Layer 7: awake. The law's own Blob: what came in. Layer 7: Scan, on a tape on which nothing fails. Layer 7, plain: what Scan finds on tapes; blocks of another label. Layer 7: a tape of blobs, scanned; Long as a call that only reads; a blob that is asked for under another number. -/
import Derived.Test.YtekioplbfoonkaaGreatDoorTpRw
import Derived.Deep.CutBlock
import Derived.Deep.DeepCutAuto
import Derived.Test.YtekioplbfoonkaaGreatDoorTpR
import Derived.OwnWalk
import Derived.Test.YtekioplbfoonkaaGreatDoorTpA
namespace Go.Proofs.YtekioplbfoonkaaGreatDoor
open Go.RowKit
set_option linter.unusedVariables false
set_option maxRecDepth 100000
set_option maxHeartbeats 2000000
/-- what Scan finds: a blob, its first block, its size. -/
structure Itm where
  blob : Nat
  frm : Nat
  size : Nat
def itc (x : Itm) : List Value := [.int .u64 (x.blob : Int), .int .i64 (x.frm : Int), .int .i64 (x.size : Int)]
def itm0 : Itm := ⟨0, 0, 0⟩
section
variable {w0 w : World} {I : Part} {L : List HP} {p : Nat} {v v1 v2 v3 V : Vst}
end
end Go.Proofs.YtekioplbfoonkaaGreatDoor
namespace Go.Proofs.YtekioplbfoonkaaGreatDoor
open Go.RowKit
set_option linter.unusedVariables false
set_option maxRecDepth 100000
/-- a volume with a label, on which nothing fails. -/
def lv (lab : ByteArray) (er room : Int) (bl : List Bk) (sure at_ : Nat) : Vst := ⟨room, false, 0, lab, bl, sure, at_, er, false⟩
section
variable {lab : ByteArray} {er room : Int} {bl : List Bk} {sure at_ : Nat}
theorem lv_fit (h0 : 0 ≤ room) (h1 : room ≤ 1000000) (h2 : (wsum bl : Int) ≤ room) (h3 : sure ≤ bl.length) (h4 : at_ ≤ bl.length) (h5 : 0 ≤ er) (h6 : er ≤ 1000000) : (lv lab er room bl sure at_).fit := by
  have := wsum_len bl
  exact ⟨⟨h0, by simp only [lv]; omega, h2, by simp [lv], by simp [lv], h3, h4, by simp only [lv]; omega, h5, by simp only [lv]; omega⟩, h1⟩
theorem lv_try : tryV (lv lab er room bl sure at_) = lv lab er room bl sure at_ := rfl
theorem lv_add (b : Bk) (h : at_ = bl.length) (ht : tornL bl = false) (hf : (bwt b : Int) ≤ room - wsum bl) : addS (lv lab er room bl sure at_) b = (0, lv lab er room (bl ++ [b]) sure (bl.length + 1)) := by
  simp [addS, lv, tryV, tryE, tryA, h, ht, hf]
theorem lv_seek (n : Nat) (h : n ≤ bl.length) : seekS (lv lab er room bl sure at_) (n : Int) = (0, lv lab er room bl sure n) := by
  have h1 : ¬ (n : Int) < 0 := by omega
  have h2 : ¬ bl.length < n := by omega
  simp [seekS, lv, tryV, tryE, tryA, h1, h2]
theorem lv_flushE : flushE (lv lab er room bl sure at_) = 0 := rfl
theorem lv_flushV : flushV (lv lab er room bl sure at_) = lv lab er room bl bl.length at_ := rfl
theorem lv_read {b : Bk} (h : bl[at_]? = some b) (ht : b.torn = false) : readS (lv lab er room bl sure at_) = ((b.s, b.mark, 0), lv lab er room bl sure (at_ + 1)) := by
  obtain ⟨hlt, he⟩ := List.getElem?_eq_some_iff.1 h
  have hlt' : (lv lab er room bl sure at_).at_ < (lv lab er room bl sure at_).bl.length := hlt
  have he' : (lv lab er room bl sure at_).bl[(lv lab er room bl sure at_).at_] = b := he
  unfold readS
  rw [if_pos (show tryE (lv lab er room bl sure at_).lost (lv lab er room bl sure at_).armed = 0 from rfl), dif_pos hlt']
  rw [he', ht]
  rfl
theorem lv_readEnd (h : bl.length ≤ at_) : readS (lv lab er room bl sure at_) = ((⟨#[]⟩, false, 2), lv lab er room bl sure at_) := by
  have hlt' : ¬ (lv lab er room bl sure at_).at_ < (lv lab er room bl sure at_).bl.length := by show ¬ at_ < bl.length; omega
  unfold readS
  rw [if_pos (show tryE (lv lab er room bl sure at_).lost (lv lab er room bl sure at_).armed = 0 from rfl), dif_neg hlt']
  rfl
end
theorem encU_le {v u k : Nat} (h : v ≤ u) (hu : u < 18446744073709551616) (hk : (encU u).length = k) : (encU v).length ≤ k := hk ▸ encU_mono v u hu h
theorem encS_le {s : ByteArray} {k u : Nat} (h : s.size ≤ u) (hu : u < 18446744073709551616) (hk : (encU u).length = k) : (encS s).length ≤ k + s.size := by
  have := encU_le h hu hk
  unfold encS
  rw [List.length_append]
  have e : s.data.toList.length = s.size := by simp
  omega
theorem tpData_size {lab : ByteArray} {frm blob : Nat} {data : ByteArray} {k : Nat} : (tpPiece lab frm blob data k).data.size = min (k * 200 + 200) data.size - k * 200 := by
  show (data.extract (k * 200) (min (k * 200 + 200) data.size)).size = _
  rw [ByteArray.size_extract]; omega
theorem tpBlock_wt {lab : ByteArray} {frm blob : Nat} {data : ByteArray} {k : Nat} (hl : lab.size ≤ 32) (hf : frm ≤ 1048576) (hb : blob < 18446744073709551616) (hd : data.size ≤ 4000) (hk : k < nparts data.size) : bwt (tpBlock lab frm blob data k) ≤ 76 + (min (k * 200 + 200) data.size - k * 200) := by
  have hn : nparts data.size ≤ 20 := by unfold nparts; omega
  have hok := tpPiece_ok hl hf hb hd hk
  have h1 : (encS lab).length ≤ 1 + lab.size := encS_le (u := 127) (by omega) (by decide) (by decide +kernel)
  have h2 : (encU (frm + k)).length ≤ 5 := encU_le (u := 1073741824) (by omega) (by decide) (by decide +kernel)
  have h3 := encU_len blob hb
  have h4 : (encU k).length ≤ 1 := encU_le (u := 127) (by omega) (by decide) (by decide +kernel)
  have h5 : (encU (nparts data.size)).length ≤ 1 := encU_le (u := 127) (by omega) (by decide) (by decide +kernel)
  have h6 : (encU data.size).length ≤ 2 := encU_le (u := 4000) (by omega) (by decide) (by decide +kernel)
  have h7 : (encU (crc data.data.toList)).length ≤ 5 := encU_le (u := 4294967295) (by have := crc_lt data.data.toList; omega) (by decide) (by decide +kernel)
  have h8 : (encS (tpPiece lab frm blob data k).data).length ≤ 2 + (tpPiece lab frm blob data k).data.size := encS_le (u := 4000) (by have := hok.data; omega) (by decide) (by decide +kernel)
  rw [tpData_size] at h8
  show (spellB (tpPiece lab frm blob data k)).size + 4 ≤ _
  have e : (spellB (tpPiece lab frm blob data k)).size = (pbytes (tpPiece lab frm blob data k)).length + 8 := by
    show (frameL _).toArray.size = _
    rw [List.size_toArray, frameL_len]
  have e2 : (pbytes (tpPiece lab frm blob data k)).length = (encS lab).length + ((encU (frm + k)).length + ((encU blob).length + (((encU k).length + (encU (nparts data.size)).length + (encU data.size).length) + ((encU (crc data.data.toList)).length + (encS (tpPiece lab frm blob data k).data).length)))) := by
    simp [pbytes, pparts, tpPiece]
    omega
  omega
/-- the blocks of a blob, from part k on, r of them. -/
def tpBks (lab : ByteArray) (frm blob : Nat) (data : ByteArray) : Nat → Nat → List Bk
  | 0, _ => []
  | r + 1, k => tpBlock lab frm blob data k :: tpBks lab frm blob data r (k + 1)
/-- all blocks of a blob, and its mark. -/
def tpAll (lab : ByteArray) (frm blob : Nat) (data : ByteArray) : List Bk := tpBks lab frm blob data (nparts data.size) 0 ++ [markB]
section
variable {lab : ByteArray} {frm blob : Nat} {data : ByteArray}
theorem tpBks_len : ∀ r k, (tpBks lab frm blob data r k).length = r
  | 0, k => rfl
  | r + 1, k => by simp [tpBks, tpBks_len r (k + 1)]
theorem tpAll_len : (tpAll lab frm blob data).length = nparts data.size + 1 := by simp [tpAll, tpBks_len]
theorem tpBks_get : ∀ r k i, i < r → (tpBks lab frm blob data r k)[i]? = some (tpBlock lab frm blob data (k + i))
  | 0, k, i, h => absurd h (Nat.not_lt_zero _)
  | r + 1, k, 0, h => rfl
  | r + 1, k, i + 1, h => by
    show (tpBks lab frm blob data r (k + 1))[i]? = _
    rw [tpBks_get r (k + 1) i (by omega)]
    congr 2; omega
theorem tpBks_torn : ∀ r k, ∀ b ∈ tpBks lab frm blob data r k, b.torn = false
  | 0, k, b, h => by cases h
  | r + 1, k, b, h => by
    rcases List.mem_cons.1 h with rfl | h
    · rfl
    · exact tpBks_torn r (k + 1) b h
theorem tpAll_torn : ∀ b ∈ tpAll lab frm blob data, b.torn = false := by
  intro b h
  rcases List.mem_append.1 h with h | h
  · exact tpBks_torn _ _ b h
  · simp at h; subst h; rfl
theorem tornL_all {l : List Bk} (h : ∀ b ∈ l, b.torn = false) : tornL l = false := by
  unfold tornL
  cases hl : l.getLast? with
  | none => rfl
  | some b => exact h b (List.mem_of_getLast? hl)
theorem tpBks_wt (hl : lab.size ≤ 32) (hf : frm ≤ 1048576) (hb : blob < 18446744073709551616) (hd : data.size ≤ 4000) : ∀ r k, k + r = nparts data.size → wsum (tpBks lab frm blob data r k) ≤ 76 * r + (data.size - k * 200)
  | 0, k, h => by simp [tpBks, wsum]
  | r + 1, k, h => by
    have h1 := tpBlock_wt (lab := lab) (frm := frm) (blob := blob) (data := data) (k := k) hl hf hb hd (by omega)
    have h2 := tpBks_wt hl hf hb hd r (k + 1) (by omega)
    have h3 : k * 200 ≤ data.size := by have := hd; unfold nparts at h; omega
    show bwt _ + wsum _ ≤ _
    have e : (k + 1) * 200 = k * 200 + 200 := by omega
    rw [e] at h2
    omega
theorem tpAll_wt (hl : lab.size ≤ 32) (hf : frm ≤ 1048576) (hb : blob < 18446744073709551616) (hd : data.size ≤ 4000) : wsum (tpAll lab frm blob data) ≤ weightN data.size := by
  have h := tpBks_wt (lab := lab) (frm := frm) (blob := blob) (data := data) hl hf hb hd (nparts data.size) 0 (by omega)
  unfold tpAll
  rw [wsum_app]
  have e : wsum [markB] = 4 := rfl
  unfold weightN
  omega
theorem lv_wGo {er room : Int} {sure : Nat} (hl : lab.size ≤ 32) (hf : frm ≤ 1048576) (hb : blob < 18446744073709551616) (hd : data.size ≤ 4000) : ∀ r k bl, (∀ b ∈ bl, b.torn = false) → ((wsum (tpBks lab frm blob data r k) + 4 : Nat) : Int) ≤ room - wsum bl →
    wGo lab frm blob data r k (lv lab er room bl sure bl.length) = (0, lv lab er room (bl ++ (tpBks lab frm blob data r k ++ [markB])) (bl ++ (tpBks lab frm blob data r k ++ [markB])).length (bl ++ (tpBks lab frm blob data r k ++ [markB])).length)
  | 0, k, bl, ht, hw => by
    have e : addS (lv lab er room bl sure bl.length) markB = (0, lv lab er room (bl ++ [markB]) sure (bl.length + 1)) := lv_add markB rfl (tornL_all ht) (by
      have : bwt markB = 4 := rfl
      have : wsum (tpBks lab frm blob data 0 k) = 0 := rfl
      omega)
    unfold wGo wFin
    rw [e]
    simp only [if_true]
    rw [lv_flushE, lv_flushV]
    simp [tpBks]
  | r + 1, k, bl, ht, hw => by
    have e3 : wsum (tpBks lab frm blob data (r + 1) k) = bwt (tpBlock lab frm blob data k) + wsum (tpBks lab frm blob data r (k + 1)) := rfl
    have e : addS (lv lab er room bl sure bl.length) (tpBlock lab frm blob data k) = (0, lv lab er room (bl ++ [tpBlock lab frm blob data k]) sure (bl.length + 1)) := lv_add _ rfl (tornL_all ht) (by omega)
    unfold wGo
    rw [e]
    simp only [if_true]
    have e2 : bl.length + 1 = (bl ++ [tpBlock lab frm blob data k]).length := by simp
    have e4 : wsum (bl ++ [tpBlock lab frm blob data k]) = wsum bl + bwt (tpBlock lab frm blob data k) := by rw [wsum_app]; simp [wsum]
    rw [e2, lv_wGo hl hf hb hd r (k + 1) (bl ++ [tpBlock lab frm blob data k]) (by
      intro b h
      rcases List.mem_append.1 h with h | h
      · exact ht b h
      · simp at h; subst h; rfl) (by rw [e4]; omega)]
    simp [tpBks]
/-- Write, where there is room: the blob's blocks and its mark behind the others. -/
theorem lv_write {er room : Int} {bl : List Bk} {sure at_ : Nat} (hl : lab.size ≤ 32) (hf : bl.length ≤ 1048576) (hb : blob < 18446744073709551616) (hd : data.size ≤ 4000) (ht : ∀ b ∈ bl, b.torn = false) (hw : (weightN data.size : Int) ≤ room - wsum bl) :
    writeS (lv lab er room bl sure at_) blob data = ((bl.length : Int), 0, lv lab er room (bl ++ tpAll lab bl.length blob data) (bl ++ tpAll lab bl.length blob data).length (bl ++ tpAll lab bl.length blob data).length) := by
  have hs : seekS (lv lab er room bl sure at_) (bl.length : Int) = (0, lv lab er room bl sure bl.length) := lv_seek _ (Nat.le_refl _)
  have ha := tpAll_wt (lab := lab) (frm := bl.length) (blob := blob) (data := data) hl hf hb hd
  have hg := lv_wGo (er := er) (room := room) (sure := sure) (lab := lab) (frm := bl.length) (blob := blob) (data := data) hl hf hb hd (nparts data.size) 0 bl ht (by
    unfold tpAll at ha; rw [wsum_app] at ha
    have e : wsum [markB] = 4 := rfl
    omega)
  unfold writeS
  rw [if_neg (by omega)]
  have e1 : (lv lab er room bl sure at_).bl = bl := rfl
  have e2 : (lv lab er room bl sure at_).label = lab := rfl
  rw [e1, e2, hs]
  simp only [if_true]
  have e3 : (lv lab er room bl sure bl.length).room - ((wsum (lv lab er room bl sure bl.length).bl : Nat) : Int) = room - wsum bl := rfl
  rw [e3, if_pos hw, hg]
  simp only [if_true]
  rfl
/-- Read, over the blocks of a blob: its bytes. -/
theorem rdR_back {er room : Int} {bl : List Bk} {sure : Nat} (hl : lab.size ≤ 32) (hf : frm ≤ 1048576) (hb : blob < 18446744073709551616) (hd : data.size ≤ 4000) (hbl : ∀ i, i < nparts data.size → bl[frm + i]? = some (tpBlock lab frm blob data i)) :
    ∀ n k, k + n + 1 = nparts data.size → RdR lab (frm : Int) blob n (lv lab er room bl sure (frm + k)) k (data.data.toList.take (k * 200)) (data.data.toList, 0, lv lab er room bl sure (frm + nparts data.size)) := by
  have hsz : data.data.toList.length = data.size := by simp
  have hpd : ∀ k, data.data.toList.take (k * 200) ++ (tpPiece lab frm blob data k).data.data.toList = data.data.toList.take (k * 200 + 200) := by
    intro k
    have e : (tpPiece lab frm blob data k).data.data.toList = (data.data.toList.drop (k * 200)).take (min (k * 200 + 200) data.size - k * 200) := by
      show (data.extract (k * 200) (min (k * 200 + 200) data.size)).data.toList = _
      rw [ext_list]
    rw [e, List.take_add]
    congr 1
    by_cases h : k * 200 + 200 ≤ data.size
    · congr 1; omega
    · rw [List.take_of_length_le (l := data.data.toList.drop (k * 200)) (i := 200) (by rw [List.length_drop]; omega), List.take_of_length_le (by rw [List.length_drop]; omega)]
  intro n
  induction n with
  | zero =>
    intro k hk
    have hr : readS (lv lab er room bl sure (frm + k)) = ((spellB (tpPiece lab frm blob data k), false, 0), lv lab er room bl sure (frm + k + 1)) := lv_read (hbl k (by omega)) rfl
    have hlast : data.data.toList.take (k * 200 + 200) = data.data.toList := List.take_of_length_le (by rw [hsz]; unfold nparts at hk; omega)
    have h := RdR.done (lab := lab) (frm := (frm : Int)) (blob := blob) (k := k) (acc := data.data.toList.take (k * 200)) hr (tpPiece_ok hl hf hb hd (by omega)) ⟨rfl, by show ((frm + k : Nat) : Int) = _; omega, rfl, rfl, rfl⟩ (by show ¬ k + 1 < nparts data.size; omega) (by rw [hpd, hlast]; exact hsz) (by rw [hpd, hlast]; rfl)
    rw [hpd, hlast, show frm + k + 1 = frm + nparts data.size by omega] at h
    exact h
  | succ n ih =>
    intro k hk
    have hr : readS (lv lab er room bl sure (frm + k)) = ((spellB (tpPiece lab frm blob data k), false, 0), lv lab er room bl sure (frm + k + 1)) := lv_read (hbl k (by omega)) rfl
    refine RdR.more hr (tpPiece_ok hl hf hb hd (by omega)) ⟨rfl, by show ((frm + k : Nat) : Int) = _; omega, rfl, rfl, rfl⟩ (by show k + 1 < nparts data.size; omega) ?_
    rw [hpd]
    have h := ih (k + 1) (by omega)
    rw [show (k + 1) * 200 = k * 200 + 200 by omega] at h
    exact h
end
end Go.Proofs.YtekioplbfoonkaaGreatDoor
namespace Go.Proofs.YtekioplbfoonkaaGreatDoor
open Go.RowKit
set_option linter.unusedVariables false
set_option maxRecDepth 100000
set_option maxHeartbeats 1000000
/-- the blocks of a tape to which these blobs were written, one behind the other. -/
def tapeB (lab : ByteArray) (es : List (Nat × ByteArray)) : List Bk := es.foldl (fun bl e => bl ++ tpAll lab bl.length e.1 e.2) []
theorem tapeB_app (lab : ByteArray) (es : List (Nat × ByteArray)) (e : Nat × ByteArray) : tapeB lab (es ++ [e]) = tapeB lab es ++ tpAll lab (tapeB lab es).length e.1 e.2 := by simp [tapeB]
theorem tapeB_pre (lab : ByteArray) : ∀ (fs es : List (Nat × ByteArray)), ∃ r, tapeB lab (es ++ fs) = tapeB lab es ++ r := by
  intro fs
  induction fs with
  | nil => intro es; exact ⟨[], by simp⟩
  | cons f fs ih =>
    intro es
    obtain ⟨r, hr⟩ := ih (es ++ [f])
    rw [show es ++ f :: fs = es ++ [f] ++ fs by simp, hr, tapeB_app]
    exact ⟨_, List.append_assoc _ _ _⟩
/-- where the i-th blob begins. -/
def tapeAt (lab : ByteArray) (es : List (Nat × ByteArray)) (i : Nat) : Nat := (tapeB lab (es.take i)).length
/-- entries that may be written. -/
def okE (e : Nat × ByteArray) : Prop := e.1 < 18446744073709551616 ∧ e.2.size ≤ 600
def tapeW : List (Nat × ByteArray) → Nat
  | [] => 0
  | e :: es => weightN e.2.size + tapeW es
theorem tapeW_app (es : List (Nat × ByteArray)) (e : Nat × ByteArray) : tapeW (es ++ [e]) = tapeW es + weightN e.2.size := by
  induction es with
  | nil => simp [tapeW]
  | cons a es ih => simp only [List.cons_append, tapeW, ih]; omega
theorem tapeW_le : ∀ es : List (Nat × ByteArray), (∀ e ∈ es, okE e) → tapeW es ≤ 832 * es.length
  | [], _ => Nat.zero_le _
  | e :: es, h => by
    have h1 := tapeW_le es fun x hx => h x (List.mem_cons_of_mem _ hx)
    have h2 := (h e (List.mem_cons_self ..)).2
    have h3 : weightN e.2.size ≤ 832 := by unfold weightN nparts; omega
    simp only [tapeW, List.length_cons]
    omega
theorem tape_snoc {lab : ByteArray} (hl : lab.size ≤ 32) (es : List (Nat × ByteArray)) (h : ∀ e ∈ es, okE e) (hn : es.length ≤ 1000) : (∀ b ∈ tapeB lab es, b.torn = false) ∧ wsum (tapeB lab es) ≤ tapeW es ∧ (tapeB lab es).length ≤ 4 * es.length := by
  obtain ⟨n, hn2⟩ : ∃ n, es.length = n := ⟨_, rfl⟩
  induction n generalizing es with
  | zero =>
    obtain rfl := List.eq_nil_of_length_eq_zero hn2
    refine ⟨fun b hb => ?_, Nat.le_refl _, Nat.le_refl _⟩
    cases hb
  | succ n ih =>
    obtain ⟨es, e, rfl⟩ : ∃ fs e, es = fs ++ [e] := ⟨es.dropLast, es.getLast (by intro h; subst h; cases hn2), (List.dropLast_concat_getLast _).symm⟩
    have hl2 : es.length = n := by simp at hn2; exact hn2
    obtain ⟨h1, h2, h3⟩ := ih es (fun x hx => h x (List.mem_append_left _ hx)) (by omega) hl2
    have he := h e (by simp)
    have hf : (tapeB lab es).length ≤ 1048576 := by omega
    have h4 := tpAll_wt (lab := lab) (frm := (tapeB lab es).length) (blob := e.1) (data := e.2) hl hf he.1 (by have := he.2; omega)
    rw [tapeB_app, tapeW_app]
    refine ⟨fun b hb => ?_, ?_, ?_⟩
    · rcases List.mem_append.1 hb with hb | hb
      · exact h1 b hb
      · exact tpAll_torn b hb
    · rw [wsum_app]; omega
    · rw [List.length_append, tpAll_len]
      have : nparts e.2.size ≤ 3 := by have := he.2; unfold nparts; omega
      simp; omega
theorem tape_get {lab : ByteArray} (es : List (Nat × ByteArray)) (i : Nat) {e : Nat × ByteArray} (hi : es[i]? = some e) (j : Nat) (hj : j < nparts e.2.size) : (tapeB lab es)[tapeAt lab es i + j]? = some (tpBlock lab (tapeAt lab es i) e.1 e.2 j) := by
  obtain ⟨hlt, he⟩ := List.getElem?_eq_some_iff.1 hi
  have e1 : es = es.take i ++ [e] ++ es.drop (i + 1) := by
    rw [← he]
    simp
  obtain ⟨r, hr⟩ := tapeB_pre lab (es.drop (i + 1)) (es.take i ++ [e])
  rw [← e1] at hr
  rw [hr, tapeB_app]
  unfold tapeAt tpAll
  rw [List.append_assoc, List.getElem?_append_right (by omega), Nat.add_sub_cancel_left, List.append_assoc, List.getElem?_append_left (by rw [tpBks_len]; exact hj), tpBks_get _ _ _ hj, Nat.zero_add]
/-- a tape with these blobs. -/
def tpv (lab : ByteArray) (er room : Int) (es : List (Nat × ByteArray)) (sure at_ : Nat) : Vst := lv lab er room (tapeB lab es) sure at_
structure TpOk (lab : ByteArray) (er room : Int) (es : List (Nat × ByteArray)) (sure at_ : Nat) : Prop where
  hlab : lab.size ≤ 32
  her : 0 ≤ er ∧ er ≤ 1000000
  hroom : 10000 ≤ room ∧ room ≤ 1000000
  hes : ∀ e ∈ es, okE e
  hlen : es.length ≤ 11
  hsure : sure ≤ (tapeB lab es).length
  hat : at_ ≤ (tapeB lab es).length
theorem TpOk.fit {lab : ByteArray} {er room : Int} {es : List (Nat × ByteArray)} {sure at_ : Nat} (h : TpOk lab er room es sure at_) : (tpv lab er room es sure at_).fit := by
  have h1 := (tape_snoc h.hlab es h.hes (by have := h.hlen; omega)).2.1
  have h2 := tapeW_le es h.hes
  have := h.hlen; have := h.hroom; have := h.her
  exact lv_fit (by omega) (by omega) (by omega) h.hsure h.hat (by omega) (by omega)
theorem TpOk.snoc {lab : ByteArray} {er room : Int} {es : List (Nat × ByteArray)} {sure at_ : Nat} (h : TpOk lab er room es sure at_) {e : Nat × ByteArray} (he : okE e) (hn : es.length ≤ 10) : TpOk lab er room (es ++ [e]) (tapeB lab (es ++ [e])).length (tapeB lab (es ++ [e])).length :=
  ⟨h.hlab, h.her, h.hroom, fun x hx => by
    rcases List.mem_append.1 hx with hx | hx
    · exact h.hes x hx
    · simp at hx; subst hx; exact he, by simp; omega, Nat.le_refl _, Nat.le_refl _⟩
theorem tp_write {lab : ByteArray} {er room : Int} {es : List (Nat × ByteArray)} {sure at_ : Nat} (h : TpOk lab er room es sure at_) {blob : Nat} {data : ByteArray} (he : okE (blob, data)) (hn : es.length ≤ 10) :
    writeS (tpv lab er room es sure at_) blob data = (((tapeB lab es).length : Int), 0, tpv lab er room (es ++ [(blob, data)]) (tapeB lab (es ++ [(blob, data)])).length (tapeB lab (es ++ [(blob, data)])).length) := by
  obtain ⟨h1, h2, h3⟩ := tape_snoc h.hlab es h.hes (by omega)
  have h4 := tapeW_le es h.hes
  have h5 := he.2
  have h6 : weightN data.size ≤ 832 := by unfold weightN nparts; simp only at h5; omega
  have := h.hroom
  unfold tpv
  rw [lv_write h.hlab (by omega) he.1 (by simp only at h5; omega) h1 (by omega), tapeB_app]
section
variable {w0 w : World} {I : Part} {L : List HP} {p : Nat}
theorem twrite_tp (hT : Rd I (some ⟨0, 0, none⟩) tabV) {lab : ByteArray} {er room : Int} {es : List (Nat × ByteArray)} {sure at_ : Nat} (h : TpOk lab er room es sure at_) (blob : Nat) (data : ByteArray) (he : okE (blob, data)) (hn : es.length ≤ 10) {N : Int} (hN : ((tapeB lab es).length : Int) = N) (H : Sat w0 I (volp p (tpv lab er room es sure at_) :: L) w) :
    Calls Tryz.prog 42 #[.pointer (some ⟨p, 0, none⟩), .int .u64 (blob : Int), .string data] w fun e w' => e = .returned (.tuple #[.int .i64 N, .int .i64 0]) ∧ Sat w0 I (volp p (tpv lab er room (es ++ [(blob, data)]) (tapeB lab (es ++ [(blob, data)])).length (tapeB lab (es ++ [(blob, data)])).length) :: L) w' :=
  hN ▸ twrite_sat hT h.fit h.hlab blob he.1 data (by have := he.2; simp only at this; omega) (tp_write h he hn) H
theorem tread_tp (hT : Rd I (some ⟨0, 0, none⟩) tabV) {lab : ByteArray} {er room : Int} {es : List (Nat × ByteArray)} {sure at_ : Nat} (h : TpOk lab er room es sure at_) (i : Nat) {blob : Nat} {data : ByteArray} (hi : es[i]? = some (blob, data)) {frm : Nat} (hf : tapeAt lab es i = frm) (H : Sat w0 I (volp p (tpv lab er room es sure at_) :: L) w) :
    Calls Tryz.prog 51 #[.pointer (some ⟨p, 0, none⟩), .int .i64 (frm : Int), .int .u64 (blob : Int)] w fun e w' => e = .returned (.tuple #[.string data, .int .i64 0]) ∧ ∃ at2, TpOk lab er room es sure at2 ∧ Sat w0 I (volp p (tpv lab er room es sure at2) :: L) w' := by
  have hl := (tape_snoc h.hlab es h.hes (by have := h.hlen; omega)).2.2
  have := h.hlen
  have hm : (blob, data) ∈ es := List.mem_of_getElem? hi
  have he := h.hes _ hm
  have he2 : data.size ≤ 600 := he.2
  have hnp : 1 ≤ nparts data.size ∧ nparts data.size ≤ 3 := by unfold nparts; omega
  have hg := fun j hj => tape_get (lab := lab) es i hi j hj
  rw [hf] at hg
  have hlast := (List.getElem?_eq_some_iff.1 (hg (nparts data.size - 1) (by simp only; omega))).1
  have hle : frm + nparts data.size ≤ (tapeB lab es).length := by omega
  have hs : seekS (tpv lab er room es sure at_) (frm : Int) = (0, tpv lab er room es sure frm) := lv_seek frm (by omega)
  have hr := rdR_back (lab := lab) (frm := frm) (blob := blob) (data := data) (er := er) (room := room) (bl := tapeB lab es) (sure := sure) h.hlab (by omega) he.1 (by omega) hg (nparts data.size - 1) 0 (by omega)
  rw [Nat.zero_mul, List.take_zero, Nat.add_zero] at hr
  refine (tread_sat hT h.fit (lab := lab) rfl (frm : Int) (by omega) blob hs (N := nparts data.size - 1) (by omega) (R := (data.data.toList, 0, tpv lab er room es sure (frm + nparts data.size))) (fun _ => hr) (fun e => absurd rfl e) H).mono ?_
  rintro e w' ⟨rfl, S⟩
  exact ⟨rfl, _, ⟨h.hlab, h.her, h.hroom, h.hes, h.hlen, h.hsure, hle⟩, S⟩
end
end Go.Proofs.YtekioplbfoonkaaGreatDoor
namespace Go.Proofs.YtekioplbfoonkaaGreatDoor
open Go.RowKit
set_option linter.unusedVariables false
set_option maxRecDepth 100000
set_option maxHeartbeats 1000000
end Go.Proofs.YtekioplbfoonkaaGreatDoor
namespace Go.Proofs.YtekioplbfoonkaaGreatDoor
open Go.RowKit
set_option linter.unusedVariables false
set_option maxRecDepth 100000
/-- a blob as the laws of layer 7 draw it. -/
structure Bl where
  id : Nat
  s : ByteArray
  n : Int
deriving Inhabited
structure Bl.ok (b : Bl) : Prop where
  id : b.id < 18446744073709551616
  s : b.s.size ≤ 9223372036854775807
  n : -9223372036854775808 ≤ b.n ∧ b.n ≤ 9223372036854775807
def Bl.data (b : Bl) : ByteArray := longS b.s b.n
def Bl.e (b : Bl) : Nat × ByteArray := (b.id, b.data)
theorem Bl.size (b : Bl) : b.data.size ≤ 600 := longS_size _ _
def blc (b : Bl) : List Value := [.int .u64 (b.id : Int), .string b.s, .int .i64 b.n]
theorem okT_blob {w : World} {d : Nat} {cs : List Value} (hl : cs.length = 3) (hok : OkT Tryz.prog w (d + 2) 37 cs) : ∃ b : Bl, b.ok ∧ cs = blc b := by
  match cs, hl with
  | [c0, c1, c2], _ =>
    obtain ⟨a0, h0, w0⟩ := okT_int Tryz.underlying34 (okT_fld 0 (T := 34) (o := 0) Tryz.underlying37 rfl rfl rfl (by kernel_rfl) (by simp) hok)
    obtain ⟨a1, h1, w1⟩ := okT_str Tryz.underlying9 (okT_fld 1 (T := 9) (o := 1) Tryz.underlying37 rfl rfl rfl (by kernel_rfl) (by simp) hok)
    obtain ⟨a2, h2, w2⟩ := okT_int Tryz.underlying3 (okT_fld 2 (T := 3) (o := 2) Tryz.underlying37 rfl rfl rfl (by kernel_rfl) (by simp) hok)
    simp only [List.getElem_cons_zero, List.getElem_cons_succ] at h0 h1 h2
    subst h0 h1 h2
    have h3 := wf_u64 w0
    have h4 := wf_i64 w2
    unfold maxLen at w1
    refine ⟨⟨a0.toNat, a1, a2⟩, ⟨by show a0.toNat < _; omega, w1, h4⟩, ?_⟩
    show _ = [Value.int .u64 ((a0.toNat : Nat) : Int), _, _]
    rw [Int.toNat_of_nonneg h3.1]
/-- blobs that came in: the i-th. -/
def BlAt (I : Part) (la : Option Addr) (i : Nat) (b : Bl) : Prop := ∃ g off, la = some ⟨g, off, none⟩ ∧ cellI I g (off + i * 3) = some (.int .u64 (b.id : Int)) ∧ cellI I g (off + i * 3 + 1) = some (.string b.s) ∧ cellI I g (off + i * 3 + 2) = some (.int .i64 b.n)
theorem okT_blobs {w : World} {la : Option Addr} {len cap : Nat} (hl : OkT Tryz.prog w 6 22 [.slice la len cap]) : len ≤ 9223372036854775807 ∧ len ≤ cap ∧ cap ≤ 9223372036854775807 ∧ ∃ bs : List Bl, bs.length = len ∧ (∀ b ∈ bs, b.ok) ∧ ∀ i (hi : i < bs.length), BlAt (wpart w) la i bs[i] := by
  obtain ⟨h1, h2, h3⟩ := okT_slice Tryz.underlying22 (sz := 3) (by kernel_rfl) (by omega) hl
  refine ⟨by omega, h1, h2, ?_⟩
  have h4 : ∀ i, i < len → ∃ b : Bl, b.ok ∧ BlAt (wpart w) la i b := fun i hi => by
    obtain ⟨b, off, cs, ha, hb, hlen, hok, hc⟩ := h3 i (by omega)
    obtain ⟨x, hx, rfl⟩ := okT_blob hlen hok
    exact ⟨x, hx, b, off, ha, cellI_start (hc 0 (by simp [blc])), cellI_start (by rw [Nat.add_assoc]; exact hc 1 (by simp [blc])), cellI_start (by rw [Nat.add_assoc]; exact hc 2 (by simp [blc]))⟩
  have key : ∀ n, n ≤ len → ∃ bs : List Bl, bs.length = n ∧ (∀ b ∈ bs, b.ok) ∧ ∀ i (hi : i < bs.length), BlAt (wpart w) la i bs[i] := by
    intro n
    induction n with
    | zero => intro _; exact ⟨[], rfl, ⟨fun b h => (by cases h), fun i hi => absurd hi (Nat.not_lt_zero _)⟩⟩
    | succ n ih =>
      intro hn
      obtain ⟨bs, e1, e2, e3⟩ := ih (by omega)
      obtain ⟨b, k1, k2⟩ := h4 n (by omega)
      refine ⟨bs ++ [b], by simp [e1], fun x hx => ?_, fun i hi => ?_⟩
      · rcases List.mem_append.1 hx with hx | hx
        · exact e2 x hx
        · simp at hx; subst hx; exact k1
      · by_cases h : i < bs.length
        · rw [List.getElem_append_left h]; exact e3 i h
        · have : i = n := by simp at hi; omega
          subst this
          rw [List.getElem_append_right (by omega)]
          simpa [e1] using k2
  exact key len (Nat.le_refl _)
/-- the walks' form of an argument's blob. -/
theorem blob_agg {w : World} {cs : Array Value} (hz : cs.size = Tryz.prog.cellsOf 37) (hm : OkT Tryz.prog w 6 37 cs.toList) : ∃ b : Bl, b.ok ∧ cs = #[.int .u64 (b.id : Int), .string b.s, .int .i64 b.n] := by
  have h3 : Tryz.prog.cellsOf 37 = 3 := by kernel_rfl
  obtain ⟨b, hb, h⟩ := okT_blob (w := w) (d := 4) (cs := cs.toList) (by rw [Array.length_toList, hz, h3]) hm
  exact ⟨b, hb, by rw [← Array.toList_inj, h]; rfl⟩
end Go.Proofs.YtekioplbfoonkaaGreatDoor
namespace Go.Proofs.YtekioplbfoonkaaGreatDoor
open Go.RowKit
set_option linter.unusedVariables false
set_option maxRecDepth 100000
/-- Scan's rounds, on a tape on which nothing fails: from a block on, with these items and this end, it ends with those. -/
inductive ScR (lab : ByteArray) (er room : Int) (bl : List Bk) (sure : Nat) : Nat → Nat → List Itm → Nat → List Itm × Nat → Prop
  | stop {at_ end_ : Nat} {acc : List Itm} (h : bl.length ≤ at_) : ScR lab er room bl sure 0 at_ acc end_ (acc, end_)
  | take {n at_ end_ N at2 : Nat} {acc : List Itm} {P : Pc} {D : List UInt8} {R : List Itm × Nat} (hb : bl[at_]? = some ⟨spellB P, false, false⟩) (hok : P.ok) (hN : N ≤ 4000)
      (hR : RdR lab (at_ : Int) P.blob N (lv lab er room bl sure at_) 0 [] (D, 0, lv lab er room bl sure at2)) (h2 : at2 ≤ bl.length) (hD : D.length ≤ 4000)
      (hr : ScR lab er room bl sure n (at_ + nparts D.length) (acc ++ [⟨P.blob, at_, D.length⟩]) (at_ + nparts D.length) R) : ScR lab er room bl sure (n + 1) at_ acc end_ R
  | mark {n at_ end_ : Nat} {acc : List Itm} {s : ByteArray} {R : List Itm × Nat} (hb : bl[at_]? = some ⟨s, true, false⟩) (hr : ScR lab er room bl sure n (at_ + 1) acc end_ R) : ScR lab er room bl sure (n + 1) at_ acc end_ R
  | no {n at_ end_ N at2 : Nat} {acc : List Itm} {P : Pc} {D : List UInt8} {E : Int} {R : List Itm × Nat} (hb : bl[at_]? = some ⟨spellB P, false, false⟩) (hok : P.ok) (hN : N ≤ 4000)
      (hR : RdR lab (at_ : Int) P.blob N (lv lab er room bl sure at_) 0 [] (D, E, lv lab er room bl sure at2)) (hE : E ≠ 0 ∧ E ≠ 14 ∧ E ≠ 8) (h2 : at2 ≤ bl.length)
      (hr : ScR lab er room bl sure n (at_ + 1) acc end_ R) : ScR lab er room bl sure (n + 1) at_ acc end_ R
theorem lv_fit2 {lab : ByteArray} {er room : Int} {bl : List Bk} {sure at_ at2 : Nat} (h : (lv lab er room bl sure at_).fit) (h2 : at2 ≤ bl.length) : (lv lab er room bl sure at2).fit :=
  ⟨⟨h.ok.room0, h.ok.room, h.ok.used, h.ok.armed0, h.ok.armed, h.ok.sure, h2, h.ok.len, h.ok.erased0, h.ok.erased⟩, h.room⟩
section
variable {w0 w : World} {I : Part} {L : List HP} {p : Nat}
end
end Go.Proofs.YtekioplbfoonkaaGreatDoor
namespace Go.Proofs.YtekioplbfoonkaaGreatDoor
open Go.RowKit
set_option linter.unusedVariables false
set_option maxRecDepth 100000
section
variable {lab la : ByteArray} {er room : Int} {bl : List Bk} {sure : Nat}
theorem tpBks_snoc {frm blob : Nat} {data : ByteArray} : ∀ r k, tpBks la frm blob data (r + 1) k = tpBks la frm blob data r k ++ [tpBlock la frm blob data (k + r)]
  | 0, k => rfl
  | r + 1, k => by
    show tpBlock la frm blob data k :: tpBks la frm blob data (r + 1) (k + 1) = _
    rw [tpBks_snoc r (k + 1)]
    show _ = tpBlock la frm blob data k :: (tpBks la frm blob data r (k + 1) ++ _)
    rw [show k + 1 + r = k + (r + 1) by omega]
/-- a blob that is whole, and its mark. -/
theorem scan_blob {frm blob : Nat} {data : ByteArray} (hl : lab.size ≤ 32) (hf : frm ≤ 1048576) (hb : blob < 18446744073709551616) (hd : data.size ≤ 4000)
    (hbl : ∀ i, i < nparts data.size → bl[frm + i]? = some (tpBlock lab frm blob data i)) (hm : bl[frm + nparts data.size]? = some markB) {n end_ : Nat} {acc : List Itm} {R : List Itm × Nat}
    (hr : ScR lab er room bl sure n (frm + nparts data.size + 1) (acc ++ [⟨blob, frm, data.size⟩]) (frm + nparts data.size) R) : ScR lab er room bl sure (n + 2) frm acc end_ R := by
  have hsz : data.data.toList.length = data.size := by simp
  have hnp : 1 ≤ nparts data.size ∧ nparts data.size ≤ 20 := by unfold nparts; omega
  have hb0 := hbl 0 (by omega)
  have hlast := (List.getElem?_eq_some_iff.1 hm).1
  have hR := rdR_back (lab := lab) (frm := frm) (blob := blob) (data := data) (er := er) (room := room) (bl := bl) (sure := sure) hl hf hb hd hbl (nparts data.size - 1) 0 (by omega)
  rw [Nat.zero_mul, List.take_zero, Nat.add_zero] at hR
  refine ScR.take (P := tpPiece lab frm blob data 0) (N := nparts data.size - 1) (D := data.data.toList) (at2 := frm + nparts data.size) hb0 (tpPiece_ok hl hf hb hd (by omega)) (by omega) hR (by omega) (by rw [hsz]; exact hd) ?_
  rw [hsz]
  exact ScR.mark hm hr
/-- a block of another label is no blob's. -/
theorem other_read {frm blob k : Nat} {data : ByteArray} (hl : la.size ≤ 32) (hf : frm ≤ 1048576) (hb : blob < 18446744073709551616) (hd : data.size ≤ 4000) (hk : k < nparts data.size) (hne : la ≠ lab) {at_ : Nat} (hbl : bl[at_]? = some (tpBlock la frm blob data k)) (at0 : Int) (bb j : Nat) (acc : List UInt8) :
    RdR lab at0 bb 0 (lv lab er room bl sure at_) j acc ([], 3, lv lab er room bl sure (at_ + 1)) :=
  RdR.other (lv_read hbl rfl) (tpPiece_ok hl hf hb hd hk) (fun h => hne h.1)
theorem scan_other {frm blob : Nat} {data : ByteArray} (hl : la.size ≤ 32) (hf : frm ≤ 1048576) (hb : blob < 18446744073709551616) (hd : data.size ≤ 4000) (hne : la ≠ lab) {end_ : Nat} {acc : List Itm} {R : List Itm × Nat} (at0 : Nat) :
    ∀ r k, k + r = nparts data.size → (∀ i, k ≤ i → i < nparts data.size → bl[at0 + i]? = some (tpBlock la frm blob data i)) → ∀ n, ScR lab er room bl sure n (at0 + nparts data.size) acc end_ R → ScR lab er room bl sure (n + r) (at0 + k) acc end_ R
  | 0, k, hk, hbl, n, hr => by rw [show k = nparts data.size by omega]; exact hr
  | r + 1, k, hk, hbl, n, hr => by
    have h1 := hbl k (Nat.le_refl _) (by omega)
    have h2 := (List.getElem?_eq_some_iff.1 h1).1
    have ih := scan_other hl hf hb hd hne at0 r (k + 1) (by omega) (fun i hi hi2 => hbl i (by omega) hi2) n hr
    exact ScR.no (N := 0) (at2 := at0 + k + 1) (P := tpPiece la frm blob data k) h1 (tpPiece_ok hl hf hb hd (by omega)) (by omega) (other_read hl hf hb hd (by omega) hne h1 _ _ _ _) (by omega) (by omega) ih
end
end Go.Proofs.YtekioplbfoonkaaGreatDoor
namespace Go.Proofs.YtekioplbfoonkaaGreatDoor
open Go.RowKit
set_option linter.unusedVariables false
set_option maxRecDepth 100000
theorem tapeAt_succ {lab : ByteArray} (es : List (Nat × ByteArray)) (i : Nat) {e : Nat × ByteArray} (hi : es[i]? = some e) : tapeAt lab es (i + 1) = tapeAt lab es i + nparts e.2.size + 1 := by
  obtain ⟨hlt, he⟩ := List.getElem?_eq_some_iff.1 hi
  have e1 : es.take (i + 1) = es.take i ++ [e] := by rw [List.take_succ_eq_append_getElem hlt, he]
  unfold tapeAt
  rw [e1, tapeB_app, List.length_append, tpAll_len]
  omega
theorem tapeAt_le {lab : ByteArray} (es : List (Nat × ByteArray)) (i : Nat) : tapeAt lab es i ≤ (tapeB lab es).length := by
  obtain ⟨r, hr⟩ := tapeB_pre lab (es.drop i) (es.take i)
  rw [List.take_append_drop] at hr
  unfold tapeAt
  rw [hr, List.length_append]
  omega
theorem tape_mark {lab : ByteArray} (es : List (Nat × ByteArray)) (i : Nat) {e : Nat × ByteArray} (hi : es[i]? = some e) : (tapeB lab es)[tapeAt lab es i + nparts e.2.size]? = some markB := by
  obtain ⟨hlt, he⟩ := List.getElem?_eq_some_iff.1 hi
  have e1 : es = es.take i ++ [e] ++ es.drop (i + 1) := by rw [← he]; simp
  obtain ⟨r, hr⟩ := tapeB_pre lab (es.drop (i + 1)) (es.take i ++ [e])
  rw [← e1] at hr
  rw [hr, tapeB_app]
  unfold tapeAt tpAll
  rw [List.append_assoc, List.getElem?_append_right (by omega), Nat.add_sub_cancel_left, List.append_assoc, List.getElem?_append_right (by rw [tpBks_len]; omega), tpBks_len, Nat.sub_self]
  rfl
/-- the i-th item. -/
def itmT (lab : ByteArray) (es : List (Nat × ByteArray)) (j : Nat) : Itm := ⟨(es.getD j (0, ⟨#[]⟩)).1, tapeAt lab es j, (es.getD j (0, ⟨#[]⟩)).2.size⟩
def itsT (lab : ByteArray) (es : List (Nat × ByteArray)) (k : Nat) : List Itm := (List.range k).map (itmT lab es)
theorem itsT_succ (lab : ByteArray) (es : List (Nat × ByteArray)) (k : Nat) : itsT lab es (k + 1) = itsT lab es k ++ [itmT lab es k] := by
  unfold itsT
  rw [List.range_succ, List.map_append]
  rfl
theorem itsT_len (lab : ByteArray) (es : List (Nat × ByteArray)) (k : Nat) : (itsT lab es k).length = k := by simp [itsT]
theorem itmT_eq {lab : ByteArray} (es : List (Nat × ByteArray)) (i : Nat) {e : Nat × ByteArray} (hi : es[i]? = some e) : itmT lab es i = ⟨e.1, tapeAt lab es i, e.2.size⟩ := by
  unfold itmT
  rw [List.getD_eq_getElem?_getD, hi]
  rfl
/-- Scan over the first blobs of a tape, and on. -/
theorem tape_scan_on {lab : ByteArray} {er room : Int} {bl : List Bk} {sure : Nat} (hl : lab.size ≤ 32) (es : List (Nat × ByteArray)) (hes : ∀ e ∈ es, okE e) (hlen : es.length ≤ 11) (hbl : ∃ r, bl = tapeB lab es ++ r) {n0 : Nat} {R : List Itm × Nat}
    (hr : ScR lab er room bl sure n0 (tapeB lab es).length (itsT lab es es.length) ((tapeB lab es).length - 1) R) :
    ∀ r k, k + r = es.length → ScR lab er room bl sure (n0 + 2 * r) (tapeAt lab es k) (itsT lab es k) (tapeAt lab es k - 1) R
  | 0, k, hk => by
    have e : k = es.length := by omega
    subst e
    have e1 : tapeAt lab es es.length = (tapeB lab es).length := by unfold tapeAt; rw [List.take_length]
    rw [e1]
    exact hr
  | r + 1, k, hk => by
    obtain ⟨rr, hrr⟩ := hbl
    have hlt : k < es.length := by omega
    have hi : es[k]? = some es[k] := List.getElem?_eq_getElem hlt
    have ok := hes _ (List.getElem_mem hlt)
    have ih := tape_scan_on hl es hes hlen ⟨rr, hrr⟩ hr r (k + 1) (by omega)
    have h1 := (tape_snoc hl es hes (by omega)).2.2
    have h2 := tapeAt_le (lab := lab) es k
    have h5 := ok.2
    have hin : ∀ i b, (tapeB lab es)[i]? = some b → bl[i]? = some b := fun i b h => by
      rw [hrr, List.getElem?_append_left (List.getElem?_eq_some_iff.1 h).1]; exact h
    rw [show n0 + 2 * (r + 1) = n0 + 2 * r + 2 by omega]
    refine scan_blob (data := es[k].2) (blob := es[k].1) (frm := tapeAt lab es k) hl (by omega) ok.1 (by omega) (fun i hi2 => hin _ _ (tape_get es k hi i hi2)) (hin _ _ (tape_mark es k hi)) ?_
    rw [tapeAt_succ es k hi, itsT_succ, itmT_eq es k hi] at ih
    exact ih
theorem tape_scan {lab : ByteArray} {er room : Int} {sure : Nat} (hl : lab.size ≤ 32) (es : List (Nat × ByteArray)) (hes : ∀ e ∈ es, okE e) (hlen : es.length ≤ 11) :
    ScR lab er room (tapeB lab es) sure (2 * es.length) 0 [] 0 (itsT lab es es.length, (tapeB lab es).length - 1) := by
  have h := tape_scan_on (lab := lab) (er := er) (room := room) (sure := sure) hl es hes hlen ⟨[], by simp⟩ (n0 := 0) (ScR.stop (Nat.le_refl _)) es.length 0 (by omega)
  rw [Nat.zero_add] at h
  exact h
section
variable {w0 w : World} {I : Part} {L : List HP} {p : Nat}
set_option maxHeartbeats 2000000 in
theorem long_q (w : World) (s : ByteArray) (n : Int) (hs : s.size ≤ 9223372036854775807) (hn : -9223372036854775808 ≤ n ∧ n ≤ 9223372036854775807) {R : ByteArray} (hR : longS s n = R) :
    Calls Tryz.prog 9 #[.string s, .int .i64 n] w (Ret (.string R) w) := by
  have hz := cutSize s 60
  unfold longS at hR
  obtain ⟨t, ht⟩ : ∃ t, s.extract 0 60 = t := ⟨_, rfl⟩
  rw [ht] at hz hR
  have HT := hid ht
  obtain ⟨K, hK⟩ : ∃ K, (min n 10).toNat = K := ⟨_, rfl⟩
  rw [hK] at hR
  have hK1 : (K : Int) = n ∨ K = 10 ∨ (n ≤ 0 ∧ K = 0) := by omega
  have hK2 : K ≤ 10 := by omega
  have hK3 : 0 < K → (K : Int) ≤ n := by omega
  have HK1 := hid hK1
  have HK3 := hid hK3
  have HR := hid hR
  have HRS := hid (repS_size t)
  clear ht hK hR hK1 hK3
  go_enter Tryz.func9, Tryz.ntmps9
  go_wp2_with fail
  refine (cut_eq _ s 60 (by omega) hs).mono ?_; rintro e w1 ⟨rfl, hw1⟩
  rw [hw1, HT.out]
  clear hw1
  clear HT
  go_wp2_with fail
  go_loopw [5, 6] (fun out i wr => ∃ k : Nat, k ≤ K ∧ i = .int .i64 k ∧ out = .string (repS t k) ∧ Hid (∃ m, wr = w.drewN m)) (fun _ i _ => K - (intOf i).toNat)
  case atStart => exact ⟨0, Nat.zero_le _, rfl, rfl, hid ⟨0, rfl⟩⟩
  case round =>
    obtain ⟨k, hk, rfl, rfl, HS⟩ := hrel
    by_cases hlt : k < K
    · have hn3 := HK3.out (by omega)
      have k1 : (k : Int) < n := by omega
      have k2 : (k : Int) < 10 := by omega
      have hsz := HRS.out k
      have hkz : k * t.size ≤ 10 * 60 := Nat.mul_le_mul (by omega) hz
      have hcat : ¬ 9223372036854775807 < (repS t k).size + t.size := by rw [hsz]; omega
      have e1 : repS t k ++ t = repS t (k + 1) := rfl
      have E1 := hid e1
      generalize repS t k = x at *
      clear hsz e1
      go_wp2_with fail
      go_roundw
      case rel => exact ⟨k + 1, by omega, by go_num, by rw [E1.out], HS⟩
      case measure => (simp [intOf] <;> omega)
    · obtain rfl : k = K := by omega
      rw [HR.out]
      by_cases k1 : (k : Int) < n
      · have k2 : ¬ (k : Int) < 10 := by have := HK1.out; omega
        go_wp2_with fail
        go_ret
        exact ⟨rfl, HS.out⟩
      · go_wp2_with fail
        go_ret
        exact ⟨rfl, HS.out⟩
/-- a blob that is asked for under another number. -/
theorem tread_no (hT : Rd I (some ⟨0, 0, none⟩) tabV) {lab : ByteArray} {er room : Int} {es : List (Nat × ByteArray)} {sure at_ : Nat} (h : TpOk lab er room es sure at_) (i : Nat) {blob b2 : Nat} {data : ByteArray} (hi : es[i]? = some (blob, data)) (hne : blob ≠ b2) {frm : Nat} (hf : tapeAt lab es i = frm) (H : Sat w0 I (volp p (tpv lab er room es sure at_) :: L) w) :
    Calls Tryz.prog 51 #[.pointer (some ⟨p, 0, none⟩), .int .i64 (frm : Int), .int .u64 (b2 : Int)] w fun e w' => e = .returned (.tuple #[.string ⟨#[]⟩, .int .i64 3]) ∧ ∃ at2, TpOk lab er room es sure at2 ∧ Sat w0 I (volp p (tpv lab er room es sure at2) :: L) w' := by
  have hl := (tape_snoc h.hlab es h.hes (by have := h.hlen; omega)).2.2
  have := h.hlen
  have hm : (blob, data) ∈ es := List.mem_of_getElem? hi
  have he := h.hes _ hm
  have he2 : data.size ≤ 600 := he.2
  have hnp : 1 ≤ nparts data.size ∧ nparts data.size ≤ 3 := by unfold nparts; omega
  have hg := tape_get (lab := lab) es i hi 0 (by simp only; omega)
  rw [hf, Nat.add_zero] at hg
  have hlast := (List.getElem?_eq_some_iff.1 hg).1
  have hs : seekS (tpv lab er room es sure at_) (frm : Int) = (0, tpv lab er room es sure frm) := lv_seek frm (by omega)
  have hr : RdR lab (frm : Int) b2 0 (tpv lab er room es sure frm) 0 [] ([], 3, tpv lab er room es sure (frm + 1)) :=
    RdR.other (lv_read hg rfl) (tpPiece_ok (frm := frm) (blob := blob) (data := data) (k := 0) h.hlab (by omega) he.1 (by omega) (by omega)) (fun x => hne x.2.2.1)
  refine (tread_sat hT h.fit (lab := lab) rfl (frm : Int) (by omega) b2 hs (N := 0) (by omega) (R := ([], 3, tpv lab er room es sure (frm + 1))) (fun _ => hr) (fun e => absurd rfl e) H).mono ?_
  rintro e w' ⟨rfl, S⟩
  exact ⟨rfl, _, ⟨h.hlab, h.her, h.hroom, h.hes, h.hlen, h.hsure, by omega⟩, S⟩
end
/-- the blobs that came in, as entries of a tape. -/
def esOf (bs : List Bl) (k : Nat) : List (Nat × ByteArray) := (bs.take k).map Bl.e
theorem esOf_succ (bs : List Bl) (k : Nat) (hk : k < bs.length) : esOf bs (k + 1) = esOf bs k ++ [(bs[k].id, bs[k].data)] := by
  unfold esOf
  rw [List.take_succ_eq_append_getElem hk, List.map_append]
  rfl
theorem esOf_len (bs : List Bl) (k : Nat) (hk : k ≤ bs.length) : (esOf bs k).length = k := by simp [esOf]; omega
theorem esOf_ok (bs : List Bl) (h : ∀ b ∈ bs, b.ok) (k : Nat) : ∀ e ∈ esOf bs k, okE e := by
  intro e he
  obtain ⟨b, hb, rfl⟩ := List.mem_map.1 he
  exact ⟨(h b (List.mem_of_mem_take hb)).id, b.size⟩
theorem esOf_get (bs : List Bl) (n i : Nat) (hi : i < n) (hn : n ≤ bs.length) : (esOf bs n)[i]? = some (bs[i].id, bs[i].data) := by
  unfold esOf
  rw [List.getElem?_map, List.getElem?_take_of_lt hi, List.getElem?_eq_getElem (by omega)]
  rfl
theorem esOf_take (bs : List Bl) (n k : Nat) (hk : k ≤ n) : (esOf bs n).take k = esOf bs k := by
  unfold esOf
  rw [← List.map_take, List.take_take, Nat.min_eq_left hk]
theorem esOf_at {lab : ByteArray} (bs : List Bl) (n k : Nat) (hk : k ≤ n) : tapeAt lab (esOf bs n) k = (tapeB lab (esOf bs k)).length := by
  unfold tapeAt
  rw [esOf_take bs n k hk]
theorem esOf_tp {lab : ByteArray} (hl : lab.size ≤ 32) (bs : List Bl) (h : ∀ b ∈ bs, b.ok) (k : Nat) (hk : k ≤ 10) (hb : k ≤ bs.length) : TpOk lab 1 100000 (esOf bs k) (tapeB lab (esOf bs k)).length (tapeB lab (esOf bs k)).length :=
  ⟨hl, by omega, by omega, esOf_ok bs h k, by rw [esOf_len bs k hb]; omega, Nat.le_refl _, Nat.le_refl _⟩
end Go.Proofs.YtekioplbfoonkaaGreatDoor
