/- Plain laws of the requests' numbers; requests and numbers that came in. -/
import Derived.Test.YtecdcainkemicaaQAct
import Derived.Test.YtecdcainkemicaaMapB
namespace Go.Proofs.Ytecdcainkemicaa
open Go.RowKit
set_option linter.unusedVariables false

def idsOf (l : List Wt) : List Int := l.map (·.id)
theorem ids_erase : ∀ (l : List Wt) (i : Nat), idsOf (l.eraseIdx i) = (idsOf l).eraseIdx i
  | [], i => by simp [idsOf]
  | x :: r, 0 => by simp [idsOf]
  | x :: r, i + 1 => by
    have := ids_erase r i
    unfold idsOf at *
    simp [this]
theorem findF_in (id : Int) : ∀ (l : List Wt) (k : Nat), id ∈ idsOf l → ∃ i : Nat, findF id l k = ((k + i : Nat) : Int) ∧ i < l.length ∧ (idsOf l).erase id = idsOf (l.eraseIdx i)
  | [], k, h => by simp [idsOf] at h
  | x :: r, k, h => by
    by_cases e : x.id = id
    · refine ⟨0, by rw [findF, if_pos e]; simp, by simp, ?_⟩
      simp [idsOf, e]
    · have h' : id ∈ idsOf r := by
        simp only [idsOf, List.map_cons, List.mem_cons] at h
        rcases h with h | h
        · exact absurd h.symm e
        · exact h
      obtain ⟨i, h1, h2, h3⟩ := findF_in id r (k + 1) h'
      refine ⟨i + 1, by rw [findF, if_neg e, h1]; congr 1; omega, by simp; omega, ?_⟩
      unfold idsOf at h3 ⊢
      rw [List.map_cons, List.erase_cons_tail (by simpa using e), h3]
      simp
theorem findF_out (id : Int) (l : List Wt) (h : id ∉ idsOf l) : findF id l 0 = -1 :=
  findF_none id l 0 (fun y hy e => h (by simp only [idsOf, List.mem_map]; exact ⟨y, hy, e⟩))
theorem ids_bump : ∀ (n : Nat) (l : List Wt), idsOf (bump n l) = idsOf l
  | 0, l => by cases l <;> rfl
  | n + 1, [] => rfl
  | n + 1, x :: r => by simp only [bump, idsOf, List.map_cons]; rw [show (bump n r).map (·.id) = r.map (·.id) from ids_bump n r]; rfl
theorem erase_at : ∀ (S : List Int) (i : Nat) (z : Int), S.Nodup → S[i]? = some z → S.erase z = S.eraseIdx i
  | [], i, z, _, h => by simp at h
  | y :: r, 0, z, hn, h => by simp at h; subst h; simp
  | y :: r, i + 1, z, hn, h => by
    have h' : r[i]? = some z := by simpa using h
    have hm : z ∈ r := List.mem_of_getElem? h'
    have hne : y ≠ z := fun e => by subst e; exact (List.nodup_cons.1 hn).1 hm
    rw [List.erase_cons_tail (by simpa using hne), erase_at r i z (List.nodup_cons.1 hn).2 h']
    simp
theorem ids_next {l : List Wt} {i : Nat} {x : Wt} (hn : (idsOf l).Nodup) (hx : l[i]? = some x) : (idsOf l).erase x.id = idsOf ((bump i l).eraseIdx i) := by
  rw [erase_at (idsOf l) i x.id hn (by simp [idsOf, hx])]
  rw [ids_erase, ids_bump]
theorem ids_len (l : List Wt) : (idsOf l).length = l.length := by simp [idsOf]
/-- requests that came in, with their numbers in range. -/
def ReqAtW (I : Part) (la : Option Addr) (i : Nat) : Prop := ∃ b off id blob vol at_, la = some ⟨b, off, none⟩ ∧ wfI id ∧
  cellI I b (off + i * 4) = some (.int .i64 id) ∧ cellI I b (off + i * 4 + 1) = some (.int .u64 blob) ∧ cellI I b (off + i * 4 + 2) = some (.int .i64 vol) ∧ cellI I b (off + i * 4 + 3) = some (.int .i64 at_)
theorem okT_reqsW {w : World} {la : Option Addr} {len cap : Nat} (hl : OkT Try.prog w 6 22 [.slice la len cap]) : len ≤ 9223372036854775807 ∧ len ≤ cap ∧ ∀ i, i < len → ReqAtW (wpart w) la i := by
  obtain ⟨h1, h2, h3⟩ := okT_slice Try.underlying22 (sz := 4) (by kernel_rfl) (by omega) hl
  refine ⟨by omega, h1, fun i hi => ?_⟩
  obtain ⟨b, off, cs, ha, hb, hlen, hok, hc⟩ := h3 i (by omega)
  obtain ⟨id, blob, vol, at_, rfl⟩ := okT_req hlen hok
  obtain ⟨a0, h0, w0⟩ := okT_int Try.underlying3 (okT_fld 0 (T := 3) (o := 0) Try.underlying25 rfl rfl rfl (by kernel_rfl) (by simp) hok)
  simp only [List.getElem_cons_zero] at h0
  cases h0
  exact ⟨b, off, id, blob, vol, at_, ha, wf_i64 w0, cellI_start (hc 0 (by simp)), cellI_start (by rw [Nat.add_assoc]; exact hc 1 (by simp)), cellI_start (by rw [Nat.add_assoc]; exact hc 2 (by simp)), cellI_start (by rw [Nat.add_assoc]; exact hc 3 (by simp))⟩
theorem okT_intsW {w : World} {la : Option Addr} {len cap : Nat} (hl : OkT Try.prog w 6 26 [.slice la len cap]) : len ≤ 9223372036854775807 ∧ len ≤ cap ∧ ∃ zs : List Int, zs.length = len ∧ Rd (wpart w) la (zs.map (Value.int .i64)) ∧ ∀ z ∈ zs, wfI z := by
  obtain ⟨ys, hyl, h1, h2, hia, hwf⟩ := okT_ints Try.underlying26 Try.underlying3 (by kernel_rfl) hl
  unfold maxLen at h2
  refine ⟨by omega, h1, ys.take len, by rw [List.length_take]; omega, fun i hi => ?_, fun z hz => wf_i64 (hwf z (List.mem_of_mem_take hz))⟩
  have hi' : i < ys.length := by simp at hi; omega
  obtain ⟨b, off, e, hc⟩ := hia i hi'
  exact ⟨b, off, e, by rw [cellI_start hc]; simp⟩
/-- what is known of the queue behind n calls. -/
structure QAll (n : Nat) (l : List Wt) : Prop where
  len : l.length ≤ 20
  ids : (idsOf l).Nodup
  wf : ∀ z ∈ idsOf l, wfI z
  passed : ∀ y ∈ l, 0 ≤ y.passed ∧ y.passed ≤ n
theorem QAll.same {n : Nat} {l : List Wt} (h : QAll n l) : QAll (n + 1) l := ⟨h.len, h.ids, h.wf, fun y hy => by have := h.passed y hy; omega⟩
theorem QAll.add {n : Nat} {l : List Wt} (h : QAll n l) (x : Wt) (hl : l.length < 20) (hx : x.id ∉ idsOf l) (hw : wfI x.id) (hp : x.passed = 0) : QAll (n + 1) (l ++ [x]) := by
  refine ⟨by simp; omega, ?_, fun z hz => ?_, fun y hy => ?_⟩
  · unfold idsOf at *
    rw [List.map_append, List.nodup_append]
    exact ⟨h.ids, by simp, fun a ha b hb => by simp at hb; subst hb; exact fun e => hx (e ▸ ha)⟩
  · unfold idsOf at *
    rw [List.map_append, List.mem_append] at hz
    rcases hz with hz | hz
    · exact h.wf z hz
    · simp at hz; subst hz; exact hw
  · rcases List.mem_append.1 hy with hy | hy
    · have := h.passed y hy; omega
    · simp at hy; subst hy; omega
theorem QAll.drop {n : Nat} {l : List Wt} (h : QAll n l) (i : Nat) : QAll (n + 1) (l.eraseIdx i) := by
  have hsub : (idsOf (l.eraseIdx i)).Sublist (idsOf l) := (List.eraseIdx_sublist l i).map _
  exact ⟨Nat.le_trans (List.length_eraseIdx_le l i) h.len, h.ids.sublist hsub, fun z hz => h.wf z (hsub.subset hz), fun y hy => by have := h.passed y (List.mem_of_mem_eraseIdx hy); omega⟩
theorem QAll.next {n : Nat} {l : List Wt} (h : QAll n l) (i : Nat) : QAll (n + 1) ((bump i l).eraseIdx i) := by
  have hsub : (idsOf ((bump i l).eraseIdx i)).Sublist (idsOf l) := by
    rw [← ids_bump i l]; exact (List.eraseIdx_sublist _ i).map _
  refine ⟨?_, h.ids.sublist hsub, fun z hz => h.wf z (hsub.subset hz), fun y hy => ?_⟩
  · have h1 := List.length_eraseIdx_le (bump i l) i
    rw [bump_len] at h1
    exact Nat.le_trans h1 h.len
  · obtain ⟨z, hz, _, _, _, _, h1, h2⟩ := mem_left hy
    have := h.passed z hz
    omega
end Go.Proofs.Ytecdcainkemicaa
