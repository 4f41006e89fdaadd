/- Contracts of package seal: Scan; of layer 2's laws: Laid. -/
import Derived.Test.YtekioplbfoonkaaGreatDoorSealA
namespace Go.Proofs.YtekioplbfoonkaaGreatDoor
open Go.RowKit
set_option linter.unusedVariables false
set_option maxRecDepth 100000
theorem openR_ok {s c : List UInt8} {n : Nat} (h : openR s = (c, n, 0)) : 8 ≤ n ∧ n ≤ s.length ∧ c.length + 8 = n := by
  unfold openR at h
  split at h
  · cases h
  · split at h
    · cases h
    · split at h
      · cases h
      · split at h
        · cases h
          refine ⟨by omega, by omega, ?_⟩
          rw [List.length_take, List.length_drop]; omega
        · cases h
/-- what is in frames, and how long these are. -/
def scanL : Nat → List UInt8 → List (List UInt8) × Nat
  | 0, _ => ([], 0)
  | k + 1, s => if (openR s).2.2 = 0 then ((openR s).1 :: (scanL k (s.drop (openR s).2.1)).1, (openR s).2.1 + (scanL k (s.drop (openR s).2.1)).2) else ([], 0)
theorem scanL_ok {k : Nat} {s c : List UInt8} {n : Nat} (h : openR s = (c, n, 0)) : scanL (k + 1) s = (c :: (scanL k (s.drop n)).1, n + (scanL k (s.drop n)).2) := by
  rw [scanL, h]; rfl
theorem scanL_no {k : Nat} {s c : List UInt8} {n : Nat} {E : Int} (h : openR s = (c, n, E)) (hE : E ≠ 0) : scanL k s = ([], 0) := by
  cases k with
  | zero => rfl
  | succ k => rw [scanL, h, if_neg hE]
/-- enough is enough. -/
theorem scanL_fuel : ∀ (k m : Nat) (s : List UInt8), s.length < k → s.length < m → scanL k s = scanL m s
  | 0, m, s, h, _ => by omega
  | k + 1, 0, s, _, h => by omega
  | k + 1, m + 1, s, h1, h2 => by
    obtain ⟨c, n, E, h⟩ : ∃ c n E, openR s = (c, n, E) := ⟨_, _, _, rfl⟩
    by_cases hE : E = 0
    · subst hE
      have ho := openR_ok h
      rw [scanL_ok h, scanL_ok h, scanL_fuel k m (s.drop n) (by rw [List.length_drop]; omega) (by rw [List.length_drop]; omega)]
    · rw [scanL_no h hE, scanL_no h hE]
def scanR (s : List UInt8) : List (List UInt8) × Nat := scanL (s.length + 1) s
theorem scanR_ok {s c : List UInt8} {n : Nat} (h : openR s = (c, n, 0)) : scanR s = (c :: (scanR (s.drop n)).1, n + (scanR (s.drop n)).2) := by
  have ho := openR_ok h
  unfold scanR
  rw [scanL_ok h, scanL_fuel s.length ((s.drop n).length + 1) (s.drop n) (by rw [List.length_drop]; omega) (by omega)]
theorem scanR_no {s c : List UInt8} {n : Nat} {E : Int} (h : openR s = (c, n, E)) (hE : E ≠ 0) : scanR s = ([], 0) := scanL_no h hE
theorem scanR_le : ∀ (k : Nat) (s : List UInt8), s.length < k → 8 * (scanR s).1.length ≤ (scanR s).2 ∧ (scanR s).2 ≤ s.length
  | 0, s, h => by omega
  | k + 1, s, h => by
    obtain ⟨c, n, E, ho⟩ : ∃ c n E, openR s = (c, n, E) := ⟨_, _, _, rfl⟩
    by_cases hE : E = 0
    · subst hE
      have h1 := openR_ok ho
      have h2 := scanR_le k (s.drop n) (by rw [List.length_drop]; omega)
      rw [scanR_ok ho]
      rw [List.length_drop] at h2
      simp only [List.length_cons]; omega
    · rw [scanR_no ho hE]; simp
def lvS (l : List UInt8) : Value := .string ⟨l.toArray⟩
theorem dropS (s : ByteArray) (a : Nat) : (s.extract a s.size).data.toList = s.data.toList.drop a := by
  rw [ext_list, List.take_of_length_le (by rw [List.length_drop, openR_ba]; exact Nat.le_refl _)]
set_option maxRecDepth 100000 in
set_option maxHeartbeats 2000000 in
theorem scan_sat {w0 w : World} {I : Part} {L : List HP} (hT : Rd I (some ⟨0, 0, none⟩) tabV) (s : ByteArray) (hs : s.size ≤ 1048576) {G : List (List UInt8)} {n : Nat} (hS : scanR s.data.toList = (G, n)) (H : Sat w0 I L w) :
    Calls Tryz.prog 131 #[.string s] w fun e w' => ∃ J ad cap, e = .returned (.tuple #[.slice ad G.length cap, .int .i64 (n : Int)]) ∧ G.length ≤ cap ∧ cap ≤ 9223372036854775807 ∧ I.le J ∧ Rd J ad (G.map lvS) ∧ Sat w0 J L w' := by
  have HT := hid hT
  have HS := hid (H.nilRow 9 1)
  have hle := scanR_le (s.data.toList.length + 1) s.data.toList (by omega)
  rw [hS, openR_ba] at hle
  have HSC := hid hS
  obtain ⟨hl1, hl2⟩ := hle
  simp only at hl1 hl2
  clear H hT hS
  go_enter Tryz.func131, Tryz.ntmps131
  go_wp2_with fail
  go_loopw [4, 5, 6, 7, 8] (fun l at_ _ _ _ wr => ∃ (q a : Nat), a ≤ s.size ∧ at_ = .int .i64 (a : Int) ∧ q ≤ G.length ∧ scanR (s.data.toList.drop a) = (G.drop q, n - a) ∧ a ≤ n ∧ Sat w0 I (row 9 1 l q ((G.map lvS).take q) :: L) wr) (fun _ at_ _ _ _ _ => s.size - (intOf at_).toNat)
  case atStart => exact ⟨0, 0, Nat.zero_le _, rfl, Nat.zero_le _, by simpa using HSC.out, Nat.zero_le _, by simpa using HS.out⟩
  case round =>
    clear HS
    obtain ⟨q, a, ha, rfl, hq, hsc, han, Sr⟩ := hrel
    have HS := hid Sr
    clear Sr
    have ha1 : (a : Int) ≤ (s.size : Int) := by omega
    have ha0 : (0 : Int) ≤ (a : Int) := by omega
    obtain ⟨t, ht⟩ : ∃ t, s.extract a s.size = t := ⟨_, rfl⟩
    have htl : t.data.toList = s.data.toList.drop a := by rw [← ht]; exact dropS s a
    have hts : t.size = s.size - a := by rw [← ht, ByteArray.size_extract]; omega
    obtain ⟨c1, n1, E1, ho⟩ : ∃ c n E, openR t.data.toList = (c, n, E) := ⟨_, _, _, rfl⟩
    have HO := hid ho
    rw [← htl] at hsc
    by_cases hE : E1 = 0
    · subst hE
      have hk := openR_ok ho
      rw [openR_ba, hts] at hk
      rw [scanR_ok ho, htl, List.drop_drop] at hsc
      simp only [Prod.mk.injEq] at hsc
      obtain ⟨hg, hn⟩ := hsc
      have hql : q < G.length := by
        rcases Nat.lt_or_ge q G.length with h | h
        · exact h
        · rw [List.drop_eq_nil_of_le h] at hg; cases hg
      rw [List.drop_eq_getElem_cons hql] at hg
      simp only [List.cons.injEq] at hg
      have hnew : scanR (s.data.toList.drop (a + n1)) = (G.drop (q + 1), n - (a + n1)) := by
        rw [← hg.2]
        refine Prod.ext rfl ?_
        show (scanR (s.data.toList.drop (a + n1))).2 = _
        omega
      have htk : (G.map lvS).take (q + 1) = (G.map lvS).take q ++ [.string ⟨c1.toArray⟩] := by
        rw [List.take_succ_eq_append_getElem (by simpa using hql), List.getElem_map, ← hg.1]; rfl
      have hle2 : a + n1 ≤ n := by omega
      have HNEW := hid hnew
      have HTK := hid htk
      have hn1 : a + n1 ≤ s.size := by omega
      have hnI : (a : Int) + (n1 : Int) ≤ 1048576 := by omega
      have hpos : 8 ≤ n1 := hk.1
      clear hg hn hnew htk ho hk htl
      go_wp2_with fail
      try rw [ht]
      refine (open_sat HT.out t (by omega) HO.out HS.out).mono ?_; rintro e w4 ⟨rfl, S4⟩
      have H4 := hid S4
      clear S4 HS
      go_wp2_with (at_builtin; refine wpList_appS slStr rfl _ _ rfl H4.out [.string ⟨c1.toArray⟩] rfl rfl rfl rfl ?h1 ?hb ?hn ?_)
      case h1 => intro u hu; simp at hu; subst hu; rfl
      case hb => omega
      case hn => omega
      intro ad cap w5 hc1 hc2 S5
      have H5 := hid S5
      clear S5 H4
      go_wp2_with fail
      go_roundw
      case rel => exact ⟨q + 1, a + n1, hn1, by go_num, hql, HNEW.out, hle2, by rw [HTK.out]; exact H5.out⟩
      case measure => (simp [intOf] <;> omega)
    · rw [scanR_no ho hE] at hsc
      simp only [Prod.mk.injEq] at hsc
      have hq2 : q = G.length := by
        rcases Nat.lt_or_ge q G.length with h | h
        · have := hsc.1; rw [List.drop_eq_getElem_cons h] at this; cases this
        · omega
      have ha2 : a = n := by omega
      subst hq2 ha2
      obtain ⟨J, ad, cp, hJ, S8, hval, hcp1, hcp2, _, hrd2⟩ := HS.out.freezeRow
      subst hval
      unfold maxLen at hcp2
      rw [List.take_of_length_le (by simp)] at hrd2
      have H8 := hid S8
      have HRD := hid hrd2
      have hEb : (E1 == 0) = false := by simpa using hE
      have HTJ := hid (HT.out.mono hJ)
      clear hsc ho htl S8 hrd2 HS hE
      go_wp2_with fail
      try rw [ht]
      refine (open_sat HTJ.out t (by omega) HO.out H8.out).mono ?_; rintro e w4 ⟨rfl, S4⟩
      have H4 := hid S4
      clear S4 H8
      go_wp2_with fail
      go_returns
      exact ⟨J, ad, cp, rfl, hcp1, by omega, hJ, HRD.out, H4.out⟩
end Go.Proofs.YtekioplbfoonkaaGreatDoor
