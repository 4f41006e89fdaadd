/- The disk of layer 4: the names of its files, in order. The disk of layer 4: Names, Crash of a disk on which nothing is loose. -/
import Derived.Test.YtekioplbfoonkaaGreatDoorMgA
import Derived.Test.YtekioplbfoonkaaGreatDoorShelfG
import Derived.Shelf.AbstractIn
import Derived.Maps.OwnOps
import Derived.Test.YtekioplbfoonkaaGreatDoorRow
namespace Go.Proofs.YtekioplbfoonkaaGreatDoor
open Go.RowKit Go.Maps Go.Sort Go.Shelf
set_option linter.unusedVariables false
set_option maxRecDepth 100000
theorem dkeys {H : Type} {w : World} {R : Value → Option (DataW H × List MemPlace)} {b n : Nat} {D : DataW H} (hown : w.ownsMap Tryz.prog 9 R b n D) (NL : List (List UInt8)) (hnd : NL.Nodup) (hm : ∀ x, x ∈ NL ↔ Maps.has D (.string x) = true) :
    NL.Perm (strKeys D) ∧ Maps.size D = NL.length := by
  have hc : Collected D (fun _ => false) NL := ⟨hnd, fun x => by rw [hm x]; simp⟩
  have hp := hc.perm hown (Maps.string_keyed Tryz.underlying9) Tryz.underlying9 (fun _ => rfl)
  refine ⟨hp, ?_⟩
  have h1 := hp.length_eq
  obtain ⟨es, clock, _, _, _, rfl⟩ := hown
  simp only [strKeys, List.length_map] at h1
  rw [size_eq]; omega
/-- slices.Sort's two contracts at this dump, at the fence that asks nothing. -/
theorem sortsA (m : Nat) : AnyZ.SortsIn Tryz.prog Tryz.sortedA_ren Fence.wide m :=
  ⟨fun blk off cap ss W hH hblk hsz => callsIn_wide.2 (AnyM.slices_Sort_string Tryz.sortA blk off cap ss W hH hblk hsz),
   fun p cap W => callsIn_wide.2 (AnyM.slices_Sort_string_none Tryz.sortA p cap W)⟩
set_option maxHeartbeats 2000000 in
theorem all_any {H : Type} (p b nn : Nat) (D0 : DataW H) (R : Value → Option (DataW H × List MemPlace)) (w : World) (hm : w.cell? ⟨p, 4, none⟩ = some (.map (some b))) (hown : w.ownsMap Tryz.prog 9 R b nn D0) (hmax : Maps.size D0 ≤ maxLen) (hbytes : Maps.size D0 * 16 ≤ 140737488355328) :
    Calls Tryz.prog 83 #[.pointer (some ⟨p, 0, none⟩)] w fun e w' => ∃ (v : Value) (ss : List (List UInt8)), e = .returned v ∧ ss.Perm (strKeys D0) ∧
      w'.ownsRow w.heap.size 9 1 v ss.length ((ss.mergeSort (fun x y => decide (x ≤ y))).map encStr) ∧ (v = .slice none 0 0 ↔ ss = []) ∧ Below w.heap.size w w' := by
  refine (callsIn_wide (n := 6)).1 ?_
  have hbl := hown.lt
  have hseq : SeqGives Fence.wide 2 Tryz.prog 176 #[.pointer (some ⟨w.heap.size, 0, none⟩)] encStr (fun ss => ss.Perm (strKeys D0)) (Maps.size D0) (w.alloc (.cells #[.map (some b)] 140)) :=
    AnyZ.keys_gives (ρ := Tryz.keysA_ren) { Tryz.keysA with } Fence.wide _ trivial rfl (by omega) w.heap.size b nn D0 _ (by simp) (by simp) (by
      obtain ⟨es, clock, hb, Ft, hs, hD⟩ := hown
      exact ⟨es, clock, (Below.heap_alloc _ _ b hbl).trans hb, Ft, hs, hD⟩)
  have cK : ∀ mb W, CallsIn Fence.wide 5 Tryz.prog 136 #[.map mb] W fun e w' => e = .returned (.func (.func 176) #[] #[.pointer (some ⟨W.heap.size, 0, none⟩)]) ∧ w' = W.alloc (.cells #[.map mb] 140) := fun mb W => AnyZ.keys_in Tryz.keysA Fence.wide 5 trivial rfl mb W
  have cS := AnyZ.sorted_in Tryz.sortedA Fence.wide 5 trivial trivial trivial trivial rfl (by omega) (sortsA _) (enters_of Tryz.func175 (by kernel_rfl) rfl) 176 #[.pointer (some ⟨w.heap.size, 0, none⟩)] trivial (enters_of Tryz.func176 (by kernel_rfl) rfl) _ _ hmax hbytes _ hseq
  change CallsIn _ _ Tryz.prog 135 _ _ _ at cS
  have hfK : Fence.wide.fn 136 := trivial
  have hfS : Fence.wide.fn 135 := trivial
  refine callsIn_of_wp Tryz.func83 rfl trivial ?_ rfl
  simp only [Tryz.ntmps83, List.size_toArray, List.length_cons, List.length_nil, Nat.reduceAdd, Nat.reduceSub, Array.replicate_succ, Array.replicate_zero, List.push_toArray, List.append_toArray, List.nil_append, List.cons_append]
  gi_wp2_with (first
    | (gi_at_call 136; refine (cK _ _).mono ?_; rintro e w' ⟨rfl, rfl⟩)
    | (gi_at_call 135; refine cS.mono ?_; rintro e w' ⟨v, ss, rfl, hS, hrow, hnil, hb⟩))
  go_ret
  exact ⟨v, ss, rfl, hS, ownsRow_base_a hrow (by simp), hnil, ((Below.refl _ w).alloc (Nat.le_refl _) _).trans (hb.mono (by simp))⟩
section
variable {w0 w : World} {I : Part} {L : List HP} {p : Nat} {d : Dst}
theorem dall_sat (NL : List (List UInt8)) (hnd : NL.Nodup) (hF : ∀ x : List UInt8, x ∈ NL ↔ (d.F (.string x)).isSome = true) (hkl : ∀ x ∈ NL, x.length ≤ maxLen) (hso : NL.mergeSort leB = NL) (hlen : NL.length ≤ 1000) (H : Sat w0 I (dskp p d :: L) w) :
    Calls Tryz.prog 83 #[.pointer (some ⟨p, 0, none⟩)] w fun e w' => ∃ J ad cap, e = .returned (.slice ad NL.length cap) ∧ NL.length ≤ cap ∧ cap ≤ 9223372036854775807 ∧ I.le J ∧ Rd J ad (NL.map encStr) ∧ Sat w0 J (dskp p d :: L) w' := by
  obtain ⟨b, H1⟩ := H.dskOpen
  have c4 := H1.isBlk.cell 4 (v := .map (some b)) rfl
  obtain ⟨D, hs, ho, _⟩ := H1.swap.isGMap
  have hks := (Maps.string_keyed Tryz.underlying9 : Maps.Keyed Tryz.prog 9)
  have hhas : ∀ x, x ∈ NL ↔ Maps.has D (.string x) = true := by
    intro x
    constructor
    · intro hx
      rw [hs.has (.string x) trivial]
      exact (hF x).1 hx
    · intro hx
      rw [hs.has (.string x) trivial] at hx
      exact (hF x).2 hx
  obtain ⟨hp, hz⟩ := dkeys ho NL hnd hhas
  refine (all_any p b d.c D _ w c4 ho (by rw [hz]; unfold maxLen; omega) (by rw [hz]; omega)).mono ?_
  rintro e w' ⟨v, ss, rfl, hps, hrow, _, hb⟩
  have hms : ss.mergeSort (fun x y => decide (x ≤ y)) = NL := by
    have h1 := mergeSort_of_perm (hps.trans hp.symm)
    rw [← hso]; exact h1
  have hsl : ss.length = NL.length := (hps.trans hp.symm).length_eq
  rw [hms, hsl] at hrow
  obtain ⟨J, hJ, hS, hnew⟩ := H.belowI hb
  rcases hrow.2 with ⟨rfl, hz0⟩ | ⟨g, cap, cur, rfl, hg, hh, h1, h2, h3, h4⟩
  · have hn : NL = [] := List.eq_nil_of_length_eq_zero hz0
    exact ⟨J, none, 0, by rw [hn]; rfl, by rw [hn]; exact Nat.le_refl _, by decide, hJ, by rw [hn]; exact Rd.nil _ _, hS⟩
  · refine ⟨J, some ⟨g, 0, none⟩, cap, rfl, by omega, by unfold maxLen at *; omega, hJ, fun i hi => ?_, hS⟩
    refine ⟨g, 0, rfl, ?_⟩
    unfold cellI
    rw [hnew g _ hg hh]
    have hi' : i < ((NL.map encStr)).length := hi
    have e : (cur.toList.take (NL.length * 1))[i]? = (NL.map encStr)[i]? := by rw [h4]
    rw [List.getElem?_take_of_lt (by simpa using hi'), List.getElem?_eq_getElem hi'] at e
    rw [Nat.zero_add]
    simpa using e
end
end Go.Proofs.YtekioplbfoonkaaGreatDoor
namespace Go.Proofs.YtekioplbfoonkaaGreatDoor
open Go.RowKit Go.Maps Go.Sort
set_option linter.unusedVariables false
set_option maxRecDepth 100000
set_option maxHeartbeats 2000000
/-- the names of the files of a disk. -/
structure Files (d : Dst) (NL : List (List UInt8)) : Prop where
  nd : NL.Nodup
  mem : ∀ x : List UInt8, x ∈ NL ↔ (d.F (.string x)).isSome = true
  kl : ∀ x ∈ NL, x.length ≤ 1000
  so : NL.mergeSort leB = NL
  len : NL.length ≤ 1000
theorem Files.get {d : Dst} {NL : List (List UInt8)} (h : Files d NL) (k : Nat) (hk : k < NL.length) : ∃ f, d.F (.string NL[k]) = some f := Option.isSome_iff_exists.1 ((h.mem _).1 (List.getElem_mem hk))
section
variable {w0 w : World} {I : Part} {L : List HP} {p : Nat} {d : Dst}
theorem dall_files {NL : List (List UInt8)} (hf : Files d NL) (H : Sat w0 I (dskp p d :: L) w) :
    Calls Tryz.prog 83 #[.pointer (some ⟨p, 0, none⟩)] w fun e w' => ∃ J ad cap, e = .returned (.slice ad NL.length cap) ∧ NL.length ≤ cap ∧ cap ≤ 9223372036854775807 ∧ I.le J ∧ Rd J ad (NL.map encStr) ∧ Sat w0 J (dskp p d :: L) w' :=
  dall_sat NL hf.nd hf.mem (fun x hx => by have := hf.kl x hx; unfold maxLen; omega) hf.so hf.len H
theorem dcrash_sat {NL : List (List UInt8)} (hf : Files d NL) (hsafe : ∀ x ∈ NL, ∃ s, d.F (.string x) = some ⟨true, s, true, s⟩) (ca : Option Addr) (cl cc : Nat) (H : Sat w0 I (dskp p d :: L) w) :
    Calls Tryz.prog 33 #[.pointer (some ⟨p, 0, none⟩), .slice ca cl cc] w fun e w' => ∃ J, e = .returned (.tuple #[]) ∧ I.le J ∧ Sat w0 J (dskp p d :: L) w' := by
  have HH := hid H
  have HF := hid hf
  have HSF := hid hsafe
  obtain ⟨N, hN⟩ : ∃ N, NL.length = N := ⟨_, rfl⟩
  have HN := hid hN
  clear H hf hsafe hN
  go_enter Tryz.func33, Tryz.ntmps33
  go_wp2_with fail
  refine (dall_files HF.out HH.out).mono ?_; rintro e w1 ⟨J, ad, cap, rfl, hc1, hc2, hJ, hrd, S1⟩
  rw [HN.out] at hc1 ⊢
  have H1 := hid S1
  have HJ := hid hJ
  have HR := hid hrd
  clear S1 HH hJ hrd
  go_wp2_with fail
  go_loopw [4, 6, 7, 8, 12] (fun c _ _ _ i wr => c = .int .i64 0 ∧ ∃ k : Nat, k ≤ N ∧ i = .int .i64 (k : Int) ∧ Sat w0 J (dskp p d :: L) wr) (fun _ _ _ _ i _ => N - (intOf i).toNat)
  case atStart => exact ⟨rfl, 0, Nat.zero_le _, rfl, H1.out⟩
  case round =>
    clear H1
    obtain ⟨rfl, k, hk, rfl, Sr⟩ := hrel
    by_cases hlt : k < N
    · have hkN : k < NL.length := by rw [HN.out]; exact hlt
      obtain ⟨b0, off, rfl, e0⟩ := HR.out.get Sr k (u := encStr NL[k]) (by simp [hkN])
      obtain ⟨s, hs⟩ := HSF.out NL[k] (List.getElem_mem hkN)
      have hkl := HF.out.kl NL[k] (List.getElem_mem hkN)
      have hk1 : (k : Int) < (N : Int) := by omega
      have hk0 : (0 : Int) ≤ (k : Int) := by omega
      generalize NL[k] = x at *
      have hkey := keyStr ⟨x.toArray⟩ (by show x.length ≤ _; unfold maxLen; omega)
      rw [show (⟨x.toArray⟩ : ByteArray).data.toList = x from rfl] at hkey
      obtain ⟨b, S2⟩ := Sr.dskOpen
      have c4 := S2.isBlk.cell 4 (v := .map (some b)) rfl
      have hl := S2.swap.gmapGet fileT hkey
      rw [hs] at hl
      simp only [Option.getD_some] at hl
      unfold fenc fcs at hl
      unfold encStr at e0
      obtain ⟨g, hg⟩ : ∃ g, wr.heap.size = g := ⟨_, rfl⟩
      have H2 := hid ((Sat.dskClose (d := d) S2).alloc (b := g) (T := 170) (cs := [.bool true, .string s, .bool true, .string s]) rfl hg.symm)
      clear S2 Sr hs
      go_upto_region 5 with fail
      refine wp_gen (fun w3 => Sat w0 J (blk g 170 [.bool true, .string s, .bool true, .string s] :: dskp p d :: L) w3) H2.out ?_
      clear H2 hl c4 hg e0
      intro w3 S3
      have b0 := S3.isBlk.cell 0 (v := .bool true) rfl
      have b1 := S3.isBlk.cell 1 (v := .string s) rfl
      have b2 := S3.isBlk.cell 2 (v := .bool true) rfl
      have b3 := S3.isBlk.cell 3 (v := .string s) rfl
      have H3 := hid S3.drop
      clear S3
      go_wp2_with fail
      go_roundw
      case rel => exact ⟨rfl, k + 1, by omega, by go_num, H3.out⟩
      case measure => (simp [intOf] <;> omega)
    · obtain rfl : k = N := by omega
      have H1 := hid Sr
      clear Sr
      go_wp2_with fail
      go_returns
      exact ⟨J, rfl, HJ.out, H1.out⟩
theorem field_now (nt : Bool) (nx : ByteArray) (st : Bool) (sx : ByteArray) (w : World) : (Instr.field 170 (.agg #[.bool nt, .string nx, .bool st, .string sx]) 0).run Tryz.prog w = .ok (.agg #[.bool nt, .string nx]) w := by
  first
    | (simp [Instr.field, go_sem, run_underlying Tryz.underlying170, part, asAgg]; done)
    | rfl
theorem field_there (nt : Bool) (nx : ByteArray) (w : World) : (Instr.field 168 (.agg #[.bool nt, .string nx]) 0).run Tryz.prog w = .ok (.bool nt) w := by
  first
    | (simp [Instr.field, go_sem, run_underlying Tryz.underlying168, part, asAgg]; done)
    | rfl
theorem dnames_sat {NL : List (List UInt8)} (hd : d.calm) (hf : Files d NL) (hth : ∀ x ∈ NL, ∃ f, d.F (.string x) = some f ∧ f.nt = true) (H : Sat w0 I (dskp p d :: L) w) :
    Calls Tryz.prog 73 #[.pointer (some ⟨p, 0, none⟩)] w fun e w' => ∃ J ad cap, e = .returned (.tuple #[.slice ad NL.length cap, .int .i64 0]) ∧ NL.length ≤ cap ∧ cap ≤ 9223372036854775807 ∧ I.le J ∧ Rd J ad (NL.map encStr) ∧ Sat w0 J (dskp p d :: L) w' := by
  have HH := hid H
  have HF := hid hf
  have HSF := hid hth
  obtain ⟨N, hN⟩ : ∃ N, NL.length = N := ⟨_, rfl⟩
  have hN3 : N ≤ 1000 := by rw [← hN]; exact hf.len
  have HN := hid hN
  clear H hf hth hN
  go_enter Tryz.func73, Tryz.ntmps73
  go_wp2_with fail
  refine (dtry_calm hd HH.out).mono ?_; rintro e w1 ⟨rfl, S1⟩
  have H1 := hid S1
  clear S1 HH
  go_wp2_with fail
  refine (dall_files HF.out H1.out).mono ?_; rintro e w1 ⟨J, ad, cap, rfl, hc1, hc2, hJ, hrd, S1⟩
  rw [HN.out] at hc1 ⊢
  have H2 := hid (S1.nilRow 9 1)
  have HJ := hid hJ
  have HR := hid hrd
  clear S1 H1 hJ hrd
  go_wp2_with fail
  go_loopw [5, 7, 18] (fun tv _ i wr => ∃ k : Nat, k ≤ N ∧ i = .int .i64 (k : Int) ∧ Sat w0 J (row 9 1 tv k ((NL.map encStr).take k) :: dskp p d :: L) wr) (fun _ _ i _ => N - (intOf i).toNat)
  case atStart => exact ⟨0, Nat.zero_le _, rfl, H2.out⟩
  case round =>
    clear H2
    obtain ⟨k, hk, rfl, Sr⟩ := hrel
    by_cases hlt : k < N
    · have hkN : k < NL.length := by rw [HN.out]; exact hlt
      obtain ⟨b0, off, rfl, e0⟩ := HR.out.get Sr k (u := encStr NL[k]) (by simp [hkN])
      obtain ⟨⟨nt, nx, st, sx⟩, hs, hnt⟩ := HSF.out NL[k] (List.getElem_mem hkN)
      simp only at hnt
      subst hnt
      have hkl := HF.out.kl NL[k] (List.getElem_mem hkN)
      have htk : (NL.map encStr).take (k + 1) = (NL.map encStr).take k ++ [encStr NL[k]] := by rw [List.take_succ_eq_append_getElem (by simpa using hkN), List.getElem_map]
      have HTK := hid htk
      clear htk
      have hk1 : (k : Int) < (N : Int) := by omega
      have hk0 : (0 : Int) ≤ (k : Int) := by omega
      generalize NL[k] = x at *
      have hkey := keyStr ⟨x.toArray⟩ (by show x.length ≤ _; unfold maxLen; omega)
      rw [show (⟨x.toArray⟩ : ByteArray).data.toList = x from rfl] at hkey
      obtain ⟨b, S2⟩ := Sr.swap.dskOpen
      have c4 := S2.isBlk.cell 4 (v := .map (some b)) rfl
      have hl := S2.swap.gmapGet fileT hkey
      rw [hs] at hl
      simp only [Option.getD_some] at hl
      unfold fenc fcs at hl
      unfold encStr at e0
      have H2 := hid Sr
      clear S2 Sr hs
      have hf1 := field_now true nx st sx
      have hf2 := field_there true nx
      go_wp2_with (at_builtin; refine wpList_appS slStr rfl _ _ rfl H2.out [.string ⟨x.toArray⟩] rfl rfl rfl rfl ?h1 ?hb ?hn ?_)
      case h1 => first | rfl | (intro u hu; simp at hu; subst hu; rfl)
      case hb => omega
      case hn => omega
      intro ad2 cap2 w8 hd1 hd2 S8
      have H8 := hid S8
      clear S8 H2 hl c4 e0
      go_wp2_with fail
      go_roundw
      case rel => exact ⟨k + 1, by omega, by go_num, by rw [HTK.out]; exact H8.out⟩
      case measure => (simp [intOf] <;> omega)
    · obtain rfl : k = N := by omega
      rw [List.take_of_length_le (by rw [List.length_map, HN.out]; exact Nat.le_refl _)] at Sr
      obtain ⟨J2, ad2, cp2, hJ2, S2, hv, hd1, hd2, _, hrd2⟩ := Sr.freezeRow
      subst hv
      have H1 := hid S2
      have HR2 := hid hrd2
      have HJ2 := hid hJ2
      clear Sr S2 hrd2 hJ2
      go_wp2_with fail
      go_returns
      exact ⟨J2, ad2, cp2, (by rw [HN.out] <;> rfl), (by rw [HN.out]; exact hd1), (by unfold maxLen at hd2; exact hd2), Part.le_trans HJ.out HJ2.out, HR2.out, H1.out⟩
end
end Go.Proofs.YtekioplbfoonkaaGreatDoor
