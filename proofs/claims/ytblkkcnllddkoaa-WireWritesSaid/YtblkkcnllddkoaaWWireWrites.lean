/- WireWrites, walked. -/
import Derived.Test.YtblkkcnllddkoaaWireIn
namespace Go.Proofs.Ytblkkcnllddkoaa
open Go.RowKit
set_option linter.unusedVariables false

set_option maxRecDepth 100000 in
set_option maxHeartbeats 8000000 in
theorem wireWrites_walk (la : Option Addr) (len cap : Nat) (a b : Int) (s t : ByteArray) (w : World) (hl : OkT Try.prog w 6 31 [.slice la len cap]) (ha : (Lit.int .u64 a).wf = true) (hb : (Lit.int .u64 b).wf = true) (hs : s.size ≤ 9223372036854775807) (ht : t.size ≤ 9223372036854775807) :
    Calls Try.prog 4 #[.slice la len cap, .int .u64 a, .int .u64 b, .string s, .string t] w (RetB (.bool true) w.heap.size w) := by
  have ha' := wf_u64 ha
  have hb' := wf_u64 hb
  obtain ⟨hlen, hlc, hthg⟩ := okT_things hl
  have HR := hid hthg
  clear ha hb hl hthg
  obtain ⟨a, rfl⟩ := Int.eq_ofNat_of_zero_le ha'.1
  obtain ⟨b, rfl⟩ := Int.eq_ofNat_of_zero_le hb'.1
  have hA : a < 18446744073709551616 := by omega
  have hB : b < 18446744073709551616 := by omega
  clear ha' hb'
  have H0 := hid (Sat.start w)
  go_enter Try.func4, Try.ntmps4
  go_wp2_with fail
  obtain ⟨e, he⟩ : ∃ e, w.heap.size = e := ⟨_, rfl⟩
  refine wp_gen (fun w2 => Sat w (wpart w) [enc e [], enc (e + 1) []] w2) ((H0.out.encNew he.symm).encNew (by simp; omega)).swap ?_
  rw [he]
  intro w2 S2
  go_loopw [13, 14] (fun want i wr => ∃ (k : Nat) (bs : List UInt8), k ≤ len ∧ k ≤ 30 ∧ i = .int .i64 k ∧ want = .string ⟨bs.toArray⟩ ∧ bs.length ≤ 400 * k ∧ Sat w (wpart w) [enc e bs, enc (e + 1) []] wr) (fun _ i _ => 30 - (intOf i).toNat)
  case atStart => exact ⟨0, [], Nat.zero_le _, by omega, rfl, rfl, by simp, S2⟩
  case round =>
    clear S2
    obtain ⟨k, bs, hk, hk30, rfl, rfl, hbl, Sr⟩ := hrel
    have HS := hid Sr
    clear Sr
    by_cases hlt : k < len ∧ k < 30
    · obtain ⟨hlt1, hlt2⟩ := hlt
      obtain ⟨tg, htg⟩ := HR.out k hlt1
      obtain ⟨b', off, rfl, c0, c1, c2, c3, c4, c5, c6⟩ := htg.get HS.out
      have OK := hid htg.ok
      clear htg
      have hk1 : (k : Int) < (len : Int) := by omega
      have hk0 : (0 : Int) ≤ (k : Int) := by omega
      go_wp2_with fail
      refine (put_any tg.kind tg.n tg.m tg.u tg.is tg.s tg.la tg.cap tg.zs HS.out OK.out.rd OK.out.n0.2 OK.out.u0 OK.out.s0 (fun z hz => (OK.out.zwf z hz).2) (by have := OK.out.cap0; omega) OK.out.cap0 (by omega)).mono ?_; rintro r w3 ⟨rfl, S3⟩
      have htl := thingB_len tg.kind tg.n tg.u tg.is tg.s tg.zs OK.out.n0.2 OK.out.u0.2 (fun z hz => (OK.out.zwf z hz).2)
      generalize thingB tg.kind tg.n tg.u tg.is tg.s tg.zs = out at *
      have HS3 := hid S3
      clear S3 c0 c1 c2 c3 c4 c5 c6
      go_wp2_with fail
      go_roundw
      case rel => exact ⟨k + 1, bs ++ out, by omega, by omega, by go_num, congrArg Value.string (baApp bs out), by simp; omega, HS3.out⟩
      case measure => (simp [intOf] <;> omega)
    · have HLT : Hid (len ≤ k ∨ 30 ≤ k) := hid (by omega)
      clear hlt
      have hcs := cutSize s 100
      have hct := cutSize t 100
      have hab : ∀ z ∈ [(a : Int), (b : Int)], 0 ≤ z ∧ z ≤ 18446744073709551615 := by intro z hz; simp at hz; omega
      have hi2 : ∀ z ∈ [(3 : Int), -1], z ≤ 9223372036854775807 := by intro z hz; simp at hz; omega
      have HAB := hid hab
      have HI2 := hid hi2
      have hla := encU_len a hA
      have hlb := encU_len b hB
      clear hab hi2
      obtain ⟨s', hs'⟩ : ∃ x, s.extract 0 100 = x := ⟨_, rfl⟩
      obtain ⟨t', ht'⟩ : ∃ x, t.extract 0 100 = x := ⟨_, rfl⟩
      rw [hs'] at hcs
      rw [ht'] at hct
      have HS' := hid hs'
      have HT' := hid ht'
      clear hs' ht'
      have hst : ∀ x ∈ [s', t'], x.size ≤ 100 := by intro x hx; simp at hx; rcases hx with rfl | rfl <;> assumption
      have HST := hid hst
      have hls := encS_len s' (by omega)
      have hlt' := encS_len t' (by omega)
      clear hst
      have hfin : ([] : List UInt8) ++ [(a : Int), (b : Int)].flatMap (fun z => encU z.toNat) ++ [s', t'].flatMap encS ++ [true, false].map bB ++ [(3 : Int), -1].flatMap (fun z => encU (max z 0).toNat) = encU a ++ encU b ++ encS s' ++ encS t' ++ [1, 0, 3, 0] := by
        have e1 : ([(3 : Int), -1].flatMap fun z => encU (max z 0).toNat) = [3, 0] := by decide +kernel
        rw [e1]
        simp [bB]
      have HFIN := hid hfin
      clear hfin
      by_cases hh : k < len
      all_goals
        first
        | have hk1 : ¬ (k : Int) < (len : Int) := by omega
        | have hk1 : ¬ (k : Int) < (30 : Int) := by have := HLT.out; omega
        go_wp2_with fail
        refine (ret_sat (cut_any _ s 100 (by omega) hs) HS.out.swap).mono ?_; rintro r w3 ⟨rfl, S3⟩
        have HS3 := hid S3
        rw [HS'.out]
        clear S3
        go_wp2_with fail
        refine (ret_sat (cut_any _ t 100 (by omega) ht) HS3.out).mono ?_; rintro r w4 ⟨rfl, S4⟩
        rw [HT'.out]
        have HS4 := hid S4
        clear S4 HS3 hk1
        go_wp2_with fail
        obtain ⟨J5, hJ5, S5, R5⟩ := HS4.out.lend [.int .u64 (a : Int), .int .u64 (b : Int)] 22 rfl
        refine (encU_sat _ 2 [(a : Int), (b : Int)] S5 R5 HAB.out (by simp) (by simp)).mono ?_; rintro r w6 ⟨rfl, S6⟩
        have HS6 := hid (S6.thaw hJ5)
        clear S5 R5 S6 HS4
        go_wp2_with fail
        obtain ⟨J7, hJ7, S7, R7⟩ := HS6.out.lend [.string s', .string t'] 9 rfl
        refine (encS_sat _ 2 [s', t'] 100 S7 R7 HST.out (by simp; omega) (by omega) (by simp)).mono ?_; rintro r w8 ⟨rfl, S8⟩
        have HS8 := hid (S8.thaw hJ7)
        clear S7 R7 S8 HS6
        go_wp2_with fail
        obtain ⟨J9, hJ9, S9, R9⟩ := HS8.out.lend [.bool true, .bool false] 4 rfl
        refine (encB_sat _ 2 [true, false] S9 R9 (by simp; omega) (by simp)).mono ?_; rintro r w10 ⟨rfl, S10⟩
        have HS10 := hid (S10.thaw hJ9)
        clear S9 R9 S10 HS8
        go_wp2_with fail
        obtain ⟨J11, hJ11, S11, R11⟩ := HS10.out.lend [.int .i64 3, .int .i64 (-1)] 3 rfl
        refine (encI_sat _ 2 [3, -1] S11 R11 HI2.out (by simp; omega) (by simp)).mono ?_; rintro r w12 ⟨rfl, S12⟩
        have HS12 := hid ((HFIN.out ▸ S12.thaw hJ11).swap)
        clear S11 R11 S12 HS10
        go_wp2_with fail
        refine (awake_sat HS12.out).mono ?_; rintro r w13 ⟨rfl, S13⟩
        have HS13 := hid S13
        clear S13 HS12
        go_wp2_with fail
        refine (bytes_sat HS13.out).mono ?_; rintro r w14 ⟨rfl, S14⟩
        have HS14 := hid S14.swap
        clear S14 HS13
        go_wp2_with fail
        refine (bytes_sat HS14.out).mono ?_; rintro r w15 ⟨rfl, S15⟩
        have HS15 := hid S15
        clear S15 HS14
        go_wp2_with fail
        refine (retB_sat (refU_any _ a hA) HS15.out).mono ?_; rintro r w16 ⟨rfl, S16⟩
        have HS16 := hid S16
        clear S16 HS15
        go_wp2_with fail
        refine (retB_sat (refU_any _ b hB) HS16.out).mono ?_; rintro r w17 ⟨rfl, S17⟩
        have HS17 := hid S17
        clear S17 HS16
        go_wp2_with fail
        refine (retB_sat (refS_any _ s' (by omega)) HS17.out).mono ?_; rintro r w18 ⟨rfl, S18⟩
        have HS18 := hid S18
        clear S18 HS17
        go_wp2_with fail
        refine (retB_sat (refS_any _ t' (by omega)) HS18.out).mono ?_; rintro r w19 ⟨rfl, S19⟩
        have HS19 := hid S19
        clear S19 HS18
        go_wp2_with fail
        go_ret
        refine ⟨ret_bool ?_, HS19.out.toBelow (Part.le_refl _)⟩
        have e9 : (⟨#[1, 0, 3, 0]⟩ : ByteArray) = ⟨([1, 0, 3, 0] : List UInt8).toArray⟩ := rfl
        show (encU a ++ (encU b ++ (encS s' ++ (encS t' ++ [1, 0, 3, 0]))) == ((⟨(encU a).toArray⟩ : ByteArray) ++ ⟨(encU b).toArray⟩ ++ ⟨(encS s').toArray⟩ ++ ⟨(encS t').toArray⟩ ++ ⟨#[1, 0, 3, 0]⟩).toList) = true
        rw [e9, baApp, baApp, baApp, baApp, Lib.toList_data]
        simp
end Go.Proofs.Ytblkkcnllddkoaa
