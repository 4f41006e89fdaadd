/- command.upTo, command.Good. -/
import Derived.Test.YtekioplbfoonkaaGreatDoorMgD
import Derived.Test.YtekioplbfoonkaaGreatDoorMg1
import Derived.Carry
import Derived.Deep.CutBlock
import Derived.Deep.DeepCutAuto
namespace Go.Proofs.YtekioplbfoonkaaGreatDoor
open Go.RowKit
set_option linter.unusedVariables false
set_option maxRecDepth 100000
set_option maxHeartbeats 4000000
def upB (n lim : Int) : Bool := decide (0 ≤ n ∧ n ≤ lim)
theorem upB_t {n lim : Int} (h : upB n lim = true) : 0 ≤ n ∧ n ≤ lim := of_decide_eq_true h
theorem upB_f {n lim : Int} (h : upB n lim = false) : ¬ (0 ≤ n ∧ n ≤ lim) := of_decide_eq_false h
/-- a command's cells, whatever they are. -/
structure Raw where
  kind : Int
  client : Int
  seq : Int
  name : ByteArray
  blob : Int
  size : Int
  sum : Int
  zs : List Int
  pool : Int
  vol : Int
  at_ : Int
def Raw.cells (c : Raw) (dv : Value) : List Value := [.int .i64 c.kind, .int .i64 c.client, .int .i64 c.seq, .string c.name, .int .u64 c.blob, .int .i64 c.size, .int .u32 c.sum, dv, .int .i64 c.pool, .int .i64 c.vol, .int .i64 c.at_]
structure Raw.Good (c : Raw) : Prop where
  kind : upB c.kind 14 = true
  kind0 : c.kind ≠ 0
  disk : ∀ i (h : i < c.zs.length), upB c.zs[i] 5 = true
  rise : ∀ i (h : i + 1 < c.zs.length), c.zs[i] < c.zs[i + 1]
  client : upB c.client 1073741824 = true
  seq : upB c.seq 1073741824 = true
  name : c.name.size ≤ 32
  size : upB c.size 4000 = true
  pool : upB c.pool 1 = true
  vol : upB c.vol 11 = true
  at_ : upB c.at_ 1073741824 = true
section
variable {w0 w : World} {I : Part} {L : List HP}
theorem upto_sat (n lim : Int) {b : Bool} (hb : upB n lim = b) (H : Sat w0 I L w) :
    Calls Tryz.prog 52 #[.int .i64 n, .int .i64 lim] w fun e w' => e = .returned (.bool b) ∧ Sat w0 I L w' := by
  refine ret_sat ?_ H
  subst hb
  by_cases h0 : 0 ≤ n
  · by_cases h1 : n ≤ lim
    · have e : upB n lim = true := decide_eq_true ⟨h0, h1⟩
      rw [e]
      clear e
      go_enter Tryz.func52, Tryz.ntmps52
      go_wp2_with fail
      go_ret
      exact ⟨rfl, 0, rfl⟩
    · have e : upB n lim = false := decide_eq_false (fun h => h1 h.2)
      rw [e]
      clear e
      go_enter Tryz.func52, Tryz.ntmps52
      go_wp2_with fail
      go_ret
      exact ⟨rfl, 0, rfl⟩
  · have e : upB n lim = false := decide_eq_false (fun h => h0 h.1)
    rw [e]
    clear e
    go_enter Tryz.func52, Tryz.ntmps52
    go_wp2_with fail
    go_ret
    exact ⟨rfl, 0, rfl⟩
end
/-- what Good answers. -/
def GoodIs (e : Ending) (c : Raw) : Prop := ∃ b, e = .returned (.bool b) ∧ (b = true ↔ c.Good)
set_option maxHeartbeats 20000000 in
theorem good_sat {w0 w : World} {I : Part} {L : List HP} (k cl sq : Int) (nm : ByteArray) (bl sz sm po vo at_ : Int) (da : Option Addr) (n dc : Nat) (zs : List Int) (hzl : zs.length = n) (hn : n ≤ 9223372036854775807) (hdc : n ≤ dc) (hr : Rd I da (zs.map (Value.int .i64))) (H : Sat w0 I L w) :
    Calls Tryz.prog 19 #[.agg #[.int .i64 k, .int .i64 cl, .int .i64 sq, .string nm, .int .u64 bl, .int .i64 sz, .int .u32 sm, .slice da n dc, .int .i64 po, .int .i64 vo, .int .i64 at_]] w fun e w' => GoodIs e ⟨k, cl, sq, nm, bl, sz, sm, zs, po, vo, at_⟩ ∧ Sat w0 I L w' := by
  obtain ⟨rb, hrb⟩ : ∃ rb, w.heap.size = rb := ⟨_, rfl⟩
  have H0 := hid (H.alloc (b := rb) (T := 54) (cs := Raw.cells ⟨k, cl, sq, nm, bl, sz, sm, zs, po, vo, at_⟩ (.slice da n dc)) rfl hrb.symm)
  have HR := hid hr
  have HZL := hid hzl
  clear H hr hzl
  go_enter Tryz.func19, Tryz.ntmps19
  go_upto_region 1 with fail
  try rw [hrb]
  refine wp_gen (fun w1 => Sat w0 I (blk rb 54 (Raw.cells ⟨k, cl, sq, nm, bl, sz, sm, zs, po, vo, at_⟩ (.slice da n dc)) :: L) w1) H0.out ?_
  clear H0 hrb
  intro w1 S1
  have c0 := S1.isBlk.cell 0 (v := .int .i64 k) rfl
  have H1 := hid S1
  clear S1
  cases hk : upB k 14 with
  | false =>
    have HK := hid hk
    clear hk
    go_wp2_with fail
    refine (upto_sat k 14 HK.out H1.out).mono ?_; rintro e w2 ⟨rfl, S2⟩
    have H2 := hid S2
    clear S2 H1 c0
    go_wp2_with fail
    go_ret
    exact ⟨⟨false, rfl, ⟨fun h => (by cases h), fun h => by have h1 := h.kind; rw [HK.out] at h1; cases h1⟩⟩, H2.out.drop⟩
  | true =>
    have HK := hid hk
    clear hk
    by_cases hk0 : k = 0
    · subst hk0
      go_wp2_with fail
      refine (upto_sat 0 14 HK.out H1.out).mono ?_; rintro e w2 ⟨rfl, S2⟩
      have c0 := S2.isBlk.cell 0 (v := .int .i64 0) rfl
      have H2 := hid S2
      clear S2 H1
      go_wp2_with fail
      go_ret
      exact ⟨⟨false, rfl, ⟨fun h => (by cases h), fun h => absurd rfl h.kind0⟩⟩, H2.out.drop⟩
    · have hkd : (k == 0) = false := by simp [hk0]
      go_wp2_with fail
      refine (upto_sat k 14 HK.out H1.out).mono ?_; rintro e w2 ⟨rfl, S2⟩
      have c0 := S2.isBlk.cell 0 (v := .int .i64 k) rfl
      have c7 := S2.isBlk.cell 7 (v := .slice da n dc) rfl
      have H2 := hid S2
      clear S2 H1
      go_wp2_with fail
      clear c0 c7
      have HK0 := hid hk0
      clear hk0 hkd
      go_loopw [2, 3, 4, 17] (fun s2 _ _ ix wr => s2 = .bool false ∧ ∃ i : Nat, i ≤ n ∧ ix = .int .i64 (i : Int) ∧ (∀ j (h : j < zs.length), j < i → upB zs[j] 5 = true) ∧ (∀ j (h : j + 1 < zs.length), j + 1 < i → zs[j] < zs[j + 1]) ∧ Sat w0 I (blk rb 54 (Raw.cells ⟨k, cl, sq, nm, bl, sz, sm, zs, po, vo, at_⟩ (.slice da n dc)) :: L) wr) (fun _ _ _ ix _ => n - (intOf ix).toNat)
      case atStart => exact ⟨rfl, 0, Nat.zero_le _, rfl, fun j _ h => absurd h (Nat.not_lt_zero _), fun j _ h => absurd h (Nat.not_lt_zero _), H2.out⟩
      case round =>
        clear H2
        obtain ⟨rfl, i, hi, rfl, hdk, hrs, Sr⟩ := hrel
        have HS := hid Sr
        have HDK := hid hdk
        have HRS := hid hrs
        clear Sr hdk hrs
        by_cases hlt : i < n
        · have hil : (i : Int) < (n : Int) := by omega
          have hi0 : (0 : Int) ≤ (i : Int) := by omega
          have hiz : i < zs.length := by rw [HZL.out]; exact hlt
          obtain ⟨z, hz⟩ : ∃ z, zs[i] = z := ⟨_, rfl⟩
          have h1 : (zs.map (Value.int .i64))[i]? = some (.int .i64 z) := by rw [List.getElem?_map, List.getElem?_eq_getElem hiz, hz]; rfl
          obtain ⟨g0, o0, rfl, e0⟩ := HR.out.get HS.out i h1
          have HZ := hid hz
          clear h1 hz
          cases hu : upB z 5 with
          | false =>
            have HU := hid hu
            clear hu
            go_wp2_with fail
            refine (upto_sat z 5 HU.out HS.out).mono ?_; rintro e w3 ⟨rfl, S3⟩
            have H3 := hid S3
            clear S3 HS e0
            go_wp2_with fail
            go_ret
            exact ⟨⟨false, rfl, ⟨fun h => (by cases h), fun h => by have h1 := h.disk i hiz; rw [show (Raw.mk k cl sq nm bl sz sm zs po vo at_).zs[i] = z from HZ.out, HU.out] at h1; cases h1⟩⟩, H3.out.drop⟩
          | true =>
            have HU := hid hu
            clear hu
            have HDK2 := hid (show ∀ j (h : j < zs.length), j < i + 1 → upB zs[j] 5 = true from fun j h hj => by
              by_cases hji : j < i
              · exact HDK.out j h hji
              · obtain rfl : j = i := by omega
                rw [HZ.out]; exact HU.out)
            by_cases hi1 : i = 0
            · subst hi1
              rw [Nat.add_zero] at e0
              go_wp2_with fail
              refine (upto_sat z 5 HU.out HS.out).mono ?_; rintro e w3 ⟨rfl, S3⟩
              have H3 := hid S3
              clear S3 HS e0
              go_wp2_with fail
              go_roundw
              case rel => exact ⟨rfl, 1, by omega, rfl, HDK2.out, fun j h hj => by omega, H3.out⟩
              case measure => simp [intOf]; omega
            · obtain ⟨m, rfl⟩ : ∃ m, i = m + 1 := ⟨i - 1, by omega⟩
              have hmz : m < zs.length := by omega
              obtain ⟨y, hy⟩ : ∃ y, zs[m] = y := ⟨_, rfl⟩
              have h2 : (zs.map (Value.int .i64))[m]? = some (.int .i64 y) := by rw [List.getElem?_map, List.getElem?_eq_getElem hmz, hy]; rfl
              have HY := hid hy
              have HM := hid h2
              have hm0 : (0 : Int) ≤ (m : Int) := by omega
              have hmn : (m : Int) < (n : Int) := by omega
              have hip : (0 : Int) < ((m + 1 : Nat) : Int) := by omega
              have hip2 : (0 : Int) < (m : Int) + 1 := by omega
              have hw : IntKind.i64.wrap (((m + 1 : Nat) : Int) - 1) = (m : Int) := by rw [show ((m + 1 : Nat) : Int) - 1 = (m : Int) by omega]; exact IntWalk.i64_in _ (by omega)
              have hw2 : IntKind.i64.wrap ((m : Int) + 1 - 1) = (m : Int) := by rw [show (m : Int) + 1 - 1 = (m : Int) by omega]; exact IntWalk.i64_in _ (by omega)
              have e0' := e0
              rw [← Nat.add_assoc] at e0'
              clear hy h2 hi1
              by_cases hyz : z ≤ y
              · go_wp2_with fail
                refine (upto_sat z 5 HU.out HS.out).mono ?_; rintro e w3 ⟨rfl, S3⟩
                have c7 := S3.isBlk.cell 7 (v := .slice (some ⟨g0, o0, none⟩) n dc) rfl
                obtain ⟨g1, o1, h3, e1⟩ := HR.out.get S3 m HM.out
                cases h3
                have H3 := hid S3
                clear S3 HS e0 e0'
                go_wp2_with fail
                go_ret
                exact ⟨⟨false, rfl, ⟨fun h => (by cases h), fun h => by have h1 := h.rise m hiz; rw [show (Raw.mk k cl sq nm bl sz sm zs po vo at_).zs[m] = y from HY.out, show (Raw.mk k cl sq nm bl sz sm zs po vo at_).zs[m + 1] = z from HZ.out] at h1; omega⟩⟩, H3.out.drop⟩
              · go_wp2_with fail
                refine (upto_sat z 5 HU.out HS.out).mono ?_; rintro e w3 ⟨rfl, S3⟩
                have c7 := S3.isBlk.cell 7 (v := .slice (some ⟨g0, o0, none⟩) n dc) rfl
                obtain ⟨g1, o1, h3, e1⟩ := HR.out.get S3 m HM.out
                cases h3
                have H3 := hid S3
                clear S3 HS e0 e0'
                go_wp2_with fail
                go_roundw
                case rel =>
                  refine ⟨rfl, m + 1 + 1, by omega, by go_num, HDK2.out, fun j h hj => ?_, H3.out⟩
                  by_cases hjm : j + 1 < m + 1
                  · exact HRS.out j h hjm
                  · obtain rfl : j = m := by omega
                    rw [HY.out, HZ.out]; omega
                case measure => simp [intOf]; omega
        · obtain rfl : i = n := by omega
          have hii : ¬ (i : Int) < (i : Int) := by omega
          have HD := hid (show ∀ j (h : j < zs.length), upB zs[j] 5 = true from fun j h => HDK.out j h (by rw [← HZL.out]; exact h))
          have HS2 := hid (show ∀ j (h : j + 1 < zs.length), zs[j] < zs[j + 1] from fun j h => HRS.out j h (by rw [← HZL.out]; exact h))
          clear HDK HRS
          obtain ⟨b1, hb1⟩ : ∃ b, upB cl 1073741824 = b := ⟨_, rfl⟩
          obtain ⟨b2, hb2⟩ : ∃ b, upB sq 1073741824 = b := ⟨_, rfl⟩
          obtain ⟨b4, hb4⟩ : ∃ b, upB sz 4000 = b := ⟨_, rfl⟩
          obtain ⟨b5, hb5⟩ : ∃ b, upB po 1 = b := ⟨_, rfl⟩
          obtain ⟨b6, hb6⟩ : ∃ b, upB vo 11 = b := ⟨_, rfl⟩
          obtain ⟨b7, hb7⟩ : ∃ b, upB at_ 1073741824 = b := ⟨_, rfl⟩
          have B1 := hid hb1
          have B2 := hid hb2
          have B4 := hid hb4
          have B5 := hid hb5
          have B6 := hid hb6
          have B7 := hid hb7
          clear hb1 hb2 hb4 hb5 hb6 hb7
          have c1 := HS.out.isBlk.cell 1 (v := .int .i64 cl) rfl
          go_wp2_with fail
          refine (upto_sat cl 1073741824 B1.out HS.out).mono ?_; rintro e w3 ⟨rfl, S3⟩
          have c2 := S3.isBlk.cell 2 (v := .int .i64 sq) rfl
          have H3 := hid S3
          clear S3 HS c1
          cases b1
          · go_wp2_with fail
            go_ret
            exact ⟨⟨false, rfl, ⟨fun h => (by cases h), fun h => by have h1 := h.client; rw [B1.out] at h1; cases h1⟩⟩, H3.out.drop⟩
          go_wp2_with fail
          refine (upto_sat sq 1073741824 B2.out H3.out).mono ?_; rintro e w4 ⟨rfl, S4⟩
          have c3 := S4.isBlk.cell 3 (v := .string nm) rfl
          have c5 := S4.isBlk.cell 5 (v := .int .i64 sz) rfl
          have H4 := hid S4
          clear S4 H3 c2
          cases b2
          · go_wp2_with fail
            go_ret
            exact ⟨⟨false, rfl, ⟨fun h => (by cases h), fun h => by have h1 := h.seq; rw [B2.out] at h1; cases h1⟩⟩, H4.out.drop⟩
          by_cases hnm : nm.size ≤ 32
          case neg =>
            have hnmi : ¬ (nm.size : Int) ≤ 32 := by omega
            go_wp2_with fail
            go_ret
            exact ⟨⟨false, rfl, ⟨fun h => (by cases h), fun h => absurd h.name hnm⟩⟩, H4.out.drop⟩
          have hnmi : (nm.size : Int) ≤ 32 := by omega
          go_wp2_with fail
          refine (upto_sat sz 4000 B4.out H4.out).mono ?_; rintro e w5 ⟨rfl, S5⟩
          have c8 := S5.isBlk.cell 8 (v := .int .i64 po) rfl
          have H5 := hid S5
          clear S5 H4 c3 c5
          cases b4
          · go_wp2_with fail
            go_ret
            exact ⟨⟨false, rfl, ⟨fun h => (by cases h), fun h => by have h1 := h.size; rw [B4.out] at h1; cases h1⟩⟩, H5.out.drop⟩
          go_wp2_with fail
          refine (upto_sat po 1 B5.out H5.out).mono ?_; rintro e w6 ⟨rfl, S6⟩
          have c9 := S6.isBlk.cell 9 (v := .int .i64 vo) rfl
          have H6 := hid S6
          clear S6 H5 c8
          cases b5
          · go_wp2_with fail
            go_ret
            exact ⟨⟨false, rfl, ⟨fun h => (by cases h), fun h => by have h1 := h.pool; rw [B5.out] at h1; cases h1⟩⟩, H6.out.drop⟩
          go_wp2_with fail
          refine (upto_sat vo 11 B6.out H6.out).mono ?_; rintro e w7 ⟨rfl, S7⟩
          have c10 := S7.isBlk.cell 10 (v := .int .i64 at_) rfl
          have H7 := hid S7
          clear S7 H6 c9
          cases b6
          · go_wp2_with fail
            go_ret
            exact ⟨⟨false, rfl, ⟨fun h => (by cases h), fun h => by have h1 := h.vol; rw [B6.out] at h1; cases h1⟩⟩, H7.out.drop⟩
          go_wp2_with fail
          refine (upto_sat at_ 1073741824 B7.out H7.out).mono ?_; rintro e w8 ⟨rfl, S8⟩
          have H8 := hid S8
          clear S8 H7 c10
          cases b7
          · go_wp2_with fail
            go_ret
            exact ⟨⟨false, rfl, ⟨fun h => (by cases h), fun h => by have h1 := h.at_; rw [B7.out] at h1; cases h1⟩⟩, H8.out.drop⟩
          go_wp2_with fail
          go_ret
          exact ⟨⟨true, rfl, ⟨fun _ => ⟨HK.out, HK0.out, HD.out, HS2.out, B1.out, B2.out, hnm, B4.out, B5.out, B6.out, B7.out⟩, fun _ => rfl⟩⟩, H8.out.drop⟩
end Go.Proofs.YtekioplbfoonkaaGreatDoor
