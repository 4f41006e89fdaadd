/- Chunk's headOf, parse. Chunk's Name and number, of the first seven files. A store of chunks and its disk: plain. A store of chunks in memory: Sync, Has, add, Put. A store of chunks in memory: add. -/
import Derived.Test.YtekioplbfoonkaaGreatDoorChF
import Derived.Test.YtekioplbfoonkaaGreatDoorRow
import Derived.Lib.BufferWrite
import Derived.Deep.CutBlock
import Derived.Deep.DeepCutAuto
import Derived.Test.YtekioplbfoonkaaGreatDoorName
import Derived.Test.YtekioplbfoonkaaGreatDoorMg1
import Derived.Test.YtekioplbfoonkaaGreatDoorChP
import Derived.Test.YtekioplbfoonkaaGreatDoorMgB
import Derived.Deep.RegionHeld3
import Derived.Deep.RegionLaw
import Derived.BigQuiet
namespace Go.Proofs.YtekioplbfoonkaaGreatDoor
open Go.RowKit
set_option linter.unusedVariables false
set_option maxRecDepth 100000
set_option maxHeartbeats 2000000
section
variable {w0 w : World} {I : Part} {L : List HP} {P : Program} {ops : Array Oper} {rest : List Oper} {o : Oper} {a : Act} {Q : Exit → Act → World → Prop}
theorem wpList_copyHead (hgd : o.guard = none) (d x : Operand) {dT sT elem : TypeId} (ho : o.op = .call { callee := .builtin .copy, args := #[d, x], argTypes := #[dT, sT] }) (hu : P.underlying dT = some (.slice elem)) (hs : (P.info? elem).map (·.size) = some 1)
    {g : Nat} {T : TypeId} {cs : List Value} (H : Sat w0 I (blk g T cs :: L) w) (hcs : cs.length = 8) (hd : a.eval d = .slice (some ⟨g, 0, none⟩) 8 8) {s : ByteArray} (hx : a.eval x = .string s) (h8 : 8 ≤ s.size)
    (h : ∀ w', Sat w0 I (blk g T (hd8 s.data.toList) :: L) w' → wpList P ops Q rest (a.put o.dst (goInt 8)) w') : wpList P ops Q (o :: rest) a w := by
  have h8' : 8 ≤ s.data.toList.length := by simpa using h8
  have hlen := hd8_len h8'
  have hone : ∀ v ∈ hd8 s.data.toList, v.oneCell' = true := by
    intro v hv
    simp only [hd8, List.mem_map] at hv
    obtain ⟨b, _, rfl⟩ := hv
    rfl
  have hmin : Nat.min s.size 8 = 8 := Nat.min_eq_right h8
  have hrun : (Builtin.copy_ #[dT, sT] o.type #[.slice (some ⟨g, 0, none⟩) 8 8, .string s]).run P w = .ok (goInt 8) (w.setRow g (hd8 s.data.toList).toArray) := by
    have hst := run_storeCells_at P g 0 T (hd8 s.data.toList) 0 cs.toArray w H.isBlk (by rw [hlen]; simp [hcs]) hone
    rw [hlen] at hst
    simp only [Nat.add_zero, Nat.zero_add, List.take_zero, List.nil_append] at hst
    rw [List.drop_of_length_le (by simp [hcs]), List.append_nil] at hst
    have htk : List.take 8 (List.map (fun b : UInt8 => Value.int IntKind.u8 (b.toNat : Int)) s.data.toList) = hd8 s.data.toList := by simp [hd8, List.map_take]
    cases hq : P.info? elem with
    | none => simp [hq] at hs
    | some i =>
      simp [Builtin.copy_, run_underlying hu, Builtin.lenOf, Builtin.firstCells, sizeOf, typeInfo, hq, hmin]
      first
        | (rw [htk, hst]; simp [Result.andThen]; done)
  refine wpList_plain hgd fun K' hK' => ?_
  unfold Oper.wp
  simp [execOp, ho, resolve, invoke, builtin, hd, hx, hrun, Result.andThen]
  exact hK' _ _ (h _ (H.setAll (by rw [hlen, hcs])))
end
theorem whRec : WholeT Tryz.prog 160 3 := ⟨⟨_, Tryz.underlying160, rfl⟩, by kernel_rfl⟩
theorem whA : WholeT Tryz.prog 154 8 := ⟨⟨_, Tryz.underlying154, rfl⟩, by kernel_rfl⟩
def z8 : List Value := [.int .u8 0, .int .u8 0, .int .u8 0, .int .u8 0, .int .u8 0, .int .u8 0, .int .u8 0, .int .u8 0]
theorem hd8_one (l : List UInt8) : ∀ v ∈ hd8 l, v.oneCell' = true := by
  intro v hv
  simp only [hd8, List.mem_map] at hv
  obtain ⟨b, _, rfl⟩ := hv
  rfl
section
variable {w0 w : World} {I : Part} {L : List HP}
theorem headOf_sat (s : ByteArray) (h8 : 8 ≤ s.size) (H : Sat w0 I L w) :
    Calls Tryz.prog 81 #[.string s] w fun e w' => e = .returned (.agg (hd8 s.data.toList).toArray) ∧ Sat w0 I L w' := by
  obtain ⟨g, hg⟩ : ∃ g, w.heap.size = g := ⟨_, rfl⟩
  have S1 := H.alloc (b := g) (T := 154) (cs := z8) rfl hg.symm
  have S2 := S1.alloc (b := g + 1) (T := 154) (cs := z8) rfl (by simp [hg])
  have H2 := hid S2
  have hll : (hd8 s.data.toList).length = 8 := hd8_len (by simpa using h8)
  clear S1 S2 H
  go_enter Tryz.func81, Tryz.ntmps81
  go_upto_region 2 with fail
  try rw [hg]
  refine wp_gen (fun w1 => Sat w0 I (blk (g + 1) 154 z8 :: blk g 154 z8 :: L) w1) H2.out ?_
  clear H2 hg
  intro w1 S1
  have H1 := hid S1
  clear S1
  go_upto_region 3 with (refine wpList_copyHead rfl _ _ rfl (elem := 5) Tryz.underlying87 (by kernel_rfl) H1.out rfl rfl rfl h8 ?_; intro w2 S2; have H3 := hid S2; clear S2)
  clear H1
  go_wp2_with (first
    | (refine wpList_loadS whA rfl _ rfl rfl hll H3.out ?_)
    | (refine wpList_storeS whA rfl _ _ rfl rfl rfl rfl hll (hd8_one _) H3.out.swap ?_; intro w5 S5))
  exact bodyPost_ret (ret_cell1S Tryz.results81 whA _ rfl hll S5) rfl ⟨rfl, S5.drop.drop⟩
theorem parse_sat (id : Nat) (data : ByteArray) (hok : CItm (id, data)) (s : ByteArray) (hs : s.data.toList = recB id data) (H : Sat w0 I L w) :
    Calls Tryz.prog 82 #[.string s] w fun e w' => e = .returned (.tuple #[.agg #[.int .u64 1, .int .u64 (id : Int), .string data], .bool true]) ∧ Sat w0 I L w' := by
  have hsz : s.size ≤ 5000 := by
    have h1 : s.data.toList.length = s.size := by simp
    have h2 : (recB id data).length ≤ 5000 := recB_len hok
    rw [hs] at h1; omega
  have hi1 : id ≤ 1000 := hok.id
  have hd1 : data.size ≤ 4000 := hok.sz
  have hds : data.size ≤ s.size := by
    have h1 : s.data.toList.length = s.size := by simp
    have h3 : (encS data).length = (encU data.size).length + data.size := by simp [encS]
    rw [hs] at h1; simp only [recB, List.length_append] at h1; omega
  have T1 := hid (takeU_enc 1 (by omega) (encU id ++ encS data))
  have T2 := hid (takeU_enc id (by omega) (encS data))
  have T3 := hid (by have h := takeS_enc (s.size : Int) data (by omega) [] (by omega); rwa [List.append_nil] at h : takeS (s.size : Int) (encS data) = (data.data.toList, [], 0))
  have hrec : recB id data = encU 1 ++ (encU id ++ encS data) := by simp [recB]
  have HS := hid hs
  have HRC := hid hrec
  obtain ⟨g, hg⟩ : ∃ g, w.heap.size = g := ⟨_, rfl⟩
  have H2 := hid (H.alloc (b := g) (T := 160) (cs := [.int .u64 0, .int .u64 0, .string ⟨#[]⟩]) rfl hg.symm)
  clear H hs hrec
  go_enter Tryz.func82, Tryz.ntmps82
  go_upto_region 1 with fail
  try rw [hg]
  refine wp_gen (fun w1 => Sat w0 I (blk g 160 [.int .u64 0, .int .u64 0, .string ⟨#[]⟩] :: L) w1) H2.out ?_
  clear H2 hg
  intro w1 S1
  have H1 := hid S1
  clear S1
  go_wp2_with fail
  refine (from_sat s H1.out (by omega)).mono ?_; rintro e w2 ⟨d, rfl, S2⟩
  rw [HS.out, HRC.out] at S2
  have H2 := hid S2
  clear S2 H1
  go_wp2_with fail
  refine (decU_sat H2.out).mono ?_; rintro e w3 ⟨rfl, S3⟩
  rw [T1.out] at S3
  simp only [T1.out] at S3 ⊢
  have H3 := hid S3
  clear S3 H2
  go_wp2_with fail
  refine (decU_sat H3.out).mono ?_; rintro e w4 ⟨rfl, S4⟩
  rw [T2.out] at S4
  simp only [T2.out] at S4 ⊢
  obtain ⟨q, hq⟩ : ∃ q, w4.heap.size = q := ⟨_, rfl⟩
  have H4 := hid (S4.alloc (b := q) (T := 160) (cs := [.int .u64 1, .int .u64 (id : Int), .string ⟨#[]⟩]) rfl hq.symm)
  clear S4 H3
  go_upto_region 3 with fail
  refine wp_gen (fun w5 => Sat w0 I (blk q 160 [.int .u64 1, .int .u64 (id : Int), .string ⟨#[]⟩] :: decr d (encS data) 0 :: blk g 160 [.int .u64 0, .int .u64 0, .string ⟨#[]⟩] :: L) w5) H4.out ?_
  clear H4 hq
  intro w5 S5
  have H5 := hid S5
  clear S5
  go_wp2_with fail
  refine (decS_sat (s.size : Int) H5.out.swap (by omega)).mono ?_; rintro e w6 ⟨rfl, S6⟩
  rw [T3.out] at S6
  simp only [T3.out] at S6 ⊢
  rw [show (⟨data.data.toList.toArray⟩ : ByteArray) = data from rfl]
  have c2 := S6.swap.isBlk.cell 2 (v := .string ⟨#[]⟩) rfl
  have f2 := S6.swap.isBlk.frozen 2
  have H6 := hid (S6.swap.set 2 (.string data) rfl)
  clear S6 H5
  go_upto_region 4 with fail
  refine wp_gen (fun w7 => Sat w0 I (blk q 160 [.int .u64 1, .int .u64 (id : Int), .string data] :: decr d [] 0 :: blk g 160 [.int .u64 0, .int .u64 0, .string ⟨#[]⟩] :: L) w7) H6.out ?_
  clear H6 c2 f2
  intro w7 S7
  have c0 := S7.isBlk.cell 0 (v := .int .u64 1) rfl
  have c1 := S7.isBlk.cell 1 (v := .int .u64 (id : Int)) rfl
  have c2 := S7.isBlk.cell 2 (v := .string data) rfl
  have e0 := (S7.pick 2).isBlk.cell 0 (v := .int .u64 0) rfl
  have e1 := (S7.pick 2).isBlk.cell 1 (v := .int .u64 0) rfl
  have e2 := (S7.pick 2).isBlk.cell 2 (v := .string ⟨#[]⟩) rfl
  have f0 := (S7.pick 2).isBlk.frozen 0
  have f1 := (S7.pick 2).isBlk.frozen 1
  have f2 := (S7.pick 2).isBlk.frozen 2
  have n1 : g ≠ q := (S7.pick 2).ne
  have n2 : q ≠ g := fun e => n1 e.symm
  have H7 := hid S7
  clear S7
  go_region_with (first
    | (go_at_call 71; refine (done_sat H7.out.swap.drew).mono ?_; rintro e w8 ⟨rfl, S8⟩; have p0 := S8.swap.isBlk.cell 0 (v := .int .u64 1) rfl; have p1 := S8.swap.isBlk.cell 1 (v := .int .u64 (id : Int)) rfl; have p2 := S8.swap.isBlk.cell 2 (v := .string data) rfl; have r0 := (S8.pick 2).isBlk.cell 0 (v := .int .u64 0) rfl; have r1 := (S8.pick 2).isBlk.cell 1 (v := .int .u64 0) rfl; have r2 := (S8.pick 2).isBlk.cell 2 (v := .string ⟨#[]⟩) rfl; have t0 := (S8.pick 2).isBlk.frozen 0; have t1 := (S8.pick 2).isBlk.frozen 1; have t2 := (S8.pick 2).isBlk.frozen 2; have HA := hid (show Sat w0 I (blk g 160 [.int .u64 1, .int .u64 (id : Int), .string data] :: decr d [] 0 :: blk q 160 [.int .u64 1, .int .u64 (id : Int), .string data] :: L) _ from (((S8.pick 2).set 0 (.int .u64 1) rfl).set 1 (.int .u64 (id : Int)) rfl).set 2 (.string data) rfl); clear S8))
  all_goals
    go_wp2_with fail
    exact bodyPost_ret (ret_cellS Tryz.results82 whRec _ rfl rfl rfl HA.out) rfl ⟨rfl, HA.out.drop.drop.drop⟩
end
end Go.Proofs.YtekioplbfoonkaaGreatDoor
namespace Go.Proofs.YtekioplbfoonkaaGreatDoor
open Go.RowKit
set_option linter.unusedVariables false
set_option maxRecDepth 100000
set_option maxHeartbeats 4000000
def nmL (k : Nat) : List UInt8 := [115, 101, 103, 45, 48, 48, 48, 48, 48, 48, UInt8.ofNat (48 + k)]
theorem cases7 {k : Nat} (h1 : 1 ≤ k) (h2 : k ≤ 7) : k = 1 ∨ k = 2 ∨ k = 3 ∨ k = 4 ∨ k = 5 ∨ k = 6 ∨ k = 7 := by omega
theorem itoaK (w : World) (k : Nat) (h1 : 1 ≤ k) (h2 : k ≤ 7) : Calls Tryz.prog 87 #[.int .i64 (k : Int)] w (Ret (.string ⟨#[UInt8.ofNat (48 + k)]⟩) w) := by
  rcases cases7 h1 h2 with rfl | rfl | rfl | rfl | rfl | rfl | rfl
  all_goals
    go_enter Tryz.func87, Tryz.ntmps87
    go_wp2
    go_ret
    exact ⟨rfl, 0, rfl⟩
theorem nameK (w : World) (k : Nat) (h1 : 1 ≤ k) (h2 : k ≤ 7) : Calls Tryz.prog 38 #[.int .i64 (k : Int)] w (Ret (.string ⟨(nmL k).toArray⟩) w) := by
  have hi := fun w => itoaK w k h1 h2
  have hn : nmL k = [115, 101, 103, 45, 48, 48, 48, 48, 48, 48, UInt8.ofNat (48 + k)] := rfl
  rw [hn]
  clear hn
  generalize UInt8.ofNat (48 + k) = c at *
  have HI := hid hi
  clear hi
  have i1 : ¬ (k : Int) < 1 := by omega
  have i2 : ¬ (9999999 : Int) < (k : Int) := by omega
  go_enter Tryz.func38, Tryz.ntmps38
  go_wp2_with (first
    | (go_at_call 87; refine (HI.out _).mono ?_; rintro e w1 ⟨rfl, n, rfl⟩)
    | (go_at_call 88; refine (repeat6 _).mono ?_; rintro e w1 ⟨rfl, n, rfl⟩))
  go_ret
  exact ⟨rfl, by exact ⟨_, rfl⟩⟩
theorem cutPre (w : World) (c : UInt8) : Calls Tryz.prog 130 #[.string ⟨#[115, 101, 103, 45, 48, 48, 48, 48, 48, 48, c]⟩, .string ⟨#[115, 101, 103, 45]⟩] w (Ret (.tuple #[.string ⟨#[48, 48, 48, 48, 48, 48, c]⟩, .bool true]) w) := by
  have e1 : ((⟨#[115, 101, 103, 45, 48, 48, 48, 48, 48, 48, c]⟩ : ByteArray).extract 0 4) = ⟨#[115, 101, 103, 45]⟩ := rfl
  have e2 : ((⟨#[115, 101, 103, 45, 48, 48, 48, 48, 48, 48, c]⟩ : ByteArray).extract 4 11) = ⟨#[48, 48, 48, 48, 48, 48, c]⟩ := rfl
  go_enter Tryz.func130, Tryz.ntmps130
  go_wp2_with go_in
  go_returns
  exact ⟨rfl, 0, rfl⟩
theorem dig_at (c : UInt8) (j : Nat) (hj : j < 6) : ((⟨#[48, 48, 48, 48, 48, 48, c]⟩ : ByteArray)[j]'(by show j < 7; omega)).toNat = 48 := by
  rcases (by omega : j = 0 ∨ j = 1 ∨ j = 2 ∨ j = 3 ∨ j = 4 ∨ j = 5) with rfl | rfl | rfl | rfl | rfl | rfl <;> rfl
theorem number_sat (w : World) (k : Nat) (h1 : 1 ≤ k) (h2 : k ≤ 7) : Calls Tryz.prog 74 #[.string ⟨(nmL k).toArray⟩] w (Ret (.tuple #[.int .i64 (k : Int), .bool true]) w) := by
  have hn : nmL k = [115, 101, 103, 45, 48, 48, 48, 48, 48, 48, UInt8.ofNat (48 + k)] := rfl
  rw [hn]
  have hc : (UInt8.ofNat (48 + k)).toNat = 48 + k := by rw [UInt8.toNat_ofNat']; omega
  clear hn
  generalize UInt8.ofNat (48 + k) = c at *
  have hcI : (c.toNat : Int) = 48 + (k : Int) := by omega
  have u1 : IntKind.u8.wrap (48 + (k : Int) - 48) = (k : Int) := by rw [show 48 + (k : Int) - 48 = (k : Int) by omega]; exact IntWalk.u8_in _ (by omega)
  have HC := hid hc
  have hkd : decide (0 < k) = true := by simp; omega
  have b1 : ¬ c.toNat < 48 := by omega
  have b2 : ¬ 57 < c.toNat := by omega
  clear hc
  go_enter Tryz.func74, Tryz.ntmps74
  go_wp2_with fail
  refine (cutPre _ c).mono ?_; rintro e w1 ⟨rfl, n1, rfl⟩
  go_wp2_with fail
  go_loopw [6, 7] (fun s i wr => ∃ q : Nat, (∃ m, wr = w.drewN m) ∧ i = .int .i64 (q : Int) ∧ ((q ≤ 6 ∧ s = .int .i64 0) ∨ (q = 7 ∧ s = .int .i64 (k : Int)))) (fun _ i _ => 7 - (intOf i).toNat)
  case atStart => exact ⟨0, ⟨_, rfl⟩, rfl, Or.inl ⟨by omega, rfl⟩⟩
  case round =>
    obtain ⟨q, ⟨m, rfl⟩, rfl, ⟨hq, rfl⟩ | ⟨rfl, rfl⟩⟩ := hrel
    · by_cases h6 : q < 6
      · have hb := dig_at c q h6
        have hq0 : (0 : Int) ≤ (q : Int) := by omega
        have hq7 : (q : Int) < 7 := by omega
        go_wp2_with fail
        go_roundw
        case rel => exact ⟨q + 1, ⟨_, rfl⟩, by go_num, Or.inl ⟨by omega, rfl⟩⟩
        case measure => (simp [intOf] <;> omega)
      · obtain rfl : q = 6 := by omega
        have hb : ((⟨#[48, 48, 48, 48, 48, 48, c]⟩ : ByteArray)[6]'(by show 6 < 7; omega)).toNat = c.toNat := rfl
        go_wp2_with fail
        go_roundw
        case rel => exact ⟨7, ⟨_, rfl⟩, by go_num, Or.inr ⟨rfl, by first | rfl | (simp only [Value.int.injEq, true_and]; omega)⟩⟩
        case measure => (simp [intOf] <;> omega)
    · go_wp2_with fail
      go_returns
      exact ⟨rfl, ⟨_, rfl⟩⟩
end Go.Proofs.YtekioplbfoonkaaGreatDoor
namespace Go.Proofs.YtekioplbfoonkaaGreatDoor
open Go.RowKit
set_option linter.unusedVariables false
set_option maxRecDepth 100000
abbrev It := Nat × ByteArray
theorem nmL_inj {a b : Nat} (ha : a ≤ 100) (hb : b ≤ 100) (h : nmL a = nmL b) : a = b := by
  have h1 : UInt8.ofNat (48 + a) = UInt8.ofNat (48 + b) := by simpa [nmL] using h
  have h2 := congrArg UInt8.toNat h1
  rw [UInt8.toNat_ofNat', UInt8.toNat_ofNat'] at h2
  omega
def nk (k : Nat) : Lit := .string (nmL k)
theorem nk_ne {a b : Nat} (ha : a ≤ 100) (hb : b ≤ 100) (h : a ≠ b) : nk a ≠ nk b := fun e => h (nmL_inj ha hb (by unfold nk at e; injection e))
def tx (l : List It) : ByteArray := ⟨(segT l).toArray⟩
theorem tx_size (l : List It) : (tx l).size = (segT l).length := rfl
/-- a store: the files that are done, the last one; is there a change that isn't durable? -/
structure Cst where
  done : List (List It)
  cur : List It
  dirty : Bool
  c : Nat
def Cst.segs (s : Cst) : List (List It) := s.done ++ [s.cur]
noncomputable def Cst.F (s : Cst) : Lit → Option Pl := fnAll (fun _ => none) (plAll s.segs 1)
def tot : List (List It) → Nat
  | [] => 0
  | l :: r => (segT l).length + tot r
theorem tot_app : ∀ a b : List (List It), tot (a ++ b) = tot a + tot b
  | [], b => by simp [tot]
  | l :: a, b => by show (segT l).length + tot (a ++ b) = _; rw [tot_app a b]; simp [tot]; omega
theorem segT_le : ∀ (l : List It), (∀ x ∈ l, CItm x) → (segT l).length ≤ 5008 * l.length
  | [], _ => Nat.zero_le _
  | x :: l, h => by
    have h1 := recZ_le (h x (by simp))
    have h2 := segT_le l (fun y hy => h y (by simp [hy]))
    show (recF x.1 x.2 ++ segT l).length ≤ _
    unfold recZ at h1
    rw [List.length_append, List.length_cons]; omega
theorem tot_le : ∀ (a : List (List It)), (∀ l ∈ a, ∀ x ∈ l, CItm x) → tot a ≤ 5008 * a.flatten.length
  | [], _ => Nat.zero_le _
  | l :: a, h => by
    have h1 := segT_le l (h l (by simp))
    have h2 := tot_le a (fun m hm => h m (by simp [hm]))
    simp only [tot, List.flatten_cons, List.length_append]; omega
theorem done_le : ∀ (a : List (List It)), (∀ l ∈ a, l ≠ []) → a.length ≤ a.flatten.length
  | [], _ => Nat.le_refl _
  | l :: a, h => by
    have h1 := List.length_pos_iff.2 (h l (by simp))
    have h2 := done_le a (fun m hm => h m (by simp [hm]))
    simp only [List.flatten_cons, List.length_append, List.length_cons]; omega
structure DR (s : Cst) (d : Dst) : Prop where
  calm : d.calm
  room : d.room = 1048576
  used : d.used ≤ (tot s.segs : Int)
  old : ∀ k (h : k < s.done.length), d.F (nk (k + 1)) = some ⟨true, tx s.done[k], true, tx s.done[k]⟩
  new0 : s.cur = [] → d.F (nk (s.done.length + 1)) = none ∧ s.dirty = false
  new1 : s.cur ≠ [] → ∃ st sx, d.F (nk (s.done.length + 1)) = some ⟨true, tx s.cur, st, sx⟩ ∧ sx.size ≤ (segT s.cur).length ∧ (s.dirty = false → st = true ∧ sx = tx s.cur)
  rest : ∀ x : List UInt8, (d.F (.string x)).isSome = true → ∃ k, k < s.done.length + 1 ∧ x = nmL (k + 1)
  ne : ∀ l ∈ s.done, l ≠ []
  its : ∀ l ∈ s.segs, ∀ x ∈ l, CItm x
  num : s.segs.flatten.length ≤ 6
  c : d.c + (if s.dirty = true then 1 else 0) ≤ 2 * s.segs.flatten.length
  sc : s.c ≤ s.segs.flatten.length
theorem DR.len {s : Cst} {d : Dst} (h : DR s d) : s.done.length + (if s.cur = [] then 0 else 1) ≤ 6 ∧ s.done.length ≤ 6 := by
  have h1 := done_le s.done h.ne
  have h2 := h.num
  unfold Cst.segs at h2
  simp only [List.flatten_append, List.flatten_cons, List.flatten_nil, List.append_nil, List.length_append] at h2
  constructor
  · split
    · omega
    · rename_i hc
      have := List.length_pos_iff.2 hc
      omega
  · omega
theorem DR.totle {s : Cst} {d : Dst} (h : DR s d) : tot s.segs ≤ 30048 := by
  have h1 := tot_le s.segs h.its
  have h2 := h.num
  omega
theorem DR.cur {s : Cst} {d : Dst} (h : DR s d) : (segT s.cur).length ≤ 30048 := by
  have h1 := h.totle
  unfold Cst.segs at h1
  rw [tot_app] at h1
  have : tot [s.cur] = (segT s.cur).length := by simp [tot]
  omega
/-- the last file is durable. -/
theorem DR.sync {s : Cst} {d D : Dst} {E : Int} (h : DR s d) (hc : s.cur ≠ []) (hd : s.dirty = true) (hA : putS d (nk (s.done.length + 1)) ⟨true, tx s.cur, true, tx s.cur⟩ = (E, D)) : DR {s with dirty := false} D := by
  obtain ⟨st, sx, hF, hsx, _⟩ := h.new1 hc
  have hl := h.len.2
  have hcal := h.calm
  have hcc := h.c
  have hnm := h.num
  rw [hd, if_pos rfl] at hcc
  unfold putS at hA
  rw [hF] at hA
  have e1 : fw ⟨true, tx s.cur, true, tx s.cur⟩ = (segT s.cur).length := by unfold fw; simp [tx_size]
  have e2 : fw ((some (⟨true, tx s.cur, st, sx⟩ : Fst)).getD fz) = (segT s.cur).length := by unfold fw; simp only [Option.getD_some, tx_size]; omega
  rw [e1, e2, if_neg (by omega)] at hA
  cases hA
  have hm : d.used - min (-(((segT s.cur).length : Int) - ((segT s.cur).length : Int))) d.used = d.used := by have := hcal.ok.used0; omega
  have hok := hcal.ok
  refine ⟨⟨⟨?_, ?_, hok.room, hok.armed0, hok.armed, ?_⟩, hcal.lost, hcal.armed⟩, h.room, ?_, fun k hk => ?_, fun he => absurd he hc, fun _ => ⟨true, tx s.cur, ?_, Nat.le_refl _, fun _ => ⟨rfl, rfl⟩⟩, fun x hx => ?_, h.ne, h.its, h.num, by show d.c + 1 + 0 ≤ 2 * s.segs.flatten.length; omega, h.sc⟩
  · show 0 ≤ d.used - _; rw [hm]; exact hok.used0
  · show d.used - _ ≤ d.room; rw [hm]; exact hok.used
  · show d.c + 1 < _; omega
  · show d.used - _ ≤ _; rw [hm]; exact h.used
  · show fnPut d.F _ _ _ = _
    have hk' : k < s.done.length := hk
    rw [fnPut_ne _ _ (nk_ne (by omega) (by omega) (by omega))]
    exact h.old k hk
  · show fnPut d.F _ _ _ = _
    exact fnPut_eq _ _ _
  · by_cases hx2 : x = nmL (s.done.length + 1)
    · exact ⟨s.done.length, Nat.lt_succ_self _, hx2⟩
    · have : fnPut d.F (nk (s.done.length + 1)) ⟨true, tx s.cur, true, tx s.cur⟩ (.string x) = d.F (.string x) := fnPut_ne _ _ (fun e => hx2 (by unfold nk at e; injection e))
      exact h.rest x (by rw [← this]; exact hx)
/-- a new file begins. -/
theorem DR.roll {s : Cst} {d : Dst} (h : DR s d) (hc : s.cur ≠ []) (hd : s.dirty = false) : DR ⟨s.done ++ [s.cur], [], false, s.c⟩ d := by
  obtain ⟨st, sx, hF, hsx, hsf⟩ := h.new1 hc
  obtain ⟨rfl, rfl⟩ := hsf hd
  have hl := h.len.2
  refine ⟨h.calm, h.room, ?_, fun k hk => ?_, fun _ => ⟨?_, rfl⟩, fun hn => absurd rfl hn, fun x hx => ?_, fun l hl => ?_, fun l hl x hx => ?_, ?_, ?_, ?_⟩
  · show d.used ≤ (tot ((s.done ++ [s.cur]) ++ [[]]) : Int)
    rw [tot_app]; have := h.used; unfold Cst.segs at this; simp only [tot, segT, List.flatMap_nil, List.length_nil]; omega
  · show d.F _ = some ⟨true, tx (s.done ++ [s.cur])[k], true, tx (s.done ++ [s.cur])[k]⟩
    by_cases hk2 : k < s.done.length
    · rw [List.getElem_append_left hk2]; exact h.old k hk2
    · have hk3 : k = s.done.length := by simp at hk; omega
      subst hk3
      rw [List.getElem_append_right (Nat.le_refl _)]
      simpa using hF
  · cases hx : d.F (nk ((s.done ++ [s.cur]).length + 1)) with
    | none => rfl
    | some y =>
      obtain ⟨k, hk, e⟩ := h.rest (nmL ((s.done ++ [s.cur]).length + 1)) (by rw [show Lit.string (nmL ((s.done ++ [s.cur]).length + 1)) = nk ((s.done ++ [s.cur]).length + 1) from rfl, hx]; rfl)
      have := nmL_inj (by simp; omega) (by omega) e
      simp at this; omega
  · obtain ⟨k, hk, e⟩ := h.rest x hx
    exact ⟨k, by simp; omega, e⟩
  · rcases List.mem_append.1 hl with hl | hl
    · exact h.ne l hl
    · simp at hl; subst hl; exact hc
  · rcases List.mem_append.1 (show l ∈ (s.done ++ [s.cur]) ++ [[]] from hl) with hl | hl
    · exact h.its l hl x hx
    · simp at hl; subst hl; cases hx
  · show ((s.done ++ [s.cur]) ++ [[]]).flatten.length ≤ 6
    have := h.num; unfold Cst.segs at this; simpa using this
  · show d.c + 0 ≤ 2 * ((s.done ++ [s.cur]) ++ [[]]).flatten.length
    have := h.c; rw [hd] at this; unfold Cst.segs at this; simpa using this
  · show s.c ≤ ((s.done ++ [s.cur]) ++ [[]]).flatten.length
    have := h.sc; unfold Cst.segs at this; simpa using this
theorem tx_app (l : List It) (x : It) : tx l ++ ⟨(recF x.1 x.2).toArray⟩ = tx (l ++ [x]) := by
  unfold tx
  rw [segT_app, segT_one]
  apply ByteArray.ext
  simp
theorem DR.app {s : Cst} {d : Dst} (h : DR s d) (x : It) (hx : CItm x) (hn : s.segs.flatten.length < 6) :
    ∃ D, appS d (nk (s.done.length + 1)) ⟨(recF x.1 x.2).toArray⟩ = (0, D) ∧ DR ⟨s.done, s.cur ++ [x], true, s.c + 1⟩ D ∧ ((d.F (nk (s.done.length + 1))).getD fz).nx.size ≤ 30048 ∧ ((d.F (nk (s.done.length + 1))).getD fz).sx.size ≤ 30048 := by
  have hcal := h.calm
  have hok := hcal.ok
  have hl := h.len.2
  have htt := h.totle
  have hcu := h.cur
  have hrm := h.room
  have hcc := h.c
  have hsc := h.sc
  have hus := h.used
  have hz := recZ_le hx
  have hp := recZ_pos x
  obtain ⟨o, ho, h1, h2⟩ : ∃ o : Fst, (d.F (nk (s.done.length + 1))).getD fz = o ∧ o.nx = tx s.cur ∧ o.sx.size ≤ (segT s.cur).length := by
    by_cases hc : s.cur = []
    · exact ⟨fz, by rw [(h.new0 hc).1]; rfl, by rw [hc]; rfl, Nat.zero_le _⟩
    · obtain ⟨st, sx, hF, hsx, _⟩ := h.new1 hc
      exact ⟨⟨true, tx s.cur, st, sx⟩, by rw [hF] <;> rfl, rfl, hsx⟩
  have e1 : fw o = (segT s.cur).length := by unfold fw; rw [h1, tx_size]; omega
  have hseg : (segT (s.cur ++ [x])).length = (segT s.cur).length + recZ x := by rw [segT_app, segT_one, List.length_append]; rfl
  have e2 : fw ⟨true, o.nx ++ ⟨(recF x.1 x.2).toArray⟩, o.st, o.sx⟩ = (segT s.cur).length + recZ x := by
    unfold fw
    simp only [h1, tx_app, tx_size, hseg]
    omega
  unfold appS
  rw [hcal.try_.1, if_pos rfl, hcal.try_.2, ho]
  unfold putS
  rw [ho, e1, e2, show (((segT s.cur).length + recZ x : Nat) : Int) - ((segT s.cur).length : Int) = (recZ x : Int) by omega, if_pos (by omega), if_pos (by rw [hrm]; omega), h1, tx_app]
  have htot : tot (s.done ++ [s.cur ++ [x]]) = tot (s.done ++ [s.cur]) + recZ x := by
    rw [tot_app, tot_app]; simp only [tot, hseg]; omega
  refine ⟨_, rfl, ?_, by rw [tx_size]; omega, by omega⟩
  refine ⟨⟨⟨?_, ?_, hok.room, hok.armed0, hok.armed, ?_⟩, hcal.lost, hcal.armed⟩, hrm, ?_, fun k hk => ?_, fun he => absurd he (by simp), fun _ => ⟨o.st, o.sx, ?_, ?_, fun hd => by cases hd⟩, fun y hy => ?_, h.ne, fun l hl2 y hy => ?_, ?_, ?_, ?_⟩
  · show 0 ≤ d.used + (recZ x : Int); have := hok.used0; omega
  · show d.used + (recZ x : Int) ≤ d.room; rw [hrm]; omega
  · show d.c + 1 < _; omega
  · show d.used + (recZ x : Int) ≤ (tot (s.done ++ [s.cur ++ [x]]) : Int)
    rw [htot]; unfold Cst.segs at hus; omega
  · show fnPut d.F _ _ _ = _
    have hk' : k < s.done.length := hk
    rw [fnPut_ne _ _ (nk_ne (by omega) (by omega) (by omega))]
    exact h.old k hk
  · show fnPut d.F _ _ _ = _
    exact fnPut_eq _ _ _
  · show o.sx.size ≤ (segT (s.cur ++ [x])).length
    rw [hseg]; omega
  · by_cases hy2 : y = nmL (s.done.length + 1)
    · exact ⟨s.done.length, Nat.lt_succ_self _, hy2⟩
    · have : ∀ f : Fst, fnPut d.F (nk (s.done.length + 1)) f (.string y) = d.F (.string y) := fun f => fnPut_ne _ _ (fun e => hy2 (by unfold nk at e; injection e))
      exact h.rest y (by have hy' : (fnPut d.F (nk (s.done.length + 1)) _ (.string y)).isSome = true := hy; rwa [this] at hy')
  · rcases List.mem_append.1 (show l ∈ s.done ++ [s.cur ++ [x]] from hl2) with hm | hm
    · exact h.its l (List.mem_append_left _ hm) y hy
    · simp at hm; subst hm
      rcases List.mem_append.1 hy with hy | hy
      · exact h.its s.cur (List.mem_append_right _ (by simp)) y hy
      · simp at hy; subst hy; exact hx
  · show (s.done ++ [s.cur ++ [x]]).flatten.length ≤ 6
    unfold Cst.segs at hn
    simp at hn ⊢
    omega
  · show d.c + 1 + 1 ≤ 2 * (s.done ++ [s.cur ++ [x]]).flatten.length
    unfold Cst.segs at hcc
    simp at hcc ⊢
    omega
  · show s.c + 1 ≤ (s.done ++ [s.cur ++ [x]]).flatten.length
    unfold Cst.segs at hsc
    simp at hsc ⊢
    omega
end Go.Proofs.YtekioplbfoonkaaGreatDoor
namespace Go.Proofs.YtekioplbfoonkaaGreatDoor
open Go.RowKit
set_option linter.unusedVariables false
set_option maxRecDepth 100000
set_option maxHeartbeats 4000000
def cenc (cs : Pl) : Value := .agg cs.toArray
def pl0 : Pl := [.int .i64 0, .int .i64 0, .int .i64 0, .int .u8 0, .int .u8 0, .int .u8 0, .int .u8 0, .int .u8 0, .int .u8 0, .int .u8 0, .int .u8 0]
theorem cenc_inj : ∀ x y, cenc x = cenc y → x = y := by
  intro x y h
  have h1 := congrArg (fun v => match v with | .agg a => a.toList | _ => []) h
  simpa [cenc] using h1
theorem placeT : GMapT 146 34 156 cenc pl0 := ⟨Maps.int_keyed Tryz.underlying34, Tryz.underlying146, cenc_inj, fun w => by simp [go_sem, cenc, pl0] <;> rfl⟩
theorem keyU (id : Nat) (h : id ≤ 1000) : keyOf Tryz.prog 34 (.int .u64 (id : Int)) = some (ulit id) := by
  have hwf : (Lit.int .u64 (id : Int)).wf = true := by
    simp [Lit.wf, IntKind.min, IntKind.max, IntKind.bits, IntKind.signed]; omega
  rw [keyOf_int Tryz.underlying34]; simp [mapKey, Tryz.underlying34, hwf, ulit]
theorem nmz (K : Nat) : (⟨(nmL K).toArray⟩ : ByteArray).size ≤ maxLen := by show 11 ≤ maxLen; unfold maxLen; omega
def stc (p b : Nat) (s : Cst) : List Value := [.pointer (some ⟨p, 0, none⟩), .int .i64 500, .map (some b), .int .i64 ((s.done.length + 1 : Nat) : Int), .int .i64 ((segT s.cur).length : Int), .bool s.dirty]
def chp (q p : Nat) (s : Cst) : HP := fun g => ∃ b, sepL [blk q 148 (stc p b s), gmap 34 cenc b s.c s.F] g
section
variable {w0 w : World} {I : Part} {L : List HP} {q p : Nat} {s : Cst} {d : Dst}
theorem Sat.chOpen (h : Sat w0 I (chp q p s :: L) w) : ∃ b, Sat w0 I (blk q 148 (stc p b s) :: gmap 34 cenc b s.c s.F :: L) w := by
  obtain ⟨g, hg, ⟨b, x⟩, r⟩ := h.sep
  have h2 : Sat w0 I (sepL [blk q 148 (stc p b s), gmap 34 cenc b s.c s.F] :: L) w := ⟨h.os, h.tape, h.output, h.size, h.imm, g, hg, x, r⟩
  exact ⟨b, h2.flat⟩
theorem Sat.chClose {b : Nat} (h : Sat w0 I (blk q 148 (stc p b s) :: gmap 34 cenc b s.c s.F :: L) w) : Sat w0 I (chp q p s :: L) w :=
  h.of (M := [_, _]) fun g x => ⟨b, x⟩
theorem nameK_sat (k : Nat) (h1 : 1 ≤ k) (h2 : k ≤ 7) (H : Sat w0 I L w) : Calls Tryz.prog 38 #[.int .i64 (k : Int)] w fun e w' => e = .returned (.string ⟨(nmL k).toArray⟩) ∧ Sat w0 I L w' := ret_sat (nameK w k h1 h2) H
theorem csync_sat (h : DR s d) (H : Sat w0 I (chp q p s :: dskp p d :: L) w) :
    Calls Tryz.prog 31 #[.pointer (some ⟨q, 0, none⟩)] w fun e w' => ∃ D, e = .returned (.int .i64 0) ∧ DR {s with dirty := false} D ∧ Sat w0 I (chp q p {s with dirty := false} :: dskp p D :: L) w' := by
  obtain ⟨b, H1⟩ := H.chOpen
  have c0 := H1.isBlk.cell 0 (v := .pointer (some ⟨p, 0, none⟩)) rfl
  have c3 := H1.isBlk.cell 3 (v := .int .i64 ((s.done.length + 1 : Nat) : Int)) rfl
  have c5 := H1.isBlk.cell 5 (v := .bool s.dirty) rfl
  have hDR := hid h
  by_cases hd : s.dirty = true
  · rw [hd] at c5
    have hc : s.cur ≠ [] := fun e => by have := (h.new0 e).2; rw [hd] at this; cases this
    obtain ⟨st, sx, hF, hsx, _⟩ := h.new1 hc
    obtain ⟨E, D, hA⟩ : ∃ E D, putS d (nk (s.done.length + 1)) ⟨true, tx s.cur, true, tx s.cur⟩ = (E, D) := ⟨_, _, rfl⟩
    have hD := hid (h.sync hc hd hA)
    have hcu := h.cur
    have hl := h.len.2
    have hcal := h.calm
    have HA := hid hA
    have HF := hid hF
    obtain ⟨K, hK⟩ : ∃ K, s.done.length + 1 = K := ⟨_, rfl⟩
    have HK := hid hK
    have H2 := hid H1
    rw [hK] at c3
    clear hA hF H H1 h
    go_enter Tryz.func31, Tryz.ntmps31
    go_upto_region 3 with fail
    have hnm := fun (w : World) => nameK w K (by omega) (by omega)
    have HNM := hid hnm
    clear hnm
    have hx : (d.F (.string (⟨(nmL K).toArray⟩ : ByteArray).data.toList)).getD fz = ⟨true, tx s.cur, st, sx⟩ := by
      show (d.F (nk K)).getD fz = _
      rw [← HK.out, HF.out]; rfl
    have hA2 : putS d (.string (⟨(nmL K).toArray⟩ : ByteArray).data.toList) ⟨true, tx s.cur, true, tx s.cur⟩ = (E, D) := by have h1 := HA.out; rw [HK.out] at h1; exact h1
    have HX := hid hx
    have HA2 := hid hA2
    have HSX := hid hsx
    have hs1 : (tx s.cur).size ≤ 1000000000 := by rw [tx_size]; omega
    have hs2 : sx.size ≤ 1000000000 := by omega
    clear hx hA2 hsx
    go_cut [3] (fun e wx => e = .int .i64 0 ∧ Sat w0 I (chp q p s :: dskp p D :: L) wx)
    case first =>
      have c0a := fun o => cell_alloc c0 o
      have c0b := fun (n : Nat) o => cell_alloc (w := w.drewN n) c0 o
      go_region_with (first
        | (go_at_call 38; refine (HNM.out _).mono ?_; rintro e w5 ⟨rfl, n5, rfl⟩)
        | (go_at_call 79; obtain ⟨J, hJ, S5, hr5⟩ := ((H2.out.drewN (1 + n5)).alloc (b := w.heap.size) (T := 9) (cs := [.string ⟨(nmL K).toArray⟩]) rfl rfl).freezeBlk; refine (dsync1_sat hcal (some ⟨w.heap.size, 0, none⟩) 1 ⟨(nmL K).toArray⟩ (nmz K) hr5 HX.out rfl hs1 hs2 HA2.out (S5.pick 2)).mono ?_; rintro e w6 ⟨rfl, S6⟩; have H6 := hid (S6.thaw hJ); clear S5 S6 hr5))
      all_goals
        go_wp2_with fail
        go_meet
        exact ⟨rfl, Sat.chClose ((H6.out.pick 2).pick 2)⟩
    case rest =>
      obtain ⟨rfl, S6⟩ := hcut
      obtain ⟨b2, S7⟩ := S6.chOpen
      clear c0 c3 c5
      have c5 := S7.isBlk.cell 5 (v := .bool s.dirty) rfl
      have f5 := S7.isBlk.frozen 5
      have H7 := hid (Sat.chClose (s := {s with dirty := false}) (S7.set 5 (.bool false) (cs' := stc p b2 {s with dirty := false}) rfl))
      clear S6 S7
      go_wp2_with fail
      go_ret
      first
        | exact ⟨rfl, D, hD.out, H7.out⟩
        | exact ⟨D, rfl, hD.out, H7.out⟩
  · have hd' : s.dirty = false := by simpa using hd
    rw [hd'] at c5
    have hs : ({s with dirty := false} : Cst) = s := by rw [← hd']
    rw [hs]
    have H2 := hid H
    clear H H1 h
    go_enter Tryz.func31, Tryz.ntmps31
    go_wp2_with fail
    go_ret
    first
      | exact ⟨rfl, d, hDR.out, H2.out⟩
      | exact ⟨d, rfl, hDR.out, H2.out⟩
end
end Go.Proofs.YtekioplbfoonkaaGreatDoor
namespace Go.Proofs.YtekioplbfoonkaaGreatDoor
open Go.RowKit
set_option linter.unusedVariables false
set_option maxRecDepth 100000
set_option maxHeartbeats 4000000
theorem F_roll (s : Cst) (b : Bool) (c : Nat) : Cst.F ⟨s.done ++ [s.cur], [], b, c⟩ = s.F := by
  unfold Cst.F Cst.segs
  show fnAll _ (plAll ((s.done ++ [s.cur]) ++ [[]]) 1) = _
  rw [plAll_app]
  simp [plAll, plOf]
theorem F_put (s : Cst) (x : It) (b : Bool) (c : Nat) : Cst.F ⟨s.done, s.cur ++ [x], b, c⟩ = fnPut s.F (ulit x.1) (plc (s.done.length + 1) (segT s.cur).length x) := by
  unfold Cst.F Cst.segs
  show fnAll _ (plAll (s.done ++ [s.cur ++ [x]]) 1) = _
  rw [plAll_app, plAll_app]
  simp only [plAll, List.append_nil]
  rw [plOf_app, ← List.append_assoc, fnAll_app]
  simp only [plOf, Nat.zero_add, fnAll, List.foldl_cons, List.foldl_nil]
  rw [Nat.add_comm 1]
def rollC (s : Cst) (x : It) : Prop := 0 < (segT s.cur).length ∧ 500 < (segT s.cur).length + recZ x
instance (s : Cst) (x : It) : Decidable (rollC s x) := by unfold rollC; exact inferInstance
def Cst.pre (s : Cst) (x : It) : Cst := if rollC s x then ⟨s.done ++ [s.cur], [], false, s.c⟩ else s
theorem pre_F (s : Cst) (x : It) : (s.pre x).F = s.F ∧ (s.pre x).c = s.c ∧ (s.pre x).segs.flatten = s.segs.flatten := by
  unfold Cst.pre
  split
  · exact ⟨F_roll s _ _, rfl, by simp [Cst.segs]⟩
  · exact ⟨rfl, rfl, rfl⟩
theorem segT_nil {l : List It} (h : (segT l).length = 0) : l = [] := by
  cases l with
  | nil => rfl
  | cons x l =>
    exfalso
    have := recZ_pos x
    have e : (segT (x :: l)).length = recZ x + (segT l).length := by
      show (recF x.1 x.2 ++ segT l).length = _
      rw [List.length_append]; rfl
    omega
theorem whP : WholeT Tryz.prog 156 11 := ⟨⟨_, Tryz.underlying156, rfl⟩, by kernel_rfl⟩
theorem plc_len (k a : Nat) (x : It) : (plc k a x).length = 11 := by
  have := hd8_len (l := recF x.1 x.2) (by have := recZ_pos x; unfold recZ at this; omega)
  simp [plc, this]
theorem plc_one (k a : Nat) (x : It) : ∀ v ∈ plc k a x, v.oneCell' = true := by
  intro v hv
  simp only [plc, List.mem_cons] at hv
  rcases hv with rfl | rfl | rfl | hv
  · rfl
  · rfl
  · rfl
  · exact hd8_one _ v hv
section
variable {w0 w : World} {I : Part} {L : List HP} {q p : Nat} {s : Cst} {d : Dst}
/-- .. behind the test whether a new file begins: a frame is appended. -/
theorem nmne (K : Nat) : ((⟨(nmL K).toArray⟩ : ByteArray).toList == ([] : List UInt8)) = false := by simp [nmL]
theorem cadd_sat (hT : Rd I (some ⟨0, 0, none⟩) tabV) (h : DR s d) (x : It) (hx : CItm x) (hn : s.segs.flatten.length < 6) (H : Sat w0 I (chp q p s :: dskp p d :: L) w) :
    Calls Tryz.prog 78 #[.pointer (some ⟨q, 0, none⟩), .agg #[.int .u64 1, .int .u64 (x.1 : Int), .string x.2]] w fun e w' => ∃ D b, e = .returned (.tuple #[.agg (plc ((s.pre x).done.length + 1) (segT (s.pre x).cur).length x).toArray, .int .i64 0]) ∧
      DR ⟨(s.pre x).done, (s.pre x).cur ++ [x], true, (s.pre x).c + 1⟩ D ∧ Sat w0 I (blk q 148 (stc p b ⟨(s.pre x).done, (s.pre x).cur ++ [x], true, 0⟩) :: gmap 34 cenc b s.c s.F :: dskp p D :: L) w' := by
  have HT := hid hT
  have hDR := hid h
  have hcu := h.cur
  have hz := recZ_le hx
  have hzp := recZ_pos x
  have hfs : (⟨(recF x.1 x.2).toArray⟩ : ByteArray).size = recZ x := rfl
  obtain ⟨b, H1⟩ := H.chOpen
  obtain ⟨g, hg⟩ : ∃ g, w.heap.size = g := ⟨_, rfl⟩
  have S1 := H1.alloc (b := g) (T := 160) (cs := [.int .u64 1, .int .u64 (x.1 : Int), .string x.2]) rfl hg.symm
  have S2 := S1.alloc (b := g + 1) (T := 156) (cs := pl0) rfl (by simp [hg])
  have H2 := hid S2
  clear H H1 S1 S2 h hT
  go_enter Tryz.func78, Tryz.ntmps78
  go_upto_region 1 with fail
  try rw [hg]
  refine wp_gen (fun w1 => Sat w0 I (blk (g + 1) 156 pl0 :: blk g 160 [.int .u64 1, .int .u64 (x.1 : Int), .string x.2] :: blk q 148 (stc p b s) :: gmap 34 cenc b s.c s.F :: dskp p d :: L) w1) H2.out ?_
  clear H2 hg
  intro w1 S1
  have r0 := S1.swap.isBlk.cell 0 (v := .int .u64 1) rfl
  have r1 := S1.swap.isBlk.cell 1 (v := .int .u64 (x.1 : Int)) rfl
  have r2 := S1.swap.isBlk.cell 2 (v := .string x.2) rfl
  have H1 := hid (S1.pick 2)
  clear S1
  go_wp2_with fail
  refine (rframe_sat x.1 x.2 hx HT.out H1.out).mono ?_; rintro e w2 ⟨rfl, S2⟩
  clear r0 r1 r2
  have c1 := S2.isBlk.cell 1 (v := .int .i64 500) rfl
  have c4 := S2.isBlk.cell 4 (v := .int .i64 ((segT s.cur).length : Int)) rfl
  obtain ⟨fr, hfr⟩ : ∃ fr : ByteArray, (⟨(recF x.1 x.2).toArray⟩ : ByteArray) = fr := ⟨_, rfl⟩
  rw [hfr] at hfs ⊢
  have HFR := hid hfr
  have H2 := hid S2
  clear S2 H1 hfr
  obtain ⟨B, hB⟩ : ∃ B, decide (0 < (segT s.cur).length ∧ 500 < (segT s.cur).length + recZ x) = B := ⟨_, rfl⟩
  have HB := hid hB
  clear hB
  go_upto_region 2 with fail
  go_cut [30] (fun t wx => t = .bool B ∧ Sat w0 I (blk q 148 (stc p b s) :: blk (g + 1) 156 pl0 :: blk g 160 [.int .u64 1, .int .u64 (x.1 : Int), .string x.2] :: gmap 34 cenc b s.c s.F :: dskp p d :: L) wx)
  case first =>
    have hRB := HB.out
    obtain ⟨n0, hn0⟩ : ∃ n0, (segT s.cur).length = n0 := ⟨_, rfl⟩
    obtain ⟨z, hzz⟩ : ∃ z, recZ x = z := ⟨_, rfl⟩
    rw [hn0] at c4 hRB hcu
    rw [hzz] at hRB hz hzp hfs
    have hw : IntKind.i64.wrap ((n0 : Int) + (z : Int)) = (n0 : Int) + (z : Int) := IntWalk.i64_in _ (by omega)
    clear hn0 hzz
    have H3 := hid (show Sat w0 I (blk q 148 (stc p b s) :: blk (g + 1) 156 pl0 :: blk g 160 [.int .u64 1, .int .u64 (x.1 : Int), .string x.2] :: gmap 34 cenc b s.c s.F :: dskp p d :: L) w2 from H2.out)
    clear H2
    by_cases h0 : 0 < n0
    · have hd1 : decide (0 < n0) = true := by simpa using h0
      by_cases h1 : 500 < n0 + z
      · obtain rfl : true = B := by rw [← hRB]; simp [h0, h1]
        have hd2 : decide ((500 : Int) < (n0 : Int) + (z : Int)) = true := by simp; omega
        clear hRB
        go_quiet (fail)
        go_wp2_with fail
        go_meet
        exact ⟨rfl, H3.out.drewN _⟩
      · obtain rfl : false = B := by rw [← hRB]; simp [h1]
        have hd2 : decide ((500 : Int) < (n0 : Int) + (z : Int)) = false := by simp; omega
        clear hRB
        go_quiet (fail)
        go_wp2_with fail
        go_meet
        exact ⟨rfl, H3.out.drewN _⟩
    · have hd1 : decide (0 < n0) = false := by simpa using h0
      obtain rfl : false = B := by rw [← hRB]; simp [h0]
      clear hRB
      go_quiet (fail)
      go_wp2_with fail
      go_meet
      exact ⟨rfl, H3.out.drewN _⟩
  case rest =>
    obtain ⟨rfl, S3⟩ := hcut
    clear c1 c4
    have hpF := (pre_F s x).2.2
    obtain ⟨sp, hsp⟩ : ∃ sp, s.pre x = sp := ⟨_, rfl⟩
    have HSP := hid hsp
    have hfl : sp.segs.flatten.length = s.segs.flatten.length := by rw [← hsp, hpF]
    clear hsp hpF
    have H3 := hid S3
    clear S3 H2
    go_upto_if 30 with fail
    go_cut [] (fun wx => ∃ b1 D1, DR sp D1 ∧ Sat w0 I (blk q 148 (stc p b1 sp) :: blk (g + 1) 156 pl0 :: blk g 160 [.int .u64 1, .int .u64 (x.1 : Int), .string x.2] :: gmap 34 cenc b1 s.c s.F :: dskp p D1 :: L) wx)
    case first =>
      have hB := HB.out
      cases B
      · have hr : ¬ rollC s x := of_decide_eq_false hB
        have hpre : s.pre x = s := if_neg hr
        have e : s = sp := by rw [← HSP.out, hpre]
        have hDR1 : DR sp d := by rw [← e]; exact hDR.out
        have H4 : Hid (Sat w0 I (blk q 148 (stc p b sp) :: blk (g + 1) 156 pl0 :: blk g 160 [.int .u64 1, .int .u64 (x.1 : Int), .string x.2] :: gmap 34 cenc b s.c s.F :: dskp p d :: L) _) := hid (by rw [← e]; exact H3.out)
        have HDR1 := hid hDR1
        clear hB e hpre hr H3 hDR1
        go_wp2_with fail
        go_meet
        exact ⟨b, d, HDR1.out, H4.out⟩
      · have hr : rollC s x := of_decide_eq_true hB
        have hpre : s.pre x = ⟨s.done ++ [s.cur], [], false, s.c⟩ := if_pos hr
        have hcne : s.cur ≠ [] := fun e => by
          have h1 := hr.1
          rw [e] at h1; exact absurd h1 (by decide)
        have e : (⟨s.done ++ [s.cur], [], false, s.c⟩ : Cst) = sp := by rw [← HSP.out, hpre]
        have hl0 := hDR.out.len.2
        have H2' := hid (Sat.chClose ((H3.out.pick 3).pick 1 : Sat w0 I (blk q 148 (stc p b s) :: gmap 34 cenc b s.c s.F :: blk (g + 1) 156 pl0 :: blk g 160 [.int .u64 1, .int .u64 (x.1 : Int), .string x.2] :: dskp p d :: L) _))
        clear hB hpre hr H3
        go_wp2_with fail
        refine (csync_sat hDR.out ((H2'.out.pick 3).swap)).mono ?_; rintro e2 w4 ⟨D1, rfl, hD1, S4⟩
        obtain ⟨b1, S5⟩ := S4.chOpen
        have hDR1 : Hid (DR sp D1) := hid (by rw [← e]; exact hD1.roll hcne rfl)
        have c3 := S5.isBlk.cell 3 (v := .int .i64 ((s.done.length + 1 : Nat) : Int)) rfl
        have f3 := S5.isBlk.frozen 3
        have c4 := S5.isBlk.cell 4 (v := .int .i64 ((segT s.cur).length : Int)) rfl
        have f4 := S5.isBlk.frozen 4
        obtain ⟨kk, hkk⟩ : ∃ kk, s.done.length + 1 = kk := ⟨_, rfl⟩
        rw [hkk] at c3
        have hws : IntKind.i64.wrap ((kk : Int) + 1) = ((kk + 1 : Nat) : Int) := by rw [IntWalk.i64_in _ (by omega)]; omega
        have H5 := hid ((S5.set 3 (.int .i64 ((kk + 1 : Nat) : Int)) rfl).set 4 (.int .i64 0) (cs' := stc p b1 sp) (by rw [← e, ← hkk]; simp [stc, segT]))
        clear S4 S5 H2' hD1 hkk
        go_wp2_with fail
        go_meet
        exact ⟨b1, D1, hDR1.out, ((((H5.out.pick 2).pick 2).pick 4).pick 4 |>.pick 4)⟩
    case rest =>
      obtain ⟨b1, D1, hDRo, S3⟩ := hcut
      have hDR1 := hid hDRo
      have H3 := hid S3
      clear S3 hDRo hDR
      have hnum : sp.segs.flatten.length < 6 := by rw [hfl]; exact hn
      obtain ⟨D, hA, hDR2, hz1, hz2⟩ := hDR1.out.app x hx hnum
      have hl := hDR1.out.len.2
      have hcu1 := hDR1.out.cur
      have hcal := hDR1.out.calm
      have HA := hid hA
      have HDR2 := hid hDR2
      obtain ⟨K, hK⟩ : ∃ K, sp.done.length + 1 = K := ⟨_, rfl⟩
      have HK := hid hK
      have c0 := H3.out.isBlk.cell 0 (v := .pointer (some ⟨p, 0, none⟩)) rfl
      have c3 := H3.out.isBlk.cell 3 (v := .int .i64 ((sp.done.length + 1 : Nat) : Int)) rfl
      rw [hK] at c3 hz1 hz2 hA
      have HNM := hid (fun (w : World) => nameK w K (by omega) (by omega))
      have hA2 : appS D1 (.string (⟨(nmL K).toArray⟩ : ByteArray).data.toList) fr = (0, D) := by rw [← HFR.out]; exact hA
      have HA2 := hid hA2
      have hs1 : ((D1.F (.string (⟨(nmL K).toArray⟩ : ByteArray).data.toList)).getD fz).nx.size + fr.size ≤ 1000000000 := by
        have h1 : ((D1.F (.string (⟨(nmL K).toArray⟩ : ByteArray).data.toList)).getD fz).nx.size ≤ 30048 := hz1
        omega
      have hs2 : ((D1.F (.string (⟨(nmL K).toArray⟩ : ByteArray).data.toList)).getD fz).sx.size ≤ 1000000000 := by
        have h1 : ((D1.F (.string (⟨(nmL K).toArray⟩ : ByteArray).data.toList)).getD fz).sx.size ≤ 30048 := hz2
        omega
      clear hA hA2 hDR2 hz1 hz2 hK
      go_upto_region 8 with fail
      go_cut [8] (fun e wx => e = .int .i64 0 ∧ Sat w0 I (blk q 148 (stc p b1 sp) :: blk (g + 1) 156 pl0 :: gmap 34 cenc b1 s.c s.F :: dskp p D :: L) wx)
      case first =>
        go_region_with (first
          | (go_at_call 38; refine (HNM.out _).mono ?_; rintro e w5 ⟨rfl, n5, rfl⟩)
          | (go_at_call 133; refine (dappend_sat (d := D1) ⟨(nmL K).toArray⟩ (nmz K) (nmne K) fr rfl hs1 hs2 hcal.ok HA2.out ((H3.out.drewN (1 + n5)).pick 4)).mono ?_; rintro e w6 ⟨rfl, S6⟩; have H6 := hid S6; clear S6))
        all_goals
          go_wp2_with fail
          go_meet
          exact ⟨rfl, ((((H6.out.pick 3).drop).pick 3).pick 3).pick 3⟩
      case rest =>
        obtain ⟨rfl, S6⟩ := hcut
        clear c0 c3 hs1 hs2
        have c5 := S6.isBlk.cell 5 (v := .bool sp.dirty) rfl
        have f5 := S6.isBlk.frozen 5
        have H6 := hid (S6.set 5 (.bool true) (cs' := stc p b1 ⟨sp.done, sp.cur, true, sp.c⟩) rfl)
        clear S6 H3
        go_upto_region 12 with fail
        refine wp_gen (fun w7 => Sat w0 I (blk q 148 (stc p b1 ⟨sp.done, sp.cur, true, sp.c⟩) :: blk (g + 1) 156 pl0 :: gmap 34 cenc b1 s.c s.F :: dskp p D :: L) w7) H6.out ?_
        clear H6 c5 f5
        intro w7 S7
        have c3 := S7.isBlk.cell 3 (v := .int .i64 ((sp.done.length + 1 : Nat) : Int)) rfl
        have c4 := S7.isBlk.cell 4 (v := .int .i64 ((segT sp.cur).length : Int)) rfl
        rw [HK.out] at c3
        have H7 := hid S7
        clear S7
        obtain ⟨n0, hn0⟩ : ∃ n0, (segT sp.cur).length = n0 := ⟨_, rfl⟩
        obtain ⟨z, hzz⟩ : ∃ z, recZ x = z := ⟨_, rfl⟩
        have HN0 := hid hn0
        have HZ := hid hzz
        rw [hn0] at c4 hcu1
        rw [hzz] at hz hzp hfs
        clear hn0 hzz
        obtain ⟨a0, a1, a2, a3, a4, a5, a6, a7, rr, hrr⟩ : ∃ a0 a1 a2 a3 a4 a5 a6 a7 rr, recF x.1 x.2 = a0 :: a1 :: a2 :: a3 :: a4 :: a5 :: a6 :: a7 :: rr := by
          have h8 : 8 ≤ (recF x.1 x.2).length := by have := recZ_pos x; unfold recZ at this; omega
          match hm : recF x.1 x.2, h8 with
          | b0 :: b1 :: b2 :: b3 :: b4 :: b5 :: b6 :: b7 :: r, _ => exact ⟨b0, b1, b2, b3, b4, b5, b6, b7, r, rfl⟩
        have hd : hd8 fr.data.toList = [.int .u8 (a0.toNat : Int), .int .u8 (a1.toNat : Int), .int .u8 (a2.toNat : Int), .int .u8 (a3.toNat : Int), .int .u8 (a4.toNat : Int), .int .u8 (a5.toNat : Int), .int .u8 (a6.toNat : Int), .int .u8 (a7.toNat : Int)] := by
          rw [← HFR.out]
          show hd8 (recF x.1 x.2) = _
          rw [hrr]; rfl
        have hpl : plc K n0 x = [.int .i64 (K : Int), .int .i64 (n0 : Int), .int .i64 (z : Int), .int .u8 (a0.toNat : Int), .int .u8 (a1.toNat : Int), .int .u8 (a2.toNat : Int), .int .u8 (a3.toNat : Int), .int .u8 (a4.toNat : Int), .int .u8 (a5.toNat : Int), .int .u8 (a6.toNat : Int), .int .u8 (a7.toNat : Int)] := by
          unfold plc
          rw [HZ.out, hrr]; rfl
        have HHD := hid hd
        have HPL := hid hpl
        have h8 : 8 ≤ fr.size := by omega
        clear hd hpl hrr
        go_cut [9] (fun t wx => ∃ zb, t = .pointer (some ⟨zb, 0, none⟩) ∧ Sat w0 I (blk zb 156 (plc K n0 x) :: blk q 148 (stc p b1 ⟨sp.done, sp.cur, true, sp.c⟩) :: blk (g + 1) 156 pl0 :: gmap 34 cenc b1 s.c s.F :: dskp p D :: L) wx)
        case first =>
          have c3a := fun o => cell_alloc c3 o
          have c4a := fun o => cell_alloc c4 o
          go_region_with (first
            | (go_at_call 81; refine (headOf_sat fr h8 H7.out.drew).mono ?_; rintro e w8 ⟨rfl, S8⟩; rw [HHD.out]; have e3 := S8.isBlk.cell 3 (v := .int .i64 ((sp.done.length + 1 : Nat) : Int)) rfl; rw [HK.out] at e3; have e4 := S8.isBlk.cell 4 (v := .int .i64 ((segT sp.cur).length : Int)) rfl; rw [HN0.out] at e4; have e3a := fun o => cell_alloc e3 o; have e4a := fun o => cell_alloc e4 o; have H8 := hid S8; clear S8)
            | (go_at_call 81; refine (headOf_sat fr h8 (H7.out.alloc (b := w7.heap.size) (T := 156) (cs := pl0) rfl rfl).drew).mono ?_; rintro e w8 ⟨rfl, S8⟩; rw [HHD.out]; have e3 := S8.swap.isBlk.cell 3 (v := .int .i64 ((sp.done.length + 1 : Nat) : Int)) rfl; rw [HK.out] at e3; have e4 := S8.swap.isBlk.cell 4 (v := .int .i64 ((segT sp.cur).length : Int)) rfl; rw [HN0.out] at e4; have t0 := (S8.pick 0).isBlk.cell 0 (v := .int .i64 0) rfl; have ft0 := (S8.pick 0).isBlk.frozen 0; have t1 := (S8.pick 0).isBlk.cell 1 (v := .int .i64 0) rfl; have ft1 := (S8.pick 0).isBlk.frozen 1; have t2 := (S8.pick 0).isBlk.cell 2 (v := .int .i64 0) rfl; have ft2 := (S8.pick 0).isBlk.frozen 2; have t3 := (S8.pick 0).isBlk.cell 3 (v := .int .u8 0) rfl; have ft3 := (S8.pick 0).isBlk.frozen 3; have t4 := (S8.pick 0).isBlk.cell 4 (v := .int .u8 0) rfl; have ft4 := (S8.pick 0).isBlk.frozen 4; have t5 := (S8.pick 0).isBlk.cell 5 (v := .int .u8 0) rfl; have ft5 := (S8.pick 0).isBlk.frozen 5; have t6 := (S8.pick 0).isBlk.cell 6 (v := .int .u8 0) rfl; have ft6 := (S8.pick 0).isBlk.frozen 6; have t7 := (S8.pick 0).isBlk.cell 7 (v := .int .u8 0) rfl; have ft7 := (S8.pick 0).isBlk.frozen 7; have t8 := (S8.pick 0).isBlk.cell 8 (v := .int .u8 0) rfl; have ft8 := (S8.pick 0).isBlk.frozen 8; have t9 := (S8.pick 0).isBlk.cell 9 (v := .int .u8 0) rfl; have ft9 := (S8.pick 0).isBlk.frozen 9; have t10 := (S8.pick 0).isBlk.cell 10 (v := .int .u8 0) rfl; have ft10 := (S8.pick 0).isBlk.frozen 10; have HT8 := hid (show Sat w0 I (blk w7.heap.size 156 [.int .i64 (K : Int), .int .i64 (n0 : Int), .int .i64 (z : Int), .int .u8 (a0.toNat : Int), .int .u8 (a1.toNat : Int), .int .u8 (a2.toNat : Int), .int .u8 (a3.toNat : Int), .int .u8 (a4.toNat : Int), .int .u8 (a5.toNat : Int), .int .u8 (a6.toNat : Int), .int .u8 (a7.toNat : Int)] :: blk q 148 (stc p b1 ⟨sp.done, sp.cur, true, sp.c⟩) :: blk (g + 1) 156 pl0 :: gmap 34 cenc b1 s.c s.F :: dskp p D :: L) _ from (((((((((((S8.set 0 (.int .i64 (K : Int)) rfl).set 1 (.int .i64 (n0 : Int)) rfl).set 2 (.int .i64 (z : Int)) rfl).set 3 (.int .u8 (a0.toNat : Int)) rfl).set 4 (.int .u8 (a1.toNat : Int)) rfl).set 5 (.int .u8 (a2.toNat : Int)) rfl).set 6 (.int .u8 (a3.toNat : Int)) rfl).set 7 (.int .u8 (a4.toNat : Int)) rfl).set 8 (.int .u8 (a5.toNat : Int)) rfl).set 9 (.int .u8 (a6.toNat : Int)) rfl).set 10 (.int .u8 (a7.toNat : Int)) rfl)); clear S8))
          all_goals
            go_wp2_with fail
            go_meet
            first
              | exact ⟨w8.heap.size, rfl, by rw [HPL.out]; exact H8.out.alloc rfl rfl⟩
              | exact ⟨w7.heap.size, rfl, by rw [HPL.out]; exact HT8.out⟩
        case rest =>
          obtain ⟨zb, rfl, S8⟩ := hcut
          clear c3 c4
          have c4 := S8.swap.isBlk.cell 4 (v := .int .i64 ((segT sp.cur).length : Int)) rfl
          have f4 := S8.swap.isBlk.frozen 4
          rw [HN0.out] at c4
          have hseg : (segT (sp.cur ++ [x])).length = n0 + z := by
            have h1 := HN0.out
            have h2 := HZ.out
            rw [segT_app, segT_one, List.length_append]; unfold recZ at h2; omega
          have hw : IntKind.i64.wrap ((n0 : Int) + (z : Int)) = ((n0 + z : Nat) : Int) := by rw [IntWalk.i64_in _ (by omega)]; omega
          have H8 := hid (S8.swap.set 4 (.int .i64 ((n0 + z : Nat) : Int)) (cs' := stc p b1 ⟨sp.done, sp.cur ++ [x], true, 0⟩) (by simp [stc, hseg]))
          clear S8 H7
          go_upto_region 14 with fail
          refine wp_gen (fun w9 => Sat w0 I (blk q 148 (stc p b1 ⟨sp.done, sp.cur ++ [x], true, 0⟩) :: blk zb 156 (plc K n0 x) :: blk (g + 1) 156 pl0 :: gmap 34 cenc b1 s.c s.F :: dskp p D :: L) w9) H8.out ?_
          clear H8 c4 f4
          intro w9 S9
          have H9 := hid S9
          clear S9
          go_wp2_with (first
            | (refine wpList_loadS whP rfl _ rfl rfl (plc_len _ _ _) H9.out.swap ?_)
            | (refine wpList_storeS whP rfl _ _ rfl rfl rfl rfl (plc_len _ _ _) (plc_one _ _ _) (H9.out.pick 2) ?_; intro w10 S10))
          refine bodyPost_ret (ret_cellS Tryz.results78 whP _ rfl rfl (plc_len _ _ _) S10) rfl ?_
          rw [HSP.out, HK.out, HN0.out]
          exact ⟨rfl, D, HDR2.out, b1, S10.drop.swap.drop⟩
end
end Go.Proofs.YtekioplbfoonkaaGreatDoor
