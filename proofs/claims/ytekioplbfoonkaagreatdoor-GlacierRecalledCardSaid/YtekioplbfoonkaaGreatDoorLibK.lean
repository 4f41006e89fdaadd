/- Libraries of tapes: Crash. -/
import Derived.Test.YtekioplbfoonkaaGreatDoorLibW
import Derived.Test.YtekioplbfoonkaaGreatDoorLibH
namespace Go.Proofs.YtekioplbfoonkaaGreatDoor
open Go.RowKit
set_option linter.unusedVariables false
set_option maxRecDepth 100000
section
variable {lab : ByteArray} {er room : Int} {es : List (Nat × ByteArray)} {at_ : Nat}
theorem crash_tp (h : TpOk lab er room es (tapeB lab es).length at_) (l : List Int) : crashV (tpv lab er room es (tapeB lab es).length at_) l = tpv lab er room es (tapeB lab es).length 0 := by
  have hN : crashN (tpv lab er room es (tapeB lab es).length at_) l = (tapeB lab es).length := by
    have h1 := pickM_bd l 0 (((tpv lab er room es (tapeB lab es).length at_).bl.length : Int) - (tpv lab er room es (tapeB lab es).length at_).sure + 1)
    unfold crashN
    have e1 : (tpv lab er room es (tapeB lab es).length at_).bl.length = (tapeB lab es).length := rfl
    have e2 : (tpv lab er room es (tapeB lab es).length at_).sure = (tapeB lab es).length := rfl
    rw [e1, e2] at h1 ⊢
    omega
  have hB : crashB (tpv lab er room es (tapeB lab es).length at_) l = [] := by
    unfold crashB
    rw [dif_neg (by rw [hN]; show ¬ (tapeB lab es).length < (tapeB lab es).length; omega)]
  unfold crashV
  rw [hN, hB]
  show ({ tpv lab er room es (tapeB lab es).length at_ with bl := (tapeB lab es).take (tapeB lab es).length ++ [], sure := (tapeB lab es).length + 0, at_ := 0 } : Vst) = _
  rw [List.take_length, List.append_nil]
  rfl
theorem trim_tp (h : TpOk lab er room es (tapeB lab es).length at_) : trimS (tpv lab er room es (tapeB lab es).length 0) = (5, tpv lab er room es (tapeB lab es).length 0) := by
  have ht : tornL (tpv lab er room es (tapeB lab es).length 0).bl = false := tornL_all (tape_snoc h.hlab es h.hes (by have := h.hlen; omega)).1
  unfold trimS
  rw [if_pos (show tryE _ _ = 0 from rfl), if_neg (by rw [ht]; simp)]
  rfl
end
section
variable {w0 w : World} {I : Part} {L : List HP} {q : Nat} {room : Int} {P Q : Lst → Prop} {ps : List Nat} {t : Nat → TV}
def at0 (v : Vst) : Vst := {v with at_ := 0}
theorem lcrashP (hP : ∀ S, P S → S.drs.length ≤ 1000 ∧ ∀ vs, Q {S with drs := S.drs.map crD, vols := vs}) (hps : ps.length ≤ 1000) (ca : Option Addr) (zl cc : Nat) (zs : List Int) (hzl : zs.length = zl) (hzm : zl ≤ cc ∧ cc ≤ 9223372036854775807) (hz : Rd I ca (zs.map (Value.int .i64))) (hzb : ∀ z ∈ zs, -9223372036854775808 ≤ z ∧ z ≤ 9223372036854775807)
    (H : Sat w0 I (libP room q P ps t :: L) w) :
    Calls Tryz.prog 11 #[.pointer (some ⟨q, 0, none⟩), .slice ca zl cc] w fun e w' => e = .returned (.tuple #[]) ∧ Sat w0 I (libP room q Q ps t :: L) w' := by
  obtain ⟨S, hvs, hp, H1⟩ := H.libVo
  obtain ⟨hd, hq⟩ := hP S hp
  have key : ∀ x ∈ S.vols, ∃ (j : Nat) (at_ : Nat), ∃ hj : j < ps.length, TpOk (t j).lab (t j).er room (t j).es (tapeB (t j).lab (t j).es).length at_ ∧ x.2 = tpv (t j).lab (t j).er room (t j).es (tapeB (t j).lab (t j).es).length at_ := by
    intro x hx
    obtain ⟨j, hj, rfl⟩ := List.getElem_of_mem hx
    have hj' : j < ps.length := by rw [← hvs.len]; exact hj
    obtain ⟨a, h1, h2⟩ := hvs.get j hj' hj
    exact ⟨j, a, hj', h1, by rw [h2]⟩
  refine (lcrash_gen ca zl cc zs hzl hzm hz hzb at0 (fun x hx => ?_) hd (by rw [hvs.len]; exact hps) H1).mono fun e w' ⟨h1, h2⟩ => ⟨h1, Sat.toLibV (S := {S with drs := S.drs.map crD, vols := S.vols.map (onV at0)}) ⟨by simpa using hvs.len, fun j hj h2 => ?_⟩ (hq _) h2⟩
  · obtain ⟨j, a, hj, k1, k2⟩ := key x hx
    have e0 : at0 (tpv (t j).lab (t j).er room (t j).es (tapeB (t j).lab (t j).es).length a) = tpv (t j).lab (t j).er room (t j).es (tapeB (t j).lab (t j).es).length 0 := rfl
    rw [k2, e0]
    have k3 : TpOk (t j).lab (t j).er room (t j).es (tapeB (t j).lab (t j).es).length 0 := ⟨k1.hlab, k1.her, k1.hroom, k1.hes, k1.hlen, k1.hsure, Nat.zero_le _⟩
    exact ⟨k1.fit.ok, fun l => crash_tp k1 l, k3.fit.ok, trim_tp k1⟩
  · have h3 : j < S.vols.length := by rw [hvs.len]; exact hj
    obtain ⟨a, k1, k2⟩ := hvs.get j hj h3
    refine ⟨0, ⟨k1.hlab, k1.her, k1.hroom, k1.hes, k1.hlen, k1.hsure, Nat.zero_le _⟩, ?_⟩
    show (S.vols.map (onV at0))[j]'_ = _
    rw [List.getElem_map, k2]
    rfl
end
/-! ### one drive, and what it was moved -/
structure One (vol mv : Int) (k : Nat) (S : Lst) : Prop where
  drs : ∃ u, S.drs = [⟨vol, 0, u, false⟩]
  moves : S.moves = mv
  mv0 : 0 ≤ mv
  mv1 : mv ≤ k
  mounts0 : 0 ≤ S.mounts
  mounts : S.mounts ≤ k
theorem one_mnt {vol mv : Int} {k : Nat} (hk : k ≤ 1000) (i : Nat) : Mnt (One vol mv k) (One (i : Int) (if (i : Int) = vol then mv else mv + 1) (k + 1)) i := by
  intro S h hf hi
  have m0 := h.mounts0; have m1 := h.mounts; have v0 := h.mv0; have v1 := h.mv1; have hm := h.moves
  obtain ⟨u, hd⟩ := h.drs
  refine ⟨⟨by omega, by omega, by omega, by omega⟩, ?_⟩
  rw [mountS_fine rfl hf (by omega) (by omega)]
  have h0 : ¬ (i : Int) < 0 := by omega
  by_cases e : (i : Int) = vol
  · refine ⟨0, {S with drs := [⟨vol, 0, S.mounts + 1, false⟩], mounts := S.mounts + 1}, ?_, rfl, fun vs => ?_⟩
    · simp [hd, inF, List.findIdx?_cons, e, show ¬ vol < 0 by omega]
    · rw [if_pos e]
      exact ⟨⟨_, by rw [e]⟩, hm, v0, by omega, by show 0 ≤ S.mounts + 1; omega, by show S.mounts + 1 ≤ ((k + 1 : Nat) : Int); omega⟩
  · have e2 : ¬ vol = (i : Int) := fun x => e x.symm
    refine ⟨0, {S with drs := [⟨(i : Int), 0, S.mounts + 1, false⟩], moves := S.moves + 1, mounts := S.mounts + 1}, ?_, rfl, fun vs => ?_⟩
    · simp [hd, inF, List.findIdx?_cons, h0, e2, nextF]
    · rw [if_neg e]
      exact ⟨⟨_, rfl⟩, by show S.moves + 1 = mv + 1; omega, by omega, by omega, by show 0 ≤ S.mounts + 1; omega, by show S.mounts + 1 ≤ ((k + 1 : Nat) : Int); omega⟩
theorem one_crash {vol mv : Int} {k : Nat} (S : Lst) (h : One vol mv k S) : S.drs.length ≤ 1000 ∧ ∀ vs, One (-1) mv k {S with drs := S.drs.map crD, vols := vs} := by
  obtain ⟨u, hd⟩ := h.drs
  refine ⟨by rw [hd]; simp, fun vs => ⟨⟨0, ?_⟩, h.moves, h.mv0, h.mv1, h.mounts0, h.mounts⟩⟩
  show S.drs.map crD = _
  rw [hd]; rfl
theorem calm_crash {k : Nat} (S : Lst) (h : Calm k S) (hl : S.drs.length ≤ 1000) : ∀ vs, Calm k {S with drs := S.drs.map crD, vols := vs} := fun vs =>
  ⟨by simpa using h.any, fun d hd => by
    obtain ⟨x, hx, rfl⟩ := List.mem_map.1 hd
    exact ⟨rfl, (h.free x hx).2⟩, h.moves0, h.moves, h.mounts0, h.mounts⟩
end Go.Proofs.YtekioplbfoonkaaGreatDoor
