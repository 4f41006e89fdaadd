/- Layer 7: what Read does, as a relation: block by block. -/
import Derived.Test.YtekioplbfoonkaaGreatDoorTpW
import Derived.Test.YtekioplbfoonkaaGreatDoorTpN
import Derived.Test.YtekioplbfoonkaaGreatDoorTpQ
import Derived.Test.YtekioplbfoonkaaGreatDoorBldS
namespace Go.Proofs.YtekioplbfoonkaaGreatDoor
open Go.RowKit
set_option linter.unusedVariables false
set_option maxRecDepth 100000
/-- the piece is the one that is wanted. -/
def isPart (lab : ByteArray) (frm : Int) (blob k : Nat) (P : Pc) : Prop := P.label = lab ∧ (P.block : Int) = frm + k ∧ P.blob = blob ∧ P.part = k ∧ P.parts = nparts P.size
/-- Read's loop, n rounds more: at volume v, part k, with the bytes acc, it ends with these bytes, this error and this volume. -/
inductive RdR (lab : ByteArray) (frm : Int) (blob : Nat) : Nat → Vst → Nat → List UInt8 → List UInt8 × Int × Vst → Prop
  | err {v v1 : Vst} {k : Nat} {acc : List UInt8} {s : ByteArray} {m : Bool} {E : Int} (hA : readS v = ((s, m, E), v1)) (hE : E ≠ 0) : RdR lab frm blob 0 v k acc ([], E, v1)
  | mark {v v1 : Vst} {k : Nat} {acc : List UInt8} {s : ByteArray} (hA : readS v = ((s, true, 0), v1)) : RdR lab frm blob 0 v k acc ([], 3, v1)
  | bad {v v1 : Vst} {k : Nat} {acc c : List UInt8} {s : ByteArray} {E : Int} (hA : readS v = ((s, false, 0), v1)) (hO : onlyR s.data.toList = (c, E)) (hE : E ≠ 0) : RdR lab frm blob 0 v k acc ([], E, v1)
  | other {v v1 : Vst} {k : Nat} {acc : List UInt8} {P : Pc} (hA : readS v = ((spellB P, false, 0), v1)) (hok : P.ok) (hn : ¬ isPart lab frm blob k P) : RdR lab frm blob 0 v k acc ([], 3, v1)
  | more {v v1 : Vst} {n k : Nat} {acc : List UInt8} {P : Pc} {R : List UInt8 × Int × Vst} (hA : readS v = ((spellB P, false, 0), v1)) (hok : P.ok) (hp : isPart lab frm blob k P) (hm : k + 1 < P.parts) (hr : RdR lab frm blob n v1 (k + 1) (acc ++ P.data.data.toList) R) : RdR lab frm blob (n + 1) v k acc R
  | wrong {v v1 : Vst} {k : Nat} {acc : List UInt8} {P : Pc} (hA : readS v = ((spellB P, false, 0), v1)) (hok : P.ok) (hp : isPart lab frm blob k P) (hm : ¬ k + 1 < P.parts) (hw : (acc ++ P.data.data.toList).length ≠ P.size ∨ crc (acc ++ P.data.data.toList) ≠ P.sum) : RdR lab frm blob 0 v k acc ([], 4, v1)
  | done {v v1 : Vst} {k : Nat} {acc : List UInt8} {P : Pc} (hA : readS v = ((spellB P, false, 0), v1)) (hok : P.ok) (hp : isPart lab frm blob k P) (hm : ¬ k + 1 < P.parts) (hw : (acc ++ P.data.data.toList).length = P.size) (hc : crc (acc ++ P.data.data.toList) = P.sum) : RdR lab frm blob 0 v k acc (acc ++ P.data.data.toList, 0, v1)
theorem Vst.fit.read {v : Vst} (h : v.fit) : (readS v).2.fit ∧ (readS v).2.label = v.label := by
  unfold readS
  have h1 := tryV_ok h.ok
  split
  · split
    · split
      · exact ⟨h.try_, rfl⟩
      · rename_i hlt _
        refine ⟨⟨⟨h.ok.room0, h.ok.room, h.ok.used, h1.armed0, h1.armed, h.ok.sure, ?_, h.ok.len, h.ok.erased0, h.ok.erased⟩, h.room⟩, rfl⟩
        show v.at_ + 1 ≤ v.bl.length
        omega
    · exact ⟨h.try_, rfl⟩
  · exact ⟨h.try_, rfl⟩
end Go.Proofs.YtekioplbfoonkaaGreatDoor
