/- Chunks in files: plain. -/
import Derived.Test.YtekioplbfoonkaaGreatDoorMapG
import Derived.Test.YtekioplbfoonkaaGreatDoorSealS
import Derived.Test.YtekioplbfoonkaaGreatDoorSealA
import Derived.Test.YtekioplbfoonkaaGreatDoorMg4
namespace Go.Proofs.YtekioplbfoonkaaGreatDoor
set_option linter.unusedVariables false
set_option maxRecDepth 100000
/-- a record's bytes, its frame. -/
def recB (id : Nat) (data : ByteArray) : List UInt8 := encU 1 ++ encU id ++ encS data
def recF (id : Nat) (data : ByteArray) : List UInt8 := frameL (recB id data)
def recZ (x : Nat × ByteArray) : Nat := (recF x.1 x.2).length
/-- what a file says. -/
def segT (l : List (Nat × ByteArray)) : List UInt8 := l.flatMap fun x => recF x.1 x.2
structure CItm (x : Nat × ByteArray) : Prop where
  id : x.1 ≤ 1000
  sz : x.2.size ≤ 4000
theorem recB_len {x : Nat × ByteArray} (h : CItm x) : (recB x.1 x.2).length ≤ 5000 := by
  have h1 := h.id; have h2 := h.sz
  have e1 := encU_len 1 (by omega)
  have e2 := encU_len x.1 (by omega)
  have e3 := encU_len x.2.size (by omega)
  have : (encS x.2).length = (encU x.2.size).length + x.2.size := by simp [encS]
  simp only [recB, List.length_append, this]
  omega
theorem recF_len (x : Nat × ByteArray) : (recF x.1 x.2).length = (recB x.1 x.2).length + 8 := frameL_len _
theorem recZ_le {x : Nat × ByteArray} (h : CItm x) : recZ x ≤ 5008 := by
  unfold recZ; rw [recF_len]; have := recB_len h; omega
theorem recZ_pos (x : Nat × ByteArray) : 8 ≤ recZ x := by unfold recZ; rw [recF_len]; omega
theorem scanR_frm (c X : List UInt8) (h : c.length ≤ 1048576) : scanR (frameL c ++ X) = (c :: (scanR X).1, c.length + 8 + (scanR X).2) := by
  have h1 := scanR_ok (openR_frame c X h)
  rw [List.drop_append_of_le_length (by rw [frameL_len]; omega), ← frameL_len c, List.drop_length, List.nil_append, frameL_len] at h1
  exact h1
theorem segT_scan : ∀ (l : List (Nat × ByteArray)), (∀ x ∈ l, CItm x) → scanR (segT l) = (l.map fun x => recB x.1 x.2, (segT l).length)
  | [], _ => scanR_no (E := 2) (c := []) (n := 0) rfl (by decide)
  | x :: l, h => by
    have ih := segT_scan l (fun y hy => h y (by simp [hy]))
    have hb := recB_len (h x (by simp))
    show scanR (frameL (recB x.1 x.2) ++ segT l) = _
    rw [scanR_frm _ _ (by omega), ih]
    simp only [List.map_cons, Prod.mk.injEq, true_and]
    show _ = (frameL (recB x.1 x.2) ++ segT l).length
    rw [List.length_append, frameL_len]
theorem segT_app (l m : List (Nat × ByteArray)) : segT (l ++ m) = segT l ++ segT m := by simp [segT]
theorem segT_one (x : Nat × ByteArray) : segT [x] = recF x.1 x.2 := by simp [segT]
/-- the head of a frame, as cells. -/
def hd8 (l : List UInt8) : List Value := (l.take 8).map fun b => Value.int .u8 (b.toNat : Int)
theorem hd8_len {l : List UInt8} (h : 8 ≤ l.length) : (hd8 l).length = 8 := by simp [hd8]; omega
/-- where a record is: the cells of a place. -/
abbrev Pl := List Value
def plc (k a : Nat) (x : Nat × ByteArray) : Pl := .int .i64 (k : Int) :: .int .i64 (a : Int) :: .int .i64 (recZ x : Int) :: hd8 (recF x.1 x.2)
def plOf (k : Nat) : List (Nat × ByteArray) → Nat → List (Nat × Pl)
  | [], _ => []
  | x :: l, a => (x.1, plc k a x) :: plOf k l (a + recZ x)
theorem plOf_app (k : Nat) : ∀ (l m : List (Nat × ByteArray)) (a : Nat), plOf k (l ++ m) a = plOf k l a ++ plOf k m (a + (segT l).length)
  | [], m, a => rfl
  | x :: l, m, a => by
    have ih := plOf_app k l m (a + recZ x)
    show _ :: plOf k (l ++ m) (a + recZ x) = _ :: (plOf k l (a + recZ x) ++ _)
    rw [ih]
    have : (segT (x :: l)).length = recZ x + (segT l).length := by
      show (recF x.1 x.2 ++ segT l).length = _
      rw [List.length_append]; rfl
    rw [this, ← Nat.add_assoc]
def ulit (id : Nat) : Lit := .int .u64 (id : Int)
theorem ulit_ne {a b : Nat} (h : a ≠ b) : ulit a ≠ ulit b := fun e => h (by unfold ulit at e; injection e with _ e; exact Int.ofNat.inj e)
/-- the places as a function of the IDs: the last one counts. -/
noncomputable def fnAll (F : Lit → Option Pl) (ps : List (Nat × Pl)) : Lit → Option Pl := ps.foldl (fun F x => fnPut F (ulit x.1) x.2) F
theorem fnAll_app (F : Lit → Option Pl) (a b : List (Nat × Pl)) : fnAll F (a ++ b) = fnAll (fnAll F a) b := by simp [fnAll]
theorem fnAll_none : ∀ (ps : List (Nat × Pl)) (F : Lit → Option Pl) (i : Nat), (∀ x ∈ ps, x.1 ≠ i) → fnAll F ps (ulit i) = F (ulit i)
  | [], F, i, _ => rfl
  | x :: ps, F, i, h => by
    show fnAll (fnPut F (ulit x.1) x.2) ps (ulit i) = _
    rw [fnAll_none ps _ i (fun y hy => h y (by simp [hy])), fnPut_ne F x.2 (ulit_ne (fun e => h x (by simp) e.symm))]
theorem fnAll_get : ∀ (ps : List (Nat × Pl)) (F : Lit → Option Pl) (j : Nat) (hj : j < ps.length), (ps.map (·.1)).Nodup → fnAll F ps (ulit ps[j].1) = some ps[j].2
  | x :: ps, F, 0, _, h => by
    show fnAll (fnPut F (ulit x.1) x.2) ps (ulit x.1) = some x.2
    have hn : ∀ y ∈ ps, y.1 ≠ x.1 := fun y hy e => by
      have := (List.nodup_cons.1 h).1
      exact this (by rw [show (fun x : Nat × Pl => x.1) x = y.1 from e.symm]; exact List.mem_map_of_mem (f := fun x : Nat × Pl => x.1) hy)
    rw [fnAll_none ps _ x.1 hn, fnPut_eq]
  | x :: ps, F, j + 1, hj, h => by
    have hj' : j < ps.length := by simpa using hj
    show fnAll (fnPut F (ulit x.1) x.2) ps (ulit ps[j].1) = some ps[j].2
    exact fnAll_get ps _ j hj' (List.nodup_cons.1 h).2
/-- all places: of the files that are done, from number k on. -/
def plAll : List (List (Nat × ByteArray)) → Nat → List (Nat × Pl)
  | [], _ => []
  | s :: r, k => plOf k s 0 ++ plAll r (k + 1)
theorem plAll_app : ∀ (a b : List (List (Nat × ByteArray))) (k : Nat), plAll (a ++ b) k = plAll a k ++ plAll b (k + a.length)
  | [], b, k => rfl
  | s :: a, b, k => by
    show plOf k s 0 ++ plAll (a ++ b) (k + 1) = (plOf k s 0 ++ plAll a (k + 1)) ++ _
    rw [plAll_app a b (k + 1), List.append_assoc, List.length_cons, show k + 1 + a.length = k + (a.length + 1) by omega]
end Go.Proofs.YtekioplbfoonkaaGreatDoor
