/- A row of ints that the library sorts or compacts in place; a command, plain. A list of numbers that was written is taken again. -/
import Derived.Test.YtekioplbfoonkaaGreatDoorMg4
import Derived.Sort.Grow
import Derived.Lib.SlicesCompact
import Derived.Test.YtekioplbfoonkaaGreatDoorMgC
namespace Go.Proofs.YtekioplbfoonkaaGreatDoor
open Go.RowKit Go.Sort
set_option linter.unusedVariables false
set_option maxRecDepth 100000
def encZ : Int → Value := Value.int .i64
section
variable {w0 w w' : World} {I : Part} {L : List HP} {e : TypeId} {g cap n : Nat}
theorem row_holds {zs : List Int} {v : Value} {n : Nat} (h : w.ownsRow 0 e 1 v n (zs.map encZ)) (hv : v = .slice (some ⟨g, 0, none⟩) n cap) : Holds encZ w g 0 zs.toArray ∧ g < w.heap.size ∧ zs.length = n ∧ n ≤ cap ∧ cap ≤ maxLen := by
  subst hv
  have hlen := h.1
  simp at hlen
  refine ⟨fun j hj => ⟨?_, ?_⟩, ?_, hlen, ?_⟩
  · rw [Nat.zero_add]
    refine own_cell h j ?_
    have hj' : j < zs.length := by simpa using hj
    simp [hj']
  · rw [Nat.zero_add]; exact own_frozen h j
  · rcases h.2 with ⟨hv, _⟩ | ⟨g', cap', cur, hv, _, hh, _⟩
    · cases hv
    · cases hv; exact (Array.getElem?_eq_some_iff.1 hh).1
  · rcases h.2 with ⟨hv, _⟩ | ⟨g', cap', cur, hv, _, hh, hc, hm, _⟩
    · cases hv
    · cases hv; exact ⟨hc, hm⟩
theorem heap_put (w : World) (k : Nat) (ys : List Int) (os : Array Obj) (b : Nat) (hb : b < w.heap.size) (hne : b ≠ g) :
    (grow (putRow encZ (Sort.ahead w k) g 0 ys.toArray) os).heap[b]? = w.heap[b]? := by
  unfold grow putRow mapBlock Sort.ahead
  show ((w.heap.modify g _) ++ os)[b]? = _
  rw [Array.getElem?_append, if_pos (by simpa using hb), Array.getElem?_modify, if_neg (fun h => hne h.symm)]
theorem putCells_take (ys : List Int) (c : Array Value) (h : ys.length ≤ c.size) : (putCells encZ 0 ys.toArray c).toList.take ys.length = ys.map encZ := by
  apply List.ext_getElem?
  intro i
  rw [List.getElem?_take]
  by_cases hi : i < ys.length
  · rw [if_pos hi]
    have hc : i < c.size := by omega
    simp only [putCells, Array.getElem?_toList, Array.getElem?_mapIdx, Array.getElem?_eq_getElem hc, Option.map_some]
    rw [if_pos (by simp [hi])]
    simp [hi, getElem!_pos]
  · rw [if_neg hi]
    rw [List.getElem?_eq_none (by simpa using Nat.le_of_not_lt hi)]
theorem Sat.sorted {xs : List Value} (ys : List Int) (k : Nat) (os : Array Obj) (hn : ys.length = n) (H : Sat w0 I (row e 1 (.slice (some ⟨g, 0, none⟩) n cap) n xs :: L) w) :
    Sat w0 I (row e 1 (.slice (some ⟨g, 0, none⟩) n cap) n (ys.map encZ) :: L) (grow (putRow encZ (Sort.ahead w k) g 0 ys.toArray) os) := by
  refine H.change fun p hp hle => ⟨fun b => b = g, fun b hb _ => ?_, ⟨rfl, rfl, rfl, ?_, fun b hb hne => heap_put w k ys os b hb hne⟩, fun p' hp' => ?_⟩
  · subst hb
    rcases hp.2 with ⟨hv, _⟩ | ⟨b, cap', cur, hv, hb, _⟩
    · cases hv
    · cases hv; rw [hb]; rfl
  · unfold grow putRow mapBlock Sort.ahead
    show w.heap.size ≤ ((w.heap.modify g _) ++ os).size
    simp
  · refine ⟨by simp [hn], Or.inr ?_⟩
    rcases hp.2 with ⟨hv, _⟩ | ⟨b, cap', cur, hv, hb, h1, h2, h3, h4⟩
    · cases hv
    · cases hv
      have hw : w.heap[g]? = some (.cells cur e (0, 0)) := hle _ _ hb
      have hlt : g < w.heap.size := (Array.getElem?_eq_some_iff.1 hw).1
      refine ⟨g, cap, putCells encZ 0 ys.toArray cur, rfl, ?_, h1, h2, by simp [putCells, h3], ?_⟩
      · rw [hp' g (Or.inl (by rw [hb]; rfl))]
        unfold grow putRow mapBlock Sort.ahead
        show ((w.heap.modify g _) ++ os)[g]? = _
        rw [Array.getElem?_append, if_pos (by simpa using hlt), Array.getElem?_modify, if_pos rfl, hw]
        rfl
      · rw [Nat.mul_one, ← hn]
        exact putCells_take ys cur (by rw [h3]; omega)
/-- the front of a row. -/
theorem Sat.rowCut {xs : List Value} (m : Nat) (hm : m ≤ n) (H : Sat w0 I (row e 1 (.slice (some ⟨g, 0, none⟩) n cap) n xs :: L) w) : Sat w0 I (row e 1 (.slice (some ⟨g, 0, none⟩) m cap) m (xs.take m) :: L) w := by
  refine H.weaken fun p hp => ?_
  obtain ⟨hl, hp⟩ := hp
  refine ⟨by rw [List.length_take, hl]; omega, Or.inr ?_⟩
  rcases hp with ⟨hv, _⟩ | ⟨b, cap', cur, hv, hb, h1, h2, h3, h4⟩
  · cases hv
  · cases hv
    refine ⟨g, cap, cur, rfl, hb, by omega, h2, h3, ?_⟩
    rw [← h4, List.take_take, Nat.mul_one, Nat.mul_one, Nat.min_eq_left hm]
end
/-- a command that may be said. -/
structure Cmd where
  kind : Nat
  client : Nat
  seq : Nat
  name : ByteArray
  blob : Nat
  size : Nat
  sum : Nat
  disks : List Nat
  pool : Nat
  vol : Nat
  at_ : Nat
structure Cmd.Ok (c : Cmd) : Prop where
  kind0 : 0 < c.kind
  kind : c.kind ≤ 14
  client : c.client ≤ 1073741824
  seq : c.seq ≤ 1073741824
  name : c.name.size ≤ 32
  blob : c.blob < 18446744073709551616
  size : c.size ≤ 4000
  sum : c.sum < 4294967296
  disk : ∀ i (h : i < c.disks.length), c.disks[i] ≤ 5
  rise : ∀ i (h : i + 1 < c.disks.length), c.disks[i] < c.disks[i + 1]
  pool : c.pool ≤ 1
  vol : c.vol ≤ 11
  at_ : c.at_ ≤ 1073741824
def Cmd.cells (c : Cmd) (dv : Value) : List Value := [.int .i64 (c.kind : Int), .int .i64 (c.client : Int), .int .i64 (c.seq : Int), .string c.name, .int .u64 (c.blob : Int), .int .i64 (c.size : Int), .int .u32 (c.sum : Int), dv, .int .i64 (c.pool : Int), .int .i64 (c.vol : Int), .int .i64 (c.at_ : Int)]
def Cmd.zs (c : Cmd) : List Int := c.disks.map fun n : Nat => (n : Int)
def cmdB (c : Cmd) : List UInt8 := encU c.kind ++ (encU c.client ++ (encU c.seq ++ (encS c.name ++ (encU c.blob ++ (encU c.size ++ (encU c.sum ++ (encU c.disks.length ++ (c.disks.flatMap encU ++ (encU c.pool ++ (encU c.vol ++ (encU c.at_ ++ [])))))))))))
theorem Cmd.Ok.ge {c : Cmd} (h : c.Ok) : ∀ i (hi : i < c.disks.length), i ≤ c.disks[i]
  | 0, _ => Nat.zero_le _
  | i + 1, hi => by
    have h1 := h.ge i (by omega)
    have h2 := h.rise i hi
    omega
theorem Cmd.Ok.len {c : Cmd} (h : c.Ok) : c.disks.length ≤ 6 := by
  by_cases h0 : c.disks.length = 0
  · omega
  · have h1 := h.ge (c.disks.length - 1) (by omega)
    have h2 := h.disk (c.disks.length - 1) (by omega)
    omega
theorem flatE_len : ∀ (l : List Nat), (∀ n ∈ l, n < 18446744073709551616) → (l.flatMap encU).length ≤ 10 * l.length
  | [], _ => Nat.le_refl _
  | n :: l, h => by
    have h1 := encU_len n (h n (by simp))
    have h2 := flatE_len l (fun m hm => h m (by simp [hm]))
    rw [List.flatMap_cons, List.length_append, List.length_cons]; omega
theorem Cmd.Ok.mem {c : Cmd} (h : c.Ok) : ∀ n ∈ c.disks, n ≤ 5 := fun n hn => by
  obtain ⟨i, hi, rfl⟩ := List.getElem_of_mem hn
  exact h.disk i hi
theorem cmdB_len {c : Cmd} (h : c.Ok) : (cmdB c).length ≤ 220 := by
  have := h.kind; have := h.client; have := h.seq; have hn := h.name; have := h.blob; have := h.size; have := h.sum; have := h.pool; have := h.vol; have := h.at_
  have hl := h.len
  have e1 := encU_len c.kind (by omega)
  have e2 := encU_len c.client (by omega)
  have e3 := encU_len c.seq (by omega)
  have e4 := encU_len c.name.size (by omega)
  have e5 := encU_len c.blob (by omega)
  have e6 := encU_len c.size (by omega)
  have e7 := encU_len c.sum (by omega)
  have e8 := encU_len c.disks.length (by omega)
  have e9 := encU_len c.pool (by omega)
  have e10 := encU_len c.vol (by omega)
  have e11 := encU_len c.at_ (by omega)
  have e12 := flatE_len c.disks (fun n hn => by have := h.mem n hn; omega)
  have e13 : c.name.data.toList.length = c.name.size := Array.length_toList
  simp only [cmdB, encS, List.length_append, List.length_nil, e13]
  omega
end Go.Proofs.YtekioplbfoonkaaGreatDoor
namespace Go.Proofs.YtekioplbfoonkaaGreatDoor
open Go.RowKit
set_option linter.unusedVariables false
set_option maxRecDepth 100000
theorem takeLs_enc (each : Int) (R : List UInt8) : ∀ (l : List Nat), (∀ n ∈ l, n < 18446744073709551616 ∧ n ≤ (max each 0).toNat) → takeLs each l.length (l.flatMap encU ++ R) = (l.map fun n : Nat => (n : Int), R, 0)
  | [], _ => rfl
  | n :: l, h => by
    have h1 := takeI_enc each n (h n (by simp)).1 (l.flatMap encU ++ R) (h n (by simp)).2
    have h2 := takeLs_enc each R l (fun m hm => h m (by simp [hm]))
    rw [List.length_cons, List.flatMap_cons, List.append_assoc, takeLs, h1]
    simp only [ne_eq, not_true_eq_false, ↓reduceIte, h2, List.map_cons]
theorem takeL_enc (most each : Int) (R : List UInt8) (l : List Nat) (hl : l.length < 18446744073709551616) (hm : l.length ≤ (max most 0).toNat) (h : ∀ n ∈ l, n < 18446744073709551616 ∧ n ≤ (max each 0).toNat) : takeL most each (encU l.length ++ (l.flatMap encU ++ R)) = (l.map fun n : Nat => (n : Int), R, 0) := by
  have h1 := takeI_enc most l.length hl (l.flatMap encU ++ R) hm
  have h2 := takeLs_enc each R l h
  unfold takeL
  rw [h1]
  simp only [ne_eq, not_true_eq_false, ↓reduceIte, h2]
section
variable {w0 w : World} {I : Part} {L : List HP} {p d : Nat} {R : List UInt8}
theorem decLe_sat (most each : Int) (l : List Nat) (hl : l.length < 18446744073709551616) (hm : l.length ≤ (max most 0).toNat) (hz : ∀ n ∈ l, n < 18446744073709551616 ∧ n ≤ (max each 0).toNat) (h1 : most ≤ 1000000) (h2 : each ≤ 9223372036854775807) (h : Sat w0 I (decr d (encU l.length ++ (l.flatMap encU ++ R)) 0 :: L) w) :
    Calls Tryz.prog 69 #[.pointer (some ⟨d, 0, none⟩), .int .i64 most, .int .i64 each] w fun e w' => ∃ v, e = .returned v ∧ Sat w0 I (row 3 1 v l.length ((l.map fun n : Nat => (n : Int)).map (Value.int .i64)) :: decr d R 0 :: L) w' := by
  have := decList_sat most each h h1 h2
  rw [takeL_enc most each R l hl hm hz] at this
  simpa only [List.length_map] using this
end
end Go.Proofs.YtekioplbfoonkaaGreatDoor
