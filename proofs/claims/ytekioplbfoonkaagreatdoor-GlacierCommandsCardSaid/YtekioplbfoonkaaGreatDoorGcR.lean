/- GlacierCommands: the reach of the disks' list, out of what was read ahead of the call. -/
import Derived.Test.YtekioplbfoonkaaGreatDoorWGlacierCommands
import Derived.ChangeArms
import Derived.SizedLaws
namespace Go.Proofs.YtekioplbfoonkaaGreatDoor
open Go.RowKit
set_option linter.unusedVariables false
set_option maxRecDepth 100000
theorem bytesInt : Tryz.prog.bytesOf 3 = 8 := by kernel_rfl
theorem cellsInts : Tryz.prog.cellsOf 23 = 1 := by kernel_rfl
theorem take7 {α : Type} (l : List α) (x : α) (h : l[7]? = some x) : (l.drop 7).take 1 = [x] := by
  obtain ⟨hlt, rfl⟩ := List.getElem?_eq_some_iff.1 h
  rw [List.drop_eq_getElem_cons hlt]; rfl
theorem reach_disks {H : Type} {enc : TypeId × Value → H} {w : World} {base : Nat} {held : Bool} {v : Value} {d : DataW H} {ps : List MemPlace} (h : DataW.Trod enc Tryz.prog w base (fun _ => true) held 54 v d ps) (hs : ∀ n ∈ d.weights Tryz.prog 54, n ≤ reachBytes) :
    ∀ la len cap, v.cells.toList[7]? = some (.slice la len cap) → len * 8 ≤ 140737488351232 := by
  intro la len cap h7
  obtain ⟨fuel, h⟩ := h
  obtain ⟨xs, m, hf, hx, hlen, hxs, hfl⟩ := DataW.trod_struct Tryz.underlying54 h
  have hd : d = .agg (xs.map (·.1)) := congrArg Prod.fst hx
  have h1 := hfl 7 _ rfl
  have hsz : 7 < xs.length := by rw [hxs]; decide
  rw [List.getElem?_eq_getElem hsz] at h1
  have h2 : DataW.trod enc Tryz.prog w base (fun _ => true) held m 23 ((v.cells.toList.drop 7).take (Tryz.prog.cellsOf 23)) = some xs[7] := h1
  rw [cellsInts, take7 _ _ h7] at h2
  rcases DataW.trod_slice Tryz.underlying23 h2 with ⟨hc, _⟩ | ⟨a, len', cap', elems, rest, m', _, hc, hxe, _, _, _, hel, _⟩
  · simp only [List.cons.injEq, Value.slice.injEq, and_true] at hc
    omega
  · simp only [List.cons.injEq, Value.slice.injEq, and_true] at hc
    obtain ⟨_, rfl, _⟩ := hc
    have hw := hs ((elems.length + rest.length) * Tryz.prog.bytesOf 3) (by
      rw [hd]
      simp only [DataW.weights, Tryz.underlying54]
      refine DataW.weights_mem_each (j := 7) (t := 23) (d := .slice (elems.map (·.1)) (rest.map (·.1))) rfl ?_ _ ?_
      · rw [List.getElem?_map, List.getElem?_eq_getElem hsz, hxe]; rfl
      · simp [DataW.weights, Tryz.underlying23])
    rw [bytesInt] at hw
    have hr : reachBytes = 140737488351232 := rfl
    rw [hr] at hw
    omega
theorem glacierCommands_walk (cs0 cs1 : Array Value) (w : World) (hT : Rd (wpart w) (some ⟨0, 0, none⟩) tabV) (z0 : cs0.size = Tryz.prog.cellsOf 51) (w0 : OkT Tryz.prog w 6 51 cs0.toList) (z1 : cs1.size = Tryz.prog.cellsOf 54) (w1 : OkT Tryz.prog w 6 54 cs1.toList) (hre : ∀ la len cap, cs1.toList[7]? = some (.slice la len cap) → len * 8 ≤ 140737488351232) :
    Calls Tryz.prog 4 #[.agg cs0, .agg cs1] w (RetB (.bool true) w.heap.size w) := by
  obtain ⟨a, b, c, la0, len0, cap0, ts, e0, h1, h2, h3⟩ := okT_start w0
  obtain ⟨k, cl, sq, nm, bl, sz, sm, la, len, cap, po, vo, at_, zs, e1, h4, h5, h6, h7⟩ := okT_cmd w1
  have hr := hre la len cap (by rw [e1]; rfl)
  obtain ⟨l0⟩ := cs0
  obtain ⟨l1⟩ := cs1
  simp only at e0 e1
  subst e0 e1
  exact glacierCommands_walk0 a b c la0 len0 cap0 ts h2 h1 k cl sq nm bl sz sm la len cap po vo at_ zs h4 hr h6 h7 w hT h3 h5
end Go.Proofs.YtekioplbfoonkaaGreatDoor
