/- Contracts of package meter: Meter and Luck behind a pointer, Made, Pick. -/
import Derived.Test.YtekioplbfoonkaaGreatDoorMg1
namespace Go.Proofs.YtekioplbfoonkaaGreatDoor
open Go.RowKit
set_option linter.unusedVariables false
set_option maxRecDepth 100000
set_option maxHeartbeats 400000

def takeE (r u n : Int) : Int := if n < 0 then 1 else if n ≤ r - u then 0 else 7
def takeU (r u n : Int) : Int := if n < 0 then u else if n ≤ r - u then u + n else u
def giveE (u n : Int) : Int := if n < 0 ∨ u < n then 1 else 0
def giveU (u n : Int) : Int := if n < 0 ∨ u < n then u else u - n
def failA (n : Int) : Int := if n < 0 then 0 else min n 1073741824 + 1
def tryE (lost : Bool) (a : Int) : Int := if lost then 14 else if a = 1 then 8 else 0
def tryA (lost : Bool) (a : Int) : Int := if lost then a else if 0 < a then a - 1 else a

section
variable (w : World) (b o : Nat)
theorem free_any (r u : Int) (h0 : w.cell? ⟨b, o, none⟩ = some (.int .i64 r)) (h1 : w.cell? ⟨b, o+1, none⟩ = some (.int .i64 u))
   (hr0 : 0 ≤ u) (hr : u ≤ r) (hr2 : r ≤ 9223372036854775807) :
    Calls Tryz.prog 147 #[.pointer (some ⟨b, o, none⟩)] w (Ret (.int .i64 (r - u)) w) := by
  go_enter Tryz.func147, Tryz.ntmps147
  go_wp2
  go_quiet (fail)
  go_wp2
  go_ret
  exact ⟨rfl, _, rfl⟩

theorem fits_any (r u n : Int) (h0 : w.cell? ⟨b, o, none⟩ = some (.int .i64 r)) (h1 : w.cell? ⟨b, o+1, none⟩ = some (.int .i64 u))
   (hr0 : 0 ≤ u) (hr : u ≤ r) (hr2 : r ≤ 9223372036854775807) :
    Calls Tryz.prog 92 #[.pointer (some ⟨b, o, none⟩), .int .i64 n] w (Ret (.bool (decide (n ≤ r - u))) w) := by
  go_enter Tryz.func92, Tryz.ntmps92
  go_wp2_with (go_at_call 147; refine (free_any _ _ _ _ _ h0 h1 hr0 hr hr2).mono ?_; rintro e w' ⟨rfl, m, rfl⟩)
  go_ret
  exact ⟨rfl, _, rfl⟩

theorem used_any (u : Int) (h1 : w.cell? ⟨b, o+1, none⟩ = some (.int .i64 u)) :
    Calls Tryz.prog 140 #[.pointer (some ⟨b, o, none⟩)] w (Ret (.int .i64 u) w) := by
  go_enter Tryz.func140, Tryz.ntmps140
  go_wp2
  go_ret
  exact ⟨rfl, 0, rfl⟩


theorem take_any (r u n : Int) (h0 : w.cell? ⟨b, o, none⟩ = some (.int .i64 r)) (h1 : w.cell? ⟨b, o+1, none⟩ = some (.int .i64 u))
   (hf : w.frozen? ⟨b, o+1, none⟩ = false)
   (hr0 : 0 ≤ u) (hr : u ≤ r) (hr2 : r ≤ 9223372036854775807) :
    Calls Tryz.prog 101 #[.pointer (some ⟨b, o, none⟩), .int .i64 n] w (Ret (.int .i64 (takeE r u n)) (w.setCell ⟨b, o+1, none⟩ (.int .i64 (takeU r u n)))) := by
  unfold takeE takeU
  by_cases hn : n < 0
  · rw [if_pos hn, if_pos hn, setCell_self _ _ _ h1]
    go_enter Tryz.func101, Tryz.ntmps101
    go_wp2_with fail
    go_ret
    exact ⟨rfl, 0, rfl⟩
  · rw [if_neg hn, if_neg hn]
    by_cases hn2 : n ≤ r - u
    · rw [if_pos hn2, if_pos hn2]
      have hd : decide (n ≤ r - u) = true := by simpa using hn2
      go_enter Tryz.func101, Tryz.ntmps101
      go_wp2_with (go_at_call 92; refine (fits_any _ _ _ _ _ _ h0 h1 hr0 hr hr2).mono ?_; rintro e w' ⟨rfl, m, rfl⟩; rw [hd])
      go_ret
      exact ⟨rfl, _, rfl⟩
    · rw [if_neg hn2, if_neg hn2, setCell_self _ _ _ h1]
      have hd : decide (n ≤ r - u) = false := by simpa using hn2
      go_enter Tryz.func101, Tryz.ntmps101
      go_wp2_with (go_at_call 92; refine (fits_any _ _ _ _ _ _ h0 h1 hr0 hr hr2).mono ?_; rintro e w' ⟨rfl, m, rfl⟩; rw [hd])
      go_ret
      exact ⟨rfl, _, rfl⟩

theorem take_eq (r u n : Int) {E U : Int} (hE : takeE r u n = E) (hU : takeU r u n = U) (h0 : w.cell? ⟨b, o, none⟩ = some (.int .i64 r)) (h1 : w.cell? ⟨b, o+1, none⟩ = some (.int .i64 u))
   (hf : w.frozen? ⟨b, o+1, none⟩ = false) (hr0 : 0 ≤ u) (hr : u ≤ r) (hr2 : r ≤ 9223372036854775807) :
    Calls Tryz.prog 101 #[.pointer (some ⟨b, o, none⟩), .int .i64 n] w (Ret (.int .i64 E) (w.setCell ⟨b, o+1, none⟩ (.int .i64 U))) := by
  subst hE hU; exact take_any w b o r u n h0 h1 hf hr0 hr hr2
theorem give_any (u n : Int) (h1 : w.cell? ⟨b, o+1, none⟩ = some (.int .i64 u))
   (hf : w.frozen? ⟨b, o+1, none⟩ = false) (hr0 : 0 ≤ u) (hr2 : u ≤ 9223372036854775807) :
    Calls Tryz.prog 139 #[.pointer (some ⟨b, o, none⟩), .int .i64 n] w (Ret (.int .i64 (giveE u n)) (w.setCell ⟨b, o+1, none⟩ (.int .i64 (giveU u n)))) := by
  unfold giveE giveU
  by_cases hn : n < 0
  · rw [if_pos (Or.inl hn), if_pos (Or.inl hn), setCell_self _ _ _ h1]
    go_enter Tryz.func139, Tryz.ntmps139
    go_wp2
    go_ret
    exact ⟨rfl, 0, rfl⟩
  · by_cases hn2 : u < n
    · rw [if_pos (Or.inr hn2), if_pos (Or.inr hn2), setCell_self _ _ _ h1]
      go_enter Tryz.func139, Tryz.ntmps139
      go_wp2
      go_ret
      exact ⟨rfl, 0, rfl⟩
    · rw [if_neg (by omega), if_neg (by omega)]
      go_enter Tryz.func139, Tryz.ntmps139
      go_wp2
      go_ret
      exact ⟨rfl, 0, rfl⟩

theorem try_any (lost : Bool) (a : Int) (h0 : w.cell? ⟨b, o, none⟩ = some (.bool lost)) (h1 : w.cell? ⟨b, o+1, none⟩ = some (.int .i64 a))
   (hf : w.frozen? ⟨b, o+1, none⟩ = false) (ha : 0 ≤ a) (hb : a ≤ 9223372036854775807) :
    Calls Tryz.prog 103 #[.pointer (some ⟨b, o, none⟩)] w (Ret (.int .i64 (tryE lost a)) (w.setCell ⟨b, o+1, none⟩ (.int .i64 (tryA lost a)))) := by
  unfold tryE tryA
  cases lost
  · simp only [Bool.false_eq_true, if_false]
    by_cases h2 : a = 0
    · subst h2
      rw [if_neg (by omega), if_neg (by omega), setCell_self _ _ _ h1]
      go_enter Tryz.func103, Tryz.ntmps103
      go_wp2
      go_ret
      exact ⟨rfl, 0, rfl⟩
    · by_cases h3 : a = 1
      · subst h3
        rw [if_pos rfl, if_pos (by omega)]
        go_enter Tryz.func103, Tryz.ntmps103
        go_wp2
        go_ret
        exact ⟨rfl, 0, rfl⟩
      · rw [if_neg h3, if_pos (by omega)]
        have h4 : (a - 1 == 0) = false := by simp; omega
        have h5 : 0 < a := by omega
        go_enter Tryz.func103, Tryz.ntmps103
        go_wp2
        go_ret
        exact ⟨rfl, 0, rfl⟩
  · simp only [if_true]
    rw [setCell_self _ _ _ h1]
    go_enter Tryz.func103, Tryz.ntmps103
    go_wp2
    go_ret
    exact ⟨rfl, 0, rfl⟩

theorem give_eq (u n : Int) {E U : Int} (hE : giveE u n = E) (hU : giveU u n = U) (h1 : w.cell? ⟨b, o+1, none⟩ = some (.int .i64 u))
   (hf : w.frozen? ⟨b, o+1, none⟩ = false) (hr0 : 0 ≤ u) (hr2 : u ≤ 9223372036854775807) :
    Calls Tryz.prog 139 #[.pointer (some ⟨b, o, none⟩), .int .i64 n] w (Ret (.int .i64 E) (w.setCell ⟨b, o+1, none⟩ (.int .i64 U))) := by
  subst hE hU; exact give_any w b o u n h1 hf hr0 hr2
theorem try_eq (lost : Bool) (a : Int) {E A : Int} (hE : tryE lost a = E) (hA : tryA lost a = A) (h0 : w.cell? ⟨b, o, none⟩ = some (.bool lost)) (h1 : w.cell? ⟨b, o+1, none⟩ = some (.int .i64 a))
   (hf : w.frozen? ⟨b, o+1, none⟩ = false) (ha : 0 ≤ a) (hb : a ≤ 9223372036854775807) :
    Calls Tryz.prog 103 #[.pointer (some ⟨b, o, none⟩)] w (Ret (.int .i64 E) (w.setCell ⟨b, o+1, none⟩ (.int .i64 A))) := by
  subst hE hA; exact try_any w b o lost a h0 h1 hf ha hb

theorem lost_any (lost : Bool) (h0 : w.cell? ⟨b, o, none⟩ = some (.bool lost)) :
    Calls Tryz.prog 144 #[.pointer (some ⟨b, o, none⟩)] w (Ret (.bool lost) w) := by
  go_enter Tryz.func144, Tryz.ntmps144
  go_wp2
  go_ret
  exact ⟨rfl, 0, rfl⟩

theorem made_any (r : Int) :
    Calls Tryz.prog 72 #[.int .i64 r] w (Ret (.agg #[.int .i64 (max r 0), .int .i64 0]) (w.alloc (.cells #[.int .i64 (max r 0), .int .i64 0] 113))) := by
  by_cases hr : r < 0
  · rw [show max r 0 = 0 from by omega]
    go_enter Tryz.func72, Tryz.ntmps72
    go_wp2
    go_returns
    exact ⟨rfl, 0, rfl⟩
  · rw [show max r 0 = r from by omega]
    go_enter Tryz.func72, Tryz.ntmps72
    go_wp2
    go_returns
    exact ⟨rfl, 0, rfl⟩
theorem made_nn (r : Int) (hr : 0 ≤ r) :
    Calls Tryz.prog 72 #[.int .i64 r] w (Ret (.agg #[.int .i64 r, .int .i64 0]) (w.alloc (.cells #[.int .i64 r, .int .i64 0] 113))) := by
  have := made_any w r
  rw [show max r 0 = r from by omega] at this
  exact this
def pickM (zs : List Int) (at_ n : Int) : Int := if n < 1 ∨ at_ < 0 ∨ (zs.length : Int) ≤ at_ then 0 else let x := (zs[at_.toNat]?.getD 0).tmod n; if x < 0 then x + n else x
theorem pick_any (a : Option Addr) (cap : Nat) (zs : List Int) (at_ n : Int) (hz : IntsAt .i64 w a zs) (hlen : zs.length ≤ 9223372036854775807)
    (hb : ∀ z ∈ zs, -9223372036854775808 ≤ z ∧ z ≤ 9223372036854775807) (hn2 : n ≤ 9223372036854775807) :
    Calls Tryz.prog 99 #[.slice a zs.length cap, .int .i64 at_, .int .i64 n] w (Ret (.int .i64 (pickM zs at_ n)) w) := by
  have HP := hid (show pickM zs at_ n = _ from rfl)
  by_cases h1 : n < 1
  · have e : pickM zs at_ n = 0 := if_pos (Or.inl h1)
    rw [e]; clear HP e
    by_cases h2 : at_ < 0
    · go_enter Tryz.func99, Tryz.ntmps99
      go_wp2
      go_ret
      exact ⟨rfl, 0, rfl⟩
    · by_cases h3 : at_ < zs.length
      all_goals
        go_enter Tryz.func99, Tryz.ntmps99
        go_wp2
        go_ret
        exact ⟨rfl, 0, rfl⟩
  · by_cases h2 : at_ < 0
    · have e : pickM zs at_ n = 0 := if_pos (Or.inr (Or.inl h2))
      rw [e]; clear HP e
      go_enter Tryz.func99, Tryz.ntmps99
      go_wp2
      go_ret
      exact ⟨rfl, 0, rfl⟩
    · by_cases h3 : (zs.length : Int) ≤ at_
      · have e : pickM zs at_ n = 0 := if_pos (Or.inr (Or.inr h3))
        rw [e]; clear HP e
        go_enter Tryz.func99, Tryz.ntmps99
        go_wp2
        go_ret
        exact ⟨rfl, 0, rfl⟩
      · obtain ⟨k, rfl⟩ := Int.eq_ofNat_of_zero_le (by omega : 0 ≤ at_)
        have hk : k < zs.length := by omega
        have e : pickM zs k n = let x := zs[k].tmod n; if x < 0 then x + n else x := by
          rw [pickM, if_neg (by omega)]; simp [hk]
        rw [e]; clear HP e
        obtain ⟨b, off, rfl, hc⟩ := hz k hk
        have hbz := hb zs[k] (List.getElem_mem hk)
        clear hb hz
        generalize zs[k] = z at *
        have hlo : -n < z.tmod n := by
          have := Int.lt_tmod_of_pos z (by omega : 0 < n); omega
        have hhi : z.tmod n < n := Int.tmod_lt_of_pos z (by omega)
        have hne : (n == 0) = false := by simp; omega
        generalize hx : z.tmod n = x at *
        have HX := hid hx
        by_cases hneg : x < 0
        · simp only [hneg, if_true]
          go_enter Tryz.func99, Tryz.ntmps99
          go_wp2
          go_ret
          exact ⟨rfl, 0, rfl⟩
        · simp only [hneg, if_false]
          go_enter Tryz.func99, Tryz.ntmps99
          go_wp2
          go_ret
          exact ⟨rfl, 0, rfl⟩
end
end Go.Proofs.YtekioplbfoonkaaGreatDoor
