/- The checksum, bit by bit; that differences of up to four bytes in a row never vanish: plain laws. A string's bytes in a block of their own: '[]byte(s)', 'b[i] = c', 'string(b)'. A frame one byte of which is another is no frame: plain. Volumes: Spoil. Layer 7: a tape of which one byte is another. TapefmtSpoilt, walked. -/
import Derived.Test.YtcogjlfdhiomnaaDoorCrc
import Derived.Test.YtcogjlfdhiomnaaDoorSat
import Derived.Laws.IdiomStrings
import Derived.Lib.BufferRead
import Derived.Test.YtcogjlfdhiomnaaDoorSealA
import Derived.Test.YtcogjlfdhiomnaaDoorReelF
import Derived.Deep.CutBlock
import Derived.Deep.DeepCutAuto
import Derived.Test.YtcogjlfdhiomnaaDoorTpC
namespace Go.Proofs.YtcogjlfdhiomnaaDoor
set_option linter.unusedVariables false
set_option maxRecDepth 100000
def pol (b : Nat) : Nat := if b = 1 then 3988292384 else 0
def stp (r : Nat) : Nat := (r / 2) ^^^ pol (r % 2)
theorem xor_div16 (a b : Nat) : (a ^^^ b) / 16 = a / 16 ^^^ b / 16 := by
  have := Nat.shiftRight_xor_distrib (i := 4) (a := a) (b := b)
  simpa [Nat.shiftRight_eq_div_pow] using this
theorem xor_div2 (a b : Nat) : (a ^^^ b) / 2 = a / 2 ^^^ b / 2 := by
  have := Nat.shiftRight_xor_distrib (i := 1) (a := a) (b := b)
  simpa [Nat.shiftRight_eq_div_pow] using this
theorem xor_mod16 (a b : Nat) : (a ^^^ b) % 16 = a % 16 ^^^ b % 16 := by
  have := Nat.xor_mod_two_pow (n := 4) (a := a) (b := b)
  simpa using this
theorem xor_mod2 (a b : Nat) : (a ^^^ b) % 2 = (a % 2 + b % 2) % 2 := by
  have h := Nat.xor_mod_two_pow (n := 1) (a := a) (b := b)
  rw [Nat.pow_one] at h
  rw [h]
  have ha := Nat.mod_two_eq_zero_or_one a
  have hb := Nat.mod_two_eq_zero_or_one b
  rcases ha with ha | ha <;> rcases hb with hb | hb <;> rw [ha, hb] <;> rfl
theorem pol_xor (a b : Nat) (ha : a < 2) (hb : b < 2) : pol ((a + b) % 2) = pol a ^^^ pol b := by
  have : ∀ x y : Fin 2, pol ((x.val + y.val) % 2) = pol x.val ^^^ pol y.val := by decide
  exact this ⟨a, ha⟩ ⟨b, hb⟩
theorem xor4 (a b c d : Nat) : (a ^^^ b) ^^^ (c ^^^ d) = (a ^^^ c) ^^^ (b ^^^ d) := by
  rw [Nat.xor_assoc, Nat.xor_assoc, ← Nat.xor_assoc b c d, Nat.xor_comm b c, Nat.xor_assoc c b d]
theorem stp_xor (a b : Nat) : stp (a ^^^ b) = stp a ^^^ stp b := by
  unfold stp
  rw [xor_div2, xor_mod2, pol_xor _ _ (Nat.mod_lt _ (by omega)) (Nat.mod_lt _ (by omega)), xor4]
theorem tab_xor (i j : Nat) (hi : i < 16) (hj : j < 16) : tabF (i ^^^ j) = tabF i ^^^ tabF j := by
  have : ∀ x y : Fin 16, tabF (x.val ^^^ y.val) = tabF x.val ^^^ tabF y.val := by decide +kernel
  exact this ⟨i, hi⟩ ⟨j, hj⟩
theorem nib_xor (a b : Nat) : nib (a ^^^ b) = nib a ^^^ nib b := by
  unfold nib
  rw [xor_div16, xor_mod16, tab_xor _ _ (Nat.mod_lt _ (by omega)) (Nat.mod_lt _ (by omega)), xor4]
theorem tab_bits (i : Nat) (hi : i < 16) : tabF i = pol (i / 8 % 2) ^^^ stp (pol (i / 4 % 2)) ^^^ stp (stp (pol (i / 2 % 2))) ^^^ stp (stp (stp (pol (i % 2)))) := by
  have : ∀ x : Fin 16, tabF x.val = pol (x.val / 8 % 2) ^^^ stp (pol (x.val / 4 % 2)) ^^^ stp (stp (pol (x.val / 2 % 2))) ^^^ stp (stp (stp (pol (x.val % 2)))) := by decide +kernel
  exact this ⟨i, hi⟩
/-- four steps of a bit each are one step by the table. -/
theorem stp4 (r : Nat) : stp (stp (stp (stp r))) = nib r := by
  have e1 : stp r = (r / 2) ^^^ pol (r % 2) := rfl
  have e2 : stp (r / 2) = (r / 4) ^^^ pol (r / 2 % 2) := by unfold stp; rw [Nat.div_div_eq_div_mul]
  have e3 : stp (r / 4) = (r / 8) ^^^ pol (r / 4 % 2) := by unfold stp; rw [Nat.div_div_eq_div_mul]
  have e4 : stp (r / 8) = (r / 16) ^^^ pol (r / 8 % 2) := by unfold stp; rw [Nat.div_div_eq_div_mul]
  simp only [e1, e2, e3, e4, stp_xor]
  unfold nib
  rw [tab_bits (r % 16) (Nat.mod_lt _ (by omega))]
  rw [show r % 16 / 8 % 2 = r / 8 % 2 by omega, show r % 16 / 4 % 2 = r / 4 % 2 by omega, show r % 16 / 2 % 2 = r / 2 % 2 by omega, show r % 16 % 2 = r % 2 by omega]
  simp only [Nat.xor_assoc]
def stps : Nat → Nat → Nat
  | 0, r => r
  | k + 1, r => stps k (stp r)
theorem stps8 (r : Nat) : stps 8 r = nib (nib r) := by
  show stp (stp (stp (stp (stp (stp (stp (stp r))))))) = _
  rw [stp4, stp4]
/-! ### Differences -/
theorem nib_zero {r : Nat} (hr : r < 4294967296) (h : nib r = 0) : r = 0 := by
  unfold nib at h
  have h1 : r / 16 = tabF (r % 16) := by
    have := congrArg (· ^^^ tabF (r % 16)) h
    simpa [Nat.xor_assoc] using this
  have h2 : ∀ x : Fin 16, x.val = 0 ∨ 268435456 ≤ tabF x.val := by decide
  rcases h2 ⟨r % 16, Nat.mod_lt _ (by omega)⟩ with h3 | h3
  · simp only at h3
    rw [h3] at h1
    have : tabF 0 = 0 := by decide
    omega
  · simp only at h3; omega
theorem xor_zero_eq {a b : Nat} (h : a ^^^ b = 0) : a = b := by
  have := congrArg (· ^^^ b) h
  simpa [Nat.xor_assoc] using this
theorem nib_inj {a b : Nat} (ha : a < 4294967296) (hb : b < 4294967296) (h : nib a = nib b) : a = b :=
  xor_zero_eq (nib_zero (xor_lt ha hb) (by rw [nib_xor, h, Nat.xor_self]))
def byt (r : Nat) : Nat := nib (nib r)
theorem byt_inj {a b : Nat} (ha : a < 4294967296) (hb : b < 4294967296) (h : byt a = byt b) : a = b :=
  nib_inj ha hb (nib_inj (nib_lt ha) (nib_lt hb) h)
theorem byt_xor (a b : Nat) : byt (a ^^^ b) = byt a ^^^ byt b := by unfold byt; rw [nib_xor, nib_xor]
theorem nib_shift (d : Nat) : nib (d * 16) = d := by
  unfold nib
  rw [show d * 16 / 16 = d by omega, show d * 16 % 16 = 0 by omega]
  have : tabF 0 = 0 := by decide
  rw [this, Nat.xor_zero]
theorem byt_shift (d : Nat) : byt (d * 256) = d := by
  unfold byt
  rw [show d * 256 = (d * 16) * 16 by omega, nib_shift, nib_shift]
theorem cstep_byt (r : Nat) (c : UInt8) : cstep r c = byt (r ^^^ c.toNat) := rfl
/-- equal bytes keep a difference. -/
theorem crcR_ne (l : List UInt8) : ∀ {a b : Nat}, a < 4294967296 → b < 4294967296 → crcR a l = crcR b l → a = b := by
  induction l with
  | nil => intro a b _ _ h; exact h
  | cons c l ih =>
    intro a b ha hb h
    have hc := u8_lt c
    have h1 := ih (cstep_lt c ha) (cstep_lt c hb) h
    rw [cstep_byt, cstep_byt] at h1
    have h2 := byt_inj (xor_lt ha (by omega)) (xor_lt hb (by omega)) h1
    have := congrArg (· ^^^ c.toNat) h2
    simpa [Nat.xor_assoc] using this
/-- up to four bytes as one number, the first lowest. -/
def le4 : List UInt8 → Nat
  | [] => 0
  | c :: l => c.toNat ^^^ le4 l * 256
def byts : Nat → Nat → Nat
  | 0, r => r
  | k + 1, r => byts k (byt r)
theorem byts_inj : ∀ (k : Nat) {a b : Nat}, a < 4294967296 → b < 4294967296 → byts k a = byts k b → a = b
  | 0, _, _, _, _, h => h
  | k + 1, a, b, ha, hb, h => byt_inj ha hb (byts_inj k (nib_lt (nib_lt ha)) (nib_lt (nib_lt hb)) h)
theorem crcR_le4 : ∀ (l : List UInt8) (r : Nat), crcR r l = byts l.length (r ^^^ le4 l)
  | [], r => by simp [crcR, byts, le4]
  | c :: l, r => by
    show crcR (cstep r c) l = byts l.length (byt (r ^^^ (c.toNat ^^^ le4 l * 256)))
    rw [crcR_le4 l (cstep r c), cstep_byt]
    congr 1
    rw [show r ^^^ (c.toNat ^^^ le4 l * 256) = (r ^^^ c.toNat) ^^^ le4 l * 256 from (Nat.xor_assoc ..).symm, byt_xor (r ^^^ c.toNat) (le4 l * 256), byt_shift]
theorem xor_shift_lt (x k : Nat) (c : Nat) (hc : c < 256) (hx : x < k) (hk : 0 < k) : c ^^^ x * 256 = x * 256 + c := by
  have h1 : (c ^^^ x * 256) % 256 = c := by
    have := Nat.xor_mod_two_pow (n := 8) (a := c) (b := x * 256)
    rw [show (2 : Nat) ^ 8 = 256 from rfl] at this
    rw [this, Nat.mod_eq_of_lt hc, Nat.mul_mod_left, Nat.xor_zero]
  have h2 : (c ^^^ x * 256) / 256 = x := by
    have := Nat.shiftRight_xor_distrib (i := 8) (a := c) (b := x * 256)
    simp only [Nat.shiftRight_eq_div_pow, show (2 : Nat) ^ 8 = 256 from rfl] at this
    rw [this, Nat.div_eq_of_lt hc, Nat.mul_div_cancel _ (by omega : 0 < 256), Nat.zero_xor]
  omega
theorem le4_eq (c : UInt8) (l : List UInt8) : le4 (c :: l) = le4 l * 256 + c.toNat :=
  xor_shift_lt (le4 l) (le4 l + 1) c.toNat (u8_lt c) (by omega) (by omega)
theorem le4_inj : ∀ (l m : List UInt8), l.length = m.length → le4 l = le4 m → l = m
  | [], [], _, _ => rfl
  | [], _ :: _, h, _ => by simp at h
  | _ :: _, [], h, _ => by simp at h
  | c :: l, d :: m, h, he => by
    rw [le4_eq, le4_eq] at he
    have hc := u8_lt c
    have hd := u8_lt d
    have h1 : c.toNat = d.toNat := by omega
    have h2 : le4 l = le4 m := by omega
    rw [le4_inj l m (by simpa using h) h2, UInt8.toNat.inj h1]
theorem le4_lt : ∀ (l : List UInt8), l.length ≤ 4 → le4 l < 4294967296
  | [], _ => by simp [le4]
  | [a], _ => by have := u8_lt a; rw [le4_eq]; simp [le4]; omega
  | [a, b], _ => by have := u8_lt a; have := u8_lt b; rw [le4_eq, le4_eq]; simp [le4]; omega
  | [a, b, c], _ => by have := u8_lt a; have := u8_lt b; have := u8_lt c; rw [le4_eq, le4_eq, le4_eq]; simp [le4]; omega
  | [a, b, c, d], _ => by have := u8_lt a; have := u8_lt b; have := u8_lt c; have := u8_lt d; rw [le4_eq, le4_eq, le4_eq, le4_eq]; simp [le4]; omega
  | _ :: _ :: _ :: _ :: _ :: _, h => by simp at h
/-- up to four bytes in a row that are others are told. -/
theorem crcR_bent (p l m t : List UInt8) (hl : l.length = m.length) (h4 : l.length ≤ 4) {r : Nat} (hr : r < 4294967296) (h : crcR r (p ++ (l ++ t)) = crcR r (p ++ (m ++ t))) : l = m := by
  rw [crcR_app, crcR_app, crcR_app, crcR_app] at h
  have hq : crcR r p < 4294967296 := crcR_lt p hr
  have h1 := crcR_ne t (crcR_lt l hq) (crcR_lt m hq) h
  rw [crcR_le4 l, crcR_le4 m, ← hl] at h1
  have h2 := byts_inj l.length (xor_lt hq (le4_lt l h4)) (xor_lt hq (le4_lt m (by omega))) h1
  have h3 : le4 l = le4 m := by
    have := congrArg (crcR r p ^^^ ·) h2
    simpa [← Nat.xor_assoc] using this
  exact le4_inj l m hl h3
theorem crc_bent (p l m t : List UInt8) (hl : l.length = m.length) (h4 : l.length ≤ 4) (h : crc (p ++ (l ++ t)) = crc (p ++ (m ++ t))) : l = m := by
  unfold crc at h
  have h1 := crcR_lt (p ++ (l ++ t)) (r := 4294967295) (by omega)
  have h2 := crcR_lt (p ++ (m ++ t)) (r := 4294967295) (by omega)
  exact crcR_bent p l m t hl h4 (r := 4294967295) (by omega) (by omega)
end Go.Proofs.YtcogjlfdhiomnaaDoor
namespace Go.Proofs.YtcogjlfdhiomnaaDoor
open Go.RowKit
set_option linter.unusedVariables false
set_option maxRecDepth 100000
/-- block g holds these bytes first; they may be written. -/
def bytesB (g : Nat) (l : List UInt8) : HP := fun h => ∃ (cur : Array Value) (lo : Nat), h g = some (.cells cur 5 (lo, lo + 1)) ∧ l.length ≤ lo ∧ l.length ≤ cur.size ∧ ∀ i (hi : i < l.length), cur[i]? = some (.int .u8 (l[i].toNat : Int))
section
variable {w0 w : World} {I : Part} {L : List HP} {g : Nat} {l : List UInt8}
theorem Sat.bytesNew (H : Sat w0 I L w) (s : ByteArray) (cap : Nat) (hg : g = w.heap.size) :
    Sat w0 I (bytesB g s.data.toList :: L) (w.drew.alloc (.cells (bytesRow s cap) 5 ((bytesRow s cap).size, (bytesRow s cap).size + 1))) := by
  subst hg
  refine (H.drew.allocO _).weaken fun h hh => ?_
  have hat : ∀ i (hi : i < s.data.toList.length), (bytesRow s cap)[i]? = some (.int .u8 (s.data.toList[i].toNat : Int)) := fun i hi => by
    have := bytesRow_at s cap i (by simpa using hi)
    simpa using this
  have hsz : s.data.toList.length ≤ (bytesRow s cap).size := by
    rcases Nat.eq_zero_or_pos s.data.toList.length with h0 | h0
    · omega
    · have h1 := hat (s.data.toList.length - 1) (by omega)
      have h2 := (Array.getElem?_eq_some_iff.1 h1).1
      omega
  exact ⟨_, _, hh, hsz, hsz, hat⟩
theorem Sat.bytesAt (H : Sat w0 I (bytesB g l :: L) w) : ∃ cur lo, w.heap[g]? = some (.cells cur 5 (lo, lo + 1)) ∧ l.length ≤ lo ∧ ∀ i (hi : i < l.length), cur[i]? = some (.int .u8 (l[i].toNat : Int)) := by
  obtain ⟨h, ⟨cur, lo, h1, h2, h3, h4⟩, hle, _⟩ := H.elim
  exact ⟨cur, lo, hle _ _ h1, h2, h4⟩
theorem Sat.bytesCell (H : Sat w0 I (bytesB g l :: L) w) (i : Nat) (hi : i < l.length) : w.cell? ⟨g, i, none⟩ = some (.int .u8 (l[i].toNat : Int)) := by
  obtain ⟨cur, lo, h1, h2, h3⟩ := H.bytesAt
  unfold World.cell?
  rw [show (⟨g, i, none⟩ : Addr).block = g from rfl, h1]
  exact h3 i hi
theorem Sat.bytesFree (H : Sat w0 I (bytesB g l :: L) w) (i : Nat) (hi : i < l.length) : w.frozen? ⟨g, i, none⟩ = false := by
  obtain ⟨cur, lo, h1, h2, h3⟩ := H.bytesAt
  unfold World.frozen?
  rw [show (⟨g, i, none⟩ : Addr).block = g from rfl, h1]
  simp; omega
theorem Sat.bytesSet (H : Sat w0 I (bytesB g l :: L) w) (i : Nat) (hi : i < l.length) (c : UInt8) : Sat w0 I (bytesB g (l.set i c) :: L) (w.setCell ⟨g, i, none⟩ (.int .u8 (c.toNat : Int))) := by
  refine H.change fun h hh hle => ⟨fun k => k = g, fun k hk _ => ?_, Mod.setCell (S := fun k => k = g) (p := ⟨g, i, none⟩) (Mod.refl _ _) (fun _ => rfl) _, fun h' hh' => ?_⟩
  · obtain ⟨cur, lo, h1, _⟩ := hh
    subst hk; rw [h1]; rfl
  · obtain ⟨cur, lo, h1, h2, h3, h4⟩ := hh
    have hw : w.heap[g]? = some (.cells cur 5 (lo, lo + 1)) := hle _ _ h1
    refine ⟨cur.set! i (.int .u8 (c.toNat : Int)), lo, ?_, by simpa using h2, by simpa using h3, fun j hj => ?_⟩
    · rw [hh' g (Or.inl (by rw [h1]; rfl))]
      unfold World.setCell
      simp only [Array.getElem?_modify]
      rw [if_pos trivial, hw]
      simp
    · have hj' : j < l.length := by simpa using hj
      by_cases he : i = j
      · subst he
        simp [show i < cur.size by omega]
      · rw [List.getElem_set_ne he]
        simp only [Array.set!_eq_setIfInBounds, Array.getElem?_setIfInBounds, if_neg he]
        exact h4 j hj'
theorem Sat.bytesStr (H : Sat w0 I (bytesB g l :: L) w) (cap n : Nat) (hn : l.length = n) : (convert 73 9 (.slice (some ⟨g, 0, none⟩) n cap)).run Tryd.prog w = .ok (.string ⟨l.toArray⟩) w := by
  subst hn
  refine run_convert_bytes_back w _ _ 5 _ cap l Tryd.underlying73 Tryd.underlying5 Tryd.underlying9 fun j hj => ?_
  have e1 : (⟨g, 0, none⟩ : Addr).add j = ⟨g, j, none⟩ := by unfold Addr.add; split <;> simp_all
  rw [e1]; exact H.bytesCell j hj
end
end Go.Proofs.YtcogjlfdhiomnaaDoor
namespace Go.Proofs.YtcogjlfdhiomnaaDoor
open Go.RowKit
set_option linter.unusedVariables false
set_option maxRecDepth 100000
theorem list4b (q : List UInt8) (h : q.length = 4) : ∃ a b c d, q = [a, b, c, d] := by
  match q, h with
  | [a, b, c, d], _ => exact ⟨a, b, c, d, rfl⟩
theorem valS_injb (p q : List UInt8) (hp : p.length = 4) (hq : q.length = 4) (h : valS p = valS q) : p = q := by
  obtain ⟨a, b, c, d, rfl⟩ := list4b p hp
  obtain ⟨a', b', c', d', rfl⟩ := list4b q hq
  have h1 : val4 a b c d = val4 a' b' c' d' := h
  unfold val4 at h1
  have := u8_lt a; have := u8_lt b; have := u8_lt c; have := u8_lt d
  have := u8_lt a'; have := u8_lt b'; have := u8_lt c'; have := u8_lt d'
  rw [UInt8.toNat.inj (show a.toNat = a'.toNat by omega), UInt8.toNat.inj (show b.toNat = b'.toNat by omega), UInt8.toNat.inj (show c.toNat = c'.toNat by omega), UInt8.toNat.inj (show d.toNat = d'.toNat by omega)]
theorem onlyR_parts (h q d : List UInt8) (hh : h.length = 4) (hq : q.length = 4) (hz : (onlyR (h ++ (q ++ d))).2 = 0) : valS h = d.length ∧ crc (h ++ d) = valS q := by
  have e4 : (h ++ (q ++ d)).take 4 = h := by rw [← hh]; simp
  have d4 : (h ++ (q ++ d)).drop 4 = q ++ d := by rw [← hh]; simp
  have d8 : (h ++ (q ++ d)).drop 8 = d := by
    have : (h ++ (q ++ d)).drop 8 = ((h ++ (q ++ d)).drop 4).drop 4 := by rw [List.drop_drop]
    rw [this, d4, ← hq]; simp
  have q4 : (q ++ d).take 4 = q := by rw [← hq]; simp
  have el : (h ++ (q ++ d)).length = 8 + d.length := by simp [hh, hq]; omega
  unfold onlyR openR at hz
  rw [e4, d4, d8, q4, el] at hz
  rw [if_neg (show ¬ 8 + d.length < 8 by omega)] at hz
  by_cases c1 : 1048576 < valS h
  · rw [if_pos c1] at hz; simp at hz
  rw [if_neg c1] at hz
  by_cases c2 : 8 + d.length < 8 + valS h
  · rw [if_pos c2] at hz; simp at hz
  rw [if_neg c2] at hz
  by_cases c3 : crc (h ++ d.take (valS h)) = valS q
  · rw [if_pos c3] at hz
    simp only [if_true] at hz
    by_cases c4 : 8 + valS h < 8 + d.length
    · rw [if_pos c4] at hz; simp at hz
    · have e : valS h = d.length := by omega
      rw [e, List.take_length] at c3
      exact ⟨e, c3⟩
  · rw [if_neg c3] at hz; simp at hz
theorem onlyR_nil (s : List UInt8) (h : (onlyR s).2 ≠ 0) : (onlyR s).1 = [] := by
  unfold onlyR at h ⊢
  by_cases c1 : (openR s).2.2 = 0
  · rw [if_pos c1] at h ⊢
    by_cases c2 : (openR s).2.1 < s.length
    · rw [if_pos c2]
    · rw [if_neg c2] at h; exact absurd rfl h
  · rw [if_neg c1]
theorem set_ne {l : List UInt8} {i : Nat} {y : UInt8} (hi : i < l.length) (hy : y ≠ l[i]) : l.set i y ≠ l := by
  intro e
  have : (l.set i y)[i]'(by simpa using hi) = l[i] := by simp only [e]
  simp at this
  exact hy this
theorem set_split {l : List UInt8} {i : Nat} {y : UInt8} (hi : i < l.length) : l.set i y = l.take i ++ ([y] ++ l.drop (i + 1)) ∧ l = l.take i ++ ([l[i]] ++ l.drop (i + 1)) := by
  refine ⟨?_, ?_⟩
  · rw [List.set_eq_take_append_cons_drop, if_pos hi]; rfl
  · have := List.take_append_drop i l
    rw [List.drop_eq_getElem_cons hi] at this
    exact this.symm
theorem frame_bent (c : List UInt8) (hc : c.length ≤ 1048576) (i : Nat) (hi : i < (frameL c).length) (y : UInt8) (hy : y ≠ (frameL c)[i]) : ∃ E, onlyR ((frameL c).set i y) = ([], E) ∧ E ≠ 0 := by
  have hn : (onlyR ((frameL c).set i y)).2 ≠ 0 := by
    intro hz
    obtain ⟨S, hS⟩ : ∃ S, be4 (crc (be4 c.length ++ c)) = S := ⟨_, rfl⟩
    have hS4 : S.length = 4 := by rw [← hS]; rfl
    have hv : valS S = crc (be4 c.length ++ c) := by rw [← hS]; exact valS_be4 _ (crc_lt _)
    have hb4 : (be4 c.length).length = 4 := rfl
    have hvl : valS (be4 c.length) = c.length := valS_be4 _ (by omega)
    have hf : frameL c = be4 c.length ++ (S ++ c) := by rw [← hS]; unfold frameL; rw [List.append_assoc]
    have hlen : (frameL c).length = c.length + 8 := frameL_len c
    rw [hlen] at hi
    by_cases h1 : i < 4
    · have e : (frameL c).set i y = (be4 c.length).set i y ++ (S ++ c) := by rw [hf, List.set_append_left _ _ (by omega)]
      rw [e] at hz
      obtain ⟨k1, k2⟩ := onlyR_parts _ S c (by rw [List.length_set]; rfl) hS4 hz
      have h2 := valS_injb _ _ (by rw [List.length_set]; rfl) hb4 (k1.trans hvl.symm)
      refine set_ne (l := be4 c.length) (i := i) (y := y) (by omega) (fun e3 => hy ?_) h2
      rw [e3]
      simp only [hf]
      rw [List.getElem_append_left (by omega)]
    · by_cases h2 : i < 8
      · have e : (frameL c).set i y = be4 c.length ++ (S.set (i - 4) y ++ c) := by
          rw [hf, List.set_append_right _ _ (by omega), hb4, List.set_append_left _ _ (by omega)]
        rw [e] at hz
        obtain ⟨k1, k2⟩ := onlyR_parts _ _ c hb4 (by rw [List.length_set]; exact hS4) hz
        have h3 := valS_injb _ _ (by rw [List.length_set]; exact hS4) hS4 (k2.symm.trans hv.symm)
        refine set_ne (l := S) (i := i - 4) (y := y) (by omega) (fun e3 => hy ?_) h3
        rw [e3]
        simp only [hf]
        rw [List.getElem_append_right (by omega)]
        simp only [hb4]
        rw [List.getElem_append_left (by omega)]
      · have e : (frameL c).set i y = be4 c.length ++ (S ++ c.set (i - 8) y) := by
          rw [hf, List.set_append_right _ _ (by omega), hb4, List.set_append_right _ _ (by omega), hS4]
          rw [show i - 4 - 4 = i - 8 by omega]
        rw [e] at hz
        obtain ⟨k1, k2⟩ := onlyR_parts _ S _ hb4 hS4 hz
        obtain ⟨s1, s2⟩ := set_split (l := c) (i := i - 8) (y := y) (by omega)
        have h3 : crc (be4 c.length ++ c.set (i - 8) y) = crc (be4 c.length ++ c) := by rw [k2, hv]
        rw [s1] at h3
        have h4 : crc ((be4 c.length ++ c.take (i - 8)) ++ ([y] ++ c.drop (i - 8 + 1))) = crc ((be4 c.length ++ c.take (i - 8)) ++ ([c[i - 8]'(by omega)] ++ c.drop (i - 8 + 1))) := by
          rw [List.append_assoc, List.append_assoc, h3, ← s2]
        have h5 := crc_bent (be4 c.length ++ c.take (i - 8)) [y] [c[i - 8]'(by omega)] (c.drop (i - 8 + 1)) rfl (by show 1 ≤ 4; omega) h4
        have h6 : y = c[i - 8]'(by omega) := by simpa using h5
        refine hy ?_
        rw [h6]
        simp only [hf]
        rw [List.getElem_append_right (by omega)]
        simp only [hb4]
        rw [List.getElem_append_right (by omega)]
        simp only [hS4]
        congr 1
  exact ⟨(onlyR ((frameL c).set i y)).2, Prod.ext (onlyR_nil _ hn) rfl, hn⟩
end Go.Proofs.YtcogjlfdhiomnaaDoor
namespace Go.Proofs.YtcogjlfdhiomnaaDoor
open Go.RowKit
set_option linter.unusedVariables false
set_option maxRecDepth 100000
set_option maxHeartbeats 4000000
/-- a block one byte of which is another. -/
def spoilB (b : Bk) (i : Nat) (c : UInt8) : Bk := ⟨⟨(b.s.data.toList.set i (b.s.data.toList.getD i 0 ^^^ c)).toArray⟩, b.mark, b.torn⟩
theorem spoilB_wt (b : Bk) (i : Nat) (c : UInt8) : bwt (spoilB b i c) = bwt b := by
  unfold bwt spoilB
  show (List.set _ _ _).toArray.size + 4 = _
  rw [List.size_toArray, List.length_set]
  simp
theorem wsum_set : ∀ (l : List Bk) (k : Nat) (b : Bk) (hk : k < l.length), bwt b = bwt l[k] → wsum (l.set k b) = wsum l
  | [], k, b, hk, _ => absurd hk (Nat.not_lt_zero _)
  | a :: l, 0, b, hk, h => by show bwt b + wsum l = bwt a + wsum l; rw [h]; rfl
  | a :: l, k + 1, b, hk, h => by
    show bwt a + wsum (l.set k b) = bwt a + wsum l
    rw [wsum_set l k b (by simpa using hk) (by simpa using h)]
section
variable {w0 w : World} {I : Part} {L : List HP} {p : Nat} {v : Vst}
theorem vspoil_no (n at_ y : Int) (hno : n < 0 ∨ (0 ≤ n ∧ (v.bl.length : Int) ≤ n) ∨ (0 ≤ n ∧ n < v.bl.length ∧ at_ < 0) ∨ (∃ k : Nat, ∃ hk : k < v.bl.length, n = (k : Int) ∧ 0 ≤ at_ ∧ (v.bl[k].s.size : Int) ≤ at_)) (H : Sat w0 I (volp p v :: L) w) :
    Calls Tryd.prog 19 #[.pointer (some ⟨p, 0, none⟩), .int .i64 n, .int .i64 at_, .int .u8 y] w fun e w' => e = .returned (.bool false) ∧ Sat w0 I (volp p v :: L) w' := by
  have HS0 := hid H
  obtain ⟨ad, cap, k1, k2, H1⟩ := H.volOpen
  have c5 : w.cell? ⟨p, 5, none⟩ = some (.slice ad v.bl.length cap) := H1.isBlk.cell 5 rfl
  have HR := hid H1.swap
  clear H H1
  rcases hno with h1 | ⟨h1, h2⟩ | ⟨h1, h2, h3⟩ | ⟨k, hk, rfl, h3, h4⟩
  · go_enter Tryd.func19, Tryd.ntmps19
    go_wp2_with fail
    go_ret
    exact ⟨rfl, HS0.out⟩
  · have h1' : ¬ n < 0 := by omega
    have h2' : (v.bl.length : Int) ≤ n := h2
    go_enter Tryd.func19, Tryd.ntmps19
    go_wp2_with fail
    go_ret
    exact ⟨rfl, HS0.out⟩
  · have h1' : ¬ n < 0 := by omega
    have h2' : ¬ (v.bl.length : Int) ≤ n := by omega
    go_enter Tryd.func19, Tryd.ntmps19
    go_wp2_with fail
    go_ret
    exact ⟨rfl, HS0.out⟩
  · have h1' : ¬ (k : Int) < 0 := by omega
    have h2' : ¬ (v.bl.length : Int) ≤ (k : Int) := by omega
    have h3' : ¬ at_ < 0 := by omega
    have hk0 : (0 : Int) ≤ (k : Int) := by omega
    have hk1 : (k : Int) < (v.bl.length : Int) := by omega
    have hkd : decide (v.bl.length ≤ k) = false := by simp; omega
    obtain ⟨g, rfl, e1, e2, e3⟩ := row_elem (i := k) (b := default) (l := v.bl) HR.out hk
    go_enter Tryd.func19, Tryd.ntmps19
    go_wp2_with fail
    go_ret
    exact ⟨rfl, HS0.out⟩
theorem vspoil_yes (k i : Nat) (y : UInt8) (hk : k < v.bl.length) (hi : i < v.bl[k].s.size) (hs : v.bl[k].s.size ≤ 1000000) (H : Sat w0 I (volp p v :: L) w) :
    Calls Tryd.prog 19 #[.pointer (some ⟨p, 0, none⟩), .int .i64 (k : Int), .int .i64 (i : Int), .int .u8 (y.toNat : Int)] w fun e w' => e = .returned (.bool true) ∧ Sat w0 I (volp p {v with bl := v.bl.set k (spoilB v.bl[k] i y)} :: L) w' := by
  obtain ⟨ad, cap, k1, k2, H1⟩ := H.volOpen
  have c5 : w.cell? ⟨p, 5, none⟩ = some (.slice ad v.bl.length cap) := H1.isBlk.cell 5 rfl
  have HR := hid H1
  clear H H1
  obtain ⟨g, rfl, e1, e2, e3⟩ := row_elem (i := k) (b := default) (l := v.bl) HR.out.swap hk
  obtain ⟨b, hb⟩ : ∃ b, v.bl[k] = b := ⟨_, rfl⟩
  rw [hb] at e1 hi hs
  have HB := hid hb
  have h1' : ¬ (k : Int) < 0 := by omega
  have h2' : ¬ (v.bl.length : Int) ≤ (k : Int) := by omega
  have h3' : ¬ (i : Int) < 0 := by omega
  have h4' : ¬ (b.s.size : Int) ≤ (i : Int) := by omega
  have hk0 : (0 : Int) ≤ (k : Int) := by omega
  have hk1 : (k : Int) < (v.bl.length : Int) := by omega
  have hi0 : (0 : Int) ≤ (i : Int) := by omega
  have hi1 : (i : Int) < (b.s.size : Int) := by omega
  have hkd : decide (v.bl.length ≤ k) = false := by simp; omega
  have hid1 : decide (b.s.size ≤ i) = false := by simp; omega
  clear hb e2 e3
  have kc := fun (w : World) => run_bytes_of_string (P := Tryd.prog) w 9 73 5 b.s Tryd.underlying9 Tryd.underlying73 Tryd.underlying5
  go_enter Tryd.func19, Tryd.ntmps19
  go_upto_region 4 with fail
  clear kc
  have H6 := HR.out.bytesNew b.s (grownCap w b.s.size 0 5) rfl
  generalize grownCap w b.s.size 0 5 = C at *
  generalize w.heap.size = q at *
  refine wp_gen (fun w1 => Sat w0 I (bytesB q b.s.data.toList :: blk p 40 (v.cells (.slice (some ⟨g, 0, none⟩) v.bl.length cap)) :: row 84 3 (.slice (some ⟨g, 0, none⟩) v.bl.length cap) v.bl.length (v.bl.flatMap bc) :: L) w1) H6 ?_
  clear H6 HR c5 e1
  intro w1 S1
  have hbl : i < b.s.data.toList.length := by rw [show b.s.data.toList.length = b.s.size by simp]; exact hi
  have c0 := S1.bytesCell i hbl
  have f0 := S1.bytesFree i hbl
  obtain ⟨a, ha⟩ : ∃ a, b.s.data.toList[i] = a := ⟨_, rfl⟩
  rw [ha] at c0
  have x1 : bits .xor .u8 (a.toNat : Int) (y.toNat : Int) = ((a ^^^ y).toNat : Int) := by rw [u8_xor_nat _ _ (UInt8.toNat_lt a) (UInt8.toNat_lt y), UInt8.toNat_xor]
  have H1 := hid (S1.bytesSet i hbl (a ^^^ y))
  clear S1
  go_upto_region 5 with fail
  obtain ⟨l2, hl2⟩ : ∃ l, b.s.data.toList.set i (a ^^^ y) = l := ⟨_, rfl⟩
  rw [hl2] at H1
  have hll : l2.length = b.s.size := by rw [← hl2, List.length_set]; simp
  refine wp_gen (fun w2 => Sat w0 I (bytesB q l2 :: blk p 40 (v.cells (.slice (some ⟨g, 0, none⟩) v.bl.length cap)) :: row 84 3 (.slice (some ⟨g, 0, none⟩) v.bl.length cap) v.bl.length (v.bl.flatMap bc) :: L) w2) H1.out ?_
  clear H1 c0 f0 x1
  intro w2 S2
  have kb := S2.drew.bytesStr C b.s.size hll
  have kb2 := S2.bytesStr C b.s.size hll
  have c5 : w2.cell? ⟨p, 5, none⟩ = some (.slice (some ⟨g, 0, none⟩) v.bl.length cap) := (S2.pick 1).isBlk.cell 5 rfl
  have fz := own_frozen (S2.pick 2).isRow (k * 3)
  obtain ⟨g2, hg2, e1, e2, e3⟩ := row_elem (i := k) (b := default) (l := v.bl) (S2.pick 2) hk
  cases hg2
  have H2 := hid (S2.pick 2)
  have HA := hid ha
  have HL2 := hid hl2
  clear S2 e2 e3 hl2 ha
  obtain ⟨t2, ht2⟩ : ∃ t : ByteArray, (⟨l2.toArray⟩ : ByteArray) = t := ⟨_, rfl⟩
  rw [ht2] at kb kb2
  have HT2 := hid ht2
  clear ht2
  go_region
  all_goals
    go_wp2_with fail
    go_ret
    refine ⟨rfl, ?_⟩
    have h := (H2.out.drew.rowSet (k * 3) (.string t2)).swap.drop.swap
    have hsp : spoilB v.bl[k] i y = ⟨t2, v.bl[k].mark, v.bl[k].torn⟩ := by
      unfold spoilB
      rw [HB.out]
      have e : b.s.data.toList.getD i 0 = a := by rw [List.getD_eq_getElem?_getD, List.getElem?_eq_getElem hbl, HA.out]; rfl
      rw [e, HL2.out, HT2.out]
    have e4 := flat_set bc bc_len v.bl k 0 hk (.string t2) (spoilB v.bl[k] i y) (by omega) (by rw [hsp]; rfl)
    rw [Nat.add_zero] at e4
    rw [e4] at h
    have e5 : (v.bl.set k (spoilB v.bl[k] i y)).length = v.bl.length := List.length_set
    have e6 : wsum (v.bl.set k (spoilB v.bl[k] i y)) = wsum v.bl := wsum_set v.bl k _ hk (spoilB_wt _ _ _)
    refine Sat.volClose (v := {v with bl := v.bl.set k (spoilB v.bl[k] i y)}) (ad := some ⟨g, 0, none⟩) (cap := cap) ?_
    simp only [Vst.cells, e5, e6]
    exact h
end
end Go.Proofs.YtcogjlfdhiomnaaDoor
namespace Go.Proofs.YtcogjlfdhiomnaaDoor
open Go.RowKit
set_option linter.unusedVariables false
set_option maxRecDepth 100000
theorem spoilB_zero (b : Bk) (i : Nat) (hi : i < b.s.size) : spoilB b i 0 = b := by
  have hl : i < b.s.data.toList.length := by simpa using hi
  have e : b.s.data.toList.getD i 0 ^^^ 0 = b.s.data.toList[i] := by
    rw [List.getD_eq_getElem?_getD, List.getElem?_eq_getElem hl]
    simp
  unfold spoilB
  rw [e, List.set_getElem_self]
theorem spoilt_bad {P : Pc} (hok : P.ok) (i : Nat) (hi : i < (spellB P).size) (y : UInt8) (hy : y ≠ 0) : ∃ E, onlyR (spoilB ⟨spellB P, false, false⟩ i y).s.data.toList = ([], E) ∧ E ≠ 0 := by
  have hlen := pbytes_len hok
  have e1 : (spellB P).data.toList = frameL (pbytes P) := rfl
  have hi2 : i < (frameL (pbytes P)).length := by
    have : (spellB P).size = (frameL (pbytes P)).length := by show (frameL (pbytes P)).toArray.size = _; rw [List.size_toArray]
    omega
  have e2 : (spoilB ⟨spellB P, false, false⟩ i y).s.data.toList = (frameL (pbytes P)).set i ((frameL (pbytes P))[i] ^^^ y) := by
    show ((frameL (pbytes P)).set i ((frameL (pbytes P)).getD i 0 ^^^ y)) = _
    rw [List.getD_eq_getElem?_getD, List.getElem?_eq_getElem hi2]
    rfl
  rw [e2]
  refine frame_bent (pbytes P) (by omega) i hi2 _ (fun h => hy ?_)
  have := congrArg ((frameL (pbytes P))[i] ^^^ ·) h
  simpa [← UInt8.xor_assoc] using this
section
variable {lab : ByteArray} {frm blob : Nat} {data : ByteArray} {er room : Int} {bl : List Bk} {sure : Nat}
theorem rdR_spoilt (hl : lab.size ≤ 32) (hf : frm ≤ 1048576) (hb : blob < 18446744073709551616) (hd : data.size ≤ 4000) {j : Nat} (hj : j < nparts data.size) (hbl : ∀ i, i < j → bl[frm + i]? = some (tpBlock lab frm blob data i)) {b : Bk} (hbj : bl[frm + j]? = some b) (hm : b.mark = false) (ht : b.torn = false) {E : Int} (hO : onlyR b.s.data.toList = ([], E)) (hE : E ≠ 0) :
    ∀ n k acc, k + n = j → RdR lab (frm : Int) blob n (lv lab er room bl sure (frm + k)) k acc ([], E, lv lab er room bl sure (frm + j + 1)) := by
  intro n
  induction n with
  | zero =>
    intro k acc hk
    obtain rfl : k = j := by omega
    have hr := lv_read (lab := lab) (er := er) (room := room) (sure := sure) hbj ht
    rw [hm] at hr
    exact RdR.bad hr hO hE
  | succ n ih =>
    intro k acc hk
    have hr : readS (lv lab er room bl sure (frm + k)) = ((spellB (tpPiece lab frm blob data k), false, 0), lv lab er room bl sure (frm + k + 1)) := lv_read (hbl k (by omega)) rfl
    exact RdR.more hr (tpPiece_ok hl hf hb hd (by omega)) ⟨rfl, by show ((frm + k : Nat) : Int) = _; omega, rfl, rfl, rfl⟩ (by show k + 1 < nparts data.size; omega) (ih (k + 1) _ (by omega))
variable {w0 w : World} {I : Part} {L : List HP} {p at_ : Nat}
theorem tread_lv (hT : Rd I (some ⟨0, 0, none⟩) tabV) (hv : (lv lab er room bl sure at_).fit) (hl : lab.size ≤ 32) (hb : blob < 18446744073709551616) (hd : data.size ≤ 600) (hf : frm ≤ 1000) (hbl : ∀ i, i < nparts data.size → bl[frm + i]? = some (tpBlock lab frm blob data i)) (H : Sat w0 I (volp p (lv lab er room bl sure at_) :: L) w) :
    Calls Tryd.prog 20 #[.pointer (some ⟨p, 0, none⟩), .int .i64 (frm : Int), .int .u64 (blob : Int)] w fun e w' => e = .returned (.tuple #[.string data, .int .i64 0]) ∧ frm + nparts data.size ≤ bl.length ∧ Sat w0 I (volp p (lv lab er room bl sure (frm + nparts data.size)) :: L) w' := by
  have hnp : 1 ≤ nparts data.size ∧ nparts data.size ≤ 3 := by unfold nparts; omega
  have hlast := (List.getElem?_eq_some_iff.1 (hbl (nparts data.size - 1) (by omega))).1
  have hs : seekS (lv lab er room bl sure at_) (frm : Int) = (0, lv lab er room bl sure frm) := lv_seek frm (by omega)
  have hr := rdR_back (lab := lab) (frm := frm) (blob := blob) (data := data) (er := er) (room := room) (bl := bl) (sure := sure) hl (by omega) hb (by omega) hbl (nparts data.size - 1) 0 (by omega)
  rw [Nat.zero_mul, List.take_zero, Nat.add_zero] at hr
  refine (tread_sat hT hv (lab := lab) rfl (frm : Int) (by omega) blob hs (N := nparts data.size - 1) (by omega) (R := (data.data.toList, 0, lv lab er room bl sure (frm + nparts data.size))) (fun _ => hr) (fun e => absurd rfl e) H).mono ?_
  rintro e w' ⟨rfl, S⟩
  exact ⟨rfl, by omega, S⟩
theorem tread_bad (hT : Rd I (some ⟨0, 0, none⟩) tabV) (hv : (lv lab er room bl sure at_).fit) (hl : lab.size ≤ 32) (hb : blob < 18446744073709551616) (hd : data.size ≤ 600) (hf : frm ≤ 1000) {j : Nat} (hj : j < nparts data.size) (hbl : ∀ i, i < j → bl[frm + i]? = some (tpBlock lab frm blob data i)) {b : Bk} (hbj : bl[frm + j]? = some b) (hm : b.mark = false) (ht : b.torn = false) {E : Int} (hO : onlyR b.s.data.toList = ([], E)) (hE : E ≠ 0) (H : Sat w0 I (volp p (lv lab er room bl sure at_) :: L) w) :
    Calls Tryd.prog 20 #[.pointer (some ⟨p, 0, none⟩), .int .i64 (frm : Int), .int .u64 (blob : Int)] w fun e w' => e = .returned (.tuple #[.string ⟨#[]⟩, .int .i64 E]) ∧ frm + j + 1 ≤ bl.length ∧ Sat w0 I (volp p (lv lab er room bl sure (frm + j + 1)) :: L) w' := by
  have hnp : 1 ≤ nparts data.size ∧ nparts data.size ≤ 3 := by unfold nparts; omega
  have hlast := (List.getElem?_eq_some_iff.1 hbj).1
  have hs : seekS (lv lab er room bl sure at_) (frm : Int) = (0, lv lab er room bl sure frm) := lv_seek frm (by omega)
  have hr := rdR_spoilt (lab := lab) (frm := frm) (blob := blob) (data := data) (er := er) (room := room) (bl := bl) (sure := sure) hl (by omega) hb (by omega) hj hbl hbj hm ht hO hE j 0 [] (by omega)
  rw [Nat.add_zero] at hr
  refine (tread_sat hT hv (lab := lab) rfl (frm : Int) (by omega) blob hs (N := j) (by omega) (R := ([], E, lv lab er room bl sure (frm + j + 1))) (fun _ => hr) (fun e => absurd rfl e) H).mono ?_
  rintro e w' ⟨rfl, S⟩
  exact ⟨rfl, by omega, S⟩
end
/-- what Spoil left of a tape's blocks. -/
inductive SpB (B : List Bk) (block : Int) : Bool → List Bk → Prop
  | no : SpB B block false B
  | yes {K i : Nat} {y : UInt8} (hb : block = (K : Int)) (hy : y ≠ 0) (hK : K < B.length) (hi : i < B[K].s.size) : SpB B block true (B.set K (spoilB B[K] i y))
theorem SpB.len {B : List Bk} {block : Int} {h : Bool} {bl : List Bk} (s : SpB B block h bl) : bl.length = B.length ∧ wsum bl = wsum B := by
  cases s with
  | no => exact ⟨rfl, rfl⟩
  | yes hb hy hK hi => exact ⟨List.length_set, wsum_set _ _ _ hK (spoilB_wt _ _ _)⟩
theorem SpB.out {B : List Bk} {block : Int} {h : Bool} {bl : List Bk} (s : SpB B block h bl) {k : Nat} (hk : ¬ (h = true ∧ block = (k : Int))) : bl[k]? = B[k]? := by
  cases s with
  | no => rfl
  | @yes K i y hb hy hK hi => rw [List.getElem?_set_ne (fun e => hk ⟨rfl, by rw [hb, e]⟩)]
theorem SpB.hit {B : List Bk} {block : Int} {bl : List Bk} (s : SpB B block true bl) {P : Pc} (hok : P.ok) {K : Nat} (hK : block = (K : Int)) (hB : B[K]? = some ⟨spellB P, false, false⟩) : ∃ b E, bl[K]? = some b ∧ b.mark = false ∧ b.torn = false ∧ onlyR b.s.data.toList = ([], E) ∧ E ≠ 0 := by
  cases s with
  | @yes K2 i y hb hy hK2 hi =>
    obtain rfl : K2 = K := by omega
    have e : B[K2] = ⟨spellB P, false, false⟩ := (List.getElem?_eq_some_iff.1 hB).2
    rw [e] at hi ⊢
    obtain ⟨E, h1, h2⟩ := spoilt_bad hok i hi y hy
    exact ⟨_, E, by rw [List.getElem?_set_self hK2], rfl, rfl, h1, h2⟩
end Go.Proofs.YtcogjlfdhiomnaaDoor
namespace Go.Proofs.YtcogjlfdhiomnaaDoor
open Go.RowKit
set_option linter.unusedVariables false
set_option maxRecDepth 100000
/-- where the first k blobs begin. -/
def atsV (bs : List Bl) (k : Nat) : List Value := (List.range k).map fun j => Value.int .i64 ((tapeB ⟨#[65]⟩ (esOf bs j)).length : Int)
theorem atsV_succ (bs : List Bl) (k : Nat) : atsV bs (k + 1) = atsV bs k ++ [.int .i64 ((tapeB ⟨#[65]⟩ (esOf bs k)).length : Int)] := by
  unfold atsV
  rw [List.range_succ, List.map_append]
  rfl
theorem atsV_len (bs : List Bl) (k : Nat) : (atsV bs k).length = k := by simp [atsV]
theorem atsV_get (bs : List Bl) (n k : Nat) (hk : k < n) : (atsV bs n)[k]? = some (.int .i64 ((tapeB ⟨#[65]⟩ (esOf bs k)).length : Int)) := by
  unfold atsV
  rw [List.getElem?_map, List.getElem?_range hk]
  rfl
theorem lenB (bs : List Bl) (h : ∀ b ∈ bs, b.ok) (k : Nat) (hk : k ≤ 10) (hb : k ≤ bs.length) : (tapeB ⟨#[65]⟩ (esOf bs k)).length ≤ 40 := by
  have := (tape_snoc (lab := ⟨#[65]⟩) (by decide) (esOf bs k) (esOf_ok bs h k) (by rw [esOf_len bs k hb]; omega)).2.2
  rw [esOf_len bs k hb] at this
  omega
set_option maxHeartbeats 12000000 in
theorem tapefmtSpoilt_walk0 (la : Option Addr) (len cap : Nat) (bs : List Bl) (hlen : len ≤ 9223372036854775807) (hlc : len ≤ cap) (hbl : bs.length = len) (hbs : ∀ b ∈ bs, b.ok) (block at_ : Int) (y : UInt8) (c : Int) (hc : c = (y.toNat : Int)) (w : World) (hBA : ∀ i (hi : i < bs.length), BlAt (wpart w) la i bs[i]) (hT : Rd (wpart w) (some ⟨0, 0, none⟩) tabV) :
    Calls Tryd.prog 4 #[.slice la len cap, .int .i64 block, .int .i64 at_, .int .u8 c] w (RetB (.bool true) w.heap.size w) := by
  have HCY := hid hc
  clear hc
  have H0 := hid (Sat.start w)
  have HT := hid hT
  have HBA := hid hBA
  have HBS := hid hbs
  obtain ⟨n, hn⟩ : ∃ n, min len 6 = n := ⟨_, rfl⟩
  have hn6 : n ≤ 6 := by omega
  have hnl : n ≤ len := by omega
  have hnb : n ≤ bs.length := by omega
  have HMIN := hid (show min (len : Int) 6 = (n : Int) by omega)
  have TP := hid (fun k (hk : k ≤ n) => esOf_tp (lab := ⟨#[65]⟩) (by decide) bs hbs k (by omega) (by omega))
  have LB := hid (fun k (hk : k ≤ n) => lenB bs hbs k (by omega) (by omega))
  have OKS := hid (show (⟨100000, false, 0, ⟨#[]⟩, [], 0, 0, 0, false⟩ : Vst).ok from ⟨by simp, by simp, by simp [wsum], by simp, by simp, by simp, by simp, by simp, by simp, by simp⟩)
  clear hT hBA hbs hn
  go_enter Tryd.func4, Tryd.ntmps4
  go_wp2_with fail
  refine (vnew_eq 100000 (R := 100000) (by omega) H0.out).mono ?_; rintro e w1 ⟨p, rfl, S1⟩
  have H1 := hid S1
  clear S1 H0
  go_wp2_with fail
  refine (tawake_sat HT.out H1.out).mono ?_; rintro e w2 ⟨rfl, S2⟩
  have H2 := hid S2
  clear S2 H1
  go_wp2_with fail
  refine (verase ⟨#[65]⟩ OKS.out (lv_erase 100000 ⟨#[65]⟩) H2.out).mono ?_; rintro e w3 ⟨rfl, S3⟩
  obtain ⟨q, hq⟩ := S3.sizeEx
  have S4 := (S3.alloc (b := q) (T := 3) (cs := []) rfl hq.symm).emptyRow 1
  have H4 := hid (show Sat w (wpart w) [row 3 1 (.slice (some ⟨q, 0, none⟩) 0 0) 0 [], volp p (tpv ⟨#[65]⟩ 1 100000 [] 0 0)] _ from S4)
  clear S3 S4 H2
  go_wp2_with (refine wpList_min (o := ⟨some 35, _, _, _, _, _⟩) rfl rfl rfl rfl HMIN.out ?_)
  try rw [hq]
  refine wp_gen (fun w5 => Sat w (wpart w) [row 3 1 (.slice (some ⟨q, 0, none⟩) 0 0) 0 [], volp p (tpv ⟨#[65]⟩ 1 100000 [] 0 0)] w5) H4.out ?_
  clear H4 hq
  intro w5 S5
  go_loopw [10, 12, 13, 14] (fun sl i _ _ wr => ∃ (k : Nat) (sv : Value), k ≤ n ∧ sl = sv ∧ i = .int .i64 (k : Int) ∧ Sat w (wpart w) [row 3 1 sv k (atsV bs k), volp p (tpv ⟨#[65]⟩ 1 100000 (esOf bs k) (tapeB ⟨#[65]⟩ (esOf bs k)).length (tapeB ⟨#[65]⟩ (esOf bs k)).length)] wr) (fun _ i _ _ _ => 10 - (intOf i).toNat)
  case atStart => exact ⟨0, _, Nat.zero_le _, rfl, rfl, S5⟩
  case round =>
    clear S5
    obtain ⟨k, sv, hk, rfl, rfl, Sr⟩ := hrel
    obtain ⟨ad, cp, rfl, q1, q2⟩ := own_shape Sr.isRow
    have HS := hid Sr.swap
    clear Sr
    by_cases hlt : k < n
    · have hkn : (k : Int) < (n : Int) := by omega
      have hkl : (k : Int) < (len : Int) := by omega
      have hk0 : (0 : Int) ≤ (k : Int) := by omega
      have hkb : k < bs.length := by omega
      obtain ⟨g, off, hla, e0, e1, e2⟩ := HBA.out k hkb
      have bok := HBS.out bs[k] (List.getElem_mem _)
      have hes := esOf_succ bs k hkb
      obtain ⟨D, hD⟩ : ∃ D, longS bs[k].s bs[k].n = D := ⟨_, rfl⟩
      have hD2 : bs[k].data = D := hD
      have hDs : D.size ≤ 600 := by rw [← hD]; exact longS_size _ _
      rw [hD2] at hes
      have OK1 := hid (show okE (bs[k].id, D) from ⟨bok.id, hDs⟩)
      have hget := (HBA.out k hkb)
      obtain ⟨x, hx⟩ : ∃ x, bs[k] = x := ⟨_, rfl⟩
      rw [hx] at e0 e1 e2 bok hes hD OK1
      subst hla
      have HES := hid hes
      have HD := hid hD
      have BOK := hid bok
      have E0 := hid e0
      have E1 := hid e1
      have E2 := hid e2
      have TK := hid (TP.out k (by omega))
      have c0 := HS.out.atI e0
      have c1 := HS.out.atI e1
      have c2 := HS.out.atI e2
      clear hx hes hD hD2 bok e0 e1 e2 hget
      go_wp2_with fail
      go_upto_region 9 with fail
      go_cut [13, 14] (fun t u wx => t = .int .i64 ((tapeB ⟨#[65]⟩ (esOf bs k)).length : Int) ∧ u = .int .i64 0 ∧ Sat w (wpart w) [volp p (tpv ⟨#[65]⟩ 1 100000 (esOf bs (k + 1)) (tapeB ⟨#[65]⟩ (esOf bs (k + 1))).length (tapeB ⟨#[65]⟩ (esOf bs (k + 1))).length), row 3 1 (.slice ad k cp) k (atsV bs k)] wx)
      case first =>
        go_region_with (first
          | (go_at_call 13; refine (long_sat x.s x.n BOK.out.s BOK.out.n HD.out HS.out.drew).mono ?_; rintro e w7 ⟨rfl, S7⟩; have d0 := S7.atI E0.out; have H7 := hid S7; clear S7)
          | (go_at_call 14; refine (twrite_tp HT.out TK.out x.id D OK1.out (by rw [esOf_len bs k (by omega)]; omega) (N := ((tapeB ⟨#[65]⟩ (esOf bs k)).length : Int)) rfl H7.out).mono ?_; rintro e w8 ⟨rfl, S8⟩; have H8 := hid S8; clear S8))
        all_goals
          go_wp2_with fail
          go_meet
          refine ⟨rfl, rfl, ?_⟩
          have h := H8.out
          rw [← HES.out] at h
          exact h
      case rest =>
        obtain ⟨rfl, rfl, S8⟩ := hcut
        have H8 := hid S8.swap
        clear S8 HS c0 c1 c2
        go_wp2_with (at_builtin; refine wpList_appS slInt rfl _ _ rfl H8.out [.int .i64 ((tapeB ⟨#[65]⟩ (esOf bs k)).length : Int)] rfl rfl rfl rfl ?h1 ?hb ?hn ?_)
        case h1 => intro u hu; simp at hu; subst hu; rfl
        case hb => omega
        case hn => omega
        intro ad2 cp2 w9 hc1 hc2 S9
        rw [← atsV_succ] at S9
        have H9 := hid S9
        clear S9 H8
        go_wp2_with fail
        go_roundw
        case rel => exact ⟨k + 1, _, by omega, rfl, by go_num, H9.out⟩
        case measure => simp [intOf]; omega
    · obtain rfl : k = n := by omega
      have hkk : ¬ (k : Int) < (k : Int) := by omega
      have hel := esOf_len bs k hnb
      have TK := hid (TP.out k (by omega))
      obtain ⟨J, a4, c4, hJ, S5, hv, hc1, hc2, _, hat⟩ := HS.out.swap.freezeRow
      cases hv
      have HAT := hid hat
      have HJ := hid hJ
      obtain ⟨B, hB⟩ : ∃ l, tapeB ⟨#[65]⟩ (esOf bs k) = l := ⟨_, rfl⟩
      obtain ⟨Lk, hLk⟩ : ∃ l, B.length = l := ⟨_, rfl⟩
      have hL40 : Lk ≤ 40 := by rw [← hLk, ← hB]; exact LB.out k (by omega)
      have hfit := TK.out.fit
      unfold tpv at hfit S5
      rw [hB, hLk] at hfit S5
      have HFIT := hid hfit
      have HB := hid hB
      have HLK := hid hLk
      have H5 := hid S5
      clear hat hJ S5 HS hB hLk hfit
      go_upto_region 13 with fail
      go_cut [15] (fun t wx => Hid (∃ (hit : Bool) (bl : List Bk), t = .bool hit ∧ SpB B block hit bl ∧ Sat w J [volp p (lv ⟨#[65]⟩ 1 100000 bl Lk Lk)] wx))
      case first =>
        by_cases hr : ∃ (K i : Nat) (hK : K < B.length), block = (K : Int) ∧ at_ = (i : Int) ∧ i < B[K].s.size
        · obtain ⟨K, i, hK, rfl, rfl, hi⟩ := hr
          have hsz : B[K].s.size ≤ 1000000 := by
            have h1 := wsum_mem (List.getElem_mem hK)
            have h2 : ((wsum B : Nat) : Int) ≤ 100000 := HFIT.out.ok.used
            omega
          by_cases hy : y = 0
          · obtain rfl : c = 0 := by rw [HCY.out, hy]; rfl
            have HY := hid hy
            have HI := hid hi
            have hsp := hid (vspoil_yes (v := lv ⟨#[65]⟩ 1 100000 B Lk Lk) K i y hK hi hsz H5.out)
            rw [← HCY.out] at hsp
            clear hy hi
            go_wp2_with fail
            refine hsp.out.mono ?_; rintro e w6 ⟨rfl, S6⟩
            have S7 : Sat w J [volp p (lv ⟨#[65]⟩ 1 100000 B Lk Lk)] w6 := by
              have h : Sat w J [volp p (lv ⟨#[65]⟩ 1 100000 (B.set K (spoilB B[K] i y)) Lk Lk)] w6 := S6
              rw [HY.out, spoilB_zero _ _ HI.out, List.set_getElem_self] at h
              exact h
            have H7 := hid S7
            clear S6 S7 H5 hsp
            go_wp2_with fail
            go_meet
            exact hid ⟨false, B, rfl, SpB.no, H7.out⟩
          · have hyn : y.toNat ≠ 0 := fun e => hy (UInt8.toNat.inj e)
            have hyi : ¬ c = 0 := by have := HCY.out; omega
            have hq : (c != 0) = true := by simpa using hyi
            have HY := hid hy
            have HI := hid hi
            have hsp := hid (vspoil_yes (v := lv ⟨#[65]⟩ 1 100000 B Lk Lk) K i y hK hi hsz H5.out)
            rw [← HCY.out] at hsp
            clear hy hi hyn
            go_wp2_with fail
            refine hsp.out.mono ?_; rintro e w6 ⟨rfl, S6⟩
            have H7 := hid (show Sat w J [volp p (lv ⟨#[65]⟩ 1 100000 (B.set K (spoilB B[K] i y)) Lk Lk)] w6 from S6)
            clear S6 H5 hsp
            go_wp2_with fail
            go_meet
            exact hid ⟨true, _, rfl, SpB.yes rfl HY.out hK HI.out, H7.out⟩
        · have hno : block < 0 ∨ (0 ≤ block ∧ (B.length : Int) ≤ block) ∨ (0 ≤ block ∧ block < B.length ∧ at_ < 0) ∨ (∃ k : Nat, ∃ hk : k < B.length, block = (k : Int) ∧ 0 ≤ at_ ∧ (B[k].s.size : Int) ≤ at_) := by
            by_cases h1 : block < 0
            · exact Or.inl h1
            · by_cases h2 : (B.length : Int) ≤ block
              · exact Or.inr (Or.inl ⟨by omega, h2⟩)
              · by_cases h3 : at_ < 0
                · exact Or.inr (Or.inr (Or.inl ⟨by omega, by omega, h3⟩))
                · refine Or.inr (Or.inr (Or.inr ⟨block.toNat, by omega, by omega, by omega, ?_⟩))
                  by_cases h4 : (B[block.toNat]'(by omega)).s.size ≤ at_.toNat
                  · omega
                  · exact absurd ⟨block.toNat, at_.toNat, by omega, by omega, by omega, by omega⟩ hr
          have hsp := hid (vspoil_no (v := lv ⟨#[65]⟩ 1 100000 B Lk Lk) block at_ c hno H5.out)
          clear hno hr
          go_wp2_with fail
          refine hsp.out.mono ?_; rintro e w6 ⟨rfl, S6⟩
          have H7 := hid S6
          clear S6 H5 hsp
          go_wp2_with fail
          go_meet
          exact hid ⟨false, B, rfl, SpB.no, H7.out⟩
      case rest =>
        obtain ⟨hit, bl, rfl, hsp, S7⟩ := hcut.out
        have SP := hid hsp
        have hl2 : bl.length = Lk := by rw [hsp.len.1, HLK.out]
        have FB := hid (fun (z : Nat) (hz : z ≤ Lk) => show (lv ⟨#[65]⟩ 1 100000 bl Lk z).fit from by
          have h := HFIT.out
          have h1 : ((wsum B : Nat) : Int) ≤ 100000 := h.ok.used
          have h2 := hsp.len.2
          exact lv_fit (by omega) (by omega) (by omega) (by omega) (by omega) (by omega) (by omega))
        have HL2 := hid hl2
        clear hsp hl2 hcut H5
        go_wp2_with fail
        go_loopw [16, 17, 18, 19] (fun i _ _ _ wr => ∃ (j at2 : Nat), j ≤ k ∧ i = .int .i64 (j : Int) ∧ at2 ≤ Lk ∧ Sat w J [volp p (lv ⟨#[65]⟩ 1 100000 bl Lk at2)] wr) (fun i _ _ _ _ => 10 - (intOf i).toNat)
        case atStart => exact ⟨0, Lk, Nat.zero_le _, rfl, Nat.le_refl _, S7⟩
        case round =>
          clear S7
          obtain ⟨j, at2, hj, rfl, hat2, Sr⟩ := hrel
          have HS := hid Sr
          clear Sr
          by_cases hlt : j < k
          · have hjk : (j : Int) < (k : Int) := by omega
            have hjl : (j : Int) < (len : Int) := by omega
            have hj0 : (0 : Int) ≤ (j : Int) := by omega
            have hjb : j < bs.length := by omega
            obtain ⟨g, off, hla, e0, e1, e2⟩ := HBA.out j hjb
            have bok := HBS.out bs[j] (List.getElem_mem _)
            have hesg := esOf_get bs k j hlt hnb
            obtain ⟨D, hD⟩ : ∃ D, longS bs[j].s bs[j].n = D := ⟨_, rfl⟩
            have hD2 : bs[j].data = D := hD
            have hDs : D.size ≤ 600 := by rw [← hD]; exact longS_size _ _
            rw [hD2] at hesg
            obtain ⟨x, hx⟩ : ∃ x, bs[j] = x := ⟨_, rfl⟩
            rw [hx] at e0 e1 e2 bok hesg hD
            obtain ⟨A, hA⟩ : ∃ A, (tapeB ⟨#[65]⟩ (esOf bs j)).length = A := ⟨_, rfl⟩
            have hAt : tapeAt ⟨#[65]⟩ (esOf bs k) j = A := by rw [esOf_at bs k j (by omega), hA]
            have hav := atsV_get bs k j hlt
            rw [hA] at hav
            have hA40 : A ≤ 40 := by rw [← hA]; exact LB.out j (by omega)
            have hgB : ∀ i, i < nparts D.size → B[A + i]? = some (tpBlock ⟨#[65]⟩ A x.id D i) := fun i hi => by
              have h := tape_get (lab := ⟨#[65]⟩) (esOf bs k) j hesg i hi
              rw [hAt, HB.out] at h
              exact h
            have HGB := hid hgB
            subst hla
            obtain ⟨b4, o4, rfl, v4⟩ := HAT.out.get HS.out j hav
            have CE : ∀ wz : World, Sat w J [] wz → wz.cell? ⟨b4, o4 + j, none⟩ = some (.int .i64 (A : Int)) ∧ wz.cell? ⟨g, off + j * 3, none⟩ = some (.int .u64 (x.id : Int)) ∧ wz.cell? ⟨g, off + j * 3 + 1, none⟩ = some (.string x.s) ∧ wz.cell? ⟨g, off + j * 3 + 2, none⟩ = some (.int .i64 x.n) := by
              intro wz Sz
              obtain ⟨y4, z4, q4, u4⟩ := HAT.out.get Sz j hav
              cases q4
              exact ⟨u4, (Sz.thaw HJ.out).atI e0, (Sz.thaw HJ.out).atI e1, (Sz.thaw HJ.out).atI e2⟩
            have HCE := hid CE
            obtain ⟨k4, k0, k1, k2⟩ := CE wr HS.out.drop
            have BOK := hid bok
            have HD := hid hD
            obtain ⟨M, hM⟩ : ∃ M, nparts D.size = M := ⟨_, rfl⟩
            have hM3 : 1 ≤ M ∧ M ≤ 3 := by unfold nparts at hM; omega
            have HM := hid (show (nparts D.size : Int) = (M : Int) by omega)
            have HMN := hid hM
            have hw : IntKind.i64.wrap ((A : Int) + (M : Int)) = (A : Int) + (M : Int) := IntWalk.i64_in _ (by omega)
            clear CE hav hesg hAt bok hD hD2 hx hA v4 e0 e1 e2 hgB hM
            by_cases hin : hit = true ∧ (A : Int) ≤ block ∧ block < (A : Int) + (M : Int)
            · obtain ⟨rfl, hb1, hb2⟩ := hin
              obtain ⟨q, hq⟩ : ∃ q : Nat, block = (A : Int) + (q : Int) := ⟨(block - A).toNat, by omega⟩
              have hqM : q < M := by omega
              obtain ⟨b, E, z1, z2, z3, z4, z5⟩ := SP.out.hit (P := tpPiece ⟨#[65]⟩ A x.id D q) (K := A + q) (tpPiece_ok (by decide) (by omega) BOK.out.id (by omega) (by rw [HMN.out]; exact hqM)) (by omega) (HGB.out q (by rw [HMN.out]; exact hqM))
              have hE : (E == 0) = false := by simpa using z5
              have hrd := hid (tread_bad (lab := ⟨#[65]⟩) (frm := A) (blob := x.id) (data := D) (er := 1) (room := 100000) (bl := bl) (sure := Lk) (at_ := at2) (HT.out.mono HJ.out) (FB.out at2 hat2) (by decide) BOK.out.id hDs (by omega) (j := q) (by rw [HMN.out]; exact hqM) (fun i hi => by rw [SP.out.out (fun h => by omega)]; exact HGB.out i (by rw [HMN.out]; omega)) z1 z2 z3 z4 z5 HS.out.drew)
              clear z1 z2 z3 z4 hq
              go_wp2_with fail
              go_upto_region 17 with fail
              go_cut [17, 18] (fun t u wx => t = .string ⟨#[]⟩ ∧ u = .int .i64 E ∧ Hid (∃ at3, at3 ≤ Lk ∧ Sat w J [volp p (lv ⟨#[65]⟩ 1 100000 bl Lk at3)] wx))
              case first =>
                go_region_with ((go_at_call 20; refine hrd.out.mono ?_; rintro e w8 ⟨rfl, hz8, hS8⟩; have H8 := hid hS8; have HZ8 := hid hz8; clear hS8 hz8))
                all_goals
                  go_wp2_with fail
                  go_meet
                  exact ⟨rfl, rfl, hid ⟨_, by have := HZ8.out; rw [HL2.out] at this; exact this, H8.out⟩⟩
              case rest =>
                obtain ⟨rfl, rfl, hh⟩ := hcut
                obtain ⟨at5, hat5, S8⟩ := hh.out
                have H8 := hid S8
                clear k4 k0 k1 k2 HS hh S8 hrd
                obtain ⟨k4, k0, k1, k2⟩ := HCE.out wc H8.out.drop
                go_wp2_with fail
                go_quiet (first
                  | (go_at_call 13; exact Calls.quiet_of (long_q _ x.s x.n BOK.out.s BOK.out.n HD.out))
                  | (go_at_call 18; exact Calls.quiet_of (parts_q _ D.size (by omega) HM.out)))
                go_wp2_with fail
                go_roundw
                case rel => exact ⟨j + 1, at5, by omega, by go_num, hat5, H8.out.drewN _⟩
                case measure => simp [intOf]; omega
            · have hrd := hid (tread_lv (lab := ⟨#[65]⟩) (frm := A) (blob := x.id) (data := D) (er := 1) (room := 100000) (bl := bl) (sure := Lk) (at_ := at2) (HT.out.mono HJ.out) (FB.out at2 hat2) (by decide) BOK.out.id hDs (by omega) (fun i hi => by rw [SP.out.out (fun h => hin ⟨h.1, by rw [h.2]; have := HMN.out; omega, by rw [h.2]; have := HMN.out; omega⟩)]; exact HGB.out i hi) HS.out.drew)
              have HIN := hid hin
              clear hin
              go_wp2_with fail
              go_upto_region 17 with fail
              go_cut [17, 18] (fun t u wx => t = .string D ∧ u = .int .i64 0 ∧ Hid (∃ at3, at3 ≤ Lk ∧ Sat w J [volp p (lv ⟨#[65]⟩ 1 100000 bl Lk at3)] wx))
              case first =>
                go_region_with ((go_at_call 20; refine hrd.out.mono ?_; rintro e w8 ⟨rfl, hz8, hS8⟩; have H8 := hid hS8; have HZ8 := hid hz8; clear hS8 hz8))
                all_goals
                  go_wp2_with fail
                  go_meet
                  exact ⟨rfl, rfl, hid ⟨_, by have := HZ8.out; rw [HL2.out] at this; exact this, H8.out⟩⟩
              case rest =>
                obtain ⟨rfl, rfl, hh⟩ := hcut
                obtain ⟨at5, hat5, S8⟩ := hh.out
                have H8 := hid S8
                clear k4 k0 k1 k2 HS hh S8 hrd
                obtain ⟨k4, k0, k1, k2⟩ := HCE.out wc H8.out.drop
                go_wp2_with fail
                go_quiet (first
                  | (go_at_call 13; exact Calls.quiet_of (long_q _ x.s x.n BOK.out.s BOK.out.n HD.out))
                  | (go_at_call 18; exact Calls.quiet_of (parts_q _ D.size (by omega) HM.out)))
                go_upto_region 19 with fail
                go_cut [127] (fun t wx => t = .bool false ∧ Sat w J [volp p (lv ⟨#[65]⟩ 1 100000 bl Lk at5)] wx)
                case first =>
                  cases hit with
                  | false =>
                    go_wp2_with fail
                    go_meet
                    exact ⟨rfl, H8.out.drewN _⟩
                  | true =>
                    by_cases hb1 : (A : Int) ≤ block
                    · have hb2 : ¬ block < (A : Int) + (M : Int) := fun h => HIN.out ⟨rfl, hb1, h⟩
                      go_wp2_with fail
                      go_meet
                      exact ⟨rfl, H8.out.drewN _⟩
                    · go_wp2_with fail
                      go_meet
                      exact ⟨rfl, H8.out.drewN _⟩
                case rest =>
                  obtain ⟨rfl, S9⟩ := hcut
                  have H9 := hid S9
                  clear k4 k0 k1 k2 H8 S9
                  obtain ⟨k4, k0, k1, k2⟩ := HCE.out wc H9.out.drop
                  go_wp2_with fail
                  go_quiet ((go_at_call 13; exact Calls.quiet_of (long_q _ x.s x.n BOK.out.s BOK.out.n HD.out)))
                  go_wp2_with fail
                  go_roundw
                  case rel => exact ⟨j + 1, at5, by omega, by go_num, hat5, H9.out.drewN _⟩
                  case measure => simp [intOf]; omega
          · obtain rfl : j = k := by omega
            have hjk : ¬ (j : Int) < (j : Int) := by omega
            go_wp2_with fail
            go_ret
            exact ⟨rfl, HS.out.toBelow HJ.out⟩
theorem tapefmtSpoilt_walk (la : Option Addr) (len cap : Nat) (block at_ by_ : Int) (w : World) (hT : Rd (wpart w) (some ⟨0, 0, none⟩) tabV) (hl : OkT Tryd.prog w 6 43 [.slice la len cap]) (hw1 : (Lit.int .i64 block).wf = true) (hw2 : (Lit.int .i64 at_).wf = true) (hw3 : (Lit.int .u8 by_).wf = true) :
    Calls Tryd.prog 4 #[.slice la len cap, .int .i64 block, .int .i64 at_, .int .u8 by_] w (RetB (.bool true) w.heap.size w) := by
  obtain ⟨h1, h2, h3, bs, e1, e2, e3⟩ := okT_blobs hl
  have hc := wf_u8 hw3
  obtain ⟨c, rfl⟩ : ∃ c : UInt8, by_ = (c.toNat : Int) := ⟨UInt8.ofNat by_.toNat, by
    have : (UInt8.ofNat by_.toNat).toNat = by_.toNat := mod_toNat _ (by omega)
    omega⟩
  exact tapefmtSpoilt_walk0 la len cap bs h1 h2 e1 e2 block at_ c _ rfl w e3 hT
end Go.Proofs.YtcogjlfdhiomnaaDoor
