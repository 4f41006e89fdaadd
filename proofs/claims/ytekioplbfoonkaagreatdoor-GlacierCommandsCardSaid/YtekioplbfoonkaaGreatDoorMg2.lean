/- Contracts of package wire: what is written. Contract of Enc.U. Contract of Enc.I. Contracts of Enc.List and Enc.S. Contract of Enc.S. Contracts of the decoder. -/
import Derived.Test.YtekioplbfoonkaaGreatDoorMg1
import Derived.Laws.IdiomStrings
import Derived.Lib.BufferRead
import Derived.Test.YtekioplbfoonkaaGreatDoorLen64
import Derived.Laws.Bits64b
import Derived.Laws.Bits128
import Derived.Laws.BitsAllLaws
namespace Go.Proofs.YtekioplbfoonkaaGreatDoor
open Go.RowKit
set_option linter.unusedVariables false
set_option maxRecDepth 100000
set_option maxHeartbeats 400000

theorem byteCells_one (l : List UInt8) : ∀ u ∈ Lib.byteCells l, u.oneCell' = true := by
  intro u hu
  simp only [Lib.byteCells, List.mem_map] at hu
  obtain ⟨b, _, rfl⟩ := hu
  rfl
theorem byteCells_len (l : List UInt8) : (Lib.byteCells l).length = l.length := by simp [Lib.byteCells]
theorem byteCells_app (a b : List UInt8) : Lib.byteCells (a ++ b) = Lib.byteCells a ++ Lib.byteCells b := by simp [Lib.byteCells]
theorem slByte : SliceT Tryz.prog 87 5 1 1 := ⟨Tryz.underlying87, ⟨_, _, rfl, rfl, rfl, rfl, rfl⟩, by decide⟩

/-- block e is an encoder; what it has gathered is bs; it lies in the slice sv. -/
structure IsE (w : World) (e : Nat) (sv : Value) (bs : List UInt8) : Prop where
  blk : Blk w e 89 [sv]
  row : w.ownsRow (e + 1) 5 1 sv bs.length (Lib.byteCells bs)
  small : bs.length ≤ 1048576
/-- what an encoder lies in. -/
def EFp (e : Nat) (sv : Value) (k : Nat) : Prop := k = e ∨ sv.ownBlock = some k
section
variable {w : World} {e : Nat} {sv : Value} {bs : List UInt8}
theorem IsE.below {w' : World} (h : IsE w e sv bs) (hb : Below w.heap.size w w') : IsE w' e sv bs := ⟨h.blk.below hb h.blk.lt, own_below h.row hb, h.small⟩
theorem IsE.mod {w' : World} {S : Nat → Prop} (h : IsE w e sv bs) (hm : Mod S w w') (h1 : ¬ S e) (h2 : ∀ k, sv.ownBlock = some k → ¬ S k) : IsE w' e sv bs := ⟨h.blk.mod hm h1, own_mod h.row hm h2, h.small⟩
theorem IsE.fp (h : IsE w e sv bs) (k : Nat) (hk : EFp e sv k) : e ≤ k := by
  rcases hk with rfl | hk
  · exact Nat.le_refl _
  · have := h.row.lt _ hk; omega
theorem IsE.new (h : IsE w e sv bs) {b : Nat} (hb : w.heap.size ≤ b) : sv.ownBlock ≠ some b := fun x => by have := h.row.lt b x; omega
theorem IsE.zero (w : World) : IsE (w.alloc (.cells #[.slice none 0 0] 89)) w.heap.size (.slice none 0 0) [] := ⟨Blk.new w _ _, World.ownsRow_nil _ _ _ _, by simp⟩
theorem belowE {B : Nat} {w0 w' : World} (h0 : Below B w0 w) (h : IsE w e sv bs) (hm : Mod (EFp e sv) w w') (hB : B ≤ e) (hB2 : B ≤ w0.heap.size) : Below B w0 w' :=
  Mod.thenMod h0 hm (fun k _ hk => Nat.le_trans hB (h.fp k hk)) hB2
theorem Blk.enc {w' : World} {b : Nat} {T : TypeId} {cs : List Value} (h : Blk w b T cs) (hm : Mod (EFp e sv) w w') (h1 : e ≠ b) (h2 : sv.ownBlock ≠ some b) : Blk w' b T cs :=
  h.mod hm (fun hx => by rcases hx with hx | hx; exact h1 hx.symm; exact h2 hx)
/-- two encoders: the one stays where the other is written. -/
theorem IsE.other {w' : World} {f : Nat} {sw : Value} {cs : List UInt8} (h : IsE w e sv bs) (hm : Mod (EFp f sw) w w') (h1 : e ≠ f) (h2 : sw.ownBlock ≠ some e) (h3 : sv.ownBlock ≠ some f) (h4 : ∀ k, sv.ownBlock = some k → sw.ownBlock ≠ some k) : IsE w' e sv bs :=
  h.mod hm (fun hx => by rcases hx with hx | hx; exact h1 hx; exact h2 hx) (fun k hk hx => by rcases hx with hx | hx; exact h3 (by rw [hk, hx]); exact h4 k hk hx)
theorem IsE.str (h : IsE w e sv bs) : (convert 87 9 sv).run Tryz.prog w = .ok (.string ⟨bs.toArray⟩) w := by
  rcases h.row.2 with ⟨hv, h0⟩ | ⟨g, cap, cur, hv, _, hh, _, _, _, ht⟩
  · have : bs = [] := List.eq_nil_of_length_eq_zero h0
    subst this; subst hv
    exact Lib.run_convert_nil_bytes w _ _ 5 0 Tryz.underlying87 Tryz.underlying5 Tryz.underlying9
  · subst hv
    exact run_convert_bytes_back w _ _ 5 _ cap bs Tryz.underlying87 Tryz.underlying5 Tryz.underlying9 (Lib.bytes_of_row hh (by rw [Nat.mul_one] at ht; exact ht))
end

theorem bytes_any (w : World) (e : Nat) (sv : Value) (bs : List UInt8) (h : IsE w e sv bs) :
    Calls Tryz.prog 35 #[.pointer (some ⟨e, 0, none⟩)] w (Ret (.string ⟨bs.toArray⟩) w) := by
  have hc := h.blk.cell 0 rfl
  have hs := h.str
  clear h
  go_enter Tryz.func35, Tryz.ntmps35
  go_wp2
  go_ret
  exact ⟨rfl, 0, rfl⟩
end Go.Proofs.YtekioplbfoonkaaGreatDoor
namespace Go.Proofs.YtekioplbfoonkaaGreatDoor
open Go.RowKit
set_option linter.unusedVariables false
set_option maxRecDepth 100000

def hiB (v k : Nat) : UInt8 := UInt8.ofNat (v / 2 ^ (7 * k) % 128 + 128)
def encHi (v : Nat) : Nat → List UInt8
  | 0 => []
  | k + 1 => hiB v (k + 1) :: encHi v k
def grp (v : Nat) : Nat := (Lib.bitLen (v ||| 1) - 1) / 7
def encU (v : Nat) : List UInt8 := encHi v (grp v) ++ [UInt8.ofNat (v % 128)]
theorem or1_eq (v : Nat) (h : v < 18446744073709551616) : bits BinOp.or IntKind.u64 (v : Int) 1 = ((v ||| 1 : Nat) : Int) := bits_or_u64_nat v 1 h (by omega)
theorem or128_fin : ∀ y : Fin 256, bits .or .u8 (y.val : Int) 128 = ((y.val % 128 + 128 : Nat) : Int) := by decide +kernel
theorem andnot128_fin : ∀ y : Fin 256, bits .andNot .u8 (y.val : Int) 128 = ((y.val % 128 : Nat) : Int) := by decide +kernel
theorem hiB_val (v i : Nat) : bits BinOp.or IntKind.u8 (IntKind.u8.wrap ((v : Int) / 2 ^ (7 * ((i : Int) + 1)).toNat)) 128 = ((hiB v (i + 1)).toNat : Int) := by
  have h1 : (7 * ((i : Int) + 1)).toNat = 7 * (i + 1) := by omega
  have h2 : (v : Int) / 2 ^ (7 * (i + 1)) = ((v / 2 ^ (7 * (i + 1)) : Nat) : Int) := by simp
  rw [h1, h2, IntKind.wrap_u8]
  generalize hy : v / 2 ^ (7 * (i + 1)) = y
  have h3 : (y : Int) % 256 = ((y % 256 : Nat) : Int) := by simp
  rw [h3, or128_fin ⟨y % 256, Nat.mod_lt _ (by omega)⟩]
  unfold hiB
  rw [hy, UInt8.toNat_ofNat']
  congr 1
  show y % 256 % 128 + 128 = (y % 128 + 128) % 2 ^ 8
  omega
theorem loB_val (v : Nat) : bits BinOp.andNot IntKind.u8 ((v : Int) % 256) 128 = ((UInt8.ofNat (v % 128)).toNat : Int) := by
  have h3 : (v : Int) % 256 = ((v % 256 : Nat) : Int) := by simp
  rw [h3, andnot128_fin ⟨v % 256, Nat.mod_lt _ (by omega)⟩, UInt8.toNat_ofNat']
  congr 1
  show v % 256 % 128 = (v % 128) % 2 ^ 8
  omega
theorem encHi_len (v : Nat) : ∀ k, (encHi v k).length = k
  | 0 => rfl
  | k + 1 => by simp [encHi, encHi_len v k]
theorem encU_len (v : Nat) (h : v < 18446744073709551616) : (encU v).length ≤ 10 := by
  have hor : (v ||| 1) < 18446744073709551616 := Nat.or_lt_two_pow (n := 64) (by omega) (by omega)
  have hbl : Lib.bitLen (v ||| 1) ≤ 64 := Lib.bitLen_le _ 64 (Nat.le_refl _) hor
  unfold encU grp
  rw [List.length_append, encHi_len]
  simp only [List.length_singleton]
  omega
theorem IsE.push {w w' : World} {e : Nat} {sv a' : Value} {bs : List UInt8} {x : Value} (h : IsE w e sv bs) (hB : Blk w' e 89 [sv]) (hO : w'.ownsRow (e + 1) 5 1 a' (bs.length + 1) (Lib.byteCells bs ++ [x])) (b : UInt8) (hx : x = .int .u8 (b.toNat : Int)) (hl : bs.length < 1048576) :
    IsE (w'.setCell ⟨e, 0, none⟩ a') e a' (bs ++ [b]) := by
  refine ⟨hB.set' 0 _ rfl, ?_, by simp; omega⟩
  have := own_setCell_lt hO (a := ⟨e, 0, none⟩) (Nat.lt_succ_self _) a'
  rw [byteCells_app]
  subst hx
  simpa [Lib.byteCells] using this
theorem Mod.moved {e : Nat} {w w1 w2 : World} {sv sv2 : Value} (h : Mod (EFp e sv) w w1) (k : Mod (EFp e sv2) w1 w2) (V : Moved w sv sv2) : Mod (EFp e sv) w w2 :=
  h.trans k (fun i hi hx => by
    rcases hx with hx | hx
    · exact Or.inl hx
    · rcases V i hx with h | h
      · exact Or.inr h
      · omega)

section
variable {P : Program} {w : World} {a : Act} {o : Oper} {Q : Exit → Act → World → Prop} {ops : Array Oper} {rest : List Oper}
theorem wpList_app1m {t e : TypeId} {size bytes : Nat} (T : SliceT P t e size bytes) (hgd : o.guard = none) (s x : Operand)
    (ho : o.op = .call { callee := .builtin .append, args := #[s, x], argTypes := #[t, t] })
    (base : Nat) (v : Value) (n : Nat) (xs news : List Value) (hs : a.eval s = v) (hown : w.ownsRow base e size v n xs)
    {g : Nat} (hx : a.eval x = .slice (some ⟨g, 0, none⟩) 1 1) (hgs : g = w.heap.size) (hl : news.length = size) (h1 : ∀ u ∈ news, u.oneCell' = true)
    (hb : (n + 1) * bytes ≤ 140737488355328) (hn : n + 1 ≤ 140737488355328) (hbase : base ≤ w.heap.size)
    (h : ∀ v' w', w'.ownsRow base e size v' (n + 1) (xs ++ news) → w.grownBy w' v.ownBlock → v' ≠ .slice none 0 0 → Moved w v v' → wpList P ops Q rest (a.put o.dst v') w') :
    wpList P ops Q (o :: rest) a (w.alloc (.cells news.toArray e)) :=
  wpList_plain hgd fun _ hK => wp_app1m T s x ho base v n xs news hs hown hx hgs hl h1 hb hn hbase fun v' w' h2 h3 h4 h5 => hK _ _ (h v' w' h2 h3 h4 h5)
end

set_option maxRecDepth 100000 in
set_option maxHeartbeats 4000000 in
theorem encU_any (w : World) (e : Nat) (sv : Value) (bs : List UInt8) (la : Option Addr) (cap : Nat) (zs : List Int) (h : IsE w e sv bs) (hz : IntsAt .u64 w la zs) (hwf : ∀ z ∈ zs, 0 ≤ z ∧ z ≤ 18446744073709551615)
    (hne : 0 < zs.length → ∀ x, la = some x → x.block ≠ e ∧ sv.ownBlock ≠ some x.block) (hsm : bs.length + 10 * zs.length ≤ 1048576) (hlen : zs.length ≤ 9223372036854775807) :
    Calls Tryz.prog 34 #[.pointer (some ⟨e, 0, none⟩), .slice la zs.length cap] w
      fun r w' => r = .returned (.pointer (some ⟨e, 0, none⟩)) ∧ ∃ sv', IsE w' e sv' (bs ++ zs.flatMap fun z => encU z.toNat) ∧ Mod (EFp e sv) w w' ∧ Moved w sv sv' := by
  have HE := hid h
  have HZ := hid hz
  have HW := hid hwf
  have HN := hid hne
  clear h hz hwf hne
  go_enter Tryz.func34, Tryz.ntmps34
  go_wp2_with fail
  go_loopw [6, 7, 10] (fun _ _ i wr => ∃ (k : Nat) (sv' : Value) (bs' : List UInt8), k ≤ zs.length ∧ i = .int .i64 k ∧ IsE wr e sv' bs' ∧ Mod (EFp e sv) w wr ∧ Moved w sv sv' ∧ bs'.length ≤ bs.length + 10 * k ∧ bs' ++ (zs.drop k).flatMap (fun z => encU z.toNat) = bs ++ zs.flatMap fun z => encU z.toNat) (fun _ _ i _ => zs.length - (intOf i).toNat)
  case atStart => exact ⟨0, sv, bs, by omega, rfl, HE.out.below (by (repeat' (first | (with_reducible assumption) | (with_reducible exact Below.refl _ _) | (with_reducible refine below_drewN ?_ _) | (with_reducible refine Below.drew ?_) | ((with_reducible refine below_alloc' ?_ ?_ _); rotate_left; (first | exact Nat.le_refl _ | assumption | omega)) | ((with_reducible refine Below.alloc ?_ ?_ _); rotate_left; (first | omega | (simp <;> omega))) | ((with_reducible refine Below.setCell ?_ ?_ _); rotate_left; (first | omega | (simp <;> omega)))))), Mod.refl _ _, Moved.refl _ _, by omega, rfl⟩
  case round =>
    obtain ⟨k, sv', bs', hk, rfl, Er, Mr, Vr, hlr, heq⟩ := hrel
    have HQ := hid heq
    clear heq
    by_cases hlt : k < zs.length
    · have c0 : ∃ b off, la = some ⟨b, off, none⟩ ∧ wr.cell? ⟨b, off + k, none⟩ = some (.int .u64 zs[k]) := by
        obtain ⟨b, off, h1, h2⟩ := HZ.out k hlt
        obtain ⟨n1, n2⟩ := HN.out (by omega) _ h1
        refine ⟨b, off, h1, ?_⟩
        rw [← h2]
        have hb := World.block_lt_of_cell? w _ h2
        have := Mr.block b hb (fun hx => by rcases hx with hx | hx; exact n1 hx; exact n2 hx)
        unfold World.cell?
        rw [show (⟨b, off + k, none⟩ : Addr).block = b from rfl, this]
      obtain ⟨b, off, rfl, c0⟩ := c0
      have hkl : (k : Int) < (zs.length : Int) := by omega
      have hk0 : (0 : Int) ≤ (k : Int) := by omega
      obtain ⟨hv0, hv1⟩ := HW.out zs[k] (List.getElem_mem _)
      have hd : zs.drop k = zs[k] :: zs.drop (k + 1) := List.drop_eq_getElem_cons hlt
      generalize zs[k] = v at *
      obtain ⟨v, rfl⟩ := Int.eq_ofNat_of_zero_le hv0
      have HD := hid hd
      clear hd
      have hor : (v ||| 1) < 18446744073709551616 := Nat.or_lt_two_pow (n := 64) (by omega) (by omega)
      have hbl : Lib.bitLen (v ||| 1) ≤ 64 := Lib.bitLen_le _ 64 (Nat.le_refl _) hor
      obtain ⟨G, hG⟩ : ∃ G, (Lib.bitLen (v ||| 1) - 1) / 7 = G := ⟨_, rfl⟩
      have HG := hid hG
      obtain ⟨B, hB⟩ : ∃ B, Lib.bitLen (v ||| 1) = B := ⟨_, rfl⟩
      rw [hB] at hG hbl
      have hB1 : 1 ≤ B := by
        rw [← hB]
        have h0 : v ||| 1 ≠ 0 := by intro h; have := Nat.right_le_or (n := v) (m := 1); omega
        rw [Lib.bitLen_half _ h0 (by omega)]; omega
      have HB := hid hB
      clear hB
      go_wp2_with fail
      rw [or1_eq v (by omega)]
      refine (Tryz.bits_Len64 _ _ (by omega) (by omega)).mono ?_; rintro r w3 ⟨rfl, rfl⟩
      rw [Int.toNat_natCast, HB.out]
      go_wp2_with fail
      have hG9 : G ≤ 9 := by omega
      go_loopw [7] (fun at_ wi => ∃ (j : Nat) (sv2 : Value) (bs2 : List UInt8), j ≤ G ∧ at_ = .int .i64 ((7 * j : Nat) : Int) ∧ IsE wi e sv2 bs2 ∧ Mod (EFp e sv) w wi ∧ Moved w sv sv2 ∧ bs2.length + j ≤ bs'.length + G ∧ bs2 ++ encHi v j = bs' ++ encHi v G) (fun at_ _ => (intOf at_).toNat)
      case atStart => exact ⟨G, sv', bs', Nat.le_refl _, by congr 1; omega, Er, Mr, Vr, Nat.le_refl _, rfl⟩
      case round =>
        clear Er Mr Vr
        obtain ⟨j, sv2, bs2, hj, rfl, E2, M2, V2, hl2, he2⟩ := hrel
        have HE2 := hid E2
        have HEQ := hid he2
        clear he2
        have c1 := E2.blk.cell 0 rfl
        have f1 := E2.blk.frozen 0
        have c1' : ∀ o, (wr.alloc o).cell? ⟨e, 0, none⟩ = some sv2 := fun o => (E2.blk.alloc o).cell 0 rfl
        clear E2
        by_cases hj0 : j = 0
        · subst hj0
          go_wp2_with (at_builtin; refine wpList_app1m (w := wr) slByte rfl (.tmp 42) (.tmp 46) rfl (e + 1) sv2 bs2.length (Lib.byteCells bs2) [.int .u8 (bits BinOp.andNot IntKind.u8 ((v : Int) % 256) 128)] rfl ?hown rfl ?hgs rfl ?h1 ?hb ?hn ?hbase ?_)
          case hown => exact HE2.out.row
          case hgs => rfl
          case h1 => intro u hu; simp at hu; subst hu; rfl
          case hb => omega
          case hn => omega
          case hbase => have := HE2.out.blk.lt; omega
          intro v' w2 O2 G2 _ V3
          obtain ⟨a2, cap2, rfl, _, _⟩ := own_shape O2
          have B2 := HE2.out.blk.grown_own G2 HE2.out.row (Nat.lt_succ_self _)
          have q2 := B2.cell 0 rfl
          have z2 := B2.frozen 0
          have ML : Mod (EFp e sv2) wr w2 := (Mod.refl _ wr).grown G2 (fun k hk _ => Or.inr hk)
          clear c1 f1 c1'
          go_wp2_with fail
          go_roundw
          case rel =>
            refine ⟨k + 1, _, _, by omega, by go_num, HE2.out.push B2 O2 (UInt8.ofNat (v % 128)) (by rw [loB_val]) (by omega), M2.moved (ML.setCell (fun _ => Or.inl rfl) _) V2, V2.trans V3 M2.size, by simp; omega, ?_⟩
            have e1 := HQ.out
            have e2 := HEQ.out
            rw [HD.out, List.flatMap_cons] at e1
            rw [← e1, Int.toNat_natCast, encU, grp, HG.out]
            simp only [encHi, List.append_nil] at e2
            rw [e2]
            simp
          case measure => (simp [intOf] <;> omega)
        · obtain ⟨i, rfl⟩ : ∃ i, j = i + 1 := ⟨j - 1, by omega⟩
          have hpos : (0 : Int) < ((7 * (i + 1) : Nat) : Int) := by omega
          go_wp2_with fail
          go_region_law (refine step_app1 (w := wr.drew) slByte (by rfl) (.tmp 28) (.tmp 34) (by rfl) (e + 1) sv2 bs2.length (Lib.byteCells bs2) _ (by rfl) (by exact HE2.out.row) (g := wr.heap.size) (by rfl) (by simp) rfl (by intro u hu; simp at hu; subst hu; rfl) (by omega) (by omega) (by have := HE2.out.blk.lt; simp; omega) ?_; intro v' w2 O2 G2 _ V3; obtain ⟨a2, cap2, rfl, _, _⟩ := own_shape O2; have q2 := (HE2.out.blk.drew.grown_own G2 HE2.out.row (Nat.lt_succ_self _)).cell 0 rfl; have z2 := (HE2.out.blk.drew.grown_own G2 HE2.out.row (Nat.lt_succ_self _)).frozen 0)
          all_goals
            have B2 := HE2.out.blk.drew.grown_own G2 HE2.out.row (Nat.lt_succ_self _)
            have ML : Mod (EFp e sv2) wr w2 := ((Mod.refl _ wr).drew).grown G2 (fun k hk _ => Or.inr hk)
            clear c1 f1 c1'
            go_wp2_with fail
            go_roundw
            case rel =>
              refine ⟨i, _, _, by omega, by congr 1; omega, HE2.out.push B2 O2 (hiB v (i + 1)) (by rw [hiB_val]) (by omega), M2.moved (ML.setCell (fun _ => Or.inl rfl) _) V2, V2.trans V3 M2.size, by simp; omega, ?_⟩
              have e2 := HEQ.out
              rw [encHi] at e2
              rw [← e2]; simp
            case measure => (simp [intOf] <;> omega)
    · obtain rfl : k = zs.length := by omega
      go_wp2_with fail
      go_ret
      refine ⟨rfl, sv', ?_, Mr, Vr⟩
      have := HQ.out
      rw [List.drop_length] at this
      simp only [List.flatMap_nil, List.append_nil] at this
      rw [← this]; exact Er
end Go.Proofs.YtekioplbfoonkaaGreatDoor
namespace Go.Proofs.YtekioplbfoonkaaGreatDoor
open Go.RowKit
set_option linter.unusedVariables false
set_option maxRecDepth 100000

theorem encU_one (w : World) (e : Nat) (sv : Value) (bs : List UInt8) (g : Nat) (T : TypeId) (m : Int) (h : IsE w e sv bs) (hg : Blk w g T [.int .u64 m]) (h0 : 0 ≤ m) (h1 : m ≤ 18446744073709551615) (hne : g ≠ e) (hs : sv.ownBlock ≠ some g) (hsm : bs.length + 10 ≤ 1048576) :
    Calls Tryz.prog 34 #[.pointer (some ⟨e, 0, none⟩), .slice (some ⟨g, 0, none⟩) 1 1] w
      fun r w' => r = .returned (.pointer (some ⟨e, 0, none⟩)) ∧ ∃ sv', IsE w' e sv' (bs ++ encU m.toNat) ∧ Mod (EFp e sv) w w' ∧ Moved w sv sv' := by
  have := encU_any w e sv bs (some ⟨g, 0, none⟩) 1 [m] h (Blk.ints (k := .u64) (zs := [m]) hg) (fun z hz => by simp at hz; subst hz; exact ⟨h0, h1⟩) (fun _ x hx => by cases hx; exact ⟨hne, hs⟩) (by simpa using hsm) (by simp)
  simpa using this

set_option maxRecDepth 100000 in
set_option maxHeartbeats 4000000 in
theorem encI_any (w : World) (e : Nat) (sv : Value) (bs : List UInt8) (la : Option Addr) (cap : Nat) (zs : List Int) (h : IsE w e sv bs) (hz : IntsAt .i64 w la zs) (hwf : ∀ z ∈ zs, z ≤ 9223372036854775807)
    (hne : 0 < zs.length → ∀ x, la = some x → x.block ≠ e ∧ sv.ownBlock ≠ some x.block) (hsm : bs.length + 10 * zs.length ≤ 1048576) (hlen : zs.length ≤ 9223372036854775807) :
    Calls Tryz.prog 61 #[.pointer (some ⟨e, 0, none⟩), .slice la zs.length cap] w
      fun r w' => r = .returned (.pointer (some ⟨e, 0, none⟩)) ∧ ∃ sv', IsE w' e sv' (bs ++ zs.flatMap fun z => encU (max z 0).toNat) ∧ Mod (EFp e sv) w w' ∧ Moved w sv sv' := by
  have HE := hid h
  have HZ := hid hz
  have HW := hid hwf
  have HN := hid hne
  clear h hz hwf hne
  go_enter Tryz.func61, Tryz.ntmps61
  go_wp2_with fail
  go_loopw [6, 9] (fun _ i wr => ∃ (k : Nat) (sv' : Value) (bs' : List UInt8), k ≤ zs.length ∧ i = .int .i64 k ∧ IsE wr e sv' bs' ∧ Mod (EFp e sv) w wr ∧ Moved w sv sv' ∧ bs'.length ≤ bs.length + 10 * k ∧ bs' ++ (zs.drop k).flatMap (fun z => encU (max z 0).toNat) = bs ++ zs.flatMap fun z => encU (max z 0).toNat) (fun _ i _ => zs.length - (intOf i).toNat)
  case atStart => exact ⟨0, sv, bs, by omega, rfl, HE.out.below (by (repeat' (first | (with_reducible assumption) | (with_reducible exact Below.refl _ _) | (with_reducible refine below_drewN ?_ _) | (with_reducible refine Below.drew ?_) | ((with_reducible refine below_alloc' ?_ ?_ _); rotate_left; (first | exact Nat.le_refl _ | assumption | omega)) | ((with_reducible refine Below.alloc ?_ ?_ _); rotate_left; (first | omega | (simp <;> omega))) | ((with_reducible refine Below.setCell ?_ ?_ _); rotate_left; (first | omega | (simp <;> omega)))))), Mod.refl _ _, Moved.refl _ _, by omega, rfl⟩
  case round =>
    obtain ⟨k, sv', bs', hk, rfl, Er, Mr, Vr, hlr, heq⟩ := hrel
    have HQ := hid heq
    clear heq
    by_cases hlt : k < zs.length
    · have c0 : ∃ b off, la = some ⟨b, off, none⟩ ∧ wr.cell? ⟨b, off + k, none⟩ = some (.int .i64 zs[k]) := by
        obtain ⟨b, off, h1, h2⟩ := HZ.out k hlt
        obtain ⟨n1, n2⟩ := HN.out (by omega) _ h1
        refine ⟨b, off, h1, ?_⟩
        rw [← h2]
        have hb := World.block_lt_of_cell? w _ h2
        have := Mr.block b hb (fun hx => by rcases hx with hx | hx; exact n1 hx; exact n2 hx)
        unfold World.cell?
        rw [show (⟨b, off + k, none⟩ : Addr).block = b from rfl, this]
      obtain ⟨b, off, rfl, c0⟩ := c0
      have hkl : (k : Int) < (zs.length : Int) := by omega
      have hk0 : (0 : Int) ≤ (k : Int) := by omega
      have hv1 := HW.out zs[k] (List.getElem_mem _)
      have hd : zs.drop k = zs[k] :: zs.drop (k + 1) := List.drop_eq_getElem_cons hlt
      generalize zs[k] = v at *
      obtain ⟨m, hm⟩ : ∃ m, max v 0 = m := ⟨_, rfl⟩
      have hm0 : 0 ≤ m := by omega
      have hm1 : m ≤ 9223372036854775807 := by omega
      have HD := hid hd
      have HM := hid hm
      clear hd hm hv1
      go_wp2_with (refine wpList_val (o := ⟨some 15, _, _, _, _, _⟩) rfl (.int .i64 m) ?hrun ?_)
      case hrun =>
        have := HM.out
        by_cases hh : v ≤ 0
        · have e1 : m = 0 := by omega
          subst e1; simp [go_sem]; omega
        · have e1 : m = v := by omega
          subst e1; simp [go_sem]; omega
      go_wp2_with fail
      refine calls_gen (fun w1 => IsE w1 e sv' bs' ∧ Blk w1 wr.heap.size 34 [.int .u64 m] ∧ Mod (EFp e sv) w w1 ∧ wr.heap.size ≤ w1.heap.size) ⟨Er.below (by (repeat' (first | (with_reducible assumption) | (with_reducible exact Below.refl _ _) | (with_reducible refine below_drewN ?_ _) | (with_reducible refine Below.drew ?_) | ((with_reducible refine below_alloc' ?_ ?_ _); rotate_left; (first | exact Nat.le_refl _ | assumption | omega)) | ((with_reducible refine Below.alloc ?_ ?_ _); rotate_left; (first | omega | (simp <;> omega))) | ((with_reducible refine Below.setCell ?_ ?_ _); rotate_left; (first | omega | (simp <;> omega)))))), by (repeat' (first | (with_reducible assumption) | (with_reducible apply Blk.drewN) | (with_reducible apply Blk.drew) | ((with_reducible apply Blk.new'); (first | rfl | (simp <;> omega))) | (with_reducible apply Blk.set') | (with_reducible apply Blk.ne) | (with_reducible apply Blk.alloc) | rfl | omega | (simp <;> omega))), Mr.alloc _, by simp⟩ ?_
      rintro w1 ⟨E1, B1, M1, hs1⟩
      have hg0 : wr.heap.size ≠ e := by have := Er.blk.lt; omega
      have hg1 := Er.new (Nat.le_refl _)
      generalize wr.heap.size = g at *
      refine (encU_one w1 e sv' bs' g _ m E1 B1 hm0 (by omega) hg0 hg1 (by omega)).mono ?_; rintro r w2 ⟨rfl, sv2, E2, M2, V2⟩
      go_wp2_with fail
      go_roundw
      case rel =>
        refine ⟨k + 1, sv2, _, by omega, by go_num, E2, M1.moved M2 Vr, Vr.trans V2 M1.size, ?_, ?_⟩
        · have := encU_len m.toNat (by omega); simp; omega
        · have e1 := HQ.out
          rw [HD.out, List.flatMap_cons, HM.out] at e1
          rw [← e1]; simp
      case measure => (simp [intOf] <;> omega)
    · obtain rfl : k = zs.length := by omega
      go_wp2_with fail
      go_ret
      refine ⟨rfl, sv', ?_, Mr, Vr⟩
      have := HQ.out
      rw [List.drop_length] at this
      simp only [List.flatMap_nil, List.append_nil] at this
      rw [← this]; exact Er
end Go.Proofs.YtekioplbfoonkaaGreatDoor
namespace Go.Proofs.YtekioplbfoonkaaGreatDoor
open Go.RowKit
set_option linter.unusedVariables false
set_option maxRecDepth 100000

theorem encI_one (w : World) (e : Nat) (sv : Value) (bs : List UInt8) (g : Nat) (T : TypeId) (m : Nat) (h : IsE w e sv bs) (hg : Blk w g T [.int .i64 m]) (h1 : m ≤ 9223372036854775807) (hne : g ≠ e) (hs : sv.ownBlock ≠ some g) (hsm : bs.length + 10 ≤ 1048576) :
    Calls Tryz.prog 61 #[.pointer (some ⟨e, 0, none⟩), .slice (some ⟨g, 0, none⟩) 1 1] w
      fun r w' => r = .returned (.pointer (some ⟨e, 0, none⟩)) ∧ ∃ sv', IsE w' e sv' (bs ++ encU m) ∧ Mod (EFp e sv) w w' ∧ Moved w sv sv' := by
  have := encI_any w e sv bs (some ⟨g, 0, none⟩) 1 [(m : Int)] h (Blk.ints (k := .i64) (zs := [(m : Int)]) hg) (fun z hz => by simp at hz; subst hz; omega) (fun _ x hx => by cases hx; exact ⟨hne, hs⟩) (by simpa using hsm) (by simp)
  have e1 : (max (m : Int) 0).toNat = m := by omega
  simpa [e1] using this

theorem Moved.ne' {w : World} {sv sv' : Value} (V : Moved w sv sv') {b : Nat} (hlt : b < w.heap.size) (hne : sv.ownBlock ≠ some b) : sv'.ownBlock ≠ some b := fun h => by
  rcases V b h with h1 | h1
  · exact hne h1
  · omega
theorem IntsAt.mod {k : IntKind} {w w' : World} {a : Option Addr} {zs : List Int} {S : Nat → Prop} (h : IntsAt k w a zs) (hm : Mod S w w') (hne : 0 < zs.length → ∀ x, a = some x → ¬ S x.block) : IntsAt k w' a zs := fun i hi => by
  obtain ⟨b, off, h1, h2⟩ := h i hi
  refine ⟨b, off, h1, ?_⟩
  rw [← h2]
  have := hm.block b (World.block_lt_of_cell? w _ h2) (hne (by omega) _ h1)
  unfold World.cell?
  rw [show (⟨b, off + i, none⟩ : Addr).block = b from rfl, this]

set_option maxRecDepth 100000 in
set_option maxHeartbeats 4000000 in
theorem encList_any (w : World) (e : Nat) (sv : Value) (bs : List UInt8) (la : Option Addr) (cap : Nat) (zs : List Int) (h : IsE w e sv bs) (hz : IntsAt .i64 w la zs) (hwf : ∀ z ∈ zs, z ≤ 9223372036854775807)
    (hne : 0 < zs.length → ∀ x, la = some x → x.block ≠ e ∧ sv.ownBlock ≠ some x.block ∧ x.block < w.heap.size) (hsm : bs.length + 10 + 10 * zs.length ≤ 1048576) (hlen : zs.length ≤ 9223372036854775807) :
    Calls Tryz.prog 63 #[.pointer (some ⟨e, 0, none⟩), .slice la zs.length cap] w
      fun r w' => r = .returned (.pointer (some ⟨e, 0, none⟩)) ∧ ∃ sv', IsE w' e sv' (bs ++ encU zs.length ++ zs.flatMap fun z => encU (max z 0).toNat) ∧ Mod (EFp e sv) w w' ∧ Moved w sv sv' := by
  have HE := hid h
  have HZ := hid hz
  have HW := hid hwf
  have HN := hid hne
  clear h hz hwf hne
  go_enter Tryz.func63, Tryz.ntmps63
  go_wp2_with fail
  refine calls_gen (fun w1 => IsE w1 e sv bs ∧ Blk w1 w.heap.size 3 [.int .i64 (zs.length : Nat)] ∧ IntsAt .i64 w1 la zs ∧ Mod (EFp e sv) w w1) ⟨HE.out.below (by (repeat' (first | (with_reducible assumption) | (with_reducible exact Below.refl _ _) | (with_reducible refine below_drewN ?_ _) | (with_reducible refine Below.drew ?_) | ((with_reducible refine below_alloc' ?_ ?_ _); rotate_left; (first | exact Nat.le_refl _ | assumption | omega)) | ((with_reducible refine Below.alloc ?_ ?_ _); rotate_left; (first | omega | (simp <;> omega))) | ((with_reducible refine Below.setCell ?_ ?_ _); rotate_left; (first | omega | (simp <;> omega)))))), by (repeat' (first | (with_reducible assumption) | (with_reducible apply Blk.drewN) | (with_reducible apply Blk.drew) | ((with_reducible apply Blk.new'); (first | rfl | (simp <;> omega))) | (with_reducible apply Blk.set') | (with_reducible apply Blk.ne) | (with_reducible apply Blk.alloc) | rfl | omega | (simp <;> omega))), HZ.out.below (by (repeat' (first | (with_reducible assumption) | (with_reducible exact Below.refl _ _) | (with_reducible refine below_drewN ?_ _) | (with_reducible refine Below.drew ?_) | ((with_reducible refine below_alloc' ?_ ?_ _); rotate_left; (first | exact Nat.le_refl _ | assumption | omega)) | ((with_reducible refine Below.alloc ?_ ?_ _); rotate_left; (first | omega | (simp <;> omega))) | ((with_reducible refine Below.setCell ?_ ?_ _); rotate_left; (first | omega | (simp <;> omega)))))), (Mod.refl _ _).alloc _⟩ ?_
  rintro w1 ⟨E1, B1, Z1, M1⟩
  have hg0 : w.heap.size ≠ e := by have := HE.out.blk.lt; omega
  have hg1 := HE.out.new (Nat.le_refl _)
  refine (encI_one w1 e sv bs _ _ zs.length E1 B1 hlen hg0 hg1 (by omega)).mono ?_; rintro r w2 ⟨rfl, sv2, E2, M2, V2⟩
  go_wp2_with fail
  have hw1 : w.heap.size ≤ w1.heap.size := M1.size
  have hl2 := encU_len zs.length (by omega)
  refine (encI_any w2 e sv2 _ la cap zs E2 (Z1.mod M2 (fun h0 x hx hS => by obtain ⟨n1, n2, n3⟩ := HN.out h0 x hx; rcases hS with hS | hS; exact n1 hS; exact n2 hS)) HW.out (fun h0 x hx => by obtain ⟨n1, n2, n3⟩ := HN.out h0 x hx; exact ⟨n1, V2.ne' (by omega) n2⟩) (by simp; omega) hlen).mono ?_; rintro r w3 ⟨rfl, sv3, E3, M3, V3⟩
  go_wp2_with fail
  go_ret
  exact ⟨rfl, sv3, E3, (M1.moved M2 (Moved.refl _ _)).moved M3 (fun k hk => by rcases V2 k hk with h | h; exact Or.inl h; right; omega), fun k hk => by
    rcases V3 k hk with h | h
    · rcases V2 k h with h | h
      · exact Or.inl h
      · right; omega
    · right; have := M2.size; omega⟩
end Go.Proofs.YtekioplbfoonkaaGreatDoor
namespace Go.Proofs.YtekioplbfoonkaaGreatDoor
open Go.RowKit
set_option linter.unusedVariables false
set_option maxRecDepth 100000

def StrsAt (w : World) (a : Option Addr) (ss : List ByteArray) : Prop := ∀ i (h : i < ss.length), ∃ b off, a = some ⟨b, off, none⟩ ∧ w.cell? ⟨b, off + i, none⟩ = some (.string ss[i])
def encS (s : ByteArray) : List UInt8 := encU s.size ++ s.data.toList
theorem encU_pos (v : Nat) : 0 < (encU v).length := by simp [encU]
theorem IsE.pushes {w w' : World} {e : Nat} {sv a' : Value} {bs : List UInt8} {n : Nat} (h : IsE w e sv bs) (hB : Blk w' e 89 [sv]) (l : List UInt8) (hO : w'.ownsRow (e + 1) 5 1 a' n (Lib.byteCells bs ++ Lib.byteCells l)) (hn : n = bs.length + l.length) (hl : bs.length + l.length ≤ 1048576) :
    IsE (w'.setCell ⟨e, 0, none⟩ a') e a' (bs ++ l) := by
  subst hn
  refine ⟨hB.set' 0 _ rfl, ?_, by simpa using hl⟩
  have := own_setCell_lt hO (a := ⟨e, 0, none⟩) (Nat.lt_succ_self _) a'
  rw [byteCells_app]
  simpa using this

set_option maxRecDepth 100000 in
set_option maxHeartbeats 4000000 in
theorem encS_any (w : World) (e : Nat) (sv : Value) (bs : List UInt8) (la : Option Addr) (cap : Nat) (ss : List ByteArray) (M : Nat) (h : IsE w e sv bs) (hz : StrsAt w la ss) (hwf : ∀ s ∈ ss, s.size ≤ M)
    (hne : 0 < ss.length → ∀ x, la = some x → x.block ≠ e ∧ sv.ownBlock ≠ some x.block) (hsm : bs.length + (10 + M) * ss.length ≤ 1048576) (hM : M ≤ 100000) (hlen : ss.length ≤ 9223372036854775807) :
    Calls Tryz.prog 62 #[.pointer (some ⟨e, 0, none⟩), .slice la ss.length cap] w
      fun r w' => r = .returned (.pointer (some ⟨e, 0, none⟩)) ∧ ∃ sv', IsE w' e sv' (bs ++ ss.flatMap encS) ∧ Mod (EFp e sv) w w' ∧ Moved w sv sv' := by
  have HE := hid h
  have HZ := hid hz
  have HW := hid hwf
  have HN := hid hne
  clear h hz hwf hne
  go_enter Tryz.func62, Tryz.ntmps62
  go_wp2_with fail
  go_loopw [6, 9] (fun _ i wr => ∃ (k : Nat) (sv' : Value) (bs' : List UInt8), k ≤ ss.length ∧ i = .int .i64 k ∧ IsE wr e sv' bs' ∧ Mod (EFp e sv) w wr ∧ Moved w sv sv' ∧ bs'.length ≤ bs.length + (10 + M) * k ∧ bs' ++ (ss.drop k).flatMap encS = bs ++ ss.flatMap encS) (fun _ i _ => ss.length - (intOf i).toNat)
  case atStart => exact ⟨0, sv, bs, by omega, rfl, HE.out.below (by (repeat' (first | (with_reducible assumption) | (with_reducible exact Below.refl _ _) | (with_reducible refine below_drewN ?_ _) | (with_reducible refine Below.drew ?_) | ((with_reducible refine below_alloc' ?_ ?_ _); rotate_left; (first | exact Nat.le_refl _ | assumption | omega)) | ((with_reducible refine Below.alloc ?_ ?_ _); rotate_left; (first | omega | (simp <;> omega))) | ((with_reducible refine Below.setCell ?_ ?_ _); rotate_left; (first | omega | (simp <;> omega)))))), Mod.refl _ _, Moved.refl _ _, by omega, rfl⟩
  case round =>
    obtain ⟨k, sv', bs', hk, rfl, Er, Mr, Vr, hlr, heq⟩ := hrel
    have HQ := hid heq
    clear heq
    by_cases hlt : k < ss.length
    · have c0 : ∃ b off, la = some ⟨b, off, none⟩ ∧ wr.cell? ⟨b, off + k, none⟩ = some (.string ss[k]) := by
        obtain ⟨b, off, h1, h2⟩ := HZ.out k hlt
        obtain ⟨n1, n2⟩ := HN.out (by omega) _ h1
        refine ⟨b, off, h1, ?_⟩
        rw [← h2]
        have hb := World.block_lt_of_cell? w _ h2
        have := Mr.block b hb (fun hx => by rcases hx with hx | hx; exact n1 hx; exact n2 hx)
        unfold World.cell?
        rw [show (⟨b, off + k, none⟩ : Addr).block = b from rfl, this]
      obtain ⟨b, off, rfl, c0⟩ := c0
      have hkl : (k : Int) < (ss.length : Int) := by omega
      have hk0 : (0 : Int) ≤ (k : Int) := by omega
      have hv1 := HW.out ss[k] (List.getElem_mem _)
      have hd : ss.drop k = ss[k] :: ss.drop (k + 1) := List.drop_eq_getElem_cons hlt
      generalize ss[k] = s at *
      have HD := hid hd
      clear hd
      have hroom : (10 + M) * (k + 1) ≤ (10 + M) * ss.length := Nat.mul_le_mul_left _ hlt
      rw [Nat.mul_add, Nat.mul_one] at hroom
      have hl3 := encU_len s.size (by omega)
      have hl4 := encU_pos s.size
      go_wp2_with fail
      refine calls_gen (fun w1 => IsE w1 e sv' bs' ∧ Blk w1 wr.heap.size 3 [.int .i64 (s.size : Nat)] ∧ Mod (EFp e sv) w w1 ∧ wr.heap.size ≤ w1.heap.size) ⟨Er.below (by (repeat' (first | (with_reducible assumption) | (with_reducible exact Below.refl _ _) | (with_reducible refine below_drewN ?_ _) | (with_reducible refine Below.drew ?_) | ((with_reducible refine below_alloc' ?_ ?_ _); rotate_left; (first | exact Nat.le_refl _ | assumption | omega)) | ((with_reducible refine Below.alloc ?_ ?_ _); rotate_left; (first | omega | (simp <;> omega))) | ((with_reducible refine Below.setCell ?_ ?_ _); rotate_left; (first | omega | (simp <;> omega)))))), by (repeat' (first | (with_reducible assumption) | (with_reducible apply Blk.drewN) | (with_reducible apply Blk.drew) | ((with_reducible apply Blk.new'); (first | rfl | (simp <;> omega))) | (with_reducible apply Blk.set') | (with_reducible apply Blk.ne) | (with_reducible apply Blk.alloc) | rfl | omega | (simp <;> omega))), Mr.alloc _, by simp⟩ ?_
      rintro w1 ⟨E1, B1, M1, hs1⟩
      have hg0 : wr.heap.size ≠ e := by have := Er.blk.lt; omega
      have hg1 := Er.new (Nat.le_refl _)
      generalize wr.heap.size = g at *
      refine (encI_one w1 e sv' bs' g _ s.size E1 B1 (by omega) hg0 hg1 (by omega)).mono ?_; rintro r w2 ⟨rfl, sv2, E2, M2, V2⟩
      replace M2 := M1.moved M2 Vr
      replace V2 := Vr.trans V2 M1.size
      have hl5 : (bs' ++ encU s.size).length = bs'.length + (encU s.size).length := by simp
      obtain ⟨bs2, hb2⟩ : ∃ x, bs' ++ encU s.size = x := ⟨_, rfl⟩
      rw [hb2] at E2 hl5
      have HB2 := hid hb2
      clear hb2
      have c1 := E2.blk.cell 0 rfl
      have f1 := E2.blk.frozen 0
      have HE2 := hid E2
      clear E2
      go_wp2_with (at_builtin; refine wpList_appSrc (w := w2) slByte rfl (.tmp 22) (.tmp 23) rfl (e + 1) sv2 bs2.length s.size (Lib.byteCells bs2) (Lib.byteCells s.data.toList) (.string s) rfl rfl ?hown ?h0 ?hs ?hb ?hn ?hbase ?_)
      case hown => exact HE2.out.row
      case h0 => omega
      case hs => exact Src.ofString w2 Tryz.underlying9 s
      case hb => omega
      case hn => omega
      case hbase => have := HE2.out.blk.lt; omega
      intro v' w3 O3 G3 V3
      obtain ⟨a2, cap2, rfl, _, _⟩ := own_shape O3
      have B3 := HE2.out.blk.grown_own G3 HE2.out.row (Nat.lt_succ_self _)
      have q3 := B3.cell 0 rfl
      have z3 := B3.frozen 0
      have ML : Mod (EFp e sv2) w2 w3 := (Mod.refl _ w2).grown G3 (fun k hk _ => Or.inr hk)
      clear c1 f1
      go_wp2_with fail
      go_roundw
      case rel =>
        have hsl : s.data.toList.length = s.size := by rw [Array.length_toList]; rfl
        refine ⟨k + 1, _, _, by omega, by go_num, HE2.out.pushes B3 s.data.toList O3 (by rw [hsl]; omega) (by rw [hsl]; omega), M2.moved (ML.setCell (fun _ => Or.inl rfl) _) V2, V2.trans V3 M2.size, ?_, ?_⟩
        · rw [List.length_append, hsl, Nat.mul_add, Nat.mul_one]; omega
        · have e1 := HQ.out
          rw [HD.out, List.flatMap_cons, encS] at e1
          rw [← e1, ← HB2.out]; simp
      case measure => (simp [intOf] <;> omega)
    · obtain rfl : k = ss.length := by omega
      go_wp2_with fail
      go_ret
      refine ⟨rfl, sv', ?_, Mr, Vr⟩
      have := HQ.out
      rw [List.drop_length] at this
      simp only [List.flatMap_nil, List.append_nil] at this
      rw [← this]; exact Er
end Go.Proofs.YtekioplbfoonkaaGreatDoor
namespace Go.Proofs.YtekioplbfoonkaaGreatDoor
open Go.RowKit
set_option linter.unusedVariables false
set_option maxRecDepth 100000

/-- block d is a decoder: of the text s it stands at place p; its error is r. -/
def IsD (w : World) (d : Nat) (s : ByteArray) (p r : Int) : Prop := Blk w d 210 [.string s, .int .i64 p, .int .i64 r]

def At (d k : Nat) : Prop := k = d
theorem Mod.at_ {d : Nat} {a b : World} (h : Mod (At d) a b) (i : Nat) (u : Value) : Mod (At d) a (b.setCell ⟨d, i, none⟩ u) := Mod.setCell (S := At d) (p := ⟨d, i, none⟩) h (fun _ => rfl) u
theorem from_any (w : World) (s : ByteArray) :
    Calls Tryz.prog 65 #[.string s] w fun e w' => e = .returned (.pointer (some ⟨w.heap.size, 0, none⟩)) ∧ IsD w' w.heap.size s 0 0 ∧ Below w.heap.size w w' ∧ w'.heap.size = w.heap.size + 1 := by
  go_enter Tryz.func65, Tryz.ntmps65
  go_wp2
  go_ret
  exact ⟨rfl, Blk.new w _ _, by (repeat' (first | (with_reducible assumption) | (with_reducible exact Below.refl _ _) | (with_reducible refine below_drewN ?_ _) | (with_reducible refine Below.drew ?_) | ((with_reducible refine below_alloc' ?_ ?_ _); rotate_left; (first | exact Nat.le_refl _ | assumption | omega)) | ((with_reducible refine Below.alloc ?_ ?_ _); rotate_left; (first | omega | (simp <;> omega))) | ((with_reducible refine Below.setCell ?_ ?_ _); rotate_left; (first | omega | (simp <;> omega))))), by simp⟩
/-- Fail where there is no error yet. -/
theorem fail_first (w : World) (d : Nat) (s : ByteArray) (p r : Int) (h : IsD w d s p 0) :
    Calls Tryz.prog 70 #[.pointer (some ⟨d, 0, none⟩), .int .i64 r] w fun e w' => e = .returned (.tuple #[]) ∧ IsD w' d s p r ∧ Mod (At d) w w' := by
  have c := h.cell 2 rfl
  have f := h.frozen 2
  have H := hid h
  clear h
  go_enter Tryz.func70, Tryz.ntmps70
  go_wp2
  go_returns
  exact ⟨rfl, H.out.set' 2 _ rfl, (Mod.refl _ _).at_ _ _⟩
theorem next_end (w : World) (d : Nat) (s : ByteArray) (p : Int) (h : IsD w d s p 0) (hp : (s.size : Int) ≤ p) :
    Calls Tryz.prog 129 #[.pointer (some ⟨d, 0, none⟩)] w fun e w' => e = .returned (.tuple #[.int .u8 0, .bool false]) ∧ IsD w' d s p 2 ∧ Mod (At d) w w' := by
  have c0 := h.cell 0 rfl
  have c1 := h.cell 1 rfl
  have c2 := h.cell 2 rfl
  have f := h.frozen 2
  have H := hid h
  clear h
  go_enter Tryz.func129, Tryz.ntmps129
  go_wp2_with fail
  go_quiet (fail)
  go_wp2_with fail
  refine bodyPost_ret (v := .tuple #[.int .u8 0, .bool false]) (by simp [results, Tryz.results129, go_sem]) rfl ⟨rfl, H.out.set' 2 _ rfl, ((Mod.refl _ _).drewN _).at_ _ _⟩
theorem next_err (w : World) (d : Nat) (s : ByteArray) (p r : Int) (h : IsD w d s p r) (hr : r ≠ 0) :
    Calls Tryz.prog 129 #[.pointer (some ⟨d, 0, none⟩)] w (Ret (.tuple #[.int .u8 0, .bool false]) w) := by
  have c0 := h.cell 0 rfl
  have c1 := h.cell 1 rfl
  have c2 := h.cell 2 rfl
  have hr' : (r == 0) = false := by simp [hr]
  clear h
  go_enter Tryz.func129, Tryz.ntmps129
  go_wp2_with fail
  go_quiet (fail)
  go_wp2_with fail
  refine bodyPost_ret (v := .tuple #[.int .u8 0, .bool false]) (by simp [results, Tryz.results129, go_sem]) rfl ⟨rfl, _, rfl⟩
theorem next_some (w : World) (d : Nat) (s : ByteArray) (p : Nat) (h : IsD w d s p 0) (hp : p < s.size) (hs : s.size ≤ 9223372036854775807) :
    Calls Tryz.prog 129 #[.pointer (some ⟨d, 0, none⟩)] w fun e w' => e = .returned (.tuple #[.int .u8 (s[p].toNat : Int), .bool true]) ∧ IsD w' d s ((p + 1 : Nat) : Int) 0 ∧ Mod (At d) w w' := by
  have c0 := h.cell 0 rfl
  have c1 := h.cell 1 rfl
  have c2 := h.cell 2 rfl
  have f := h.frozen 1
  have H := hid h
  clear h
  have hp' : (p : Int) < (s.size : Int) := by omega
  go_enter Tryz.func129, Tryz.ntmps129
  go_wp2_with fail
  go_quiet (fail)
  go_wp2_with fail
  clear c0 c1 c2 f
  refine wp_gen (fun w1 => IsD w1 d s ((p : Int) + 1) 0 ∧ Mod (At d) w w1) ⟨H.out.set' 1 _ rfl, ((Mod.refl _ _).drewN _).at_ _ _⟩ ?_
  rintro w1 ⟨D1, M1⟩
  have c0 := D1.cell 0 rfl
  have c1 := D1.cell 1 rfl
  have e0 : ((p : Int) + 1 - 1) = p := by omega
  have hi0 : (0 : Int) ≤ (p : Int) := by omega
  go_quiet (fail)
  go_wp2_with fail
  refine bodyPost_ret (v := .tuple #[.int .u8 (s[p].toNat : Int), .bool true]) (by simp [results, Tryz.results129, go_sem]) rfl ⟨rfl, ?_, M1.drewN _⟩
  have e1 : ((p + 1 : Nat) : Int) = (p : Int) + 1 := by omega
  rw [e1]; exact D1
end Go.Proofs.YtekioplbfoonkaaGreatDoor
