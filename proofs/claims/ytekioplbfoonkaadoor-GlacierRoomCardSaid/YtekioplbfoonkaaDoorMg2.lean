/- Contracts of package wire: what is written. Contract of Enc.U. -/
import Derived.Test.YtekioplbfoonkaaDoorMg1
import Derived.Laws.IdiomStrings
import Derived.Lib.BufferRead
import Derived.Test.YtekioplbfoonkaaDoorLen64
import Derived.Laws.Bits64b
import Derived.Laws.Bits128
import Derived.Laws.BitsAllLaws
namespace Go.Proofs.YtekioplbfoonkaaDoor
open Go.RowKit
set_option linter.unusedVariables false
set_option maxRecDepth 100000
set_option maxHeartbeats 400000

theorem byteCells_one (l : List UInt8) : ∀ u ∈ Lib.byteCells l, u.oneCell' = true := by
  intro u hu
  simp only [Lib.byteCells, List.mem_map] at hu
  obtain ⟨b, _, rfl⟩ := hu
  rfl
theorem byteCells_len (l : List UInt8) : (Lib.byteCells l).length = l.length := by simp [Lib.byteCells]
theorem byteCells_app (a b : List UInt8) : Lib.byteCells (a ++ b) = Lib.byteCells a ++ Lib.byteCells b := by simp [Lib.byteCells]
theorem slByte : SliceT Tryd.prog 44 5 1 1 := ⟨Tryd.underlying44, ⟨_, _, rfl, rfl, rfl, rfl, rfl⟩, by decide⟩

/-- block e is an encoder; what it has gathered is bs; it lies in the slice sv. -/
structure IsE (w : World) (e : Nat) (sv : Value) (bs : List UInt8) : Prop where
  blk : Blk w e 46 [sv]
  row : w.ownsRow (e + 1) 5 1 sv bs.length (Lib.byteCells bs)
  small : bs.length ≤ 1048576
/-- what an encoder lies in. -/
def EFp (e : Nat) (sv : Value) (k : Nat) : Prop := k = e ∨ sv.ownBlock = some k
section
variable {w : World} {e : Nat} {sv : Value} {bs : List UInt8}
theorem IsE.below {w' : World} (h : IsE w e sv bs) (hb : Below w.heap.size w w') : IsE w' e sv bs := ⟨h.blk.below hb h.blk.lt, own_below h.row hb, h.small⟩
theorem IsE.mod {w' : World} {S : Nat → Prop} (h : IsE w e sv bs) (hm : Mod S w w') (h1 : ¬ S e) (h2 : ∀ k, sv.ownBlock = some k → ¬ S k) : IsE w' e sv bs := ⟨h.blk.mod hm h1, own_mod h.row hm h2, h.small⟩
theorem IsE.fp (h : IsE w e sv bs) (k : Nat) (hk : EFp e sv k) : e ≤ k := by
  rcases hk with rfl | hk
  · exact Nat.le_refl _
  · have := h.row.lt _ hk; omega
theorem IsE.new (h : IsE w e sv bs) {b : Nat} (hb : w.heap.size ≤ b) : sv.ownBlock ≠ some b := fun x => by have := h.row.lt b x; omega
theorem IsE.zero (w : World) : IsE (w.alloc (.cells #[.slice none 0 0] 46)) w.heap.size (.slice none 0 0) [] := ⟨Blk.new w _ _, World.ownsRow_nil _ _ _ _, by simp⟩
theorem belowE {B : Nat} {w0 w' : World} (h0 : Below B w0 w) (h : IsE w e sv bs) (hm : Mod (EFp e sv) w w') (hB : B ≤ e) (hB2 : B ≤ w0.heap.size) : Below B w0 w' :=
  Mod.thenMod h0 hm (fun k _ hk => Nat.le_trans hB (h.fp k hk)) hB2
theorem Blk.enc {w' : World} {b : Nat} {T : TypeId} {cs : List Value} (h : Blk w b T cs) (hm : Mod (EFp e sv) w w') (h1 : e ≠ b) (h2 : sv.ownBlock ≠ some b) : Blk w' b T cs :=
  h.mod hm (fun hx => by rcases hx with hx | hx; exact h1 hx.symm; exact h2 hx)
/-- two encoders: the one stays where the other is written. -/
theorem IsE.other {w' : World} {f : Nat} {sw : Value} {cs : List UInt8} (h : IsE w e sv bs) (hm : Mod (EFp f sw) w w') (h1 : e ≠ f) (h2 : sw.ownBlock ≠ some e) (h3 : sv.ownBlock ≠ some f) (h4 : ∀ k, sv.ownBlock = some k → sw.ownBlock ≠ some k) : IsE w' e sv bs :=
  h.mod hm (fun hx => by rcases hx with hx | hx; exact h1 hx; exact h2 hx) (fun k hk hx => by rcases hx with hx | hx; exact h3 (by rw [hk, hx]); exact h4 k hk hx)
theorem IsE.str (h : IsE w e sv bs) : (convert 44 9 sv).run Tryd.prog w = .ok (.string ⟨bs.toArray⟩) w := by
  rcases h.row.2 with ⟨hv, h0⟩ | ⟨g, cap, cur, hv, _, hh, _, _, _, ht⟩
  · have : bs = [] := List.eq_nil_of_length_eq_zero h0
    subst this; subst hv
    exact Lib.run_convert_nil_bytes w _ _ 5 0 Tryd.underlying44 Tryd.underlying5 Tryd.underlying9
  · subst hv
    exact run_convert_bytes_back w _ _ 5 _ cap bs Tryd.underlying44 Tryd.underlying5 Tryd.underlying9 (Lib.bytes_of_row hh (by rw [Nat.mul_one] at ht; exact ht))
end

theorem bytes_any (w : World) (e : Nat) (sv : Value) (bs : List UInt8) (h : IsE w e sv bs) :
    Calls Tryd.prog 12 #[.pointer (some ⟨e, 0, none⟩)] w (Ret (.string ⟨bs.toArray⟩) w) := by
  have hc := h.blk.cell 0 rfl
  have hs := h.str
  clear h
  go_enter Tryd.func12, Tryd.ntmps12
  go_wp2
  go_ret
  exact ⟨rfl, 0, rfl⟩
end Go.Proofs.YtekioplbfoonkaaDoor
namespace Go.Proofs.YtekioplbfoonkaaDoor
open Go.RowKit
set_option linter.unusedVariables false
set_option maxRecDepth 100000

def hiB (v k : Nat) : UInt8 := UInt8.ofNat (v / 2 ^ (7 * k) % 128 + 128)
def encHi (v : Nat) : Nat → List UInt8
  | 0 => []
  | k + 1 => hiB v (k + 1) :: encHi v k
def grp (v : Nat) : Nat := (Lib.bitLen (v ||| 1) - 1) / 7
def encU (v : Nat) : List UInt8 := encHi v (grp v) ++ [UInt8.ofNat (v % 128)]
theorem or1_eq (v : Nat) (h : v < 18446744073709551616) : bits BinOp.or IntKind.u64 (v : Int) 1 = ((v ||| 1 : Nat) : Int) := bits_or_u64_nat v 1 h (by omega)
theorem or128_fin : ∀ y : Fin 256, bits .or .u8 (y.val : Int) 128 = ((y.val % 128 + 128 : Nat) : Int) := by decide +kernel
theorem andnot128_fin : ∀ y : Fin 256, bits .andNot .u8 (y.val : Int) 128 = ((y.val % 128 : Nat) : Int) := by decide +kernel
theorem hiB_val (v i : Nat) : bits BinOp.or IntKind.u8 (IntKind.u8.wrap ((v : Int) / 2 ^ (7 * ((i : Int) + 1)).toNat)) 128 = ((hiB v (i + 1)).toNat : Int) := by
  have h1 : (7 * ((i : Int) + 1)).toNat = 7 * (i + 1) := by omega
  have h2 : (v : Int) / 2 ^ (7 * (i + 1)) = ((v / 2 ^ (7 * (i + 1)) : Nat) : Int) := by simp
  rw [h1, h2, IntKind.wrap_u8]
  generalize hy : v / 2 ^ (7 * (i + 1)) = y
  have h3 : (y : Int) % 256 = ((y % 256 : Nat) : Int) := by simp
  rw [h3, or128_fin ⟨y % 256, Nat.mod_lt _ (by omega)⟩]
  unfold hiB
  rw [hy, UInt8.toNat_ofNat']
  congr 1
  show y % 256 % 128 + 128 = (y % 128 + 128) % 2 ^ 8
  omega
theorem loB_val (v : Nat) : bits BinOp.andNot IntKind.u8 ((v : Int) % 256) 128 = ((UInt8.ofNat (v % 128)).toNat : Int) := by
  have h3 : (v : Int) % 256 = ((v % 256 : Nat) : Int) := by simp
  rw [h3, andnot128_fin ⟨v % 256, Nat.mod_lt _ (by omega)⟩, UInt8.toNat_ofNat']
  congr 1
  show v % 256 % 128 = (v % 128) % 2 ^ 8
  omega
theorem encHi_len (v : Nat) : ∀ k, (encHi v k).length = k
  | 0 => rfl
  | k + 1 => by simp [encHi, encHi_len v k]
theorem encU_len (v : Nat) (h : v < 18446744073709551616) : (encU v).length ≤ 10 := by
  have hor : (v ||| 1) < 18446744073709551616 := Nat.or_lt_two_pow (n := 64) (by omega) (by omega)
  have hbl : Lib.bitLen (v ||| 1) ≤ 64 := Lib.bitLen_le _ 64 (Nat.le_refl _) hor
  unfold encU grp
  rw [List.length_append, encHi_len]
  simp only [List.length_singleton]
  omega
theorem IsE.push {w w' : World} {e : Nat} {sv a' : Value} {bs : List UInt8} {x : Value} (h : IsE w e sv bs) (hB : Blk w' e 46 [sv]) (hO : w'.ownsRow (e + 1) 5 1 a' (bs.length + 1) (Lib.byteCells bs ++ [x])) (b : UInt8) (hx : x = .int .u8 (b.toNat : Int)) (hl : bs.length < 1048576) :
    IsE (w'.setCell ⟨e, 0, none⟩ a') e a' (bs ++ [b]) := by
  refine ⟨hB.set' 0 _ rfl, ?_, by simp; omega⟩
  have := own_setCell_lt hO (a := ⟨e, 0, none⟩) (Nat.lt_succ_self _) a'
  rw [byteCells_app]
  subst hx
  simpa [Lib.byteCells] using this
theorem Mod.moved {e : Nat} {w w1 w2 : World} {sv sv2 : Value} (h : Mod (EFp e sv) w w1) (k : Mod (EFp e sv2) w1 w2) (V : Moved w sv sv2) : Mod (EFp e sv) w w2 :=
  h.trans k (fun i hi hx => by
    rcases hx with hx | hx
    · exact Or.inl hx
    · rcases V i hx with h | h
      · exact Or.inr h
      · omega)

section
variable {P : Program} {w : World} {a : Act} {o : Oper} {Q : Exit → Act → World → Prop} {ops : Array Oper} {rest : List Oper}
theorem wpList_app1m {t e : TypeId} {size bytes : Nat} (T : SliceT P t e size bytes) (hgd : o.guard = none) (s x : Operand)
    (ho : o.op = .call { callee := .builtin .append, args := #[s, x], argTypes := #[t, t] })
    (base : Nat) (v : Value) (n : Nat) (xs news : List Value) (hs : a.eval s = v) (hown : w.ownsRow base e size v n xs)
    {g : Nat} (hx : a.eval x = .slice (some ⟨g, 0, none⟩) 1 1) (hgs : g = w.heap.size) (hl : news.length = size) (h1 : ∀ u ∈ news, u.oneCell' = true)
    (hb : (n + 1) * bytes ≤ 140737488355328) (hn : n + 1 ≤ 140737488355328) (hbase : base ≤ w.heap.size)
    (h : ∀ v' w', w'.ownsRow base e size v' (n + 1) (xs ++ news) → w.grownBy w' v.ownBlock → v' ≠ .slice none 0 0 → Moved w v v' → wpList P ops Q rest (a.put o.dst v') w') :
    wpList P ops Q (o :: rest) a (w.alloc (.cells news.toArray e)) :=
  wpList_plain hgd fun _ hK => wp_app1m T s x ho base v n xs news hs hown hx hgs hl h1 hb hn hbase fun v' w' h2 h3 h4 h5 => hK _ _ (h v' w' h2 h3 h4 h5)
end

set_option maxRecDepth 100000 in
set_option maxHeartbeats 4000000 in
theorem encU_any (w : World) (e : Nat) (sv : Value) (bs : List UInt8) (la : Option Addr) (cap : Nat) (zs : List Int) (h : IsE w e sv bs) (hz : IntsAt .u64 w la zs) (hwf : ∀ z ∈ zs, 0 ≤ z ∧ z ≤ 18446744073709551615)
    (hne : 0 < zs.length → ∀ x, la = some x → x.block ≠ e ∧ sv.ownBlock ≠ some x.block) (hsm : bs.length + 10 * zs.length ≤ 1048576) (hlen : zs.length ≤ 9223372036854775807) :
    Calls Tryd.prog 11 #[.pointer (some ⟨e, 0, none⟩), .slice la zs.length cap] w
      fun r w' => r = .returned (.pointer (some ⟨e, 0, none⟩)) ∧ ∃ sv', IsE w' e sv' (bs ++ zs.flatMap fun z => encU z.toNat) ∧ Mod (EFp e sv) w w' ∧ Moved w sv sv' := by
  have HE := hid h
  have HZ := hid hz
  have HW := hid hwf
  have HN := hid hne
  clear h hz hwf hne
  go_enter Tryd.func11, Tryd.ntmps11
  go_wp2_with fail
  go_loopw [6, 7, 10] (fun _ _ i wr => ∃ (k : Nat) (sv' : Value) (bs' : List UInt8), k ≤ zs.length ∧ i = .int .i64 k ∧ IsE wr e sv' bs' ∧ Mod (EFp e sv) w wr ∧ Moved w sv sv' ∧ bs'.length ≤ bs.length + 10 * k ∧ bs' ++ (zs.drop k).flatMap (fun z => encU z.toNat) = bs ++ zs.flatMap fun z => encU z.toNat) (fun _ _ i _ => zs.length - (intOf i).toNat)
  case atStart => exact ⟨0, sv, bs, by omega, rfl, HE.out.below (by (repeat' (first | (with_reducible assumption) | (with_reducible exact Below.refl _ _) | (with_reducible refine below_drewN ?_ _) | (with_reducible refine Below.drew ?_) | ((with_reducible refine below_alloc' ?_ ?_ _); rotate_left; (first | exact Nat.le_refl _ | assumption | omega)) | ((with_reducible refine Below.alloc ?_ ?_ _); rotate_left; (first | omega | (simp <;> omega))) | ((with_reducible refine Below.setCell ?_ ?_ _); rotate_left; (first | omega | (simp <;> omega)))))), Mod.refl _ _, Moved.refl _ _, by omega, rfl⟩
  case round =>
    obtain ⟨k, sv', bs', hk, rfl, Er, Mr, Vr, hlr, heq⟩ := hrel
    have HQ := hid heq
    clear heq
    by_cases hlt : k < zs.length
    · have c0 : ∃ b off, la = some ⟨b, off, none⟩ ∧ wr.cell? ⟨b, off + k, none⟩ = some (.int .u64 zs[k]) := by
        obtain ⟨b, off, h1, h2⟩ := HZ.out k hlt
        obtain ⟨n1, n2⟩ := HN.out (by omega) _ h1
        refine ⟨b, off, h1, ?_⟩
        rw [← h2]
        have hb := World.block_lt_of_cell? w _ h2
        have := Mr.block b hb (fun hx => by rcases hx with hx | hx; exact n1 hx; exact n2 hx)
        unfold World.cell?
        rw [show (⟨b, off + k, none⟩ : Addr).block = b from rfl, this]
      obtain ⟨b, off, rfl, c0⟩ := c0
      have hkl : (k : Int) < (zs.length : Int) := by omega
      have hk0 : (0 : Int) ≤ (k : Int) := by omega
      obtain ⟨hv0, hv1⟩ := HW.out zs[k] (List.getElem_mem _)
      have hd : zs.drop k = zs[k] :: zs.drop (k + 1) := List.drop_eq_getElem_cons hlt
      generalize zs[k] = v at *
      obtain ⟨v, rfl⟩ := Int.eq_ofNat_of_zero_le hv0
      have HD := hid hd
      clear hd
      have hor : (v ||| 1) < 18446744073709551616 := Nat.or_lt_two_pow (n := 64) (by omega) (by omega)
      have hbl : Lib.bitLen (v ||| 1) ≤ 64 := Lib.bitLen_le _ 64 (Nat.le_refl _) hor
      obtain ⟨G, hG⟩ : ∃ G, (Lib.bitLen (v ||| 1) - 1) / 7 = G := ⟨_, rfl⟩
      have HG := hid hG
      obtain ⟨B, hB⟩ : ∃ B, Lib.bitLen (v ||| 1) = B := ⟨_, rfl⟩
      rw [hB] at hG hbl
      have hB1 : 1 ≤ B := by
        rw [← hB]
        have h0 : v ||| 1 ≠ 0 := by intro h; have := Nat.right_le_or (n := v) (m := 1); omega
        rw [Lib.bitLen_half _ h0 (by omega)]; omega
      have HB := hid hB
      clear hB
      go_wp2_with fail
      rw [or1_eq v (by omega)]
      refine (Tryd.bits_Len64 _ _ (by omega) (by omega)).mono ?_; rintro r w3 ⟨rfl, rfl⟩
      rw [Int.toNat_natCast, HB.out]
      go_wp2_with fail
      have hG9 : G ≤ 9 := by omega
      go_loopw [7] (fun at_ wi => ∃ (j : Nat) (sv2 : Value) (bs2 : List UInt8), j ≤ G ∧ at_ = .int .i64 ((7 * j : Nat) : Int) ∧ IsE wi e sv2 bs2 ∧ Mod (EFp e sv) w wi ∧ Moved w sv sv2 ∧ bs2.length + j ≤ bs'.length + G ∧ bs2 ++ encHi v j = bs' ++ encHi v G) (fun at_ _ => (intOf at_).toNat)
      case atStart => exact ⟨G, sv', bs', Nat.le_refl _, by congr 1; omega, Er, Mr, Vr, Nat.le_refl _, rfl⟩
      case round =>
        clear Er Mr Vr
        obtain ⟨j, sv2, bs2, hj, rfl, E2, M2, V2, hl2, he2⟩ := hrel
        have HE2 := hid E2
        have HEQ := hid he2
        clear he2
        have c1 := E2.blk.cell 0 rfl
        have f1 := E2.blk.frozen 0
        have c1' : ∀ o, (wr.alloc o).cell? ⟨e, 0, none⟩ = some sv2 := fun o => (E2.blk.alloc o).cell 0 rfl
        clear E2
        by_cases hj0 : j = 0
        · subst hj0
          go_wp2_with (at_builtin; refine wpList_app1m (w := wr) slByte rfl (.tmp 42) (.tmp 46) rfl (e + 1) sv2 bs2.length (Lib.byteCells bs2) [.int .u8 (bits BinOp.andNot IntKind.u8 ((v : Int) % 256) 128)] rfl ?hown rfl ?hgs rfl ?h1 ?hb ?hn ?hbase ?_)
          case hown => exact HE2.out.row
          case hgs => rfl
          case h1 => intro u hu; simp at hu; subst hu; rfl
          case hb => omega
          case hn => omega
          case hbase => have := HE2.out.blk.lt; omega
          intro v' w2 O2 G2 _ V3
          obtain ⟨a2, cap2, rfl, _, _⟩ := own_shape O2
          have B2 := HE2.out.blk.grown_own G2 HE2.out.row (Nat.lt_succ_self _)
          have q2 := B2.cell 0 rfl
          have z2 := B2.frozen 0
          have ML : Mod (EFp e sv2) wr w2 := (Mod.refl _ wr).grown G2 (fun k hk _ => Or.inr hk)
          clear c1 f1 c1'
          go_wp2_with fail
          go_roundw
          case rel =>
            refine ⟨k + 1, _, _, by omega, by go_num, HE2.out.push B2 O2 (UInt8.ofNat (v % 128)) (by rw [loB_val]) (by omega), M2.moved (ML.setCell (fun _ => Or.inl rfl) _) V2, V2.trans V3 M2.size, by simp; omega, ?_⟩
            have e1 := HQ.out
            have e2 := HEQ.out
            rw [HD.out, List.flatMap_cons] at e1
            rw [← e1, Int.toNat_natCast, encU, grp, HG.out]
            simp only [encHi, List.append_nil] at e2
            rw [e2]
            simp
          case measure => (simp [intOf] <;> omega)
        · obtain ⟨i, rfl⟩ : ∃ i, j = i + 1 := ⟨j - 1, by omega⟩
          have hpos : (0 : Int) < ((7 * (i + 1) : Nat) : Int) := by omega
          go_wp2_with fail
          go_region_law (refine step_app1 (w := wr.drew) slByte (by rfl) (.tmp 28) (.tmp 34) (by rfl) (e + 1) sv2 bs2.length (Lib.byteCells bs2) _ (by rfl) (by exact HE2.out.row) (g := wr.heap.size) (by rfl) (by simp) rfl (by intro u hu; simp at hu; subst hu; rfl) (by omega) (by omega) (by have := HE2.out.blk.lt; simp; omega) ?_; intro v' w2 O2 G2 _ V3; obtain ⟨a2, cap2, rfl, _, _⟩ := own_shape O2; have q2 := (HE2.out.blk.drew.grown_own G2 HE2.out.row (Nat.lt_succ_self _)).cell 0 rfl; have z2 := (HE2.out.blk.drew.grown_own G2 HE2.out.row (Nat.lt_succ_self _)).frozen 0)
          all_goals
            have B2 := HE2.out.blk.drew.grown_own G2 HE2.out.row (Nat.lt_succ_self _)
            have ML : Mod (EFp e sv2) wr w2 := ((Mod.refl _ wr).drew).grown G2 (fun k hk _ => Or.inr hk)
            clear c1 f1 c1'
            go_wp2_with fail
            go_roundw
            case rel =>
              refine ⟨i, _, _, by omega, by congr 1; omega, HE2.out.push B2 O2 (hiB v (i + 1)) (by rw [hiB_val]) (by omega), M2.moved (ML.setCell (fun _ => Or.inl rfl) _) V2, V2.trans V3 M2.size, by simp; omega, ?_⟩
              have e2 := HEQ.out
              rw [encHi] at e2
              rw [← e2]; simp
            case measure => (simp [intOf] <;> omega)
    · obtain rfl : k = zs.length := by omega
      go_wp2_with fail
      go_ret
      refine ⟨rfl, sv', ?_, Mr, Vr⟩
      have := HQ.out
      rw [List.drop_length] at this
      simp only [List.flatMap_nil, List.append_nil] at this
      rw [← this]; exact Er
end Go.Proofs.YtekioplbfoonkaaDoor
