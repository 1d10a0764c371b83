/- The document's answer for a name: digits back (number, GetHex). The document's answer for a name: GetHex. oid.Get: a name out of digits. -/
import Derived.Test.YtcomibocajjhoaaGreatDoorP9x
import Derived.Test.YtcomibocajjhoaaGreatDoorP6x
import Derived.Deep.QuietTactic
import Derived.BigQuiet
import Derived.Test.YtcomibocajjhoaaGreatDoorP4x
import Derived.Lib.SlBytesConst
namespace Go.Proofs.YtcomibocajjhoaaGreatDoor
open Go.RowKit
theorem isHexL_append (l m : List UInt8) : isHexL (l ++ m) = (isHexL l && isHexL m) := by unfold isHexL; rw [List.all_append]
theorem isHexL_no {l : List UInt8} {k : Nat} (h : k < l.length) (hx : hv (gb l k) = -1) : isHexL l = false := by
  rw [← Bool.not_eq_true]
  intro ha
  unfold isHexL at ha
  have e : gb l k = l[k] := by simp [gb, List.getD_eq_getElem?_getD, h]
  have := List.all_eq_true.1 ha _ (List.getElem_mem h)
  rw [← e, hx] at this
  simp at this
/-- A number of 64 bits, from digits. -/
def numU (l : List UInt8) : Nat := l.foldl (fun n c => (n * 16 + (hv c).toNat) % 18446744073709551616) 0
theorem numU_snoc (l : List UInt8) (c : UInt8) : numU (l ++ [c]) = (numU l * 16 + (hv c).toNat) % 18446744073709551616 := by simp [numU]
theorem numU_lt (l : List UInt8) : numU l < 18446744073709551616 := by
  rcases List.eq_nil_or_concat l with h | ⟨m, c, h⟩
  · subst h; decide
  · rw [h, List.concat_eq_append, numU_snoc]; omega
theorem gb_snoc (l : List UInt8) (k : Nat) (h : k < l.length) : l.take (k + 1) = l.take k ++ [gb l k] := by
  rw [List.take_succ_eq_append_getElem h]
  simp [gb, List.getD_eq_getElem?_getD, h]
theorem u64_wrap (z : Int) : IntKind.u64.wrap z = z % 18446744073709551616 := by simp [IntKind.wrap, IntKind.bits, IntKind.signed]
def numUR (l : List UInt8) : Nat := if isHexL l = true then numU l else 0
end Go.Proofs.YtcomibocajjhoaaGreatDoor
namespace Go.Proofs.YtcomibocajjhoaaGreatDoor
open Go.RowKit
/-- An array that is handed back, and a second result. -/
theorem res_row2 {P : Program} {fn : Func} {p q : Tmp} {ty : TypeId} (h : fn.results = #[.cell p ty, .tmp q]) (tmps : Array Value) (w : World) (g : Nat) (t : TypeId) (cs : List Value) (n : Nat) (e : TypeId)
    (hp : tmps.getD p undef = .pointer (some ⟨g, 0, none⟩)) (hg : Blk w g t cs) (hu : P.underlying ty = some (.array n e)) (hi : (P.info? ty).map (·.size) = some cs.length) :
    (results fn tmps).run P w = .ok (.tuple #[.agg cs.toArray, tmps.getD q undef]) w := by
  have hp' : tmps[p]?.getD undef = .pointer (some ⟨g, 0, none⟩) := by simpa using hp
  simp [results, h, hp', asAddr, run_loadVar_row w g t ty cs.toArray (0, 0) _ hg hu rfl (by simpa using hi)]
theorem zI_eq : (Obj.cells #[.int .u8 0, .int .u8 0, .int .u8 0, .int .u8 0, .int .u8 0, .int .u8 0, .int .u8 0, .int .u8 0, .int .u8 0, .int .u8 0, .int .u8 0, .int .u8 0, .int .u8 0, .int .u8 0, .int .u8 0, .int .u8 0, .int .u8 0, .int .u8 0, .int .u8 0, .int .u8 0, .int .u8 0, .int .u8 0, .int .u8 0, .int .u8 0, .int .u8 0, .int .u8 0, .int .u8 0, .int .u8 0, .int .u8 0, .int .u8 0, .int .u8 0, .int .u8 0] 30 : Obj) = .cells zero32.toArray 30 := rfl
/-- So many bytes of a name are in. -/
def hxSt (l : List UInt8) (k : Nat) : List UInt8 := unhex (l.take (2 * k)) ++ List.replicate (32 - k) 0
theorem hxSt_set (l : List UInt8) (k : Nat) (hl : l.length = 64) (hk : k < 32) : (hxSt l k).set k (UInt8.ofNat ((hv (gb l (2 * k))).toNat * 16 + (hv (gb l (2 * k + 1))).toNat)) = hxSt l (k + 1) := by
  have ul : (unhex (l.take (2 * k))).length = k := unhex_len k _ (by rw [List.length_take]; omega)
  unfold hxSt
  rw [show 32 - k = (32 - (k + 1)) + 1 by omega, List.replicate_succ, List.set_append_right _ _ (by omega), ul, Nat.sub_self, List.set_cons_zero]
  have e : l.take (2 * (k + 1)) = l.take (2 * k) ++ [gb l (2 * k), gb l (2 * k + 1)] := by
    rw [show 2 * (k + 1) = 2 * k + 1 + 1 by omega, gb_snoc l (2 * k + 1) (by omega), gb_snoc l (2 * k) (by omega), List.append_assoc]
    rfl
  rw [e, unhex_append k _ _ _ (by rw [List.length_take]; omega), List.append_assoc]
  rfl
theorem hxSt_zero (l : List UInt8) : Bs (hxSt l 0) = zero32 := rfl
theorem hxSt_len (l : List UInt8) (k : Nat) (hl : l.length = 64) (hk : k ≤ 32) : (hxSt l k).length = 32 := by
  unfold hxSt
  rw [List.length_append, unhex_len k _ (by rw [List.length_take]; omega), List.length_replicate]
  omega
theorem pair_at (s : ByteArray) (l : List UInt8) (hl : l = s.data.toList) (k : Nat) (h : 2 * k + 2 ≤ s.size) : (s.extract (2 * k) (2 * k + 2)).data.toList = [gb l (2 * k), gb l (2 * k + 1)] := by
  have hz : l.length = s.size := by rw [hl, ← ba_size]
  rw [ba_extract, ← hl, show 2 * k + 2 = 2 * k + 1 + 1 by omega, gb_snoc l (2 * k + 1) (by omega), gb_snoc l (2 * k) (by omega), List.append_assoc]
  exact List.drop_left' (by rw [List.length_take]; omega)
theorem idR_no {l : List UInt8} (h : isHexL l = false) : idR l = (List.replicate 32 0, false) := by
  unfold idR
  rw [if_neg (by rw [h]; simp)]
theorem idR_yes {l : List UInt8} (hl : l.length = 64) (h : isHexL l = true) : idR l = (hxSt l 32, true) := by
  unfold idR hxSt
  rw [if_pos ⟨hl, h⟩, List.take_of_length_le (by omega)]
  simp
/-- What GetHex keeps. -/
def GhIn (W : World) (l : List UInt8) (k : Nat) (wr : World) : Prop := Below W.heap.size W wr ∧ Blk wr W.heap.size 30 zero32 ∧ Blk wr (W.heap.size + 1) 30 (Bs (hxSt l k))
theorem ghIn_new (W : World) (l : List UInt8) : GhIn W l 0 ((W.alloc (.cells zero32.toArray 30)).alloc (.cells zero32.toArray 30)) := by
  have n := Blk.new (W.alloc (.cells zero32.toArray 30)) 30 zero32
  rw [hsz] at n
  exact ⟨((Below.refl _ _).alloc (Nat.le_refl _) _).alloc (by rw [hsz]; omega) _, (Blk.new W _ _).alloc _, n⟩
end Go.Proofs.YtcomibocajjhoaaGreatDoor
namespace Go.Proofs.YtcomibocajjhoaaGreatDoor
open Go.RowKit
theorem indexByte_first (x : UInt8) : ∀ (l : List UInt8) (p : Nat), (∀ j, j < p → gb l j ≠ x) → p < l.length → gb l p = x → Lib.indexByte l x = p := by
  intro l
  induction l with
  | nil => intro p _ h; simp at h
  | cons c l ih =>
    intro p h1 h2 h3
    rw [Lib.indexByte]
    cases p with
    | zero =>
      have : c = x := h3
      subst this
      simp
    | succ p =>
      have hc : c ≠ x := h1 0 (by omega)
      have hp := ih p (fun j hj => h1 (j + 1) (by omega)) (by simpa using h2) h3
      have e : (c == x) = false := by simpa using hc
      have e2 : ((p : Int) == -1) = false := by rw [beq_eq_false_iff_ne]; omega
      rw [e, hp, e2]
      simp
theorem indexByte_no (x : UInt8) : ∀ (l : List UInt8), (∀ j, j < l.length → gb l j ≠ x) → Lib.indexByte l x = -1 := by
  intro l
  induction l with
  | nil => intro _; rfl
  | cons c l ih =>
    intro h
    have hc : c ≠ x := h 0 (by simp)
    have hp := ih (fun j hj => h (j + 1) (by simpa using hj))
    have e : (c == x) = false := by simpa using hc
    rw [Lib.indexByte, e, hp]
    rfl
set_option maxRecDepth 20000 in
set_option maxHeartbeats 800000 in
/-- slices.Index among the sixteen digits. -/
theorem index_any (W : World) (g : Nat) (x : UInt8) (hb : ∀ j, j < 16 → W.cell? ⟨g, j, none⟩ = some (.int .u8 (ub (gb digitsL j)))) : Calls Tryz.prog 116 #[.slice (some ⟨g, 0, none⟩) 16 16, .int .u8 (ub x)] W fun e W' => e = .returned (.int .i64 (hv x)) ∧ W' = W := by
  have HB := Lib.hid hb
  clear hb
  go_enter Tryz.func116, Tryz.ntmps116
  go_wp2
  go_loop [8] (fun i => ∃ k : Nat, k ≤ 16 ∧ i = .int .i64 k ∧ ∀ j, j < k → gb digitsL j ≠ x) (fun i => 16 - (intOf i).toNat)
  case atStart => exact ⟨0, by omega, rfl, fun j hj => by omega⟩
  case round =>
    obtain ⟨k, hk, rfl, hne⟩ := hrel
    have HNE := Lib.hid hne
    clear hne
    by_cases hlt : k < 16
    · have l1 : (k : Int) < 16 := by omega
      have c1 := HB.out k hlt
      obtain ⟨y, hy⟩ : ∃ y, y = gb digitsL k := ⟨_, rfl⟩
      rw [← hy] at c1
      have HY := Lib.hid hy
      clear hy
      by_cases hxy : y = x
      · subst hxy
        have hv1 : hv y = (k : Int) := indexByte_first y digitsL k HNE.out hlt HY.out.symm
        go_wp2
        go_ret
        exact ⟨rfl, rfl⟩
      · have e1 : (ub x == ub y) = false := by
          rw [beq_eq_false_iff_ne]
          intro e
          exact hxy (ub_inj e).symm
        have HXY := Lib.hid hxy
        clear hxy
        go_wp2
        go_round
        case measure => simp [intOf]; omega
        case rel =>
          refine ⟨k + 1, by omega, by go_num, fun j hj => ?_⟩
          rcases Nat.lt_or_ge j k with h | h
          · exact HNE.out j h
          · obtain rfl : j = k := by omega
            rw [← HY.out]; exact HXY.out
    · have hk2 : k = 16 := by omega
      subst hk2
      have hv1 : hv x = -1 := indexByte_no x digitsL HNE.out
      go_wp2
      go_ret
      exact ⟨rfl, rfl⟩
theorem or_dig (x : UInt8) (d : Nat) (h : d < 16) : bits .or .u8 (ub x * 16 % 256) (d : Int) = ub (UInt8.ofNat (x.toNat * 16 + d)) := by
  have hh : ∀ (a : Fin 256) (b : Fin 16), bits .or .u8 (((a.val : Nat) : Int) * 16 % 256) ((b.val : Nat) : Int) = (((UInt8.ofNat (a.val * 16 + b.val)).toNat : Nat) : Int) := by decide +kernel
  exact hh ⟨x.toNat, x.toNat_lt⟩ ⟨d, h⟩
theorem zD_eq : (Obj.cells #[.int .u8 48, .int .u8 49, .int .u8 50, .int .u8 51, .int .u8 52, .int .u8 53, .int .u8 54, .int .u8 55, .int .u8 56, .int .u8 57, .int .u8 97, .int .u8 98, .int .u8 99, .int .u8 100, .int .u8 101, .int .u8 102] 5 : Obj) = .cells (Bs digitsL).toArray 5 := by kernel_rfl
theorem idSt_zero (l : List UInt8) : Bs (idSt l 0) = zero32 := rfl
theorem idSt_succ (l : List UInt8) (k : Nat) : idSt l (k + 1) = (idSt l k).set (k / 2) (UInt8.ofNat (((idSt l k).getD (k / 2) 0).toNat * 16 + (hv (gb l k)).toNat)) := rfl
attribute [local irreducible] idSt
/-- What Get keeps. -/
def GtIn (W : World) (l : List UInt8) (p k : Nat) (wr : World) : Prop := Below W.heap.size W wr ∧ Blk wr W.heap.size 30 zero32 ∧ Blk wr (W.heap.size + 1) 30 (Bs (idSt l k)) ∧ Src wr 1 (some ⟨p, 0, none⟩) 64 (Bs l) ∧ W.heap.size + 2 ≤ p ∧ p < wr.heap.size
theorem isHexL_take {l : List UInt8} {k : Nat} (h : k < l.length) : isHexL (l.take (k + 1)) = (isHexL (l.take k) && decide (0 ≤ hv (gb l k))) := by
  rw [gb_snoc l k h, isHexL_append]
  congr 1
  unfold isHexL
  simp
set_option maxRecDepth 100000 in
set_option maxHeartbeats 4000000 in
theorem idGet_any (W : World) (s : ByteArray) (l : List UInt8) (hl : l = s.data.toList) : Calls Tryz.prog 73 #[.string s] W fun e W' =>
    e = .returned (.tuple #[.agg (Bs (idR l).1).toArray, .bool (idR l).2]) ∧ Below W.heap.size W W' := by
  have HL := Lib.hid hl
  have hll : l.length = s.size := by rw [hl, ← ba_size]
  have HZ := Lib.hid hll
  have zI := zI_eq
  have zD := zD_eq
  have n1 := Blk.new (W.alloc (.cells zero32.toArray 30)) 30 zero32
  rw [hsz] at n1
  have n0 := (Blk.new W 30 zero32).alloc (.cells zero32.toArray 30)
  have l0 : Below W.heap.size W ((W.alloc (.cells zero32.toArray 30)).alloc (.cells zero32.toArray 30)) := ((Below.refl _ _).alloc (Nat.le_refl _) _).alloc (by rw [hsz]; omega) _
  clear hl hll
  by_cases h64 : s.size = 64
  · obtain ⟨c, w1, hcv, hsrc, hbw, hsz1, hc⟩ := conv_bytes ((W.alloc (.cells zero32.toArray 30)).alloc (.cells zero32.toArray 30)) s
    rw [← HL.out, h64] at hsrc
    rw [h64] at hcv hc
    have hp : ((W.alloc (.cells zero32.toArray 30)).alloc (.cells zero32.toArray 30)).heap.size = W.heap.size + 2 := by rw [hsz, hsz]
    have G0 : Hid (GtIn W l (W.heap.size + 2) 0 w1) := Lib.hid ⟨l0.trans (hbw.mono (by omega)), n0.below hbw, by rw [idSt_zero]; exact n1.below hbw, by rw [← hp]; exact hsrc, Nat.le_refl _, by omega⟩
    have C1 := Lib.hid hcv
    have e64 : (s.size : Int) = 64 := by omega
    have c64 : (64 : Int) ≤ (c : Int) := by omega
    rw [hp] at C1
    clear hsrc hbw hsz1 hcv n0 n1 l0 hp hc
    go_enter Tryz.func73, Tryz.ntmps73
    go_wp2_with (refine wpl_convw rfl 9 24 _ rfl _ rfl _ w1 C1.out ?_)
    go_loopw [15] (fun i wr => ∃ k : Nat, k ≤ 64 ∧ i = .int .i64 k ∧ isHexL (l.take k) = true ∧ GtIn W l (W.heap.size + 2) k wr) (fun i _ => 64 - (intOf i).toNat)
    case atStart => exact ⟨0, by omega, rfl, rfl, G0.out⟩
    case round =>
      obtain ⟨k, hk, rfl, hx, hI⟩ := hrel
      clear G0
      have HX := Lib.hid hx
      have HI := Lib.hid hI
      clear hx hI
      by_cases hlt : k < 64
      · have l1 : (k : Int) < 64 := by omega
        have hkl : k < l.length := by rw [HZ.out]; omega
        obtain ⟨x, hx⟩ : ∃ x, x = gb l k := ⟨_, rfl⟩
        have hcell : wr.cell? ⟨W.heap.size + 2, k, none⟩ = some (.int .u8 (ub x)) := by
          obtain ⟨ad, e, hc⟩ := HI.out.2.2.2.1.2.1 (by omega)
          obtain rfl := Option.some.inj e
          have := hc k _ (Bs_at l k hkl)
          have ha : (⟨W.heap.size + 2, 0, none⟩ : Addr).add k = ⟨W.heap.size + 2, k, none⟩ := by unfold Addr.add; split <;> simp_all
          rw [ha] at this
          rw [this, hx]
        have hex := isHexL_take hkl
        rw [HX.out, Bool.true_and, ← hx] at hex
        have hno : hv x < 0 → isHexL l = false := fun h => by
          have h1 := hv_lt x
          exact isHexL_no hkl (by rw [← hx]; omega)
        have hst : idSt l (k + 1) = (idSt l k).set (k / 2) (UInt8.ofNat (((idSt l k).getD (k / 2) 0).toNat * 16 + (hv x).toNat)) := by rw [hx]; exact idSt_succ l k
        have hlen := idSt_len l k
        have HST := Lib.hid hst
        have HEX := Lib.hid hex
        have HNO := Lib.hid hno
        have hd := hv_lt x
        obtain ⟨d, hdd⟩ : ∃ d, d = hv x := ⟨_, rfl⟩
        rw [← hdd] at hd
        have HDD := Lib.hid hdd
        obtain ⟨O, hO⟩ : ∃ O : Obj, O = .cells (Bs digitsL).toArray 5 ((Bs digitsL).toArray.size, (Bs digitsL).toArray.size + 1) := ⟨_, rfl⟩
        have hcc : (convert 24 24 (.slice (some ⟨wr.heap.size, 0, none⟩) 16 16)).run Tryz.prog (wr.alloc (.cells (Bs digitsL).toArray 5)) = .ok (.slice (some ⟨wr.heap.size, 0, none⟩) 16 16) (wr.alloc O) := by
          rw [hO]
          exact Lib.run_convert_bytes_const (P := Tryz.prog) wr 24 5 (Bs digitsL).toArray 16 16 Tryz.underlying24 (by kernel_rfl)
        have cI := index_any (wr.alloc O) wr.heap.size x (fun j hj => by
          rw [hO, World.cell?_alloc_mark]
          have := Bs_at digitsL j hj
          simpa using this)
        rw [← hdd] at cI
        clear hO
        clear hst hex hno hdd hx
        by_cases hneg : d < 0
        · have HN := Lib.hid (idR_no (HNO.out (by rw [← HDD.out]; exact hneg)))
          have HZ2 : Hid (Blk (wr.alloc O) W.heap.size 30 zero32) := Lib.hid (HI.out.2.1.alloc _)
          have LL : Hid (Below W.heap.size W (wr.alloc O)) := Lib.hid (HI.out.1.alloc HI.out.1.size _)
          go_wp2_with (first
            | (go_at_call 116; refine cI.mono ?_; rintro e w' ⟨rfl, hw⟩; replace hw := hw.symm; subst hw)
            | (refine wpl_build rfl 30 _ rfl zero32 (by kernel_rfl) ?_)
            | (refine wpl_store rfl 30 (.tmp 2) _ rfl W.heap.size zero32 rfl rfl 30 zero32 HZ2.out (by rw [Tryz.sizeId]; simp [zero32]) rfl (Bs_one _) ?_))
          refine bodyPost_ret (res_row2 rfl _ _ W.heap.size 30 zero32 32 5 rfl (HZ2.out.row _) Tryz.underlying30 (by rw [Tryz.sizeId]; simp [zero32])) rfl ?_
          exact ⟨by rw [HN.out]; rfl, below_setRow' LL.out (Nat.le_refl _) _⟩
        · obtain ⟨z, rfl⟩ : ∃ z : Nat, d = (z : Int) := ⟨d.toNat, by omega⟩
          have z16 : (z : Int) < 16 := hd.1
          obtain ⟨i, hi⟩ : ∃ i, i = k / 2 := ⟨_, rfl⟩
          have q1 : ((k : Int).tdiv 2) = (i : Int) := by rw [Int.tdiv_eq_ediv_of_nonneg (by omega)]; omega
          have q2 : ((k : Int) / 2) = (i : Int) := by omega
          have i32 : (i : Int) < 32 := by omega
          have hil : i < (idSt l k).length := by rw [hlen]; omega
          have x3 : (wr.alloc O).cell? ⟨W.heap.size + 1, i, none⟩ = some (.int .u8 (ub (gb (idSt l k) i))) := (HI.out.2.2.1.alloc _).cell i _ (Bs_at _ i hil)
          have x4 : (wr.alloc O).frozen? ⟨W.heap.size + 1, i, none⟩ = false := (HI.out.2.2.1.alloc _).frozen i
          have hset := HST.out
          have hz : (hv x).toNat = z := by rw [← HDD.out]; rfl
          rw [hz, ← hi] at hset
          have hy : (idSt l k).getD i 0 = gb (idSt l k) i := rfl
          rw [hy] at hset
          obtain ⟨y, hyy⟩ : ∃ y, y = gb (idSt l k) i := ⟨_, rfl⟩
          rw [← hyy] at x3 hset
          have ho := or_dig y z (by omega)
          have hn : UInt8.ofNat (y.toNat * 16 + z) = y * 16 + UInt8.ofNat z := by simp
          rw [hn] at hset ho
          have HSET := Lib.hid hset
          have HE2 : Hid (isHexL (l.take (k + 1)) = true) := by
            rw [HEX.out, ← HDD.out]
            exact Lib.hid (by simp)
          have HI2 : Hid (GtIn W l (W.heap.size + 2) k (wr.alloc O)) := by
            obtain ⟨h1, h2, h3, h4, h5, h6⟩ := HI.out
            exact Lib.hid ⟨h1.alloc h1.size _, h2.alloc _, h3.alloc _, src_below h4 ((Below.refl _ _).alloc (Nat.le_refl _) _), h5, by rw [hsz]; omega⟩
          clear hset hyy hi hil HST HEX HNO HI hlen hneg hd
          go_wp2_with (first
            | (go_at_call 116; refine cI.mono ?_; rintro e w' ⟨rfl, hw⟩; replace hw := hw.symm; subst hw))
          go_roundw
          case measure => simp [intOf]; omega
          case rel =>
            obtain ⟨h1, h2, h3, h4, h5, h6⟩ := HI2.out
            have h9 := h3.setCell i (.int .u8 (ub (y * 16 + UInt8.ofNat z)))
            rw [Bs_set, ← HSET.out] at h9
            refine ⟨k + 1, by omega, by go_num, HE2.out, h1.setCell (by show W.heap.size ≤ W.heap.size + 1; omega) _, h2.far (by show W.heap.size ≠ W.heap.size + 1; omega) _, h9, h4.far (fun ad e _ => by obtain rfl := Option.some.inj e; exact heap_setCell_other _ _ _ _ (by show W.heap.size + 2 ≠ W.heap.size + 1; omega)), h5, by simpa [World.setCell] using h6⟩
      · have hk' : k = 64 := by omega
        subst hk'
        have hall : l.take 64 = l := List.take_of_length_le (by rw [HZ.out]; omega)
        have hy := HX.out
        rw [hall] at hy
        have hr : idR l = (idSt l 64, true) := by
          have h1 := idSt_all l (by rw [HZ.out]; exact h64) hy
          have h2 : (idR l).2 = true := by unfold idR; rw [if_pos ⟨by rw [HZ.out]; exact h64, hy⟩]
          exact Prod.ext h1.symm h2
        have HY := Lib.hid hr
        have HLEN := Lib.hid (idSt_len l 64)
        clear hall hy hr
        go_wp2_with (first
          | (refine wpl_load rfl 30 (.tmp 4) rfl (W.heap.size + 1) rfl 30 (Bs (idSt l 64)) HI.out.2.2.1 32 5 Tryz.underlying30 (by rw [Tryz.sizeId]; simp [HLEN.out]) ?_)
          | (refine wpl_store rfl 30 (.tmp 2) _ rfl W.heap.size (Bs (idSt l 64)) rfl rfl 30 zero32 HI.out.2.1 (by rw [Tryz.sizeId]; simp [HLEN.out]) (by simp [zero32, HLEN.out]) (Bs_one _) ?_))
        refine bodyPost_ret (res_row2 rfl _ _ W.heap.size 30 (Bs (idSt l 64)) 32 5 rfl (HI.out.2.1.row _) Tryz.underlying30 (by rw [Tryz.sizeId]; simp [HLEN.out])) rfl ?_
        exact ⟨by rw [HY.out]; rfl, below_setRow' HI.out.1 (Nat.le_refl _) _⟩
  · have e64 : ((s.size : Int) != 64) = true := by
      rw [bne_iff_ne]
      omega
    have hno : idR l = (List.replicate 32 0, false) := by
      unfold idR
      rw [if_neg (by rw [HZ.out]; omega)]
    have HN := Lib.hid hno
    have HZ2 := Lib.hid n0
    have LL := Lib.hid l0
    clear hno h64 n0 n1 l0
    go_enter Tryz.func73, Tryz.ntmps73
    go_wp2_with (first
      | (refine wpl_build rfl 30 _ rfl zero32 (by kernel_rfl) ?_)
      | (refine wpl_store rfl 30 (.tmp 2) _ rfl W.heap.size zero32 rfl rfl 30 zero32 HZ2.out (by rw [Tryz.sizeId]; simp [zero32]) rfl (Bs_one _) ?_))
    refine bodyPost_ret (res_row2 rfl _ _ W.heap.size 30 zero32 32 5 rfl (HZ2.out.row _) Tryz.underlying30 (by rw [Tryz.sizeId]; simp [zero32])) rfl ?_
    exact ⟨by rw [HN.out]; rfl, below_setRow' LL.out (Nat.le_refl _) _⟩
end Go.Proofs.YtcomibocajjhoaaGreatDoor
