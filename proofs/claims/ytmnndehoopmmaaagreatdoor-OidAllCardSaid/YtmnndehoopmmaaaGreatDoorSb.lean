/- The turns of words: bits.RotateLeft32, sha.right, colporteurref1.turn. Blocks of cells: what is known of a block that the call itself owns. sha.schedule: the sixty-four words of a block. sha.first, sha.consts, colporteurref1.table: arrays that are written out; sha.mixed: one block more. -/
import Derived.Test.YtmnndehoopmmaaaGreatDoorU
import Derived.Lib.Hide
import Derived.Deep.QuietTactic
import Derived.BigQuiet
import Derived.WalkKit
import Derived.WalkSpells
import Derived.WalkLawsBesides
import Derived.Deep.WholeRow
import Derived.Laws.CopyOwn
import Derived.BigRegion
namespace Go.Proofs.YtmnndehoopmmaaaGreatDoor
open Go.RowKit
attribute [local go_sem] un_add un_and un_or un_xor un_not
theorem rot_count (n : Int) (h0 : 0 < n) (h1 : n < 32) : bits .and .u64 (IntKind.u64.wrap (-n)) 31 = 32 - n := by
  have key : ∀ k : Fin 32, 0 < k.val → bits .and .u64 (IntKind.u64.wrap (-(k.val : Int))) 31 = 32 - (k.val : Int) := by decide +kernel
  have := key ⟨n.toNat, by omega⟩ (by simp; omega)
  simpa [Int.toNat_of_nonneg (show 0 ≤ n by omega)] using this
theorem run_shl_un {P : Program} (t : TypeId) (x : BitVec 32) (k : IntKind) (c : Int) (n : Nat) (hc : c = (n : Int)) (hn : n ≤ 32) (w : World) : (binOp .shl t (.int .u32 (un x)) (.int k c)).run P w = .ok (.int .u32 (un (x <<< n))) w := by
  subst hc
  have e : binOp .shl t (.int .u32 (un x)) (.int k (n : Int)) = Op.shift .shl .u32 (un x) k (n : Int) := rfl
  rw [e, shift_shl_u32 k _ _ (by omega) (by omega), Int.toNat_natCast, un_shl]; rfl
theorem run_shr_un {P : Program} (t : TypeId) (x : BitVec 32) (k : IntKind) (c : Int) (n : Nat) (hc : c = (n : Int)) (hn : n ≤ 32) (w : World) : (binOp .shr t (.int .u32 (un x)) (.int k c)).run P w = .ok (.int .u32 (un (x >>> n))) w := by
  subst hc
  have e : binOp .shr t (.int .u32 (un x)) (.int k (n : Int)) = Op.shift .shr .u32 (un x) k (n : Int) := rfl
  rw [e, shift_shr_u32 k _ _ (by omega) (by omega), Int.toNat_natCast, un_shr]; rfl
theorem rot_val (x : BitVec 32) (n : Int) (h0 : 0 < n) (h1 : n < 32) : bits .or .u32 (un x * 2 ^ (32 - n).toNat % 4294967296) (un x / 2 ^ (32 - (32 - n)).toNat) = un (rotr x n.toNat) := by
  have e : (32 - n).toNat = 32 - n.toNat := by omega
  have e2 : (32 - (32 - n)).toNat = n.toNat := by omega
  rw [un_shlm, un_shr, un_or, e, e2]; rfl
theorem turn_val (x : BitVec 32) (n : Int) (h0 : 0 < n) (h1 : n < 32) : (un x / 2 ^ n.toNat + un x * 2 ^ (32 - n).toNat % 4294967296) % 4294967296 = un (rotr x n.toNat) := by
  have e : (32 - n).toNat = 32 - n.toNat := by omega
  rw [un_shlm, un_shr, un_addm, e, turn_sum x n.toNat (by omega) (by omega)]
set_option maxHeartbeats 400000 in
theorem rotl_any (x : BitVec 32) (n : Int) (h0 : 0 < n) (h1 : n < 32) (w : World) :
    Calls Tryz.prog 152 #[.int .u32 (un x), .int .i64 (-n)] w fun e w' => e = .returned (.int .u32 (un (rotr x n.toNat))) ∧ w = w' := by
  have HS := rot_count n h0 h1
  have HV := Lib.hid (rot_val x n h0 h1)
  go_enter Tryz.func152, Tryz.ntmps152
  go_wp2
  go_ret
  exact ⟨by rw [← HV.out]; rfl, rfl⟩
set_option maxHeartbeats 400000 in
theorem right_any (x : BitVec 32) (n : Int) (h0 : 0 < n) (h1 : n < 32) (w : World) :
    Calls Tryz.prog 115 #[.int .u32 (un x), .int .i64 n] w fun e w' => e = .returned (.int .u32 (un (rotr x n.toNat))) ∧ w = w' := by
  go_enter Tryz.func115, Tryz.ntmps115
  go_wp2_with (go_at_call 152; refine (rotl_any x n h0 h1 _).mono ?_; rintro e w' ⟨rfl, rfl⟩)
  go_ret
  exact ⟨rfl, rfl⟩
theorem turn_any (x : BitVec 32) (n : Int) (h0 : 0 < n) (h1 : n < 32) (w : World) :
    Calls Tryz.prog 151 #[.int .u32 (un x), .int .i64 n] w fun e w' => e = .returned (.int .u32 (un (rotr x n.toNat))) ∧ ∃ m, w' = w.drewN m := by
  have HV := Lib.hid (turn_val x n h0 h1)
  go_enter Tryz.func151, Tryz.ntmps151
  go_wp2
  go_quiet (fail)
  go_wp2
  go_ret
  exact ⟨by rw [← HV.out]; rfl, _, rfl⟩
end Go.Proofs.YtmnndehoopmmaaaGreatDoor
namespace Go.Proofs.YtmnndehoopmmaaaGreatDoor
open Go.RowKit
/-- Block g holds just these cells, of element type t, none frozen. -/
def Blk (w : World) (g : Nat) (t : TypeId) (cs : List Value) : Prop := w.heap[g]? = some (.cells cs.toArray t (0, 0))
theorem Blk.lt {w : World} {g : Nat} {t : TypeId} {cs : List Value} (h : Blk w g t cs) : g < w.heap.size := (Array.getElem?_eq_some_iff.1 h).1
theorem Blk.cell {w : World} {g : Nat} {t : TypeId} {cs : List Value} (h : Blk w g t cs) (j : Nat) (v : Value) (hj : cs[j]? = some v) : w.cell? ⟨g, j, none⟩ = some v := by
  rw [cell_of_row w g j _ t _ h]; simpa using hj
theorem Blk.frozen {w : World} {g : Nat} {t : TypeId} {cs : List Value} (h : Blk w g t cs) (j : Nat) : w.frozen? ⟨g, j, none⟩ = false := frozen_of_row w g j _ t h
theorem Blk.new (w : World) (t : TypeId) (cs : List Value) : Blk (w.alloc (.cells cs.toArray t)) w.heap.size t cs := heap_alloc_new w _
theorem Blk.alloc {w : World} {g : Nat} {t : TypeId} {cs : List Value} (h : Blk w g t cs) (o : Obj) : Blk (w.alloc o) g t cs := (Below.heap_alloc w o g h.lt).trans h
theorem Blk.drew {w : World} {g : Nat} {t : TypeId} {cs : List Value} (h : Blk w g t cs) : Blk w.drew g t cs := h
theorem Blk.drewN {w : World} {g : Nat} {t : TypeId} {cs : List Value} (h : Blk w g t cs) (n : Nat) : Blk (w.drewN n) g t cs := h
theorem Blk.setCell {w : World} {g : Nat} {t : TypeId} {cs : List Value} (h : Blk w g t cs) (j : Nat) (v : Value) : Blk (w.setCell ⟨g, j, none⟩ v) g t (cs.set j v) := by
  have := heap_setCell_same w g j _ t v h
  simpa [Blk] using this
theorem Blk.far {w : World} {g : Nat} {t : TypeId} {cs : List Value} (h : Blk w g t cs) {p : Addr} (hp : g ≠ p.block) (v : Value) : Blk (w.setCell p v) g t cs := (heap_setCell_other w p g v hp).trans h
theorem Blk.below {w w1 : World} {g : Nat} {t : TypeId} {cs : List Value} (h : Blk w g t cs) (hb : Below w.heap.size w w1) : Blk w1 g t cs := (hb.block g h.lt).trans h
theorem Blk.belowB {B : Nat} {w w1 : World} {g : Nat} {t : TypeId} {cs : List Value} (h : Blk w g t cs) (hb : Below B w w1) (hg : g < B) : Blk w1 g t cs := (hb.block g hg).trans h
theorem Blk.grown {w w1 : World} {row : Option Nat} {g : Nat} {t : TypeId} {cs : List Value} (h : Blk w g t cs) (hb : w.grownBy w1 row) (hr : some g ≠ row) : Blk w1 g t cs := (hb.block g h.lt hr).trans h
theorem Blk.row {w : World} {g : Nat} {t : TypeId} {cs : List Value} (h : Blk w g t cs) (cs' : List Value) : Blk (w.setRow g cs'.toArray) g t cs' := setRow_heap w g _ _ t _ h
theorem Blk.rowFar {w : World} {g k : Nat} {t : TypeId} {cs : List Value} (h : Blk w g t cs) (hk : g ≠ k) (cs' : Array Value) : Blk (w.setRow k cs') g t cs := (setRow_other w k g cs' hk).trans h
theorem below_setRow' {B g : Nat} {w0 w : World} (hb : Below B w0 w) (hg : B ≤ g) (cs : Array Value) : Below B w0 (w.setRow g cs) := below_setRow hb hg cs
theorem below_drewN' {B : Nat} {a w : World} (h : Below B a w) (n : Nat) : Below B a (w.drewN n) := below_drewN h n
section
variable {P : Program} {ops : Array Oper} {rest : List Oper} {o : Oper} {a : Act} {w : World} {Q : Exit → Act → World → Prop}
/-- A whole array out of its variable. -/
theorem wpl_load (hgd : o.guard = none) (ty : TypeId) (x : Operand) (ho : o.op = .load ty x) (g : Nat) (hx : a.eval x = .pointer (some ⟨g, 0, none⟩)) (t : TypeId) (cs : List Value) (hb : Blk w g t cs)
    (n : Nat) (e : TypeId) (hu : P.underlying ty = some (.array n e)) (hi : (P.info? ty).map (·.size) = some cs.length) (h : wpList P ops Q rest (a.put o.dst (.agg cs.toArray)) w) : wpList P ops Q (o :: rest) a w :=
  wpList_load_row hgd ty x ho g hx t cs.toArray (0, 0) _ hb hu rfl (by simpa using hi) h
/-- A whole array into its variable. -/
theorem wpl_store (hgd : o.guard = none) (ty : TypeId) (x y : Operand) (ho : o.op = .store ty x y) (g : Nat) (cs' : List Value) (hx : a.eval x = .pointer (some ⟨g, 0, none⟩)) (hy : a.eval y = .agg cs'.toArray) (t : TypeId) (cs : List Value) (hb : Blk w g t cs)
    (hi : (P.info? ty).map (·.size) = some cs'.length) (hl : cs.length = cs'.length) (h1 : ∀ v ∈ cs', v.oneCell' = true) (h : wpList P ops Q rest (a.put o.dst undef) (w.setRow g cs'.toArray)) : wpList P ops Q (o :: rest) a w :=
  wpList_store_row hgd ty x y ho g cs'.toArray hx hy t cs.toArray hb (by simpa using hi) (by simpa using hl) (by rw [Array.all_eq_true_iff_forall_mem]; intro v hv; exact h1 v (by simpa using hv)) h
/-- An array that is written out. -/
theorem wpl_build (hgd : o.guard = none) (ty : TypeId) (parts : Array (Nat × Operand)) (ho : o.op = .build ty parts) (cs : List Value) (hb : P.built ty (parts.map fun (i, x) => (i, a.eval x)).toList = some cs.toArray)
    (h : wpList P ops Q rest (a.put o.dst (.agg cs.toArray)) w) : wpList P ops Q (o :: rest) a w :=
  wpList_build hgd ty parts ho (by rw [hb]; rfl) (by rw [hb]; exact h)
/-- A result that lies in an array. -/
theorem res_row {fn : Func} {p : Tmp} {ty : TypeId} (h : fn.results = #[.cell p ty]) (tmps : Array Value) (w : World) (g : Nat) (t : TypeId) (cs : List Value) (n : Nat) (e : TypeId)
    (hp : tmps.getD p undef = .pointer (some ⟨g, 0, none⟩)) (hg : Blk w g t cs) (hu : P.underlying ty = some (.array n e)) (hi : (P.info? ty).map (·.size) = some cs.length) :
    (results fn tmps).run P w = .ok (.agg cs.toArray) w := results_cell_row h tmps w g t cs.toArray (0, 0) _ hp hg hu rfl (by simpa using hi)
end
theorem Us_one (l : List (BitVec 32)) : ∀ v ∈ Us l, v.oneCell' = true := by
  intro v hv
  simp only [Us, List.mem_map] at hv
  obtain ⟨x, _, rfl⟩ := hv
  rfl
theorem Bs_one (l : List UInt8) : ∀ v ∈ Bs l, v.oneCell' = true := by
  intro v hv
  simp only [Bs, List.mem_map] at hv
  obtain ⟨x, _, rfl⟩ := hv
  rfl
theorem Tryz.size64 : (Tryz.prog.info? 130).map (·.size) = some 64 := by kernel_rfl
theorem Tryz.size8 : (Tryz.prog.info? 96).map (·.size) = some 8 := by kernel_rfl
theorem Tryz.size32 : (Tryz.prog.info? 50).map (·.size) = some 32 := by kernel_rfl
/-- n bytes that can be read from address a on. -/
def BytesAt (w : World) (g o n : Nat) (bs : List UInt8) : Prop := bs.length = n ∧ ∀ j, j < n → w.cell? ⟨g, o + j, none⟩ = some (.int .u8 (ub (gb bs j)))
theorem BytesAt.mono {w : World} {g o n : Nat} {bs : List UInt8} (h : BytesAt w g o n bs) (k m : Nat) (hk : k + m ≤ n) : BytesAt w g (o + k) m ((bs.drop k).take m) := by
  refine ⟨by rw [List.length_take, List.length_drop, h.1]; omega, fun j hj => ?_⟩
  rw [Nat.add_assoc, h.2 (k + j) (by omega)]
  simp [gb, List.getD_eq_getElem?_getD, hj]
theorem BytesAt.take {w : World} {g o n : Nat} {bs : List UInt8} (h : BytesAt w g o n bs) (m : Nat) (hm : m ≤ n) : BytesAt w g o m (bs.take m) := by
  have := h.mono 0 m (by omega)
  simpa using this
theorem BytesAt.of_block {w w1 : World} {g o n : Nat} {bs : List UInt8} (h : BytesAt w g o n bs) (hb : w1.heap[g]? = w.heap[g]?) : BytesAt w1 g o n bs :=
  ⟨h.1, fun j hj => (World.cell?_of_block (w := w) hb).trans (h.2 j hj)⟩
end Go.Proofs.YtmnndehoopmmaaaGreatDoor
namespace Go.Proofs.YtmnndehoopmmaaaGreatDoor
open Go.RowKit
attribute [local go_sem] un_add un_shl8 un_of_byte un_addm un_and un_or un_xor un_not un_shl8m un_shr3 un_shr10 ub_mod un_mod
/-- The two arrays of a schedule: the one that is handed back, the one that is filled. -/
def SchedAt (w wr : World) (l : List (BitVec 32)) : Prop := Below w.heap.size w wr ∧ Blk wr w.heap.size 130 (Us (List.replicate 64 0)) ∧ Blk wr (w.heap.size + 1) 130 (Us l)
set_option maxRecDepth 100000 in
theorem sched_new (w : World) : SchedAt w ((w.alloc (.cells (Us (List.replicate 64 0)).toArray 130)).alloc (.cells (Us (List.replicate 64 0)).toArray 130)) (List.replicate 64 0) := by
  refine ⟨((Below.refl _ _).alloc (Nat.le_refl _) _).alloc (by simp) _, (Blk.new w _ _).alloc _, ?_⟩
  have := Blk.new (w.alloc (.cells (Us (List.replicate 64 0)).toArray 130)) 130 (Us (List.replicate 64 0))
  simpa using this
theorem SchedAt.put {w wr : World} {l : List (BitVec 32)} (h : SchedAt w wr l) (j : Nat) (x : BitVec 32) : SchedAt w (wr.setCell ⟨w.heap.size + 1, j, none⟩ (.int .u32 (un x))) (l.set j x) :=
  ⟨h.1.setCell (by simp) _, h.2.1.far (by simp) _, by rw [← Us_set]; exact h.2.2.setCell j (.int .u32 (un x))⟩
theorem next_val (bs : List UInt8) (l : List (BitVec 32)) (k : Nat) (h : 16 ≤ k) : next bs l k =
    (rotr (gw l (k - 2)) 17 ^^^ rotr (gw l (k - 2)) 19 ^^^ gw l (k - 2) >>> 10) + gw l (k - 7) + (rotr (gw l (k - 15)) 7 ^^^ rotr (gw l (k - 15)) 18 ^^^ gw l (k - 15) >>> 3) + gw l (k - 16) := by
  rw [next, if_neg (by omega)]
  rfl
theorem SchedAt.drewN {w wr : World} {l : List (BitVec 32)} (h : SchedAt w wr l) (n : Nat) : SchedAt w (wr.drewN n) l := ⟨below_drewN h.1 n, h.2.1, h.2.2⟩
set_option maxRecDepth 100000 in
set_option maxHeartbeats 400000 in
theorem schedule_any (g o c : Nat) (bs : List UInt8) (w : World) (hc : 64 ≤ c) (hm : c ≤ 9223372036854775807) (hg : g < w.heap.size) (hb : BytesAt w g o 64 bs) :
    Calls Tryz.prog 113 #[.slice (some ⟨g, o, none⟩) 64 c] w fun e w' => e = .returned (.agg (Us (wl bs 64)).toArray) ∧ Below w.heap.size w w' := by
  go_enter Tryz.func113, Tryz.ntmps113
  go_wp2
  have HB := Lib.hid hb
  clear hb
  go_loopw [12] (fun i wr => ∃ k : Nat, k ≤ 16 ∧ i = .int .i64 k ∧ SchedAt w wr (wfill bs k)) (fun i _ => 16 - (intOf i).toNat)
  case atStart => exact ⟨0, by omega, rfl, by rw [wfill_zero]; exact sched_new w⟩
  case round =>
    obtain ⟨k, hk, rfl, hS⟩ := hrel
    have HS := Lib.hid hS
    clear hS
    by_cases hlt : k < 16
    · have l1 : (k : Int) < 16 := by omega
      go_wp2
      go_loopw [23] (fun i wr => ∃ j : Nat, j ≤ 4 ∧ i = .int .i64 j ∧ SchedAt w wr ((wfill bs k).set k (part bs k j))) (fun i _ => 4 - (intOf i).toNat)
      case atStart => exact ⟨0, by omega, rfl, by rw [part, wfill_set0 bs k (by omega)]; exact HS.out⟩
      case round =>
        obtain ⟨j, hj, rfl, hT⟩ := hrel
        by_cases hlt2 : j < 4
        · have l2 : (j : Int) < 4 := by omega
          have c1 : wr.cell? ⟨g, o + 4 * k + j, none⟩ = some (.int .u8 (ub (gb bs (4 * k + j)))) := by
            have := HB.out.2 (4 * k + j) (by omega)
            rw [← Nat.add_assoc] at this
            rw [hT.1.cell (p := ⟨g, o + 4 * k + j, none⟩) hg]
            exact this
          have c2 : wr.cell? ⟨w.heap.size + 1, k, none⟩ = some (.int .u32 (un (part bs k j))) := by
            refine hT.2.2.cell k _ ?_
            rw [Us_at _ _ (by rw [List.length_set, wfill_length bs k (by omega)]; omega), wfill_part bs k j _ (by omega)]
          have c3 : wr.frozen? ⟨w.heap.size + 1, k, none⟩ = false := hT.2.2.frozen k
          have HT := Lib.hid hT
          clear hT
          go_wp2
          go_roundw
          case rel => exact ⟨j + 1, by omega, by go_num, by have := HT.out.put k (part bs k (j + 1)); rw [List.set_set] at this; exact this⟩
          case measure => simp [intOf]; omega
        · have e : j = 4 := by omega
          subst e
          have HT := Lib.hid hT
          clear hT HS
          go_wp2
          go_roundw
          case rel => exact ⟨k + 1, by omega, by go_num, by rw [← wfill_set16 bs k hlt]; exact HT.out⟩
          case measure => simp [intOf]; omega
    · have e : k = 16 := by omega
      subst e
      go_wp2
      go_loopw [7] (fun i wr => ∃ k : Nat, 16 ≤ k ∧ k ≤ 64 ∧ i = .int .i64 k ∧ SchedAt w wr (wfill bs k)) (fun i _ => 64 - (intOf i).toNat)
      case atStart => exact ⟨16, by omega, by omega, rfl, HS.out⟩
      case round =>
        obtain ⟨k, hk1, hk2, rfl, hT⟩ := hrel
        by_cases hlt2 : k < 64
        · have l2 : (k : Int) < 64 := by omega
          have l3 : 16 ≤ (k : Int) := by omega
          have cell : ∀ i, i < k → wr.cell? ⟨w.heap.size + 1, i, none⟩ = some (.int .u32 (un (gw (wl bs k) i))) := fun i hi => by
            rw [← wfill_old bs k i hi]
            exact hT.2.2.cell i _ (Us_at _ _ (by rw [wfill_length bs k (by omega)]; omega))
          have c15 := cell (k - 15) (by omega)
          have c2 := cell (k - 2) (by omega)
          have c7 := cell (k - 7) (by omega)
          have c16 := cell (k - 16) (by omega)
          clear cell
          have ck : wr.cell? ⟨w.heap.size + 1, k, none⟩ = some (.int .u32 (un 0)) := by
            rw [← wfill_new bs k hlt2]
            exact hT.2.2.cell k _ (Us_at _ _ (by rw [wfill_length bs k (by omega)]; omega))
          have cf : wr.frozen? ⟨w.heap.size + 1, k, none⟩ = false := hT.2.2.frozen k
          have HT := Lib.hid hT
          clear hT
          go_wp2
          go_quiet (fail)
          go_wp2_with (go_at_call 115; refine (right_any _ _ (by omega) (by omega) _).mono ?_; rintro e w' ⟨rfl, rfl⟩)
          go_region
          go_wp2
          go_roundw
          case rel => ((repeat apply Exists.intro); exact ⟨⟨k + 1, by omega, by omega, by go_num, by rw [← wfill_set bs k hlt2, next_val bs _ k hk1]; exact (HT.out.drewN _).put k _⟩, rfl⟩)
          case measure => simp [intOf]; omega
        · have e : k = 64 := by omega
          subst e
          rw [wfill_all] at hT
          have HT := Lib.hid hT
          clear hT HS
          go_wp2_with (first | (refine wpl_load rfl 130 _ rfl (w.heap.size + 1) rfl 130 _ HT.out.2.2 64 95 Tryz.underlying130 (by rw [Tryz.size64]; simp) ?_) | (refine wpl_store rfl 130 _ _ rfl w.heap.size (Us (wl bs 64)) rfl rfl 130 _ HT.out.2.1 (by rw [Tryz.size64]; simp) (by simp) (Us_one _) ?_))
          refine bodyPost_ret (v := .agg (Us (wl bs 64)).toArray) (res_row rfl _ _ w.heap.size 130 _ 64 95 rfl (HT.out.2.1.row _) Tryz.underlying130 (by rw [Tryz.size64]; simp)) rfl ⟨rfl, below_setRow' HT.out.1 (Nat.le_refl _) _⟩
end Go.Proofs.YtmnndehoopmmaaaGreatDoor
namespace Go.Proofs.YtmnndehoopmmaaaGreatDoor
open Go.RowKit
attribute [local go_sem] un_add un_shl8 un_of_byte un_addm un_and un_or un_xor un_not un_shl8m un_shr3 un_shr10 ub_mod un_mod
def zero64 : List Value := Us (List.replicate 64 0)
def zero8 : List Value := Us (List.replicate 8 0)
set_option maxRecDepth 100000 in
set_option maxHeartbeats 400000 in
theorem consts_any (w : World) :
    Calls Tryz.prog 114 #[] w fun e w' => e = .returned (.agg (Us ks).toArray) ∧ Below w.heap.size w w' := by
  have hb0 : Blk (w.alloc (.cells zero64.toArray 130)) w.heap.size 130 zero64 := Blk.new w _ _
  have HB := Lib.hid hb0
  clear hb0
  go_enter Tryz.func114, Tryz.ntmps114
  go_wp2_with (first | (refine wpl_build rfl 130 _ rfl (Us ks) (by kernel_rfl) ?_) | (refine wpl_store rfl 130 _ _ rfl w.heap.size (Us ks) rfl rfl 130 _ HB.out (by rw [Tryz.size64]; rfl) rfl (Us_one _) ?_))
  refine bodyPost_ret (v := .agg (Us ks).toArray) (res_row rfl _ _ w.heap.size 130 _ 64 95 rfl (HB.out.row _) Tryz.underlying130 (by rw [Tryz.size64]; rfl)) rfl ⟨rfl, below_setRow' ((Below.refl _ _).alloc (Nat.le_refl _) _) (Nat.le_refl _) _⟩
set_option maxRecDepth 100000 in
set_option maxHeartbeats 400000 in
theorem table_any (w : World) :
    Calls Tryz.prog 150 #[] w fun e w' => e = .returned (.agg (Us ks).toArray) ∧ Below w.heap.size w w' := by
  have hb0 : Blk (w.alloc (.cells zero64.toArray 130)) w.heap.size 130 zero64 := Blk.new w _ _
  have HB := Lib.hid hb0
  clear hb0
  go_enter Tryz.func150, Tryz.ntmps150
  go_wp2_with (first | (refine wpl_build rfl 130 _ rfl (Us ks) (by kernel_rfl) ?_) | (refine wpl_store rfl 130 _ _ rfl w.heap.size (Us ks) rfl rfl 130 _ HB.out (by rw [Tryz.size64]; rfl) rfl (Us_one _) ?_))
  refine bodyPost_ret (v := .agg (Us ks).toArray) (res_row rfl _ _ w.heap.size 130 _ 64 95 rfl (HB.out.row _) Tryz.underlying130 (by rw [Tryz.size64]; rfl)) rfl ⟨rfl, below_setRow' ((Below.refl _ _).alloc (Nat.le_refl _) _) (Nat.le_refl _) _⟩
set_option maxRecDepth 100000 in
set_option maxHeartbeats 400000 in
theorem first_any (w : World) :
    Calls Tryz.prog 121 #[] w fun e w' => e = .returned (.agg (Us h0s).toArray) ∧ Below w.heap.size w w' := by
  have hb0 : Blk (w.alloc (.cells zero8.toArray 96)) w.heap.size 96 zero8 := Blk.new w _ _
  have HB := Lib.hid hb0
  clear hb0
  go_enter Tryz.func121, Tryz.ntmps121
  go_wp2_with (first | (refine wpl_build rfl 96 _ rfl (Us h0s) (by kernel_rfl) ?_) | (refine wpl_store rfl 96 _ _ rfl w.heap.size (Us h0s) rfl rfl 96 _ HB.out (by rw [Tryz.size8]; rfl) rfl (Us_one _) ?_))
  refine bodyPost_ret (v := .agg (Us h0s).toArray) (res_row rfl _ _ w.heap.size 96 _ 8 95 rfl (HB.out.row _) Tryz.underlying96 (by rw [Tryz.size8]; rfl)) rfl ⟨rfl, below_setRow' ((Below.refl _ _).alloc (Nat.le_refl _) _) (Nat.le_refl _) _⟩
end Go.Proofs.YtmnndehoopmmaaaGreatDoor
