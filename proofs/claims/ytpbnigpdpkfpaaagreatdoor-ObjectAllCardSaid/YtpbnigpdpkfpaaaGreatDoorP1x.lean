/- The turns of words: bits.RotateLeft32, sha.right, colporteurref1.turn. Blocks of cells: what is known of a block that the call itself owns. sha.schedule: the sixty-four words of a block. sha.first, sha.consts, colporteurref1.table: arrays that are written out; sha.mixed: one block more. sha.mixed: one block more. Rows that the call owns, and that may begin inside their block: append, cut, read, write. sha.Hash in memory: what a hash holds; Put. (*sha.Hash).Put: a hash takes bytes. sha.New, slices.Clone at bytes, Put at a nil hash. when: floats and their bits. math.Copysign; 64 bits. guard: Must, Fail; a reader of bytes. guard: the other answers of Bytes; Byte. guard.Do: what panics with a fault is told. -/
import Derived.Test.YtpbnigpdpkfpaaaGreatDoorU
import Derived.Lib.Hide
import Derived.Deep.QuietTactic
import Derived.BigQuiet
import Derived.WalkKit
import Derived.WalkSpells
import Derived.WalkLawsBesides
import Derived.Deep.WholeRow
import Derived.Laws.CopyOwn
import Derived.BigRegion
import Derived.Deep.MidRow
import Derived.StillTailTactics
import Derived.Deep.LoopGhost
import Derived.Deep.RegionWith
import Derived.Defers
import Derived.Recover
namespace Go.Proofs.YtpbnigpdpkfpaaaGreatDoor
open Go.RowKit
attribute [local go_sem] un_add un_and un_or un_xor un_not
theorem rot_count (n : Int) (h0 : 0 < n) (h1 : n < 32) : bits .and .u64 (IntKind.u64.wrap (-n)) 31 = 32 - n := by
  have key : ∀ k : Fin 32, 0 < k.val → bits .and .u64 (IntKind.u64.wrap (-(k.val : Int))) 31 = 32 - (k.val : Int) := by decide +kernel
  have := key ⟨n.toNat, by omega⟩ (by simp; omega)
  simpa [Int.toNat_of_nonneg (show 0 ≤ n by omega)] using this
theorem rot_val (x : BitVec 32) (n : Int) (h0 : 0 < n) (h1 : n < 32) : bits .or .u32 (un x * 2 ^ (32 - n).toNat % 4294967296) (un x / 2 ^ (32 - (32 - n)).toNat) = un (rotr x n.toNat) := by
  have e : (32 - n).toNat = 32 - n.toNat := by omega
  have e2 : (32 - (32 - n)).toNat = n.toNat := by omega
  rw [un_shlm, un_shr, un_or, e, e2]; rfl
theorem turn_val (x : BitVec 32) (n : Int) (h0 : 0 < n) (h1 : n < 32) : (un x / 2 ^ n.toNat + un x * 2 ^ (32 - n).toNat % 4294967296) % 4294967296 = un (rotr x n.toNat) := by
  have e : (32 - n).toNat = 32 - n.toNat := by omega
  rw [un_shlm, un_shr, un_addm, e, turn_sum x n.toNat (by omega) (by omega)]
set_option maxHeartbeats 400000 in
theorem rotl_any (x : BitVec 32) (n : Int) (h0 : 0 < n) (h1 : n < 32) (w : World) :
    Calls Tryz.prog 292 #[.int .u32 (un x), .int .i64 (-n)] w fun e w' => e = .returned (.int .u32 (un (rotr x n.toNat))) ∧ w = w' := by
  have HS := rot_count n h0 h1
  have HV := Lib.hid (rot_val x n h0 h1)
  go_enter Tryz.func292, Tryz.ntmps292
  go_wp2
  go_ret
  exact ⟨by rw [← HV.out]; rfl, rfl⟩
set_option maxHeartbeats 400000 in
theorem right_any (x : BitVec 32) (n : Int) (h0 : 0 < n) (h1 : n < 32) (w : World) :
    Calls Tryz.prog 268 #[.int .u32 (un x), .int .i64 n] w fun e w' => e = .returned (.int .u32 (un (rotr x n.toNat))) ∧ w = w' := by
  go_enter Tryz.func268, Tryz.ntmps268
  go_wp2_with (go_at_call 292; refine (rotl_any x n h0 h1 _).mono ?_; rintro e w' ⟨rfl, rfl⟩)
  go_ret
  exact ⟨rfl, rfl⟩
theorem turn_any (x : BitVec 32) (n : Int) (h0 : 0 < n) (h1 : n < 32) (w : World) :
    Calls Tryz.prog 203 #[.int .u32 (un x), .int .i64 n] w fun e w' => e = .returned (.int .u32 (un (rotr x n.toNat))) ∧ ∃ m, w' = w.drewN m := by
  have HV := Lib.hid (turn_val x n h0 h1)
  go_enter Tryz.func203, Tryz.ntmps203
  go_wp2
  go_quiet (fail)
  go_wp2
  go_ret
  exact ⟨by rw [← HV.out]; rfl, _, rfl⟩
end Go.Proofs.YtpbnigpdpkfpaaaGreatDoor
namespace Go.Proofs.YtpbnigpdpkfpaaaGreatDoor
open Go.RowKit
/-- Block g holds just these cells, of element type t, none frozen. -/
def Blk (w : World) (g : Nat) (t : TypeId) (cs : List Value) : Prop := w.heap[g]? = some (.cells cs.toArray t (0, 0))
theorem Blk.lt {w : World} {g : Nat} {t : TypeId} {cs : List Value} (h : Blk w g t cs) : g < w.heap.size := (Array.getElem?_eq_some_iff.1 h).1
theorem Blk.cell {w : World} {g : Nat} {t : TypeId} {cs : List Value} (h : Blk w g t cs) (j : Nat) (v : Value) (hj : cs[j]? = some v) : w.cell? ⟨g, j, none⟩ = some v := by
  rw [cell_of_row w g j _ t _ h]; simpa using hj
theorem Blk.frozen {w : World} {g : Nat} {t : TypeId} {cs : List Value} (h : Blk w g t cs) (j : Nat) : w.frozen? ⟨g, j, none⟩ = false := frozen_of_row w g j _ t h
theorem Blk.new (w : World) (t : TypeId) (cs : List Value) : Blk (w.alloc (.cells cs.toArray t)) w.heap.size t cs := heap_alloc_new w _
theorem Blk.alloc {w : World} {g : Nat} {t : TypeId} {cs : List Value} (h : Blk w g t cs) (o : Obj) : Blk (w.alloc o) g t cs := (Below.heap_alloc w o g h.lt).trans h
theorem Blk.drew {w : World} {g : Nat} {t : TypeId} {cs : List Value} (h : Blk w g t cs) : Blk w.drew g t cs := h
theorem Blk.drewN {w : World} {g : Nat} {t : TypeId} {cs : List Value} (h : Blk w g t cs) (n : Nat) : Blk (w.drewN n) g t cs := h
theorem Blk.setCell {w : World} {g : Nat} {t : TypeId} {cs : List Value} (h : Blk w g t cs) (j : Nat) (v : Value) : Blk (w.setCell ⟨g, j, none⟩ v) g t (cs.set j v) := by
  have := heap_setCell_same w g j _ t v h
  simpa [Blk] using this
theorem Blk.far {w : World} {g : Nat} {t : TypeId} {cs : List Value} (h : Blk w g t cs) {p : Addr} (hp : g ≠ p.block) (v : Value) : Blk (w.setCell p v) g t cs := (heap_setCell_other w p g v hp).trans h
theorem Blk.below {w w1 : World} {g : Nat} {t : TypeId} {cs : List Value} (h : Blk w g t cs) (hb : Below w.heap.size w w1) : Blk w1 g t cs := (hb.block g h.lt).trans h
theorem Blk.belowB {B : Nat} {w w1 : World} {g : Nat} {t : TypeId} {cs : List Value} (h : Blk w g t cs) (hb : Below B w w1) (hg : g < B) : Blk w1 g t cs := (hb.block g hg).trans h
theorem Blk.grown {w w1 : World} {row : Option Nat} {g : Nat} {t : TypeId} {cs : List Value} (h : Blk w g t cs) (hb : w.grownBy w1 row) (hr : some g ≠ row) : Blk w1 g t cs := (hb.block g h.lt hr).trans h
theorem Blk.row {w : World} {g : Nat} {t : TypeId} {cs : List Value} (h : Blk w g t cs) (cs' : List Value) : Blk (w.setRow g cs'.toArray) g t cs' := setRow_heap w g _ _ t _ h
theorem Blk.rowFar {w : World} {g k : Nat} {t : TypeId} {cs : List Value} (h : Blk w g t cs) (hk : g ≠ k) (cs' : Array Value) : Blk (w.setRow k cs') g t cs := (setRow_other w k g cs' hk).trans h
theorem below_setRow' {B g : Nat} {w0 w : World} (hb : Below B w0 w) (hg : B ≤ g) (cs : Array Value) : Below B w0 (w.setRow g cs) := below_setRow hb hg cs
theorem below_drewN' {B : Nat} {a w : World} (h : Below B a w) (n : Nat) : Below B a (w.drewN n) := below_drewN h n
section
variable {P : Program} {ops : Array Oper} {rest : List Oper} {o : Oper} {a : Act} {w : World} {Q : Exit → Act → World → Prop}
/-- A whole array out of its variable. -/
theorem wpl_load (hgd : o.guard = none) (ty : TypeId) (x : Operand) (ho : o.op = .load ty x) (g : Nat) (hx : a.eval x = .pointer (some ⟨g, 0, none⟩)) (t : TypeId) (cs : List Value) (hb : Blk w g t cs)
    (n : Nat) (e : TypeId) (hu : P.underlying ty = some (.array n e)) (hi : (P.info? ty).map (·.size) = some cs.length) (h : wpList P ops Q rest (a.put o.dst (.agg cs.toArray)) w) : wpList P ops Q (o :: rest) a w :=
  wpList_load_row hgd ty x ho g hx t cs.toArray (0, 0) _ hb hu rfl (by simpa using hi) h
/-- A whole array into its variable. -/
theorem wpl_store (hgd : o.guard = none) (ty : TypeId) (x y : Operand) (ho : o.op = .store ty x y) (g : Nat) (cs' : List Value) (hx : a.eval x = .pointer (some ⟨g, 0, none⟩)) (hy : a.eval y = .agg cs'.toArray) (t : TypeId) (cs : List Value) (hb : Blk w g t cs)
    (hi : (P.info? ty).map (·.size) = some cs'.length) (hl : cs.length = cs'.length) (h1 : ∀ v ∈ cs', v.oneCell' = true) (h : wpList P ops Q rest (a.put o.dst undef) (w.setRow g cs'.toArray)) : wpList P ops Q (o :: rest) a w :=
  wpList_store_row hgd ty x y ho g cs'.toArray hx hy t cs.toArray hb (by simpa using hi) (by simpa using hl) (by rw [Array.all_eq_true_iff_forall_mem]; intro v hv; exact h1 v (by simpa using hv)) h
/-- An array that is written out. -/
theorem wpl_build (hgd : o.guard = none) (ty : TypeId) (parts : Array (Nat × Operand)) (ho : o.op = .build ty parts) (cs : List Value) (hb : P.built ty (parts.map fun (i, x) => (i, a.eval x)).toList = some cs.toArray)
    (h : wpList P ops Q rest (a.put o.dst (.agg cs.toArray)) w) : wpList P ops Q (o :: rest) a w :=
  wpList_build hgd ty parts ho (by rw [hb]; rfl) (by rw [hb]; exact h)
/-- A result that lies in an array. -/
theorem res_row {fn : Func} {p : Tmp} {ty : TypeId} (h : fn.results = #[.cell p ty]) (tmps : Array Value) (w : World) (g : Nat) (t : TypeId) (cs : List Value) (n : Nat) (e : TypeId)
    (hp : tmps.getD p undef = .pointer (some ⟨g, 0, none⟩)) (hg : Blk w g t cs) (hu : P.underlying ty = some (.array n e)) (hi : (P.info? ty).map (·.size) = some cs.length) :
    (results fn tmps).run P w = .ok (.agg cs.toArray) w := results_cell_row h tmps w g t cs.toArray (0, 0) _ hp hg hu rfl (by simpa using hi)
end
theorem Us_one (l : List (BitVec 32)) : ∀ v ∈ Us l, v.oneCell' = true := by
  intro v hv
  simp only [Us, List.mem_map] at hv
  obtain ⟨x, _, rfl⟩ := hv
  rfl
theorem Bs_one (l : List UInt8) : ∀ v ∈ Bs l, v.oneCell' = true := by
  intro v hv
  simp only [Bs, List.mem_map] at hv
  obtain ⟨x, _, rfl⟩ := hv
  rfl
theorem Tryz.size64 : (Tryz.prog.info? 243).map (·.size) = some 64 := by kernel_rfl
theorem Tryz.size8 : (Tryz.prog.info? 208).map (·.size) = some 8 := by kernel_rfl
theorem Tryz.size32 : (Tryz.prog.info? 23).map (·.size) = some 32 := by kernel_rfl
/-- n bytes that can be read from address a on. -/
def BytesAt (w : World) (g o n : Nat) (bs : List UInt8) : Prop := bs.length = n ∧ ∀ j, j < n → w.cell? ⟨g, o + j, none⟩ = some (.int .u8 (ub (gb bs j)))
theorem BytesAt.mono {w : World} {g o n : Nat} {bs : List UInt8} (h : BytesAt w g o n bs) (k m : Nat) (hk : k + m ≤ n) : BytesAt w g (o + k) m ((bs.drop k).take m) := by
  refine ⟨by rw [List.length_take, List.length_drop, h.1]; omega, fun j hj => ?_⟩
  rw [Nat.add_assoc, h.2 (k + j) (by omega)]
  simp [gb, List.getD_eq_getElem?_getD, hj]
theorem BytesAt.take {w : World} {g o n : Nat} {bs : List UInt8} (h : BytesAt w g o n bs) (m : Nat) (hm : m ≤ n) : BytesAt w g o m (bs.take m) := by
  have := h.mono 0 m (by omega)
  simpa using this
theorem BytesAt.of_block {w w1 : World} {g o n : Nat} {bs : List UInt8} (h : BytesAt w g o n bs) (hb : w1.heap[g]? = w.heap[g]?) : BytesAt w1 g o n bs :=
  ⟨h.1, fun j hj => (World.cell?_of_block (w := w) hb).trans (h.2 j hj)⟩
end Go.Proofs.YtpbnigpdpkfpaaaGreatDoor
namespace Go.Proofs.YtpbnigpdpkfpaaaGreatDoor
open Go.RowKit
attribute [local go_sem] un_add un_shl8 un_of_byte un_addm un_and un_or un_xor un_not un_shl8m un_shr3 un_shr10 ub_mod un_mod
/-- The two arrays of a schedule: the one that is handed back, the one that is filled. -/
def SchedAt (w wr : World) (l : List (BitVec 32)) : Prop := Below w.heap.size w wr ∧ Blk wr w.heap.size 243 (Us (List.replicate 64 0)) ∧ Blk wr (w.heap.size + 1) 243 (Us l)
set_option maxRecDepth 100000 in
theorem sched_new (w : World) : SchedAt w ((w.alloc (.cells (Us (List.replicate 64 0)).toArray 243)).alloc (.cells (Us (List.replicate 64 0)).toArray 243)) (List.replicate 64 0) := by
  refine ⟨((Below.refl _ _).alloc (Nat.le_refl _) _).alloc (by simp) _, (Blk.new w _ _).alloc _, ?_⟩
  have := Blk.new (w.alloc (.cells (Us (List.replicate 64 0)).toArray 243)) 243 (Us (List.replicate 64 0))
  simpa using this
theorem SchedAt.put {w wr : World} {l : List (BitVec 32)} (h : SchedAt w wr l) (j : Nat) (x : BitVec 32) : SchedAt w (wr.setCell ⟨w.heap.size + 1, j, none⟩ (.int .u32 (un x))) (l.set j x) :=
  ⟨h.1.setCell (by simp) _, h.2.1.far (by simp) _, by rw [← Us_set]; exact h.2.2.setCell j (.int .u32 (un x))⟩
theorem next_val (bs : List UInt8) (l : List (BitVec 32)) (k : Nat) (h : 16 ≤ k) : next bs l k =
    (rotr (gw l (k - 2)) 17 ^^^ rotr (gw l (k - 2)) 19 ^^^ gw l (k - 2) >>> 10) + gw l (k - 7) + (rotr (gw l (k - 15)) 7 ^^^ rotr (gw l (k - 15)) 18 ^^^ gw l (k - 15) >>> 3) + gw l (k - 16) := by
  rw [next, if_neg (by omega)]
  rfl
theorem SchedAt.drewN {w wr : World} {l : List (BitVec 32)} (h : SchedAt w wr l) (n : Nat) : SchedAt w (wr.drewN n) l := ⟨below_drewN h.1 n, h.2.1, h.2.2⟩
set_option maxRecDepth 100000 in
set_option maxHeartbeats 400000 in
theorem schedule_any (g o c : Nat) (bs : List UInt8) (w : World) (hc : 64 ≤ c) (hm : c ≤ 9223372036854775807) (hg : g < w.heap.size) (hb : BytesAt w g o 64 bs) :
    Calls Tryz.prog 266 #[.slice (some ⟨g, o, none⟩) 64 c] w fun e w' => e = .returned (.agg (Us (wl bs 64)).toArray) ∧ Below w.heap.size w w' := by
  go_enter Tryz.func266, Tryz.ntmps266
  go_wp2
  have HB := Lib.hid hb
  clear hb
  go_loopw [12] (fun i wr => ∃ k : Nat, k ≤ 16 ∧ i = .int .i64 k ∧ SchedAt w wr (wfill bs k)) (fun i _ => 16 - (intOf i).toNat)
  case atStart => exact ⟨0, by omega, rfl, by rw [wfill_zero]; exact sched_new w⟩
  case round =>
    obtain ⟨k, hk, rfl, hS⟩ := hrel
    have HS := Lib.hid hS
    clear hS
    by_cases hlt : k < 16
    · have l1 : (k : Int) < 16 := by omega
      go_wp2
      go_loopw [23] (fun i wr => ∃ j : Nat, j ≤ 4 ∧ i = .int .i64 j ∧ SchedAt w wr ((wfill bs k).set k (part bs k j))) (fun i _ => 4 - (intOf i).toNat)
      case atStart => exact ⟨0, by omega, rfl, by rw [part, wfill_set0 bs k (by omega)]; exact HS.out⟩
      case round =>
        obtain ⟨j, hj, rfl, hT⟩ := hrel
        by_cases hlt2 : j < 4
        · have l2 : (j : Int) < 4 := by omega
          have c1 : wr.cell? ⟨g, o + 4 * k + j, none⟩ = some (.int .u8 (ub (gb bs (4 * k + j)))) := by
            have := HB.out.2 (4 * k + j) (by omega)
            rw [← Nat.add_assoc] at this
            rw [hT.1.cell (p := ⟨g, o + 4 * k + j, none⟩) hg]
            exact this
          have c2 : wr.cell? ⟨w.heap.size + 1, k, none⟩ = some (.int .u32 (un (part bs k j))) := by
            refine hT.2.2.cell k _ ?_
            rw [Us_at _ _ (by rw [List.length_set, wfill_length bs k (by omega)]; omega), wfill_part bs k j _ (by omega)]
          have c3 : wr.frozen? ⟨w.heap.size + 1, k, none⟩ = false := hT.2.2.frozen k
          have HT := Lib.hid hT
          clear hT
          go_wp2
          go_roundw
          case rel => exact ⟨j + 1, by omega, by go_num, by have := HT.out.put k (part bs k (j + 1)); rw [List.set_set] at this; exact this⟩
          case measure => simp [intOf]; omega
        · have e : j = 4 := by omega
          subst e
          have HT := Lib.hid hT
          clear hT HS
          go_wp2
          go_roundw
          case rel => exact ⟨k + 1, by omega, by go_num, by rw [← wfill_set16 bs k hlt]; exact HT.out⟩
          case measure => simp [intOf]; omega
    · have e : k = 16 := by omega
      subst e
      go_wp2
      go_loopw [7] (fun i wr => ∃ k : Nat, 16 ≤ k ∧ k ≤ 64 ∧ i = .int .i64 k ∧ SchedAt w wr (wfill bs k)) (fun i _ => 64 - (intOf i).toNat)
      case atStart => exact ⟨16, by omega, by omega, rfl, HS.out⟩
      case round =>
        obtain ⟨k, hk1, hk2, rfl, hT⟩ := hrel
        by_cases hlt2 : k < 64
        · have l2 : (k : Int) < 64 := by omega
          have l3 : 16 ≤ (k : Int) := by omega
          have cell : ∀ i, i < k → wr.cell? ⟨w.heap.size + 1, i, none⟩ = some (.int .u32 (un (gw (wl bs k) i))) := fun i hi => by
            rw [← wfill_old bs k i hi]
            exact hT.2.2.cell i _ (Us_at _ _ (by rw [wfill_length bs k (by omega)]; omega))
          have c15 := cell (k - 15) (by omega)
          have c2 := cell (k - 2) (by omega)
          have c7 := cell (k - 7) (by omega)
          have c16 := cell (k - 16) (by omega)
          clear cell
          have ck : wr.cell? ⟨w.heap.size + 1, k, none⟩ = some (.int .u32 (un 0)) := by
            rw [← wfill_new bs k hlt2]
            exact hT.2.2.cell k _ (Us_at _ _ (by rw [wfill_length bs k (by omega)]; omega))
          have cf : wr.frozen? ⟨w.heap.size + 1, k, none⟩ = false := hT.2.2.frozen k
          have HT := Lib.hid hT
          clear hT
          go_wp2
          go_quiet (fail)
          go_wp2_with (go_at_call 268; refine (right_any _ _ (by omega) (by omega) _).mono ?_; rintro e w' ⟨rfl, rfl⟩)
          go_region
          go_wp2
          go_roundw
          case rel => ((repeat apply Exists.intro); exact ⟨⟨k + 1, by omega, by omega, by go_num, by rw [← wfill_set bs k hlt2, next_val bs _ k hk1]; exact (HT.out.drewN _).put k _⟩, rfl⟩)
          case measure => simp [intOf]; omega
        · have e : k = 64 := by omega
          subst e
          rw [wfill_all] at hT
          have HT := Lib.hid hT
          clear hT HS
          go_wp2_with (first | (refine wpl_load rfl 243 _ rfl (w.heap.size + 1) rfl 243 _ HT.out.2.2 64 207 Tryz.underlying243 (by rw [Tryz.size64]; simp) ?_) | (refine wpl_store rfl 243 _ _ rfl w.heap.size (Us (wl bs 64)) rfl rfl 243 _ HT.out.2.1 (by rw [Tryz.size64]; simp) (by simp) (Us_one _) ?_))
          refine bodyPost_ret (v := .agg (Us (wl bs 64)).toArray) (res_row rfl _ _ w.heap.size 243 _ 64 207 rfl (HT.out.2.1.row _) Tryz.underlying243 (by rw [Tryz.size64]; simp)) rfl ⟨rfl, below_setRow' HT.out.1 (Nat.le_refl _) _⟩
end Go.Proofs.YtpbnigpdpkfpaaaGreatDoor
namespace Go.Proofs.YtpbnigpdpkfpaaaGreatDoor
open Go.RowKit
attribute [local go_sem] un_add un_shl8 un_of_byte un_addm un_and un_or un_xor un_not un_shl8m un_shr3 un_shr10 ub_mod un_mod
def zero64 : List Value := Us (List.replicate 64 0)
def zero8 : List Value := Us (List.replicate 8 0)
set_option maxRecDepth 100000 in
set_option maxHeartbeats 400000 in
theorem consts_any (w : World) :
    Calls Tryz.prog 267 #[] w fun e w' => e = .returned (.agg (Us ks).toArray) ∧ Below w.heap.size w w' := by
  have hb0 : Blk (w.alloc (.cells zero64.toArray 243)) w.heap.size 243 zero64 := Blk.new w _ _
  have HB := Lib.hid hb0
  clear hb0
  go_enter Tryz.func267, Tryz.ntmps267
  go_wp2_with (first | (refine wpl_build rfl 243 _ rfl (Us ks) (by kernel_rfl) ?_) | (refine wpl_store rfl 243 _ _ rfl w.heap.size (Us ks) rfl rfl 243 _ HB.out (by rw [Tryz.size64]; rfl) rfl (Us_one _) ?_))
  refine bodyPost_ret (v := .agg (Us ks).toArray) (res_row rfl _ _ w.heap.size 243 _ 64 207 rfl (HB.out.row _) Tryz.underlying243 (by rw [Tryz.size64]; rfl)) rfl ⟨rfl, below_setRow' ((Below.refl _ _).alloc (Nat.le_refl _) _) (Nat.le_refl _) _⟩
set_option maxRecDepth 100000 in
set_option maxHeartbeats 400000 in
theorem table_any (w : World) :
    Calls Tryz.prog 202 #[] w fun e w' => e = .returned (.agg (Us ks).toArray) ∧ Below w.heap.size w w' := by
  have hb0 : Blk (w.alloc (.cells zero64.toArray 243)) w.heap.size 243 zero64 := Blk.new w _ _
  have HB := Lib.hid hb0
  clear hb0
  go_enter Tryz.func202, Tryz.ntmps202
  go_wp2_with (first | (refine wpl_build rfl 243 _ rfl (Us ks) (by kernel_rfl) ?_) | (refine wpl_store rfl 243 _ _ rfl w.heap.size (Us ks) rfl rfl 243 _ HB.out (by rw [Tryz.size64]; rfl) rfl (Us_one _) ?_))
  refine bodyPost_ret (v := .agg (Us ks).toArray) (res_row rfl _ _ w.heap.size 243 _ 64 207 rfl (HB.out.row _) Tryz.underlying243 (by rw [Tryz.size64]; rfl)) rfl ⟨rfl, below_setRow' ((Below.refl _ _).alloc (Nat.le_refl _) _) (Nat.le_refl _) _⟩
set_option maxRecDepth 100000 in
set_option maxHeartbeats 400000 in
theorem first_any (w : World) :
    Calls Tryz.prog 223 #[] w fun e w' => e = .returned (.agg (Us h0s).toArray) ∧ Below w.heap.size w w' := by
  have hb0 : Blk (w.alloc (.cells zero8.toArray 208)) w.heap.size 208 zero8 := Blk.new w _ _
  have HB := Lib.hid hb0
  clear hb0
  go_enter Tryz.func223, Tryz.ntmps223
  go_wp2_with (first | (refine wpl_build rfl 208 _ rfl (Us h0s) (by kernel_rfl) ?_) | (refine wpl_store rfl 208 _ _ rfl w.heap.size (Us h0s) rfl rfl 208 _ HB.out (by rw [Tryz.size8]; rfl) rfl (Us_one _) ?_))
  refine bodyPost_ret (v := .agg (Us h0s).toArray) (res_row rfl _ _ w.heap.size 208 _ 8 207 rfl (HB.out.row _) Tryz.underlying208 (by rw [Tryz.size8]; rfl)) rfl ⟨rfl, below_setRow' ((Below.refl _ _).alloc (Nat.le_refl _) _) (Nat.le_refl _) _⟩
end Go.Proofs.YtpbnigpdpkfpaaaGreatDoor
namespace Go.Proofs.YtpbnigpdpkfpaaaGreatDoor
open Go.RowKit
attribute [local go_sem] un_add un_shl8 un_of_byte un_addm un_and un_or un_xor un_not un_not' un_shl8m un_shr3 un_shr10 ub_mod un_mod
theorem hsz (w : World) (o : Obj) : (w.alloc o).heap.size = w.heap.size + 1 := by simp
/-- What is boxed, and what is handed back, in a world. -/
def Mx0 (w W : World) (l r : List (BitVec 32)) : Prop := Below w.heap.size w W ∧ Blk W w.heap.size 208 (Us l) ∧ Blk W (w.heap.size + 1) 208 (Us r)
theorem Mx0.new (w : World) (l : List (BitVec 32)) : Mx0 w ((w.alloc (.cells (Us l).toArray 208)).alloc (.cells zero8.toArray 208)) l (List.replicate 8 0) := by
  refine ⟨((Below.refl _ _).alloc (Nat.le_refl _) _).alloc (by simp) _, (Blk.new w _ _).alloc _, ?_⟩
  have := Blk.new (w.alloc (.cells (Us l).toArray 208)) 208 zero8
  rwa [hsz] at this
theorem Mx0.lt {w W : World} {l r : List (BitVec 32)} (h : Mx0 w W l r) : w.heap.size + 2 ≤ W.heap.size := by have := h.2.2.lt; omega
theorem Mx0.below {w W W1 : World} {l r : List (BitVec 32)} (h : Mx0 w W l r) (hb : Below W.heap.size W W1) : Mx0 w W1 l r :=
  ⟨h.1.trans (hb.mono (by have := h.lt; omega)), h.2.1.below hb, h.2.2.below hb⟩
theorem z8_eq : (Obj.cells #[.int .u32 0, .int .u32 0, .int .u32 0, .int .u32 0, .int .u32 0, .int .u32 0, .int .u32 0, .int .u32 0] 208 : Obj) = .cells zero8.toArray 208 := rfl
theorem z64_eq : (Obj.cells #[.int .u32 0, .int .u32 0, .int .u32 0, .int .u32 0, .int .u32 0, .int .u32 0, .int .u32 0, .int .u32 0, .int .u32 0, .int .u32 0, .int .u32 0, .int .u32 0, .int .u32 0, .int .u32 0, .int .u32 0, .int .u32 0, .int .u32 0, .int .u32 0, .int .u32 0, .int .u32 0, .int .u32 0, .int .u32 0, .int .u32 0, .int .u32 0, .int .u32 0, .int .u32 0, .int .u32 0, .int .u32 0, .int .u32 0, .int .u32 0, .int .u32 0, .int .u32 0, .int .u32 0, .int .u32 0, .int .u32 0, .int .u32 0, .int .u32 0, .int .u32 0, .int .u32 0, .int .u32 0, .int .u32 0, .int .u32 0, .int .u32 0, .int .u32 0, .int .u32 0, .int .u32 0, .int .u32 0, .int .u32 0, .int .u32 0, .int .u32 0, .int .u32 0, .int .u32 0, .int .u32 0, .int .u32 0, .int .u32 0, .int .u32 0, .int .u32 0, .int .u32 0, .int .u32 0, .int .u32 0, .int .u32 0, .int .u32 0, .int .u32 0, .int .u32 0] 243 : Obj) = .cells zero64.toArray 243 := rfl
theorem Mx0.alloc {w W : World} {l r : List (BitVec 32)} (h : Mx0 w W l r) (o : Obj) : Mx0 w (W.alloc o) l r :=
  ⟨h.1.alloc (by have := h.lt; omega) o, h.2.1.alloc o, h.2.2.alloc o⟩
theorem Mx0.setRow {w W : World} {l r : List (BitVec 32)} (h : Mx0 w W l r) {g : Nat} (hg : w.heap.size + 2 ≤ g) (cs : Array Value) : Mx0 w (W.setRow g cs) l r :=
  ⟨below_setRow' h.1 (by omega) cs, h.2.1.rowFar (by omega) cs, h.2.2.rowFar (by omega) cs⟩
theorem Mx0.drewN {w W : World} {l r : List (BitVec 32)} (h : Mx0 w W l r) (n : Nat) : Mx0 w (W.drewN n) l r := ⟨below_drewN h.1 n, h.2.1, h.2.2⟩
/-- The words of the block, and what is added. -/
def Mx1 (w W : World) (p : Nat) (l ws : List (BitVec 32)) : Prop :=
  Mx0 w W l (List.replicate 8 0) ∧ w.heap.size + 2 ≤ p ∧ Blk W p 243 (Us ws) ∧ Blk W (p + 1) 243 (Us ks)
theorem Mx1.new {w w2 : World} {l : List (BitVec 32)} (h : Mx0 w w2 l (List.replicate 8 0)) (ws : List (BitVec 32)) :
    Mx1 w ((((w2.alloc (.cells zero64.toArray 243)).alloc (.cells zero64.toArray 243)).setRow w2.heap.size (Us ws).toArray).setRow (w2.heap.size + 1) (Us ks).toArray) w2.heap.size l ws ∧
    ((((w2.alloc (.cells zero64.toArray 243)).alloc (.cells zero64.toArray 243)).setRow w2.heap.size (Us ws).toArray).setRow (w2.heap.size + 1) (Us ks).toArray).heap.size = w2.heap.size + 2 := by
  have hl := h.lt
  have n1 := (Blk.new w2 243 zero64).alloc (.cells zero64.toArray 243)
  have n0 := Blk.new (w2.alloc (.cells zero64.toArray 243)) 243 zero64
  rw [hsz] at n0
  refine ⟨⟨(((h.alloc _).alloc _).setRow hl _).setRow (by omega) _, hl, (n1.row _).rowFar (by omega) _, (n0.rowFar (by omega) _).row _⟩, by simp⟩
/-- .. and the eight words. -/
def Mx (w W : World) (p : Nat) (l ws v : List (BitVec 32)) : Prop := Mx1 w W p l ws ∧ Blk W (p + 2) 208 (Us v)
theorem Mx.new {w W : World} {p : Nat} {l ws : List (BitVec 32)} (h : Mx1 w W p l ws) (hs : W.heap.size = p + 2) (v : List (BitVec 32)) :
    Mx w ((W.alloc (.cells zero8.toArray 208)).setRow (p + 2) (Us v).toArray) p l ws v := by
  obtain ⟨h0, hp, h1, h2⟩ := h
  have n := Blk.new W 208 zero8
  rw [hs] at n
  exact ⟨⟨(h0.alloc _).setRow (by omega) _, hp, (h1.alloc _).rowFar (by omega) _, (h2.alloc _).rowFar (by omega) _⟩, n.row _⟩
theorem Mx.drewN {w W : World} {p : Nat} {l ws v : List (BitVec 32)} (h : Mx w W p l ws v) (n : Nat) : Mx w (W.drewN n) p l ws v := ⟨⟨h.1.1.drewN n, h.1.2.1, h.1.2.2.1, h.1.2.2.2⟩, h.2⟩
theorem Mx.put {w W : World} {p : Nat} {l ws v : List (BitVec 32)} (h : Mx w W p l ws v) (v' : List (BitVec 32)) : Mx w (W.setRow (p + 2) (Us v').toArray) p l ws v' := by
  obtain ⟨⟨h0, hp, h1, h2⟩, h3⟩ := h
  exact ⟨⟨h0.setRow (by omega) _, hp, h1.rowFar (by omega) _, h2.rowFar (by omega) _⟩, h3.row _⟩
theorem Mx.box {w W : World} {p : Nat} {l ws v : List (BitVec 32)} (h : Mx w W p l ws v) (k : Nat) (x : BitVec 32) : Mx w (W.setCell ⟨w.heap.size, k, none⟩ (.int .u32 (un x))) p (l.set k x) ws v := by
  obtain ⟨⟨⟨h0, hl, hr⟩, hp, h1, h2⟩, h3⟩ := h
  exact ⟨⟨⟨h0.setCell (Nat.le_refl _) _, by rw [← Us_set]; exact hl.setCell k _, hr.far (by simp) _⟩, hp, h1.far (by simp; omega) _, h2.far (by simp; omega) _⟩, h3.far (by simp; omega) _⟩
set_option maxRecDepth 100000 in
set_option maxHeartbeats 1000000 in
theorem mixed_any (s : St) (g o c : Nat) (bs : List UInt8) (w : World) (hc : 64 ≤ c) (hm : c ≤ 9223372036854775807) (hg : g < w.heap.size) (hb : BytesAt w g o 64 bs) :
    Calls Tryz.prog 224 #[.agg (Us s.list).toArray, .slice (some ⟨g, o, none⟩) 64 c] w fun e w' => e = .returned (.agg (Us (mix s bs).list).toArray) ∧ Below w.heap.size w w' := by
  have M0 := Lib.hid (Mx0.new w s.list)
  have B0 := Lib.hid (hb.of_block (w1 := (w.alloc (.cells (Us s.list).toArray 208)).alloc (.cells zero8.toArray 208)) ((Mx0.new w s.list).1.block g hg))
  clear hb
  have z8 := z8_eq
  have z64 := z64_eq
  go_enter Tryz.func224, Tryz.ntmps224
  go_wp2_with fail
  have hg' : g < ((w.alloc (.cells (Us s.list).toArray 208)).alloc (.cells zero8.toArray 208)).heap.size := by rw [hsz, hsz]; omega
  refine (schedule_any g o c bs _ hc hm hg' B0.out).mono ?_
  rintro e w1 ⟨rfl, hb1⟩
  have M1 := Lib.hid (M0.out.below hb1)
  clear hb1 M0 B0 hg'
  go_wp2_with fail
  refine (consts_any _).mono ?_
  rintro e w2 ⟨rfl, hb2⟩
  have M2 := Lib.hid (M1.out.below hb2)
  clear hb2 M1
  have N0 := Lib.hid (Blk.new (w2.alloc (.cells zero64.toArray 243)) 243 zero64)
  have N1 := Lib.hid ((Blk.new w2 243 zero64).alloc (.cells zero64.toArray 243))
  have M3 := Mx1.new M2.out (wl bs 64)
  have M3' := Lib.hid M3
  clear M3 M2
  rw [hsz] at N0
  go_wp2_with (first
    | (refine wpl_store rfl 243 (.tmp 5) _ rfl w2.heap.size (Us (wl bs 64)) rfl rfl 243 _ N1.out (by rw [Tryz.size64]; simp) (by simp [zero64]) (Us_one _) ?_)
    | (refine wpl_store rfl 243 (.tmp 6) _ rfl (w2.heap.size + 1) (Us ks) rfl rfl 243 _ (N0.out.rowFar (by omega) _) (by rw [Tryz.size64]; rfl) (by simp [zero64]; rfl) (Us_one _) ?_; generalize (((w2.alloc (.cells zero64.toArray 243)).alloc (.cells zero64.toArray 243)).setRow w2.heap.size (Us (wl bs 64)).toArray).setRow (w2.heap.size + 1) (Us ks).toArray = W3 at M3' ⊢; clear N0 N1)
    | (refine wpl_load rfl 208 (.tmp 2) rfl w.heap.size rfl 208 _ M3'.out.1.1.2.1 8 207 Tryz.underlying208 (by rw [Tryz.size8]; simp [St.list]) ?_)
    | (refine wpl_store rfl 208 (.tmp 7) _ rfl W3.heap.size (Us s.list) rfl rfl 208 _ (Blk.new W3 208 zero8) (by rw [Tryz.size8]; simp [St.list]) (by simp [zero8, St.list]) (Us_one _) ?_; rw [show W3.heap.size = w2.heap.size + 2 from M3'.out.2]))
  have M4 := Lib.hid (Mx.new M3'.out.1 M3'.out.2 s.list)
  generalize (W3.alloc (.cells zero8.toArray 208)).setRow (w2.heap.size + 2) (Us s.list).toArray = W4 at M4 ⊢
  clear M3'
  generalize w2.heap.size = p at M4 ⊢
  go_loopw [20] (fun i wr => ∃ k : Nat, k ≤ 64 ∧ i = .int .i64 k ∧ Mx w wr p s.list (wl bs 64) (rounds (wl bs 64) s k).list) (fun i _ => 64 - (intOf i).toNat)
  case atStart => exact ⟨0, by omega, rfl, M4.out⟩
  case round =>
    obtain ⟨k, hk, rfl, hT⟩ := hrel
    clear M4
    by_cases hlt : k < 64
    · have l1 : (k : Int) < 64 := by omega
      have HR : Hid (rounds (wl bs 64) s (k + 1) = round1 (rounds (wl bs 64) s k) (gw ks k) (gw (wl bs 64) k)) := rfl
      generalize rounds (wl bs 64) s k = r at hT HR
      have HR' := Lib.hid HR.out
      clear HR
      have c0 := hT.2.cell 0 (.int .u32 (un r.a)) rfl
      have c1 := hT.2.cell 1 (.int .u32 (un r.b)) rfl
      have c2 := hT.2.cell 2 (.int .u32 (un r.c)) rfl
      have c3 := hT.2.cell 3 (.int .u32 (un r.d)) rfl
      have c4 := hT.2.cell 4 (.int .u32 (un r.e)) rfl
      have c5 := hT.2.cell 5 (.int .u32 (un r.f)) rfl
      have c6 := hT.2.cell 6 (.int .u32 (un r.g)) rfl
      have c7 := hT.2.cell 7 (.int .u32 (un r.h)) rfl
      have ck := hT.1.2.2.2.cell k _ (Us_at ks k hlt)
      have cw := hT.1.2.2.1.cell k _ (Us_at (wl bs 64) k (by simpa using hlt))
      have HT := Lib.hid hT
      clear hT
      generalize gw ks k = kk at ck HR'
      generalize gw (wl bs 64) k = ww at cw HR'
      go_wp2
      go_quiet (fail)
      go_wp2_with (go_at_call 268; refine (right_any _ _ (by omega) (by omega) _).mono ?_; rintro e w' ⟨rfl, rfl⟩)
      go_quiet (fail)
      have HT' := Lib.hid (HT.out.drewN)
      go_wp2_with (first
        | (go_at_call 268; refine (right_any _ _ (by omega) (by omega) _).mono ?_; rintro e w' ⟨rfl, rfl⟩)
        | (refine wpl_build rfl 208 _ rfl (Us (round1 r kk ww).list) (by kernel_rfl) ?_)
        | (refine wpl_store rfl 208 (.tmp 7) _ rfl (p + 2) (Us (round1 r kk ww).list) rfl rfl 208 _ (HT'.out _).2 (by rw [Tryz.size8]; simp [St.list]) (by simp [St.list]) (Us_one _) ?_))
      go_roundw
      case rel => exact ⟨k + 1, by omega, by go_num, by rw [HR'.out]; exact (HT'.out _).put _⟩
      case measure => simp [intOf]; omega
    · have e : k = 64 := by omega
      subst e
      have HM : Hid (mix s bs = s.add (rounds (wl bs 64) s 64)) := rfl
      generalize rounds (wl bs 64) s 64 = r at hT HM
      have HM' := Lib.hid HM.out
      have HT := Lib.hid hT
      clear hT HM
      go_wp2
      go_loopw [102] (fun i wr => ∃ k : Nat, k ≤ 8 ∧ i = .int .i64 k ∧ Mx w wr p (mixk s r k) (wl bs 64) r.list) (fun i _ => 8 - (intOf i).toNat)
      case atStart => exact ⟨0, by omega, rfl, by rw [mixk_zero]; exact HT.out⟩
      case round =>
        obtain ⟨k, hk, rfl, hT⟩ := hrel
        clear HT
        by_cases hlt : k < 8
        · have l1 : (k : Int) < 8 := by omega
          have c1 := hT.1.1.2.1.cell k _ (Us_at (mixk s r k) k (by rw [mixk_length s r k hk]; omega))
          rw [mixk_at s r k hlt] at c1
          have c2 := hT.2.cell k _ (Us_at r.list k (by simpa [St.list] using hlt))
          have c3 := hT.1.1.2.1.frozen k
          have HT := Lib.hid hT
          clear hT
          have HN := Lib.hid (mixk_set s r k hlt)
          generalize gw s.list k = x at c1 HN
          generalize gw r.list k = y at c2 HN
          go_wp2
          go_region
          go_wp2
          go_roundw
          case rel => exact ⟨k + 1, by omega, by go_num, by rw [← HN.out]; exact (HT.out.drewN _).box _ _⟩
          case measure => simp [intOf]; omega
        · have e : k = 8 := by omega
          subst e
          rw [mixk_all, ← HM'.out] at hT
          have HT := Lib.hid hT
          clear hT HM'
          obtain ⟨m, hm⟩ : ∃ m, m = mix s bs := ⟨_, rfl⟩
          rw [← hm] at HT
          have HM2 := Lib.hid hm
          clear hm
          go_wp2_with (first
            | (refine wpl_load rfl 208 (.tmp 2) rfl w.heap.size rfl 208 _ HT.out.1.1.2.1 8 207 Tryz.underlying208 (by rw [Tryz.size8]; simp [St.list]) ?_)
            | (refine wpl_store rfl 208 (.tmp 4) _ rfl (w.heap.size + 1) (Us m.list) rfl rfl 208 _ HT.out.1.1.2.2 (by rw [Tryz.size8]; simp [St.list]) (by simp [St.list]) (Us_one _) ?_))
          refine bodyPost_ret (v := .agg (Us m.list).toArray) (res_row rfl _ _ (w.heap.size + 1) 208 _ 8 207 rfl (HT.out.1.1.2.2.row _) Tryz.underlying208 (by rw [Tryz.size8]; simp [St.list])) rfl ⟨by rw [HM2.out], below_setRow' HT.out.1.1.1 (by omega) _⟩
end Go.Proofs.YtpbnigpdpkfpaaaGreatDoor
namespace Go.Proofs.YtpbnigpdpkfpaaaGreatDoor
open Go.RowKit
/-- Slice v holds the n elements (of 'size' cells each) xs, in a block from base on that is not frozen. -/
def RowQ (w : World) (base : Nat) (e : TypeId) (size : Nat) (v : Value) (n : Nat) (xs : List Value) : Prop :=
  xs.length = n * size ∧ ((v = .slice none 0 0 ∧ n = 0) ∨
    ∃ g o cap cur, v = .slice (some ⟨g, o, none⟩) n cap ∧ base ≤ g ∧ w.heap[g]? = some (.cells cur e (0, 0)) ∧ n ≤ cap ∧ cap ≤ maxLen ∧ o + cap * size ≤ cur.size ∧ (cur.toList.drop o).take (n * size) = xs)
/-- What may be appended: m elements that can be read; nil where there are none. -/
def Src (w : World) (size : Nat) (A : Option Addr) (m : Nat) (news : List Value) : Prop :=
  news.length = m * size ∧ (0 < m → ∃ ad, A = some ad ∧ ∀ j u, news[j]? = some u → w.cell? (ad.add j) = some u) ∧ ∀ u ∈ news, u.oneCell' = true
theorem RowQ.nil (w : World) (base : Nat) (e : TypeId) (size : Nat) : RowQ w base e size (.slice none 0 0) 0 [] := ⟨by simp, .inl ⟨rfl, rfl⟩⟩
theorem RowQ.lt {w : World} {base : Nat} {e : TypeId} {size : Nat} {v : Value} {n : Nat} {xs : List Value} (h : RowQ w base e size v n xs) : ∀ k, v.ownBlock = some k → base ≤ k ∧ k < w.heap.size := by
  intro k hk
  rcases h.2 with ⟨rfl, _⟩ | ⟨g, o, cap, cur, rfl, hb, hg, _⟩
  · simp [Value.ownBlock] at hk
  · simp [Value.ownBlock] at hk
    subst hk
    exact ⟨hb, (Array.getElem?_eq_some_iff.1 hg).1⟩
theorem RowQ.of_block {w w' : World} {base : Nat} {e : TypeId} {size : Nat} {v : Value} {n : Nat} {xs : List Value} (h : RowQ w base e size v n xs) (hb : ∀ k, v.ownBlock = some k → w'.heap[k]? = w.heap[k]?) : RowQ w' base e size v n xs := by
  refine ⟨h.1, ?_⟩
  rcases h.2 with h | ⟨g, o, cap, cur, rfl, hbg, hg, r⟩
  · exact .inl h
  · exact .inr ⟨g, o, cap, cur, rfl, hbg, (hb g rfl).trans hg, r⟩
theorem RowQ.grown {w w' : World} {row : Option Nat} {base : Nat} {e : TypeId} {size : Nat} {v : Value} {n : Nat} {xs : List Value} (h : RowQ w base e size v n xs) (hg : w.grownBy w' row) (hne : v.ownBlock = none ∨ v.ownBlock ≠ row) : RowQ w' base e size v n xs :=
  h.of_block fun k hk => hg.block k (h.lt k hk).2 (by rcases hne with h' | h' <;> rw [hk] at h'; · cases h'
                                                      · exact h')
theorem RowQ.below {w w' : World} {base : Nat} {e : TypeId} {size : Nat} {v : Value} {n : Nat} {xs : List Value} (h : RowQ w base e size v n xs) (hb : Below w.heap.size w w') : RowQ w' base e size v n xs :=
  h.of_block fun k hk => hb.block k (h.lt k hk).2
theorem RowQ.alloc {w : World} {base : Nat} {e : TypeId} {size : Nat} {v : Value} {n : Nat} {xs : List Value} (h : RowQ w base e size v n xs) (o : Obj) : RowQ (w.alloc o) base e size v n xs :=
  h.of_block fun k hk => Below.heap_alloc w o k (h.lt k hk).2
theorem RowQ.drewN {w : World} {base : Nat} {e : TypeId} {size : Nat} {v : Value} {n : Nat} {xs : List Value} (h : RowQ w base e size v n xs) (m : Nat) : RowQ (w.drewN m) base e size v n xs := h
theorem RowQ.far {w : World} {base : Nat} {e : TypeId} {size : Nat} {v : Value} {n : Nat} {xs : List Value} (h : RowQ w base e size v n xs) {p : Addr} (hp : v.ownBlock ≠ some p.block) (u : Value) : RowQ (w.setCell p u) base e size v n xs :=
  h.of_block fun k hk => heap_setCell_other w p k u (fun e => hp (by rw [hk, e]))
theorem RowQ.rowFar {w : World} {base : Nat} {e : TypeId} {size : Nat} {v : Value} {n : Nat} {xs : List Value} (h : RowQ w base e size v n xs) {g : Nat} (hp : v.ownBlock ≠ some g) (cs : Array Value) : RowQ (w.setRow g cs) base e size v n xs :=
  h.of_block fun k hk => setRow_other w g k cs (fun e => hp (by rw [hk, e]))
/-- The shape of the value. -/
theorem RowQ.shape {w : World} {base : Nat} {e : TypeId} {size : Nat} {v : Value} {n : Nat} {xs : List Value} (h : RowQ w base e size v n xs) : ∃ A c, v = .slice A n c ∧ n ≤ c ∧ c ≤ maxLen := by
  rcases h.2 with ⟨rfl, rfl⟩ | ⟨g, o, cap, cur, rfl, hbg, hg, h1, h2, _⟩
  · exact ⟨none, 0, rfl, Nat.le_refl _, by simp⟩
  · exact ⟨_, cap, rfl, h1, h2⟩
theorem RowQ.src {w : World} {base : Nat} {e : TypeId} {size : Nat} {A : Option Addr} {n c : Nat} {xs : List Value} (h : RowQ w base e size (.slice A n c) n xs) (h1 : ∀ u ∈ xs, u.oneCell' = true) : Src w size A n xs := by
  refine ⟨h.1, fun hp => ?_, h1⟩
  rcases h.2 with ⟨hv, hn⟩ | ⟨g, o, cap, cur, hv, hbg, hg, _, _, _, ht⟩
  · omega
  · injection hv with hA _ hc
    refine ⟨_, hA, fun j u hu => ?_⟩
    have hadd : (⟨g, o, none⟩ : Addr).add j = ⟨g, o + j, none⟩ := by unfold Addr.add; split <;> simp_all
    rw [hadd, cell_of_row w g (o + j) cur e (0, 0) hg]
    rw [← ht, List.getElem?_take] at hu
    split at hu
    · rw [List.getElem?_drop] at hu; simpa using hu
    · cases hu
section
variable {P : Program} (w : World)
theorem run_append_Q (base : Nat) (t ty e : TypeId) (i : TypeInfo) (z : Value) (size bytes : Nat) (ht : P.underlying t = some (.slice e)) (hi : P.info? e = some i) (hz : i.zero = some z)
    (hsize : i.size = size) (hby : i.bytes = bytes) (hzs : z.cells.size = size) (hsz : 0 < size)
    (v : Value) (n : Nat) (xs : List Value) (hown : RowQ w base e size v n xs)
    (A : Option Addr) (m c : Nat) (news : List Value) (hs : Src w size A m news)
    (h63 : n + m ≤ maxLen) (hbytes : (n + m) * bytes ≤ 140737488355328) (hbase : base ≤ w.heap.size) :
    ∃ v' w', (Builtin.append_ #[t, t] ty #[v, .slice A m c]).run P w = .ok v' w' ∧ RowQ w' base e size v' (n + m) (xs ++ news) ∧ w.grownBy w' v.ownBlock ∧
      (v'.ownBlock = v.ownBlock ∨ v'.ownBlock = some w.heap.size) := by
  subst hsize
  subst hby
  obtain ⟨hl, hnews, h1⟩ := hs
  have hlen : (xs ++ news).length = (n + m) * i.size := by rw [List.length_append, hown.1, hl, Nat.add_mul]
  have hsmall : n + m ≤ 9223372036854775807 := by simp only [maxLen] at h63; omega
  rcases Nat.eq_zero_or_pos m with hm | hm
  · subst hm
    have hn : news = [] := List.eq_nil_of_length_eq_zero (by simpa using hl)
    subst hn
    refine ⟨v, w, ?_, by simpa using hown, ⟨rfl, rfl, rfl, Nat.le_refl _, fun _ _ _ => rfl⟩, .inl rfl⟩
    rcases hown.2 with ⟨rfl, rfl⟩ | ⟨g, o, cap, cur, rfl, _, _, hnc, _⟩
    · cases A <;> simp [Builtin.append_, run_underlying ht, sizeOf, typeInfo, hi, Builtin.lenOf, Builtin.firstCells, loadCells, loadCellsFrom]
    · cases A <;> simp [Builtin.append_, run_underlying ht, sizeOf, typeInfo, hi, Builtin.lenOf, Builtin.firstCells, hnc, storeCells, loadCells, loadCellsFrom]
  obtain ⟨a, rfl, hcells⟩ := hnews hm
  have grown : ∀ (old : Nat), old < n + m → ∀ (row : Option Nat),
      RowQ (w.drew.alloc (.cells (xs.toArray ++ news.toArray ++ Builtin.zeroCells z.cells (grownCap w (n + m) old e - (n + m))) e)) base e i.size
        (.slice (some ⟨w.heap.size, 0, none⟩) (n + m) (grownCap w (n + m) old e)) (n + m) (xs ++ news) ∧
      w.grownBy (w.drew.alloc (.cells (xs.toArray ++ news.toArray ++ Builtin.zeroCells z.cells (grownCap w (n + m) old e - (n + m))) e)) row := by
    intro old ho row
    have hge := grownCap_ge w (n + m) old e
    have hcm : grownCap w (n + m) old e ≤ maxLen := grownCap_le_maxLen w (n + m) old e h63
    refine ⟨⟨hlen, .inr ⟨w.heap.size, 0, _, _, rfl, hbase, heap_alloc_new w.drew _, hge, hcm, ?_, ?_⟩⟩, ⟨rfl, rfl, rfl, by simp, fun k hk _ => Below.heap_alloc w.drew _ k hk⟩⟩
    · simp only [Array.size_append, List.size_toArray, size_zeroCells, hzs, hown.1, hl, ← Nat.add_mul, Nat.zero_add]
      exact Nat.mul_le_mul_right _ (by omega)
    · simp only [Array.toList_append, List.append_assoc, List.drop_zero]
      rw [← List.append_assoc, ← hlen]
      exact List.take_left
  rcases hown.2 with ⟨rfl, rfl⟩ | ⟨g, o, cap, cur, rfl, hbg, hg, hnc, hcm, hcs, htake⟩
  · have hx : xs = [] := List.eq_nil_of_length_eq_zero (by simpa using hown.1)
    subst hx
    have hr := run_append_nil (P := P) w t ty e i z ht hi hz a m c news hl hcells hm (by omega) (by have hb := hbytes; simp only [Nat.zero_add] at hb; omega)
    have hgr := grown 0 (by omega) (Value.ownBlock (.slice none 0 0))
    simp only [Nat.zero_add, List.nil_append, Array.empty_append] at hgr ⊢
    exact ⟨_, _, hr, hgr.1, hgr.2, .inr rfl⟩
  · by_cases hroom : n + m ≤ cap
    · have hmul : (n + m) * i.size ≤ cap * i.size := Nat.mul_le_mul_right _ hroom
      rw [Nat.add_mul] at hmul
      have hf := run_firstCells_some (P := P) w i.size m a m c news hl hcells
      have hst := run_storeCells_at P g (o + n * i.size) e news 0 cur w hg (by simp; omega) h1
      simp only [Nat.add_zero] at hst
      have hr : (Builtin.append_ #[t, t] ty #[.slice (some ⟨g, o, none⟩) n cap, .slice (some a) m c]).run P w =
          .ok (.slice (some ⟨g, o, none⟩) (n + m) cap) (w.setRow g (cur.toList.take (o + n * i.size) ++ news ++ cur.toList.drop (o + n * i.size + news.length)).toArray) := by
        simp [Builtin.append_, run_underlying ht, sizeOf, typeInfo, hi, Builtin.lenOf, hroom, hf, Addr.add_lit, hst]
      refine ⟨_, _, hr, ⟨hlen, .inr ⟨g, o, cap, _, rfl, hbg, setRow_heap w g cur _ e _ hg, hroom, hcm, ?_, ?_⟩⟩, ⟨rfl, rfl, rfl, by simp, fun k _ hk => setRow_other w g k _ (fun e => hk (by simp [Value.ownBlock, e]))⟩, .inl rfl⟩
      · simp only [List.size_toArray, List.length_append, List.length_take, List.length_drop, Array.length_toList]
        omega
      · have hlc : cur.toList.length = cur.size := by simp
        have e1 : cur.toList.take (o + n * i.size) = cur.toList.take o ++ xs := by
          rw [← htake, List.take_add]
        rw [e1, ← hlen, List.append_assoc, List.append_assoc, List.drop_append_of_le_length (by rw [List.length_take]; omega), List.drop_of_length_le (by rw [List.length_take]; omega), List.nil_append, ← List.append_assoc]
        exact List.take_left
    · have holds : ∀ j u, xs[j]? = some u → w.cell? ((⟨g, o, none⟩ : Addr).add j) = some u := by
        intro j u hu
        have hadd : (⟨g, o, none⟩ : Addr).add j = ⟨g, o + j, none⟩ := by unfold Addr.add; split <;> simp_all
        rw [hadd, cell_of_row w g (o + j) cur e (0, 0) hg]
        rw [← htake, List.getElem?_take] at hu
        split at hu
        · rw [List.getElem?_drop] at hu; simpa using hu
        · cases hu
      have hr := run_append_grow (P := P) w t ty e i z ht hi hz ⟨g, o, none⟩ n cap xs hown.1 holds a m c news hl hcells (by omega) (by omega) (growslice_fits (by omega) hbytes)
      have hgr := grown cap (by omega) (Value.ownBlock (.slice (some ⟨g, o, none⟩) n cap))
      exact ⟨_, _, hr, hgr.1, hgr.2, .inr rfl⟩
end
section
variable {P : Program} {ops : Array Oper} {rest : List Oper} {o : Oper} {a : Act} {Q : Exit → Act → World → Prop} {w : World}
theorem wpl_append (hgd : o.guard = none) (s x : Operand) (t : TypeId) (ho : o.op = .call { callee := .builtin .append, args := #[s, x], argTypes := #[t, t] })
    (base : Nat) (e : TypeId) (z : Value) (size bytes : Nat) (ht : P.underlying t = some (.slice e)) (hinfo : (P.info? e).map (fun i => (i.zero, i.size, i.bytes)) = some (some z, size, bytes)) (hzs : z.cells.size = size) (hsz : 0 < size)
    (v : Value) (n : Nat) (xs : List Value) (hs : a.eval s = v) (hown : RowQ w base e size v n xs)
    (A : Option Addr) (m c : Nat) (news : List Value) (hx : a.eval x = .slice A m c) (hsrc : Src w size A m news)
    (h63 : n + m ≤ 140737488355328) (hbytes : (n + m) * bytes ≤ 140737488355328) (hbase : base ≤ w.heap.size)
    (h : ∀ v' w', RowQ w' base e size v' (n + m) (xs ++ news) → w.grownBy w' v.ownBlock → (v'.ownBlock = v.ownBlock ∨ v'.ownBlock = some w.heap.size) → wpList P ops Q rest (a.put o.dst v') w') : wpList P ops Q (o :: rest) a w := by
  obtain ⟨i0, hi, hzz⟩ := Option.map_eq_some_iff.1 hinfo
  simp only [Prod.mk.injEq] at hzz
  obtain ⟨hz0, hz1, hz2⟩ := hzz
  obtain ⟨v', w', hr, h2, h3, h4⟩ := run_append_Q (P := P) w base t o.type e i0 z size bytes ht hi hz0 hz1 hz2 hzs hsz v n xs hown A m c news hsrc (by simp only [maxLen]; omega) hbytes hbase
  refine wpList_plain hgd fun K hK => ?_
  unfold Oper.wp execOp
  simp only [ho, resolve, invoke, builtin, Sem.run_bind, Sem.run_pure, Result.andThen_ok, List.map_toArray, List.map_cons, List.map_nil, hs, hx, hr]
  exact hK _ _ (h v' w' h2 h3 h4)
end
/-- A cut behind k elements ('xs[k:]'), in the walk's own spelling of the address. -/
theorem RowQ.drop {w : World} {base : Nat} {e : TypeId} {size : Nat} {A : Option Addr} {n c : Nat} {xs : List Value} (h : RowQ w base e size (.slice A n c) n xs) (k : Nat) (hk : k ≤ n) (hp : 0 < c) :
    RowQ w base e size (.slice (if c = k then A else A.map (·.add (k * size))) (n - k) (c - k)) (n - k) (xs.drop (k * size)) := by
  refine ⟨by rw [List.length_drop, h.1, Nat.sub_mul], ?_⟩
  rcases h.2 with ⟨hv, hn⟩ | ⟨g, o, cap, cur, hv, hbg, hg, hnc, hcm, hcs, ht⟩
  · injection hv with _ _ hc; omega
  · injection hv with hA _ hc
    subst hA
    subst hc
    by_cases hck : c = k
    · subst hck
      have e0 : n - c = 0 := by omega
      refine .inr ⟨g, o, c - c, cur, by simp, hbg, hg, by omega, by omega, by simp; omega, ?_⟩
      rw [e0]
      have : xs.drop (c * size) = [] := List.drop_of_length_le (by rw [h.1]; exact Nat.mul_le_mul_right _ hnc)
      simp [this]
    · have hadd : (⟨g, o, none⟩ : Addr).add (k * size) = ⟨g, o + k * size, none⟩ := by unfold Addr.add; split <;> simp_all
      refine .inr ⟨g, o + k * size, c - k, cur, by rw [if_neg hck]; simp [hadd], hbg, hg, by omega, by omega, ?_, ?_⟩
      · have := Nat.mul_le_mul_right size (show k ≤ c by omega)
        rw [Nat.sub_mul]; omega
      · rw [← ht, List.drop_take, List.drop_drop, Nat.sub_mul]
theorem RowQ.bytes {w : World} {base : Nat} {e : TypeId} {A : Option Addr} {n c : Nat} {bs : List UInt8} (h : RowQ w base e 1 (.slice A n c) n (Bs bs)) (hn : 0 < n) :
    ∃ g o, A = some ⟨g, o, none⟩ ∧ base ≤ g ∧ g < w.heap.size ∧ BytesAt w g o n bs := by
  have hl : bs.length = n := by have := h.1; simpa using this
  rcases h.2 with ⟨hv, hn0⟩ | ⟨g, o, cap, cur, hv, hbg, hg, hnc, hcm, hcs, ht⟩
  · omega
  · injection hv with hA _ hc
    subst hA
    refine ⟨g, o, rfl, hbg, (Array.getElem?_eq_some_iff.1 hg).1, hl, fun j hj => ?_⟩
    rw [cell_of_row w g (o + j) cur e (0, 0) hg]
    have := Bs_at bs j (by omega)
    rw [← ht, List.getElem?_take] at this
    rw [if_pos (by omega), List.getElem?_drop] at this
    simpa using this
end Go.Proofs.YtpbnigpdpkfpaaaGreatDoor
namespace Go.Proofs.YtpbnigpdpkfpaaaGreatDoor
open Go.RowKit
/-- Block g is a hash: the eight words, the bytes that are left in slice v, how many were put. -/
def HashAt (W : World) (B g : Nat) (s : St) (v : Value) (rs : List UInt8) (n : Int) : Prop :=
  Blk W g 259 (Us s.list ++ [v, .int .u64 n]) ∧ RowQ W B 5 1 v rs.length (Bs rs) ∧ v.ownBlock ≠ some g ∧ B ≤ g
/-- All but block g and row r is as it was. -/
structure Kept2 (W W' : World) (g : Nat) (r : Option Nat) : Prop where
  os : W'.os = W.os
  tape : W'.tape = W.tape
  output : W'.output = W.output
  size : W.heap.size ≤ W'.heap.size
  block : ∀ k, k < W.heap.size → k ≠ g → some k ≠ r → W'.heap[k]? = W.heap[k]?
theorem Kept2.refl (W : World) (g : Nat) (r : Option Nat) : Kept2 W W g r := ⟨rfl, rfl, rfl, Nat.le_refl _, fun _ _ _ _ => rfl⟩
theorem Kept2.trans {W W1 W2 : World} {g : Nat} {r : Option Nat} (h : Kept2 W W1 g r) (k : Kept2 W1 W2 g r) : Kept2 W W2 g r :=
  ⟨k.os.trans h.os, k.tape.trans h.tape, k.output.trans h.output, Nat.le_trans h.size k.size, fun i hi h1 h2 => (k.block i (Nat.lt_of_lt_of_le hi h.size) h1 h2).trans (h.block i hi h1 h2)⟩
theorem Kept2.setCell {W W1 : World} {g : Nat} {r : Option Nat} (h : Kept2 W W1 g r) (o : Nat) (u : Value) : Kept2 W (W1.setCell ⟨g, o, none⟩ u) g r :=
  h.trans ⟨rfl, rfl, rfl, by simp [World.setCell], fun k _ h1 _ => heap_setCell_other W1 ⟨g, o, none⟩ k u h1⟩
theorem Kept2.below {W W1 W2 : World} {g : Nat} {r : Option Nat} (h : Kept2 W W1 g r) (hb : Below W1.heap.size W1 W2) : Kept2 W W2 g r :=
  h.trans ⟨hb.os, hb.tape, hb.output, hb.size, fun k hk _ _ => hb.block k hk⟩
theorem Kept2.drewN {W W1 : World} {g : Nat} {r : Option Nat} (h : Kept2 W W1 g r) (n : Nat) : Kept2 W (W1.drewN n) g r := ⟨h.os, h.tape, h.output, h.size, h.block⟩
/-- A row that was grown: what was its block, or a new one. -/
theorem Kept2.grown {W W1 W2 : World} {g : Nat} {r : Option Nat} (h : Kept2 W W1 g r) {row : Option Nat} (hg : W1.grownBy W2 row) (hr : row = r ∨ ∀ k, row = some k → W.heap.size ≤ k) : Kept2 W W2 g r :=
  ⟨hg.os.trans h.os, hg.tape.trans h.tape, hg.output.trans h.output, Nat.le_trans h.size hg.size, fun i hi h1 h2 => by
    refine (hg.block i (Nat.lt_of_lt_of_le hi h.size) ?_).trans (h.block i hi h1 h2)
    rcases hr with rfl | hr
    · exact h2
    · intro e; have := hr i e.symm; omega⟩
theorem Kept2.toBelow {W W1 : World} {g : Nat} {r : Option Nat} (h : Kept2 W W1 g r) {B : Nat} (hB : B ≤ W.heap.size) (hg : B ≤ g) (hr : ∀ k, r = some k → B ≤ k) : Below B W W1 :=
  ⟨h.os, h.tape, h.output, h.size, fun k hk => h.block k (by omega) (by omega) (fun e => by have := hr k e.symm; omega)⟩
theorem HashAt.cell {W : World} {B g : Nat} {s : St} {v : Value} {rs : List UInt8} {n : Int} (h : HashAt W B g s v rs n) :
    W.cell? ⟨g, 8, none⟩ = some v ∧ W.cell? ⟨g, 9, none⟩ = some (.int .u64 n) := ⟨h.1.cell 8 v rfl, h.1.cell 9 _ rfl⟩
theorem HashAt.setN {W : World} {B g : Nat} {s : St} {v : Value} {rs : List UInt8} {n : Int} (h : HashAt W B g s v rs n) (m : Int) : HashAt (W.setCell ⟨g, 9, none⟩ (.int .u64 m)) B g s v rs m :=
  ⟨h.1.setCell 9 (.int .u64 m), h.2.1.far h.2.2.1 _, h.2.2⟩
/-- The bytes that are left are others. -/
theorem HashAt.setRest {W : World} {B g : Nat} {s : St} {v v' : Value} {rs rs' : List UInt8} {n : Int} (h : HashAt W B g s v rs n) (hr : RowQ W B 5 1 v' rs'.length (Bs rs')) (hne : v'.ownBlock ≠ some g) :
    HashAt (W.setCell ⟨g, 8, none⟩ v') B g s v' rs' n :=
  ⟨h.1.setCell 8 v', hr.far hne _, hne, h.2.2.2⟩
theorem Blk.setCells {g : Nat} {t : TypeId} : ∀ (vs : List Value) (o : Nat) (w : World) (cs : List Value), Blk w g t cs → o + vs.length ≤ cs.length → Blk (w.setCells g o vs) g t (cs.take o ++ vs ++ cs.drop (o + vs.length))
  | [], o, w, cs, h, _ => by simpa [World.setCells] using h
  | v :: r, o, w, cs, h, hl => by
    have hl' : o + (r.length + 1) ≤ cs.length := by simpa using hl
    have ih := Blk.setCells r (o + 1) (w.setCell ⟨g, o, none⟩ v) (cs.set o v) (h.setCell o v) (by simp; omega)
    rw [World.setCells]
    have e : (cs.set o v).take (o + 1) ++ r ++ (cs.set o v).drop (o + 1 + r.length) = cs.take o ++ (v :: r) ++ cs.drop (o + (v :: r).length) := by
      rw [List.drop_set_of_lt (by omega), List.take_add_one]
      simp [List.take_set_of_le (Nat.le_refl o), show o < cs.length by omega, Nat.add_assoc, Nat.add_comm 1]
    rw [← e]
    exact ih
theorem heap_setCells_other (g k : Nat) (hk : k ≠ g) : ∀ (vs : List Value) (o : Nat) (w : World), (w.setCells g o vs).heap[k]? = w.heap[k]?
  | [], _, _ => rfl
  | v :: r, o, w => (heap_setCells_other g k hk r (o + 1) (w.setCell ⟨g, o, none⟩ v)).trans (heap_setCell_other w ⟨g, o, none⟩ k v hk)
theorem size_setCells (g : Nat) : ∀ (vs : List Value) (o : Nat) (w : World), (w.setCells g o vs).heap.size = w.heap.size
  | [], _, _ => rfl
  | v :: r, o, w => (size_setCells g r (o + 1) (w.setCell ⟨g, o, none⟩ v)).trans (by simp [World.setCell])
theorem HashAt.setWords {W : World} {B g : Nat} {s : St} {v : Value} {rs : List UInt8} {n : Int} (h : HashAt W B g s v rs n) (m : St) : HashAt (W.setCells g 0 (Us m.list)) B g m v rs n :=
  ⟨Blk.setCells (Us m.list) 0 W _ h.1 (by simp [St.list]), h.2.1.of_block fun k hk => heap_setCells_other g k (fun e => h.2.2.1 (by rw [hk, e])) _ 0 W, h.2.2⟩
theorem Kept2.setCells {W W1 : World} {g : Nat} {r : Option Nat} (h : Kept2 W W1 g r) (o : Nat) (vs : List Value) (hos : (W1.setCells g o vs).os = W1.os ∧ (W1.setCells g o vs).tape = W1.tape ∧ (W1.setCells g o vs).output = W1.output) : Kept2 W (W1.setCells g o vs) g r :=
  h.trans ⟨hos.1, hos.2.1, hos.2.2, by rw [size_setCells]; exact Nat.le_refl _, fun k _ h1 _ => heap_setCells_other g k h1 vs o W1⟩
theorem setCells_os (g : Nat) : ∀ (vs : List Value) (o : Nat) (w : World), (w.setCells g o vs).os = w.os ∧ (w.setCells g o vs).tape = w.tape ∧ (w.setCells g o vs).output = w.output
  | [], _, _ => ⟨rfl, rfl, rfl⟩
  | v :: r, o, w => setCells_os g r (o + 1) (w.setCell ⟨g, o, none⟩ v)
theorem HashAt.below {W W1 : World} {B g : Nat} {s : St} {v : Value} {rs : List UInt8} {n : Int} (h : HashAt W B g s v rs n) (hb : Below W.heap.size W W1) : HashAt W1 B g s v rs n := ⟨h.1.below hb, h.2.1.below hb, h.2.2⟩
theorem HashAt.drewN {W : World} {B g : Nat} {s : St} {v : Value} {rs : List UInt8} {n : Int} (h : HashAt W B g s v rs n) (m : Nat) : HashAt (W.drewN m) B g s v rs n := h
theorem HashAt.there {W : World} {B g : Nat} {s : St} {v : Value} {rs : List UInt8} {n : Int} (h : HashAt W B g s v rs n) : W.there g 0 8 := by
  intro j hj
  refine ⟨?_, by rw [Nat.zero_add]; exact h.1.frozen j⟩
  have hl : j < (Us s.list ++ [v, Value.int .u64 n]).length := by simp [St.list]; omega
  rw [Nat.zero_add, h.1.cell j _ (List.getElem?_eq_getElem hl)]
  rfl
end Go.Proofs.YtpbnigpdpkfpaaaGreatDoor
namespace Go.Proofs.YtpbnigpdpkfpaaaGreatDoor
open Go.RowKit
attribute [local go_sem] un_add un_shl8 un_of_byte un_addm un_and un_or un_xor un_not un_not' un_shl8m un_shr3 un_shr10 ub_mod un_mod
theorem Tryz.info5 : (Tryz.prog.info? 5).map (fun i => (i.zero, i.size, i.bytes)) = some (some (.int .u8 0), 1, 1) := by kernel_rfl
section
variable {P : Program} {ops : Array Oper} {rest : List Oper} {op : Oper} {a : Act} {w : World} {Q : Exit → Act → World → Prop}
theorem wpl_store_mid (hgd : op.guard = none) (ty : TypeId) (x y : Operand) (ho : op.op = .store ty x y) (b o : Nat) (cs : List Value) (hx : a.eval x = .pointer (some ⟨b, o, none⟩)) (hy : a.eval y = .agg cs.toArray)
    (ht : w.there b o cs.length) (hi : (P.info? ty).map (·.size) = some cs.length) (h1 : ∀ v ∈ cs, v.oneCell' = true) (h : wpList P ops Q rest (a.put op.dst undef) (w.setCells b o cs)) : wpList P ops Q (op :: rest) a w :=
  wpList_store_mid hgd ty x y ho b o cs.toArray hx hy (by simpa using ht) (by simpa using hi) (all_oneCell_toArray h1) (by simpa using h)
end
def PutPost (W : World) (B g : Nat) (s' : St) (rs' : List UInt8) (n' : Int) (r : Option Nat) (W' : World) : Prop :=
  ∃ v', HashAt W' B g s' v' rs' n' ∧ Kept2 W W' g r ∧ (v'.ownBlock = r ∨ ∃ k, v'.ownBlock = some k ∧ W.heap.size ≤ k)
/-- In the round: what is left, and what the whole comes to. -/
def PutIn (W : World) (B g : Nat) (n' : Int) (r : Option Nat) (S : St × List UInt8) (k : Nat) (wr : World) : Prop :=
  ∃ s rs, rs.length = k ∧ k ≤ 140737488355328 ∧ absorb s rs = S ∧ PutPost W B g s rs n' r wr
theorem mixed_at (s : St) (g o c : Nat) (bs : List UInt8) (w : World) (hc : 64 ≤ c) (hm : c ≤ 9223372036854775807) (hg : g < w.heap.size) (hb : BytesAt w g o 64 bs) :
    Calls Tryz.prog 224 #[.agg #[.int .u32 (un s.a), .int .u32 (un s.b), .int .u32 (un s.c), .int .u32 (un s.d), .int .u32 (un s.e), .int .u32 (un s.f), .int .u32 (un s.g), .int .u32 (un s.h)], .slice (some ⟨g, o, none⟩) 64 c] w fun e w' =>
      ∃ m : St, mix s bs = m ∧ e = .returned (.agg #[.int .u32 (un m.a), .int .u32 (un m.b), .int .u32 (un m.c), .int .u32 (un m.d), .int .u32 (un m.e), .int .u32 (un m.f), .int .u32 (un m.g), .int .u32 (un m.h)]) ∧ Below w.heap.size w w' :=
  (mixed_any s g o c bs w hc hm hg hb).mono fun _ _ ⟨he, hw⟩ => ⟨_, rfl, he, hw⟩
theorem HashAt.eight {W : World} {B g : Nat} {s : St} {v : Value} {rs : List UInt8} {n : Int} (h : HashAt W B g s v rs n) :
    (W.cell? ⟨g, 0, none⟩ = some (.int .u32 (un s.a)) ∧ W.cell? ⟨g, 1, none⟩ = some (.int .u32 (un s.b)) ∧ W.cell? ⟨g, 2, none⟩ = some (.int .u32 (un s.c)) ∧ W.cell? ⟨g, 3, none⟩ = some (.int .u32 (un s.d)) ∧
      W.cell? ⟨g, 4, none⟩ = some (.int .u32 (un s.e)) ∧ W.cell? ⟨g, 5, none⟩ = some (.int .u32 (un s.f)) ∧ W.cell? ⟨g, 6, none⟩ = some (.int .u32 (un s.g)) ∧ W.cell? ⟨g, 7, none⟩ = some (.int .u32 (un s.h))) ∧
    W.frozen? ⟨g, 0, none⟩ = false ∧ W.frozen? ⟨g, 1, none⟩ = false ∧ W.frozen? ⟨g, 2, none⟩ = false ∧ W.frozen? ⟨g, 3, none⟩ = false ∧ W.frozen? ⟨g, 4, none⟩ = false ∧ W.frozen? ⟨g, 5, none⟩ = false ∧ W.frozen? ⟨g, 6, none⟩ = false ∧ W.frozen? ⟨g, 7, none⟩ = false :=
  ⟨⟨h.1.cell 0 _ rfl, h.1.cell 1 _ rfl, h.1.cell 2 _ rfl, h.1.cell 3 _ rfl, h.1.cell 4 _ rfl, h.1.cell 5 _ rfl, h.1.cell 6 _ rfl, h.1.cell 7 _ rfl⟩, h.1.frozen 0, h.1.frozen 1, h.1.frozen 2, h.1.frozen 3, h.1.frozen 4, h.1.frozen 5, h.1.frozen 6, h.1.frozen 7⟩
theorem Src.far {w w' : World} {size : Nat} {A : Option Addr} {m : Nat} {news : List Value} (h : Src w size A m news) (hb : ∀ ad, A = some ad → 0 < m → w'.heap[ad.block]? = w.heap[ad.block]?) : Src w' size A m news := by
  refine ⟨h.1, fun hm => ?_, h.2.2⟩
  obtain ⟨ad, hA, hc⟩ := h.2.1 hm
  refine ⟨ad, hA, fun j u hu => ?_⟩
  have hbl : (ad.add j).block = ad.block := by unfold Addr.add; split <;> rfl
  exact (World.cell?_of_block (w := w) (by rw [hbl]; exact hb ad hA hm)).trans (hc j u hu)
/-- Behind the append of Put: what was counted, what was appended, what was stored. -/
theorem put_step {W w1 : World} {B g : Nat} {s : St} {v v1 : Value} {rs bs : List UInt8} {n n' : Int} {m : Nat} (h : HashAt W B g s v rs n) (hl : bs.length = m)
    (hr : RowQ w1 B 5 1 v1 (rs.length + m) (Bs rs ++ Bs bs)) (hg : (W.setCell ⟨g, 9, none⟩ (.int .u64 n')).grownBy w1 v.ownBlock)
    (hat : v1.ownBlock = v.ownBlock ∨ v1.ownBlock = some (W.setCell ⟨g, 9, none⟩ (.int .u64 n')).heap.size) :
    (Blk w1 g 259 (Us s.list ++ [v, .int .u64 n'])) ∧ PutPost W B g s (rs ++ bs) n' v.ownBlock (w1.setCell ⟨g, 8, none⟩ v1) := by
  have hs : (W.setCell ⟨g, 9, none⟩ (.int .u64 n')).heap.size = W.heap.size := by simp [World.setCell]
  rw [hs] at hat
  have hgl := h.1.lt
  have b1 : Blk w1 g 259 (Us s.list ++ [v, .int .u64 n']) := (h.setN n').1.grown hg (fun e => h.2.2.1 e.symm)
  have hne : v1.ownBlock ≠ some g := by
    rcases hat with e | e <;> rw [e]
    · exact h.2.2.1
    · intro e'; injection e' with e'; omega
  refine ⟨b1, v1, ⟨b1.setCell 8 v1, ?_, hne, h.2.2.2⟩, ?_, ?_⟩
  · rw [Bs_append, List.length_append, hl]
    exact hr.far hne _
  · exact (((Kept2.refl W g v.ownBlock).setCell 9 _).grown hg (.inl rfl)).setCell 8 _
  · rcases hat with e | e
    · exact .inl e
    · exact .inr ⟨_, e, Nat.le_refl _⟩
theorem put_round {W w3 : World} {B g g2 o2 c2 : Nat} {s1 M : St} {rs1 : List UInt8} {n' : Int} {r0 : Option Nat} {S : St × List UInt8} {v3 : Value} (hge : 64 ≤ rs1.length) (hk2 : rs1.length ≤ 140737488355328) (hc2 : rs1.length ≤ c2)
    (hM : mix s1 (rs1.take 64) = M) (hH : HashAt w3 B g M (.slice (some ⟨g2, o2, none⟩) rs1.length c2) rs1 n') (hK : Kept2 W w3 g r0)
    (hat : (Value.slice (some ⟨g2, o2, none⟩) rs1.length c2).ownBlock = r0 ∨ ∃ k, (Value.slice (some ⟨g2, o2, none⟩) rs1.length c2).ownBlock = some k ∧ W.heap.size ≤ k) (hS : absorb s1 rs1 = S)
    (hv3 : v3 = .slice (if c2 = 64 then some ⟨g2, o2, none⟩ else some ⟨g2, o2 + 64, none⟩) (rs1.length - 64) (c2 - 64)) : PutIn W B g n' r0 S (rs1.length - 64) (w3.setCell ⟨g, 8, none⟩ v3) := by
  have hd := hH.2.1.drop 64 hge (by omega)
  have e1 : (Bs rs1).drop (64 * 1) = Bs (rs1.drop 64) := by simp [Bs]
  have e2 : (if c2 = 64 then some (⟨g2, o2, none⟩ : Addr) else (some (⟨g2, o2, none⟩ : Addr)).map (·.add (64 * 1))) = (if c2 = 64 then some ⟨g2, o2, none⟩ else some ⟨g2, o2 + 64, none⟩) := rfl
  have e3 : rs1.length - 64 = (rs1.drop 64).length := by simp
  rw [e1, e2, ← hv3, e3] at hd
  have hob : v3.ownBlock = some g2 := by subst hv3; by_cases h : c2 = 64 <;> simp [Value.ownBlock, h]
  have hne : v3.ownBlock ≠ some g := by rw [hob]; exact hH.2.2.1
  refine ⟨M, rs1.drop 64, by simp, by omega, by rw [← hM, ← absorb_long s1 rs1 hge]; exact hS, v3, hH.setRest hd hne, hK.setCell 8 _, ?_⟩
  rw [hob]
  exact hat
set_option maxRecDepth 100000 in
set_option maxHeartbeats 1000000 in
theorem put_any (W : World) (B g : Nat) (s : St) (v : Value) (rs : List UInt8) (n : Int) (A : Option Addr) (m c : Nat) (bs : List UInt8)
    (h : HashAt W B g s v rs n) (hs : Src W 1 A m (Bs bs)) (hA : ∀ ad, A = some ad → ad.block ≠ g) (hn : 0 ≤ n) (hnm : n + m ≤ 140737488355328) (hlen : rs.length + m ≤ 140737488355328) (hB : B ≤ W.heap.size) :
    Calls Tryz.prog 187 #[.pointer (some ⟨g, 0, none⟩), .slice A m c] W fun e W' =>
      e = .returned (.tuple #[]) ∧ PutPost W B g (absorb s (rs ++ bs)).1 (absorb s (rs ++ bs)).2 (n + m) v.ownBlock W' := by
  obtain ⟨A0, c0, rfl, hc0, hm0⟩ := h.2.1.shape
  obtain ⟨c8, c9⟩ := h.cell
  have f9 := h.1.frozen 9
  have f8 := h.1.frozen 8
  have hl : bs.length = m := by have := hs.1; simpa using this
  have H := Lib.hid h
  have HS := Lib.hid (hs.far (w' := W.setCell ⟨g, 9, none⟩ (.int .u64 (n + m))) (fun ad e _ => heap_setCell_other W ⟨g, 9, none⟩ ad.block _ (hA ad e)))
  have HA := Lib.hid hA
  have HL := Lib.hid hl
  clear h hs hA hl
  go_enter Tryz.func187, Tryz.ntmps187
  go_wp2_with (at_builtin; refine wpl_append rfl (.tmp 20) (.tmp 21) 53 rfl B 5 (.int .u8 0) 1 1 Tryz.underlying53 Tryz.info5 rfl (by decide) (.slice A0 rs.length c0) rs.length (Bs rs) rfl (H.out.setN _).2.1 A m c (Bs bs) rfl HS.out (by omega) (by omega) (by simpa [World.setCell] using hB) ?_; intro v1 w1 hr1 hg1 hat1; obtain ⟨A1, c1, rfl, hc1, hm1⟩ := hr1.shape; obtain ⟨b1, P1⟩ := put_step H.out HL.out hr1 hg1 hat1; have x8 := b1.cell 8 _ rfl; have y8 := b1.frozen 8; have P1' := Lib.hid P1; clear P1 hr1 hg1 hat1 b1)
  obtain ⟨r0, hr0⟩ : ∃ r, r = (Value.slice A0 rs.length c0).ownBlock := ⟨_, rfl⟩
  obtain ⟨S, hS⟩ : ∃ S, S = absorb s (rs ++ bs) := ⟨_, rfl⟩
  obtain ⟨n', hn'⟩ : ∃ n', n' = n + (m : Int) := ⟨_, rfl⟩
  have Q0 := Lib.hid (show PutIn W B g n' r0 S (rs ++ bs).length (w1.setCell ⟨g, 8, none⟩ (.slice A1 (rs.length + m) c1)) from ⟨s, rs ++ bs, rfl, by rw [List.length_append, HL.out]; omega, hS.symm, by rw [hr0, hn']; exact P1'.out⟩)
  have HE := Lib.hid (And.intro hr0 (And.intro hS hn'))
  clear P1' hr0 hS hn' x8 y8
  go_loopg [25] (rs ++ bs).length (fun k _ wr => PutIn W B g n' r0 S k wr)
  case atStart => exact Q0.out
  case round =>
    obtain ⟨s1, rs1, hk, hk2, hS1, v', hH, hK, hat⟩ := hrel
    clear Q0
    subst hk
    obtain ⟨A2, c2, rfl, hc2, hm2⟩ := hH.2.1.shape
    obtain ⟨d8, d9⟩ := hH.cell
    by_cases hge : 64 ≤ rs1.length
    · obtain ⟨g2, o2, rfl, hBg2, hg2, hby⟩ := hH.2.1.bytes (by omega)
      have e0 := hH.1.cell 0 (.int .u32 (un s1.a)) rfl
      have e1 := hH.1.cell 1 (.int .u32 (un s1.b)) rfl
      have e2 := hH.1.cell 2 (.int .u32 (un s1.c)) rfl
      have e3 := hH.1.cell 3 (.int .u32 (un s1.d)) rfl
      have e4 := hH.1.cell 4 (.int .u32 (un s1.e)) rfl
      have e5 := hH.1.cell 5 (.int .u32 (un s1.f)) rfl
      have e6 := hH.1.cell 6 (.int .u32 (un s1.g)) rfl
      have e7 := hH.1.cell 7 (.int .u32 (un s1.h)) rfl
      have l1 : (64 : Int) ≤ (rs1.length : Int) := by omega
      have l2 : (64 : Int) ≤ (c2 : Int) := by omega
      have HX := Lib.hid (And.intro hH (And.intro hK (And.intro hat (And.intro hS1 (And.intro hby (And.intro hg2 hm2))))))
      clear hH hK hat hS1 hby hg2 hm2
      go_wp2
      go_region_with (go_at_call 224; refine (mixed_at s1 g2 o2 c2 (rs1.take 64) wr.drew (by omega) (by have := HX.out.2.2.2.2.2.2; simp only [maxLen] at this; omega) HX.out.2.2.2.2.2.1 (HX.out.2.2.2.2.1.take 64 hge)).mono ?_; rintro e w2 ⟨M, hM, rfl, hb2⟩; have hb3 : Below wr.heap.size wr w2 := ⟨hb2.os, hb2.tape, hb2.output, hb2.size, hb2.block⟩; obtain ⟨⟨i0, i1, i2, i3, i4, i5, i6, i7⟩, j0, j1, j2, j3, j4, j5, j6, j7⟩ := (HX.out.1.below hb3).eight; have H3 := Lib.hid (And.intro hM (And.intro (HX.out.1.below hb3) (HX.out.2.1.below hb3))); clear hM hb2 hb3 d8 d9 e0 e1 e2 e3 e4 e5 e6 e7)
      all_goals
        have P4 : Hid (HashAt (w2.setCells g 0 (Us M.list)) B g M (.slice (some ⟨g2, o2, none⟩) rs1.length c2) rs1 n' ∧ Kept2 W (w2.setCells g 0 (Us M.list)) g r0) := ⟨H3.out.2.1.setWords M, H3.out.2.2.setCells 0 _ (setCells_os g _ 0 w2)⟩
        show Exit.then _ _ Exit.normal _ (w2.setCells g 0 (Us M.list))
        generalize w2.setCells g 0 (Us M.list) = w3 at P4 ⊢
        have c8 := P4.out.1.cell.1
        have f8 := P4.out.1.1.frozen 8
        clear i0 i1 i2 i3 i4 i5 i6 i7 j0 j1 j2 j3 j4 j5 j6 j7
        go_wp2
        · have hcc : c2 = 64 := by assumption
          go_roundg (rs1.length - 64)
          case measure => omega
          case rel => exact put_round hge hk2 hc2 H3.out.1 P4.out.1 P4.out.2 HX.out.2.2.1 HX.out.2.2.2.1 (by rw [if_pos hcc]; simp [hcc])
        · have hcc : ¬ c2 = 64 := by assumption
          go_roundg (rs1.length - 64)
          case measure => omega
          case rel => exact put_round hge hk2 hc2 H3.out.1 P4.out.1 P4.out.2 HX.out.2.2.1 HX.out.2.2.2.1 (by rw [if_neg hcc])
    · have HX := Lib.hid (And.intro hH (And.intro hK (And.intro hat hS1)))
      clear hH hK hat hS1
      have l1 : ¬ (64 : Int) ≤ (rs1.length : Int) := by omega
      go_wp2
      first | go_end0 | refine bodyPost_ret (results_none rfl _ _ _) rfl ?_
      have ha := absorb_short s1 rs1 (by omega)
      obtain ⟨h1, h2, h3, h4⟩ := HX.out
      obtain ⟨q1, q2, q3⟩ := HE.out
      rw [ha] at h4
      refine ⟨rfl, .slice A2 rs1.length c2, ?_, ?_, ?_⟩
      · rw [← q2, ← h4, ← q3]; exact h1
      · rw [← q1]; exact h2
      · rw [← q1]; exact h3
end Go.Proofs.YtpbnigpdpkfpaaaGreatDoor
namespace Go.Proofs.YtpbnigpdpkfpaaaGreatDoor
open Go.RowKit
theorem RowQ.empty_new (W : World) (e : TypeId) (size : Nat) : RowQ (W.alloc (.cells #[] e)) W.heap.size e size (.slice (some ⟨W.heap.size, 0, none⟩) 0 0) 0 [] :=
  ⟨by simp, .inr ⟨W.heap.size, 0, 0, #[], rfl, Nat.le_refl _, heap_alloc_new W _, Nat.le_refl _, by simp, by simp, by simp⟩⟩
theorem src_lt {w : World} {size : Nat} {A : Option Addr} {m : Nat} {news : List Value} (h : Src w size A m news) (hsz : 0 < size) : ∀ ad, A = some ad → 0 < m → ad.block < w.heap.size := by
  intro ad hA hm
  obtain ⟨ad', hA', hc⟩ := h.2.1 hm
  obtain rfl : ad' = ad := by rw [hA] at hA'; injection hA' with e; exact e.symm
  have hl : 0 < news.length := by rw [h.1]; exact Nat.mul_pos hm hsz
  have := World.block_lt_of_cell? w _ (hc 0 _ (List.getElem?_eq_getElem hl))
  simpa [Addr.add] using this
theorem src_alloc {w : World} {A : Option Addr} {m : Nat} {news : List Value} (h : Src w 1 A m news) (o : Obj) : ∀ ad, A = some ad → 0 < m → (w.alloc o).heap[ad.block]? = w.heap[ad.block]? :=
  fun ad hA hm => Below.heap_alloc w o _ (src_lt h (by decide) ad hA hm)
theorem src_below {w w' : World} {A : Option Addr} {m : Nat} {news : List Value} (h : Src w 1 A m news) (hb : Below w.heap.size w w') : Src w' 1 A m news :=
  h.far fun ad hA hm => hb.block _ (src_lt h (by decide) ad hA hm)
/-- append to a row of the call's own, as one step of a region that draws. -/
theorem step_append_Q {P : Program} {ops : Array Oper} {o : Oper} {a : Act} {w : World} {K : Act → World → Prop} {Q : Exit → Act → World → Prop} {E : Prop} (hgd : o.guard = none) (s x : Operand) (t : TypeId) (ho : o.op = .call { callee := .builtin .append, args := #[s, x], argTypes := #[t, t] })
    (base : Nat) (e : TypeId) (z : Value) (size bytes : Nat) (ht : P.underlying t = some (.slice e)) (hinfo : (P.info? e).map (fun i => (i.zero, i.size, i.bytes)) = some (some z, size, bytes)) (hzs : z.cells.size = size) (hsz : 0 < size)
    (v : Value) (n : Nat) (xs : List Value) (hs : a.eval s = v) (hown : RowQ w base e size v n xs)
    (A : Option Addr) (m c : Nat) (news : List Value) (hx : a.eval x = .slice A m c) (hsrc : Src w size A m news)
    (h63 : n + m ≤ 140737488355328) (hbytes : (n + m) * bytes ≤ 140737488355328) (hbase : base ≤ w.heap.size)
    (h : ∀ v' w', RowQ w' base e size v' (n + m) (xs ++ news) → w.grownBy w' v.ownBlock → (v'.ownBlock = v.ownBlock ∨ v'.ownBlock = some w.heap.size) → K (a.put o.dst v') w') :
    if Region.wanted o (yielded ops a.tmps) = true then Oper.wp P o a w K Q else E := by
  rw [if_pos (by simp [Region.wanted, hgd])]
  obtain ⟨i0, hi, hzz⟩ := Option.map_eq_some_iff.1 hinfo
  simp only [Prod.mk.injEq] at hzz
  obtain ⟨hz0, hz1, hz2⟩ := hzz
  obtain ⟨v', w', hr, h2, h3, h4⟩ := run_append_Q (P := P) w base t o.type e i0 z size bytes ht hi hz0 hz1 hz2 hzs hsz v n xs hown A m c news hsrc (by simp only [maxLen]; omega) hbytes hbase
  unfold Oper.wp execOp
  simp only [ho, resolve, invoke, builtin, Sem.run_bind, Sem.run_pure, Result.andThen_ok, List.map_toArray, List.map_cons, List.map_nil, hs, hx, hr]
  exact h v' w' h2 h3 h4
def NewPost (W : World) (e : Ending) (W' : World) : Prop := ∃ g, e = .returned (.pointer (some ⟨g, 0, none⟩)) ∧ W.heap.size ≤ g ∧ HashAt W' W.heap.size g st0 (.slice none 0 0) [] 0 ∧ Below W.heap.size W W'
set_option maxRecDepth 100000 in
set_option maxHeartbeats 400000 in
theorem new_any (W : World) : Calls Tryz.prog 186 #[] W (NewPost W) := by
  go_enter Tryz.func186, Tryz.ntmps186
  go_wp2_with fail
  refine (first_any _).mono ?_
  rintro e w1 ⟨rfl, hb1⟩
  have HB := Lib.hid hb1
  clear hb1
  go_wp2_with (refine wpl_build rfl 259 _ rfl (Us st0.list ++ [.slice none 0 0, .int .u64 0]) (by kernel_rfl) ?_)
  go_ret
  exact ⟨w1.heap.size, rfl, HB.out.size, ⟨Blk.new w1 _ _, RowQ.nil _ _ _ _, by simp [Value.ownBlock], HB.out.size⟩, HB.out.alloc HB.out.size _⟩
def ClonePost (W : World) (n : Nat) (xs : List Value) (e : Ending) (W' : World) : Prop := ∃ v, e = .returned v ∧ RowQ W' W.heap.size 5 1 v n xs ∧ Below W.heap.size W W'
set_option maxHeartbeats 400000 in
theorem clone_nil (W : World) : Calls Tryz.prog 81 #[.slice none 0 0] W (ClonePost W 0 []) := by
  have hnil := fun W => Lib.run_eql_slice_nil (P := Tryz.prog) (w := W)
  go_enter Tryz.func81, Tryz.ntmps81
  go_wp2
  go_ret
  exact ⟨_, rfl, RowQ.nil _ _ _ _, Below.refl _ _⟩
set_option maxHeartbeats 400000 in
theorem clone_some (W : World) (ad : Addr) (n c : Nat) (xs : List Value) (hs : Src W 1 (some ad) n xs) (hn : n ≤ 140737488355328) :
    Calls Tryz.prog 81 #[.slice (some ad) n c] W (ClonePost W n xs) := by
  have hnil : ∀ W, (binOp .eql 53 (.slice (some ad) n c) (.slice none 0 0)).run Tryz.prog W = .ok (.bool false) W := fun W => Lib.run_eql_slice_nil (P := Tryz.prog) W 53 5 (some ad) n c 0 0 Tryz.underlying53
  have HS := Lib.hid hs
  clear hs
  go_enter Tryz.func81, Tryz.ntmps81
  go_wp2_with (at_builtin; refine wpl_append rfl (.tmp 5) (.tmp 6) 53 rfl W.heap.size 5 (.int .u8 0) 1 1 Tryz.underlying53 Tryz.info5 rfl (by decide) (.slice (some ⟨W.heap.size, 0, none⟩) 0 0) 0 [] rfl (RowQ.empty_new W 5 1) (some ad) n c xs rfl (HS.out.far (src_alloc HS.out _)) (by omega) (by omega) (by simp) ?_; intro v1 w1 hr1 hg1 hat1; have P1 := Lib.hid (And.intro hr1 (And.intro hg1 hat1)); clear hr1 hg1 hat1)
  go_ret
  obtain ⟨h1, h2, h3⟩ := P1.out
  refine ⟨v1, rfl, by simpa using h1, ?_⟩
  exact ((Below.refl _ W).alloc (Nat.le_refl _) _).grown h2 (by simp) (by intro k hk; simp [Value.ownBlock] at hk; omega)
theorem clone_row (W : World) (B : Nat) (A : Option Addr) (n c : Nat) (rs : List UInt8) (h : RowQ W B 5 1 (.slice A n c) n (Bs rs)) (hn : n ≤ 140737488355328) :
    Calls Tryz.prog 81 #[.slice A n c] W (ClonePost W n (Bs rs)) := by
  rcases h.2 with ⟨hv, hn0⟩ | ⟨g, o, cap, cur, hv, _⟩
  · injection hv with h1 h2 h3
    subst h1; subst h2; subst h3
    have hx : Bs rs = [] := List.eq_nil_of_length_eq_zero (by simpa using h.1)
    rw [hx]
    exact clone_nil W
  · injection hv with h1 h2 h3
    subst h1
    exact clone_some W _ n c (Bs rs) (h.src (Bs_one rs)) hn
theorem RowQ.mono {w : World} {base base' : Nat} {e : TypeId} {size : Nat} {v : Value} {n : Nat} {xs : List Value} (h : RowQ w base e size v n xs) (hb : base' ≤ base) : RowQ w base' e size v n xs := by
  refine ⟨h.1, ?_⟩
  rcases h.2 with h | ⟨g, o, cap, cur, rfl, hbg, r⟩
  · exact .inl h
  · exact .inr ⟨g, o, cap, cur, rfl, by omega, r⟩
end Go.Proofs.YtpbnigpdpkfpaaaGreatDoor
namespace Go.Proofs.YtpbnigpdpkfpaaaGreatDoor
open Go.RowKit
theorem run_bits (W : World) (b : Nat) : (callFunc 185 #[.float .f64 b]).run Tryz.prog W = .ok (.value (.int .u64 b)) W := by kernel_rfl
theorem run_frombits (W : World) (b : Int) : (callFunc 194 #[.int .u64 b]).run Tryz.prog W = .ok (.value (.float .f64 b.toNat)) W := by kernel_rfl
/-- Not a number; below 0 (or the nought below 0). -/
def fnan (b : Nat) : Bool := FloatKind.f64.format.order b b != some Ordering.eq
def fsign (b : Nat) : Bool := decide (wrap64 (b : Int) < 0)
set_option maxHeartbeats 400000 in
theorem isnan_any (W : World) (b : Nat) : Calls Tryz.prog 184 #[.float .f64 b] W fun e W' => e = .returned (.bool (fnan b)) ∧ W' = W := by
  go_enter Tryz.func184, Tryz.ntmps184
  go_wp2
  go_ret
  exact ⟨rfl, rfl⟩
set_option maxHeartbeats 400000 in
theorem signbit_any (W : World) (b : Nat) : Calls Tryz.prog 191 #[.float .f64 b] W fun e W' => e = .returned (.bool (fsign b)) ∧ W' = W := by
  have hb := fun W => run_bits W b
  go_enter Tryz.func191, Tryz.ntmps191
  go_wp2
  go_ret
  exact ⟨rfl, rfl⟩
def fabs (b : Nat) : Nat := (bits .andNot .u64 (b : Int) 9223372036854775808).toNat
set_option maxHeartbeats 400000 in
theorem abs_any (W : World) (b : Nat) : Calls Tryz.prog 226 #[.float .f64 b] W fun e W' => e = .returned (.float .f64 (fabs b)) ∧ W' = W := by
  have h1 := fun W => run_bits W b
  have h2 := fun W b => run_frombits W b
  go_enter Tryz.func226, Tryz.ntmps226
  go_wp2
  go_ret
  exact ⟨rfl, rfl⟩
def finf (b : Nat) : Bool := FloatKind.f64.format.order (fabs b) 9218868437227405311 == some Ordering.gt
set_option maxRecDepth 10000 in
set_option maxHeartbeats 400000 in
theorem isinf_any (W : World) (b : Nat) : Calls Tryz.prog 190 #[.float .f64 b, .int .i64 0] W fun e W' => e = .returned (.bool (finf b)) ∧ W' = W := by
  go_enter Tryz.func190, Tryz.ntmps190
  go_wp2_with (go_at_call 226; refine (abs_any _ b).mono ?_; rintro e w' ⟨rfl, rfl⟩)
  go_ret
  exact ⟨rfl, rfl⟩
/-- Other than 0. -/
def fnz (b : Nat) : Bool := FloatKind.f64.format.order b 0 != some Ordering.eq
def fmay (b : Nat) : Bool := !fnan b && !finf b && (fnz b || !fsign b)
set_option maxRecDepth 10000 in
set_option maxHeartbeats 800000 in
theorem may_any (W : World) (b : Nat) : Calls Tryz.prog 133 #[.float .f64 b] W fun e W' => e = .returned (.bool (fmay b)) ∧ W' = W := by
  cases hn : fnan b
  · cases hi : finf b
    · cases hz : (FloatKind.f64.format.order b 0 != some Ordering.eq)
      all_goals
        go_enter Tryz.func133, Tryz.ntmps133
        go_wp2_with (first | (go_at_call 184; refine (isnan_any _ b).mono ?_; rintro e w' ⟨he, rfl⟩; rw [hn] at he; subst he) | (go_at_call 190; refine (isinf_any _ b).mono ?_; rintro e w' ⟨he, rfl⟩; rw [hi] at he; subst he) | (go_at_call 191; refine (signbit_any _ b).mono ?_; rintro e w' ⟨rfl, rfl⟩))
        go_ret
        exact ⟨by simp [fmay, fnz, hn, hi, hz], rfl⟩
    · go_enter Tryz.func133, Tryz.ntmps133
      go_wp2_with (first | (go_at_call 184; refine (isnan_any _ b).mono ?_; rintro e w' ⟨he, rfl⟩; rw [hn] at he; subst he) | (go_at_call 190; refine (isinf_any _ b).mono ?_; rintro e w' ⟨he, rfl⟩; rw [hi] at he; subst he) | (go_at_call 191; refine (signbit_any _ b).mono ?_; rintro e w' ⟨rfl, rfl⟩))
      go_ret
      exact ⟨by simp [fmay, hn, hi], rfl⟩
  · cases hi : finf b
    all_goals
      go_enter Tryz.func133, Tryz.ntmps133
      go_wp2_with (first | (go_at_call 184; refine (isnan_any _ b).mono ?_; rintro e w' ⟨he, rfl⟩; rw [hn] at he; subst he) | (go_at_call 190; refine (isinf_any _ b).mono ?_; rintro e w' ⟨he, rfl⟩; rw [hi] at he; subst he) | (go_at_call 191; refine (signbit_any _ b).mono ?_; rintro e w' ⟨rfl, rfl⟩))
      go_ret
      exact ⟨by simp [fmay, hn], rfl⟩
def normV (b : Nat) : Value := .tuple #[.float .f64 (bif fnz b && fmay b then b else 0), .bool (!fnz b || fmay b)]
set_option maxRecDepth 10000 in
set_option maxHeartbeats 800000 in
theorem norm_any (W : World) (b : Nat) : Calls Tryz.prog 175 #[.float .f64 b] W fun e W' => e = .returned (normV b) ∧ W' = W := by
  cases hz : (FloatKind.f64.format.order b 0 == some Ordering.eq)
  · have hz2 : fnz b = true := by simp [fnz, bne, hz]
    cases hm : fmay b
    all_goals
      go_enter Tryz.func175, Tryz.ntmps175
      go_wp2_with (go_at_call 133; refine (may_any _ b).mono ?_; rintro e w' ⟨he, rfl⟩; rw [hm] at he; subst he)
      go_ret2
      exact ⟨by simp [normV, hz2, hm], rfl⟩
  · have hz2 : fnz b = false := by simp [fnz, bne, hz]
    go_enter Tryz.func175, Tryz.ntmps175
    go_wp2
    go_ret2
    exact ⟨by simp [normV, hz2], rfl⟩
end Go.Proofs.YtpbnigpdpkfpaaaGreatDoor
namespace Go.Proofs.YtpbnigpdpkfpaaaGreatDoor
open Go.RowKit
set_option maxHeartbeats 400000 in
theorem copysign_neg0 (W : World) : Calls Tryz.prog 176 #[.float .f64 0, .float .f64 13830554455654793216] W fun e W' => e = .returned (.float .f64 9223372036854775808) ∧ W' = W := by
  have h1 := run_bits
  have h2 := run_frombits
  go_enter Tryz.func176, Tryz.ntmps176
  go_wp2
  go_ret
  exact ⟨rfl, rfl⟩
theorem norm_neg0 : normV 9223372036854775808 = .tuple #[.float .f64 0, .bool true] := by kernel_rfl
theorem may_nan : fmay 9221120237041090561 = false := by kernel_rfl
end Go.Proofs.YtpbnigpdpkfpaaaGreatDoor
namespace Go.Proofs.YtpbnigpdpkfpaaaGreatDoor
open Go.RowKit
/-- A reader of bytes. -/
def RdAt (W : World) (B g : Nat) (v : Value) (bs : List UInt8) : Prop :=
  Blk W g 126 [v] ∧ RowQ W B 5 1 v bs.length (Bs bs) ∧ v.ownBlock ≠ some g ∧ B ≤ g
set_option maxHeartbeats 400000 in
theorem must_true (W : World) (e : Int) : Calls Tryz.prog 85 #[.bool true, .int .i64 e] W fun e' W' => e' = .returned (.tuple #[]) ∧ W' = W := by
  go_enter Tryz.func85, Tryz.ntmps85
  go_wp2
  first | go_end0 | refine bodyPost_ret (results_none rfl _ _ _) rfl ?_
  exact ⟨rfl, rfl⟩
set_option maxHeartbeats 400000 in
theorem left_any (W : World) (g : Nat) (A : Option Addr) (n c : Nat) (h : W.cell? ⟨g, 0, none⟩ = some (.slice A n c)) (_hn : n ≤ 140737488355328) :
    Calls Tryz.prog 39 #[.pointer (some ⟨g, 0, none⟩)] W fun e W' => e = .returned (.int .i64 n) ∧ W' = W := by
  go_enter Tryz.func39, Tryz.ntmps39
  go_wp2
  go_ret
  exact ⟨rfl, rfl⟩
set_option maxHeartbeats 400000 in
theorem gnew_row (W : World) (B : Nat) (A : Option Addr) (n c : Nat) (rs : List UInt8) (h : RowQ W B 5 1 (.slice A n c) n (Bs rs)) (hn : n ≤ 140737488355328) :
    Calls Tryz.prog 34 #[.slice A n c] W fun e W' => ∃ g v, e = .returned (.pointer (some ⟨g, 0, none⟩)) ∧ W.heap.size ≤ g ∧ RdAt W' W.heap.size g v rs ∧ Below W.heap.size W W' := by
  have hl : rs.length = n := by have := h.1; simpa using this
  have H := Lib.hid h
  clear h
  go_enter Tryz.func34, Tryz.ntmps34
  go_wp2_with (go_at_call 81; refine (clone_row W B A n c rs H.out hn).mono ?_; rintro e w1 ⟨v1, rfl, hr1, hb1⟩; obtain ⟨A1, c1, rfl, hc1, hm1⟩ := hr1.shape; have R1 := Lib.hid hr1; have B1 := Lib.hid hb1; clear hr1 hb1)
  go_ret
  refine ⟨w1.heap.size, _, rfl, B1.out.size, ⟨Blk.new w1 126 [_], ?_, ?_, B1.out.size⟩, B1.out.alloc B1.out.size _⟩
  · rw [hl]; exact R1.out.alloc _
  · intro e; have := (R1.out.lt _ e).2; omega
set_option maxHeartbeats 400000 in
theorem fail_any (W : World) (e : Int) : Calls Tryz.prog 139 #[.int .i64 e] W fun e' W' => e' = .panicked [{ v := .iface 128 (.agg #[.int .i64 e]), recovered := false }] ∧ W' = W := by
  go_enter Tryz.func139, Tryz.ntmps139
  go_wp2
  exact ⟨rfl, rfl, rfl⟩
theorem RowQ.take {w : World} {B : Nat} {A : Option Addr} {n c : Nat} {bs : List UInt8} (h : RowQ w B 5 1 (.slice A n c) n (Bs bs)) (k : Nat) (hk : k ≤ n) (h0 : 0 < k) : RowQ w B 5 1 (.slice A k c) k (Bs (bs.take k)) := by
  obtain ⟨h1, h2⟩ := h
  refine ⟨by simp at h1 ⊢; omega, .inr ?_⟩
  rcases h2 with ⟨_, rfl⟩ | ⟨g, o, cap, cur, hv, hb, hg, ha, hm, hs, ht⟩
  · omega
  · injection hv with e1 e2 e3
    subst e1 e3
    refine ⟨g, o, c, cur, rfl, hb, hg, by omega, hm, hs, ?_⟩
    have : Bs (bs.take k) = (Bs bs).take k := by simp [Bs]
    rw [this, ← ht, List.take_take, show min k (n * 1) = k * 1 by omega]
def BytesPost (W : World) (B g n : Nat) (v : Value) (bs : List UInt8) (e : Ending) (W' : World) : Prop :=
  ∃ v1 v2, e = .returned v1 ∧ RowQ W' W.heap.size 5 1 v1 n (Bs (bs.take n)) ∧ RdAt W' B g v2 (bs.drop n) ∧ Kept2 W W' g none ∧ v2.ownBlock = v.ownBlock
theorem bytes_end {W w1 : World} {B g n c : Nat} {A : Option Addr} {bs : List UInt8} {v1 v2 : Value} (h : RdAt W B g (.slice A bs.length c) bs) (h0 : 0 < n) (hn : n ≤ bs.length) (hc : n ≤ c) (hb : Below W.heap.size W w1)
    (hr : RowQ w1 W.heap.size 5 1 v1 n (Bs (bs.take n))) (hv : v2 = .slice (if c = n then A else A.map (·.add n)) (bs.length - n) (c - n)) :
    BytesPost W B g n (.slice A bs.length c) bs (.returned v1) (w1.setCell ⟨g, 0, none⟩ v2) := by
  have h1 := h.1.below hb
  have hq := (h.2.1.below hb).drop n hn (by omega)
  have e1 : (Bs bs).drop (n * 1) = Bs (bs.drop n) := by simp [Bs]
  have e3 : bs.length - n = (bs.drop n).length := by simp
  have e2 : (if c = n then A else A.map (·.add (n * 1))) = (if c = n then A else A.map (·.add n)) := by rw [Nat.mul_one]
  rw [e1, e2, ← hv, e3] at hq
  have ho : v2.ownBlock = (Value.slice A bs.length c).ownBlock := by
    subst hv
    rcases A with _ | a
    · by_cases e : c = n <;> simp [Value.ownBlock]
    · by_cases e : c = n
      · simp [Value.ownBlock, e]
      · have : (a.add n).block = a.block := by unfold Addr.add; split <;> rfl
        simp [Value.ownBlock, e, this]
  have hg := h.1.lt
  have hne : v2.ownBlock ≠ some g := by rw [ho]; exact h.2.2.1
  refine ⟨v1, v2, rfl, ?_, ⟨h1.setCell 0 v2, hq.far hne _, hne, h.2.2.2⟩, (((Kept2.refl W g none).below hb)).setCell 0 _, ho⟩
  exact hr.far (fun e => by have := (hr.lt _ e).1; simp at this; omega) _
set_option maxHeartbeats 400000 in
theorem bytes_some (W : World) (B g : Nat) (A : Option Addr) (c n : Nat) (bs : List UInt8) (h : RdAt W B g (.slice A bs.length c) bs) (h0 : 0 < n) (hn : n ≤ bs.length) (hl : bs.length ≤ 140737488355328) :
    Calls Tryz.prog 93 #[.pointer (some ⟨g, 0, none⟩), .int .i64 n] W (BytesPost W B g n (.slice A bs.length c) bs) := by
  have d0 := h.1.cell 0 _ rfl
  have f0 := h.1.frozen 0
  have q0 : n ≤ c := by obtain ⟨A1, c1, e, h1, _⟩ := h.2.1.shape; injection e with _ _ e; omega
  have q1 : (0 : Int) ≤ (n : Int) := by omega
  have q2 : (n : Int) ≤ (bs.length : Int) := by omega
  have q3 : ((n : Int) == 0) = false := by simp; omega
  have H := Lib.hid h
  clear h
  go_enter Tryz.func93, Tryz.ntmps93
  go_wp2_with (first
    | (go_at_call 85; refine (must_true _ _).mono ?_; rintro e w' ⟨rfl, rfl⟩)
    | (go_at_call 39; refine (left_any _ g A bs.length c d0 hl).mono ?_; rintro e w' ⟨rfl, rfl⟩)
    | (go_at_call 81; refine (clone_row _ B A n c (bs.take n) (H.out.2.1.take n hn h0) (by omega)).mono ?_; rintro e w1 ⟨v1, rfl, hr1, hb1⟩; obtain ⟨A1, c1, rfl, hc1, hm1⟩ := hr1.shape; have d1 := (H.out.1.below hb1).cell 0 _ rfl; have f1 := (H.out.1.below hb1).frozen 0; have R1 := Lib.hid hr1; have B1 := Lib.hid hb1; clear hr1 hb1 d0 f0))
  all_goals go_ret
  · have e : c = n := by assumption
    subst e
    exact bytes_end H.out h0 hn q0 B1.out R1.out (by simp)
  · have e : ¬ c = n := by assumption
    exact bytes_end H.out h0 hn q0 B1.out R1.out (by simp [e])
end Go.Proofs.YtpbnigpdpkfpaaaGreatDoor
namespace Go.Proofs.YtpbnigpdpkfpaaaGreatDoor
open Go.RowKit
def faultOf (e : Int) : Ending := .panicked [{ v := .iface 128 (.agg #[.int .i64 e]), recovered := false }]
/-- The first byte of a row. -/
theorem RowQ.first {w : World} {B : Nat} {v : Value} {b : UInt8} (h : RowQ w B 5 1 v 1 (Bs [b])) : ∃ g o c, v = .slice (some ⟨g, o, none⟩) 1 c ∧ w.cell? ⟨g, o, none⟩ = some (.int .u8 (ub b)) := by
  obtain ⟨A, c, rfl, _, _⟩ := h.shape
  have hs := h.src (Bs_one _)
  rcases h.2 with ⟨_, h0⟩ | ⟨g, o, cap, cur, hv, _⟩
  · omega
  · injection hv with e1 _ _
    subst e1
    obtain ⟨ad, e, hc⟩ := hs.2.1 (by omega)
    injection e with e
    subst e
    exact ⟨g, o, c, rfl, by simpa [Addr.add] using hc 0 _ rfl⟩
set_option maxHeartbeats 400000 in
theorem byte_some (W : World) (B g : Nat) (A : Option Addr) (c : Nat) (b : UInt8) (bs : List UInt8) (h : RdAt W B g (.slice A (b :: bs).length c) (b :: bs)) (hl : (b :: bs).length ≤ 140737488355328) :
    Calls Tryz.prog 83 #[.pointer (some ⟨g, 0, none⟩)] W fun e W' => e = .returned (.int .u8 (ub b)) ∧ ∃ v2, RdAt W' B g v2 bs ∧ Kept2 W W' g none ∧ v2.ownBlock = (Value.slice A (b :: bs).length c).ownBlock := by
  have H := Lib.hid h
  clear h
  go_enter Tryz.func83, Tryz.ntmps83
  go_wp2_with (go_at_call 93; refine (bytes_some W B g A c 1 (b :: bs) H.out (by omega) (by simp) hl).mono ?_; rintro e w1 ⟨v1, v2, rfl, hr1, P⟩; obtain ⟨g1, o1, c1, rfl, hc1⟩ := RowQ.first hr1; have P1 := Lib.hid P; clear hr1 P)
  go_ret
  exact ⟨rfl, v2, P1.out.1, P1.out.2.1, P1.out.2.2⟩
end Go.Proofs.YtpbnigpdpkfpaaaGreatDoor
namespace Go.Proofs.YtpbnigpdpkfpaaaGreatDoor
open Go.RowKit
set_option maxRecDepth 20000 in
set_option maxHeartbeats 800000 in
theorem do1_fault (p : Nat) (x e : Int) (older : List PanicEntry) (w : World) (hb : Blk w p 40 [.int .i64 x]) :
    CallsD Tryz.prog 82 #[.pointer (some ⟨p, 0, none⟩)] (.panicking ({ v := .iface 128 (.agg #[.int .i64 e]), recovered := false } :: older)) w fun e' u' w' =>
      e' = .returned (.tuple #[]) ∧ u' = .panicking ({ v := .iface 128 (.agg #[.int .i64 e]), recovered := true } :: older) ∧ Blk w' p 40 [.int .i64 e] ∧ Kept2 w w' p none := by
  refine callsD_of_wpS Tryz.func82 rfl fun c₀ cs hu => ?_
  apply wpS_seq
  apply wpS_region
  simp [wpOpsS, go_sem, recoverD, hu, Tryz.ntmps82, Exit.thenS]
  have d0 := hb.cell 0 _ rfl
  have f0 := hb.frozen 0
  have hlt := hb.lt
  have HB := Lib.hid hb
  clear hb
  refine wpS_of_wp ?_
  generalize hA : ({ tmps := _, defers := [] } : Act) = a0
  have hA2 : a0 = { tmps := #[.pointer (some ⟨p, 0, none⟩), .iface 128 (.agg #[.int .i64 e]), undef, undef, .iface 128 (.agg #[.int .i64 e]), undef, undef, undef, undef, undef, undef, undef, undef, undef, undef, undef], defers := [] } := by rw [← hA]; rfl
  subst hA2
  have hta : ∀ w, (Instr.typeAssert (.iface 128 (.agg #[.int .i64 e])) 20 128 true).run Tryz.prog w = .ok (.tuple #[.agg #[.int .i64 e], .bool true]) w := fun _ => rfl
  clear hA
  have hne : p ≠ w.heap.size := by omega
  have hne2 : w.heap.size ≠ p := by omega
  go_wp2
  have q1 : Blk ((w.setCell ⟨p, 0, none⟩ (.int .i64 e)).alloc (.cells #[.int .i64 e] 128)) p 40 [.int .i64 e] := (HB.out.setCell 0 _).alloc _
  have q2 : Kept2 w ((w.setCell ⟨p, 0, none⟩ (.int .i64 e)).alloc (.cells #[.int .i64 e] 128)) p none := ((Kept2.refl w p none).setCell 0 _).below ((Below.refl _ _).alloc (Nat.le_refl _) _)
  generalize (w.setCell ⟨p, 0, none⟩ (.int .i64 e)).alloc (.cells #[.int .i64 e] 128) = w9 at q1 q2 ⊢
  simp [bodyPostS, results, Tryz.results82, q1, q2]
set_option maxRecDepth 20000 in
set_option maxHeartbeats 800000 in
/-- What is called panics with a fault: its code is told. -/
theorem do_fault (W : World) (k : Nat) (cap : Array Value) (e : Int) (R : World → Prop)
    (hc : ∀ w, (callFunc k cap).run Tryz.prog w = .ok (.enter k cap) w) (hk : Calls Tryz.prog k cap (W.alloc (.cells #[.int .i64 0] 40)) fun e' W2 => e' = faultOf e ∧ Blk W2 W.heap.size 40 [.int .i64 0] ∧ R W2) :
    Calls Tryz.prog 35 #[.func (.func k) #[] cap] W fun e' W' => e' = .returned (.int .i64 e) ∧ ∃ W2, R W2 ∧ Kept2 W2 W' W.heap.size none := by
  have hmf : ∀ (fn : Fn) (first cap : Array Value) (w : World), (Instr.makeFunc fn first cap).run Tryz.prog w = .ok (.func fn first cap) w := fun _ _ _ _ => rfl
  go_enter_defers Tryz.func35, Tryz.ntmps35
  go_wp2_with (refine hk.mono ?_; rintro e' W2 ⟨he, hb, hq⟩; unfold faultOf at he; subst he; have HB := Lib.hid hb; have HQ := Lib.hid hq; clear hb hq)
  refine leaves_cons (f := 82) (args := #[.pointer (some ⟨W.heap.size, 0, none⟩)]) (by simp) (by simp [go_sem]) ?_
  refine (do1_fault W.heap.size 0 e [] W2 HB.out).mono ?_
  rintro e' u' W3 ⟨rfl, rfl, hb3, hk3⟩
  have c3 := hb3.cell 0 _ rfl
  have r3 : ∃ W2, R W2 ∧ Kept2 W2 W3 W.heap.size none := ⟨W2, HQ.out, hk3⟩
  simp [Leaves, settle, results, Tryz.results35, go_sem, c3, r3]
end Go.Proofs.YtpbnigpdpkfpaaaGreatDoor
