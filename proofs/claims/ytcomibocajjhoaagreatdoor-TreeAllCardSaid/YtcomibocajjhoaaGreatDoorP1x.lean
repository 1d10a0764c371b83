/- The turns of words: bits.RotateLeft32, sha.right, colporteurref1.turn. Blocks of cells: what is known of a block that the call itself owns. sha.schedule: the sixty-four words of a block. sha.first, sha.consts, colporteurref1.table: arrays that are written out; sha.mixed: one block more. sha.mixed: one block more. -/
import Derived.Test.YtcomibocajjhoaaGreatDoorU
import Derived.Lib.Hide
import Derived.Deep.QuietTactic
import Derived.BigQuiet
import Derived.WalkKit
import Derived.WalkSpells
import Derived.WalkLawsBesides
import Derived.Deep.WholeRow
import Derived.Laws.CopyOwn
import Derived.BigRegion
namespace Go.Proofs.YtcomibocajjhoaaGreatDoor
open Go.RowKit
attribute [local go_sem] un_add un_and un_or un_xor un_not
theorem rot_count (n : Int) (h0 : 0 < n) (h1 : n < 32) : bits .and .u64 (IntKind.u64.wrap (-n)) 31 = 32 - n := by
  have key : ∀ k : Fin 32, 0 < k.val → bits .and .u64 (IntKind.u64.wrap (-(k.val : Int))) 31 = 32 - (k.val : Int) := by decide +kernel
  have := key ⟨n.toNat, by omega⟩ (by simp; omega)
  simpa [Int.toNat_of_nonneg (show 0 ≤ n by omega)] using this
theorem run_shl_un {P : Program} (t : TypeId) (x : BitVec 32) (k : IntKind) (c : Int) (n : Nat) (hc : c = (n : Int)) (hn : n ≤ 32) (w : World) : (binOp .shl t (.int .u32 (un x)) (.int k c)).run P w = .ok (.int .u32 (un (x <<< n))) w := by
  subst hc
  have e : binOp .shl t (.int .u32 (un x)) (.int k (n : Int)) = Op.shift .shl .u32 (un x) k (n : Int) := rfl
  rw [e, shift_shl_u32 k _ _ (by omega) (by omega), Int.toNat_natCast, un_shl]; rfl
theorem run_shr_un {P : Program} (t : TypeId) (x : BitVec 32) (k : IntKind) (c : Int) (n : Nat) (hc : c = (n : Int)) (hn : n ≤ 32) (w : World) : (binOp .shr t (.int .u32 (un x)) (.int k c)).run P w = .ok (.int .u32 (un (x >>> n))) w := by
  subst hc
  have e : binOp .shr t (.int .u32 (un x)) (.int k (n : Int)) = Op.shift .shr .u32 (un x) k (n : Int) := rfl
  rw [e, shift_shr_u32 k _ _ (by omega) (by omega), Int.toNat_natCast, un_shr]; rfl
theorem rot_val (x : BitVec 32) (n : Int) (h0 : 0 < n) (h1 : n < 32) : bits .or .u32 (un x * 2 ^ (32 - n).toNat % 4294967296) (un x / 2 ^ (32 - (32 - n)).toNat) = un (rotr x n.toNat) := by
  have e : (32 - n).toNat = 32 - n.toNat := by omega
  have e2 : (32 - (32 - n)).toNat = n.toNat := by omega
  rw [un_shlm, un_shr, un_or, e, e2]; rfl
theorem turn_val (x : BitVec 32) (n : Int) (h0 : 0 < n) (h1 : n < 32) : (un x / 2 ^ n.toNat + un x * 2 ^ (32 - n).toNat % 4294967296) % 4294967296 = un (rotr x n.toNat) := by
  have e : (32 - n).toNat = 32 - n.toNat := by omega
  rw [un_shlm, un_shr, un_addm, e, turn_sum x n.toNat (by omega) (by omega)]
set_option maxHeartbeats 400000 in
theorem rotl_any (x : BitVec 32) (n : Int) (h0 : 0 < n) (h1 : n < 32) (w : World) :
    Calls Tryz.prog 211 #[.int .u32 (un x), .int .i64 (-n)] w fun e w' => e = .returned (.int .u32 (un (rotr x n.toNat))) ∧ w = w' := by
  have HS := rot_count n h0 h1
  have HV := Lib.hid (rot_val x n h0 h1)
  go_enter Tryz.func211, Tryz.ntmps211
  go_wp2
  go_ret
  exact ⟨by rw [← HV.out]; rfl, rfl⟩
set_option maxHeartbeats 400000 in
theorem right_any (x : BitVec 32) (n : Int) (h0 : 0 < n) (h1 : n < 32) (w : World) :
    Calls Tryz.prog 194 #[.int .u32 (un x), .int .i64 n] w fun e w' => e = .returned (.int .u32 (un (rotr x n.toNat))) ∧ w = w' := by
  go_enter Tryz.func194, Tryz.ntmps194
  go_wp2_with (go_at_call 211; refine (rotl_any x n h0 h1 _).mono ?_; rintro e w' ⟨rfl, rfl⟩)
  go_ret
  exact ⟨rfl, rfl⟩
theorem turn_any (x : BitVec 32) (n : Int) (h0 : 0 < n) (h1 : n < 32) (w : World) :
    Calls Tryz.prog 133 #[.int .u32 (un x), .int .i64 n] w fun e w' => e = .returned (.int .u32 (un (rotr x n.toNat))) ∧ ∃ m, w' = w.drewN m := by
  have HV := Lib.hid (turn_val x n h0 h1)
  go_enter Tryz.func133, Tryz.ntmps133
  go_wp2
  go_quiet (fail)
  go_wp2
  go_ret
  exact ⟨by rw [← HV.out]; rfl, _, rfl⟩
end Go.Proofs.YtcomibocajjhoaaGreatDoor
namespace Go.Proofs.YtcomibocajjhoaaGreatDoor
open Go.RowKit
/-- Block g holds just these cells, of element type t, none frozen. -/
def Blk (w : World) (g : Nat) (t : TypeId) (cs : List Value) : Prop := w.heap[g]? = some (.cells cs.toArray t (0, 0))
theorem Blk.lt {w : World} {g : Nat} {t : TypeId} {cs : List Value} (h : Blk w g t cs) : g < w.heap.size := (Array.getElem?_eq_some_iff.1 h).1
theorem Blk.cell {w : World} {g : Nat} {t : TypeId} {cs : List Value} (h : Blk w g t cs) (j : Nat) (v : Value) (hj : cs[j]? = some v) : w.cell? ⟨g, j, none⟩ = some v := by
  rw [cell_of_row w g j _ t _ h]; simpa using hj
theorem Blk.frozen {w : World} {g : Nat} {t : TypeId} {cs : List Value} (h : Blk w g t cs) (j : Nat) : w.frozen? ⟨g, j, none⟩ = false := frozen_of_row w g j _ t h
theorem Blk.new (w : World) (t : TypeId) (cs : List Value) : Blk (w.alloc (.cells cs.toArray t)) w.heap.size t cs := heap_alloc_new w _
theorem Blk.alloc {w : World} {g : Nat} {t : TypeId} {cs : List Value} (h : Blk w g t cs) (o : Obj) : Blk (w.alloc o) g t cs := (Below.heap_alloc w o g h.lt).trans h
theorem Blk.drew {w : World} {g : Nat} {t : TypeId} {cs : List Value} (h : Blk w g t cs) : Blk w.drew g t cs := h
theorem Blk.drewN {w : World} {g : Nat} {t : TypeId} {cs : List Value} (h : Blk w g t cs) (n : Nat) : Blk (w.drewN n) g t cs := h
theorem Blk.setCell {w : World} {g : Nat} {t : TypeId} {cs : List Value} (h : Blk w g t cs) (j : Nat) (v : Value) : Blk (w.setCell ⟨g, j, none⟩ v) g t (cs.set j v) := by
  have := heap_setCell_same w g j _ t v h
  simpa [Blk] using this
theorem Blk.far {w : World} {g : Nat} {t : TypeId} {cs : List Value} (h : Blk w g t cs) {p : Addr} (hp : g ≠ p.block) (v : Value) : Blk (w.setCell p v) g t cs := (heap_setCell_other w p g v hp).trans h
theorem Blk.below {w w1 : World} {g : Nat} {t : TypeId} {cs : List Value} (h : Blk w g t cs) (hb : Below w.heap.size w w1) : Blk w1 g t cs := (hb.block g h.lt).trans h
theorem Blk.belowB {B : Nat} {w w1 : World} {g : Nat} {t : TypeId} {cs : List Value} (h : Blk w g t cs) (hb : Below B w w1) (hg : g < B) : Blk w1 g t cs := (hb.block g hg).trans h
theorem Blk.grown {w w1 : World} {row : Option Nat} {g : Nat} {t : TypeId} {cs : List Value} (h : Blk w g t cs) (hb : w.grownBy w1 row) (hr : some g ≠ row) : Blk w1 g t cs := (hb.block g h.lt hr).trans h
theorem Blk.row {w : World} {g : Nat} {t : TypeId} {cs : List Value} (h : Blk w g t cs) (cs' : List Value) : Blk (w.setRow g cs'.toArray) g t cs' := setRow_heap w g _ _ t _ h
theorem Blk.rowFar {w : World} {g k : Nat} {t : TypeId} {cs : List Value} (h : Blk w g t cs) (hk : g ≠ k) (cs' : Array Value) : Blk (w.setRow k cs') g t cs := (setRow_other w k g cs' hk).trans h
theorem below_setRow' {B g : Nat} {w0 w : World} (hb : Below B w0 w) (hg : B ≤ g) (cs : Array Value) : Below B w0 (w.setRow g cs) := below_setRow hb hg cs
theorem below_drewN' {B : Nat} {a w : World} (h : Below B a w) (n : Nat) : Below B a (w.drewN n) := below_drewN h n
section
variable {P : Program} {ops : Array Oper} {rest : List Oper} {o : Oper} {a : Act} {w : World} {Q : Exit → Act → World → Prop}
/-- A whole array out of its variable. -/
theorem wpl_load (hgd : o.guard = none) (ty : TypeId) (x : Operand) (ho : o.op = .load ty x) (g : Nat) (hx : a.eval x = .pointer (some ⟨g, 0, none⟩)) (t : TypeId) (cs : List Value) (hb : Blk w g t cs)
    (n : Nat) (e : TypeId) (hu : P.underlying ty = some (.array n e)) (hi : (P.info? ty).map (·.size) = some cs.length) (h : wpList P ops Q rest (a.put o.dst (.agg cs.toArray)) w) : wpList P ops Q (o :: rest) a w :=
  wpList_load_row hgd ty x ho g hx t cs.toArray (0, 0) _ hb hu rfl (by simpa using hi) h
/-- A whole array into its variable. -/
theorem wpl_store (hgd : o.guard = none) (ty : TypeId) (x y : Operand) (ho : o.op = .store ty x y) (g : Nat) (cs' : List Value) (hx : a.eval x = .pointer (some ⟨g, 0, none⟩)) (hy : a.eval y = .agg cs'.toArray) (t : TypeId) (cs : List Value) (hb : Blk w g t cs)
    (hi : (P.info? ty).map (·.size) = some cs'.length) (hl : cs.length = cs'.length) (h1 : ∀ v ∈ cs', v.oneCell' = true) (h : wpList P ops Q rest (a.put o.dst undef) (w.setRow g cs'.toArray)) : wpList P ops Q (o :: rest) a w :=
  wpList_store_row hgd ty x y ho g cs'.toArray hx hy t cs.toArray hb (by simpa using hi) (by simpa using hl) (by rw [Array.all_eq_true_iff_forall_mem]; intro v hv; exact h1 v (by simpa using hv)) h
/-- An array that is written out. -/
theorem wpl_build (hgd : o.guard = none) (ty : TypeId) (parts : Array (Nat × Operand)) (ho : o.op = .build ty parts) (cs : List Value) (hb : P.built ty (parts.map fun (i, x) => (i, a.eval x)).toList = some cs.toArray)
    (h : wpList P ops Q rest (a.put o.dst (.agg cs.toArray)) w) : wpList P ops Q (o :: rest) a w :=
  wpList_build hgd ty parts ho (by rw [hb]; rfl) (by rw [hb]; exact h)
/-- A result that lies in an array. -/
theorem res_row {fn : Func} {p : Tmp} {ty : TypeId} (h : fn.results = #[.cell p ty]) (tmps : Array Value) (w : World) (g : Nat) (t : TypeId) (cs : List Value) (n : Nat) (e : TypeId)
    (hp : tmps.getD p undef = .pointer (some ⟨g, 0, none⟩)) (hg : Blk w g t cs) (hu : P.underlying ty = some (.array n e)) (hi : (P.info? ty).map (·.size) = some cs.length) :
    (results fn tmps).run P w = .ok (.agg cs.toArray) w := results_cell_row h tmps w g t cs.toArray (0, 0) _ hp hg hu rfl (by simpa using hi)
end
theorem Us_one (l : List (BitVec 32)) : ∀ v ∈ Us l, v.oneCell' = true := by
  intro v hv
  simp only [Us, List.mem_map] at hv
  obtain ⟨x, _, rfl⟩ := hv
  rfl
theorem Bs_one (l : List UInt8) : ∀ v ∈ Bs l, v.oneCell' = true := by
  intro v hv
  simp only [Bs, List.mem_map] at hv
  obtain ⟨x, _, rfl⟩ := hv
  rfl
theorem Tryz.size64 : (Tryz.prog.info? 160).map (·.size) = some 64 := by kernel_rfl
theorem Tryz.size8 : (Tryz.prog.info? 129).map (·.size) = some 8 := by kernel_rfl
theorem Tryz.size32 : (Tryz.prog.info? 29).map (·.size) = some 32 := by kernel_rfl
/-- n bytes that can be read from address a on. -/
def BytesAt (w : World) (g o n : Nat) (bs : List UInt8) : Prop := bs.length = n ∧ ∀ j, j < n → w.cell? ⟨g, o + j, none⟩ = some (.int .u8 (ub (gb bs j)))
theorem BytesAt.mono {w : World} {g o n : Nat} {bs : List UInt8} (h : BytesAt w g o n bs) (k m : Nat) (hk : k + m ≤ n) : BytesAt w g (o + k) m ((bs.drop k).take m) := by
  refine ⟨by rw [List.length_take, List.length_drop, h.1]; omega, fun j hj => ?_⟩
  rw [Nat.add_assoc, h.2 (k + j) (by omega)]
  simp [gb, List.getD_eq_getElem?_getD, hj]
theorem BytesAt.take {w : World} {g o n : Nat} {bs : List UInt8} (h : BytesAt w g o n bs) (m : Nat) (hm : m ≤ n) : BytesAt w g o m (bs.take m) := by
  have := h.mono 0 m (by omega)
  simpa using this
theorem BytesAt.of_block {w w1 : World} {g o n : Nat} {bs : List UInt8} (h : BytesAt w g o n bs) (hb : w1.heap[g]? = w.heap[g]?) : BytesAt w1 g o n bs :=
  ⟨h.1, fun j hj => (World.cell?_of_block (w := w) hb).trans (h.2 j hj)⟩
end Go.Proofs.YtcomibocajjhoaaGreatDoor
namespace Go.Proofs.YtcomibocajjhoaaGreatDoor
open Go.RowKit
attribute [local go_sem] un_add un_shl8 un_of_byte un_addm un_and un_or un_xor un_not un_shl8m un_shr3 un_shr10 ub_mod un_mod
/-- The two arrays of a schedule: the one that is handed back, the one that is filled. -/
def SchedAt (w wr : World) (l : List (BitVec 32)) : Prop := Below w.heap.size w wr ∧ Blk wr w.heap.size 160 (Us (List.replicate 64 0)) ∧ Blk wr (w.heap.size + 1) 160 (Us l)
set_option maxRecDepth 100000 in
theorem sched_new (w : World) : SchedAt w ((w.alloc (.cells (Us (List.replicate 64 0)).toArray 160)).alloc (.cells (Us (List.replicate 64 0)).toArray 160)) (List.replicate 64 0) := by
  refine ⟨((Below.refl _ _).alloc (Nat.le_refl _) _).alloc (by simp) _, (Blk.new w _ _).alloc _, ?_⟩
  have := Blk.new (w.alloc (.cells (Us (List.replicate 64 0)).toArray 160)) 160 (Us (List.replicate 64 0))
  simpa using this
theorem SchedAt.put {w wr : World} {l : List (BitVec 32)} (h : SchedAt w wr l) (j : Nat) (x : BitVec 32) : SchedAt w (wr.setCell ⟨w.heap.size + 1, j, none⟩ (.int .u32 (un x))) (l.set j x) :=
  ⟨h.1.setCell (by simp) _, h.2.1.far (by simp) _, by rw [← Us_set]; exact h.2.2.setCell j (.int .u32 (un x))⟩
theorem next_val (bs : List UInt8) (l : List (BitVec 32)) (k : Nat) (h : 16 ≤ k) : next bs l k =
    (rotr (gw l (k - 2)) 17 ^^^ rotr (gw l (k - 2)) 19 ^^^ gw l (k - 2) >>> 10) + gw l (k - 7) + (rotr (gw l (k - 15)) 7 ^^^ rotr (gw l (k - 15)) 18 ^^^ gw l (k - 15) >>> 3) + gw l (k - 16) := by
  rw [next, if_neg (by omega)]
  rfl
theorem SchedAt.drewN {w wr : World} {l : List (BitVec 32)} (h : SchedAt w wr l) (n : Nat) : SchedAt w (wr.drewN n) l := ⟨below_drewN h.1 n, h.2.1, h.2.2⟩
set_option maxRecDepth 100000 in
set_option maxHeartbeats 400000 in
theorem schedule_any (g o c : Nat) (bs : List UInt8) (w : World) (hc : 64 ≤ c) (hm : c ≤ 9223372036854775807) (hg : g < w.heap.size) (hb : BytesAt w g o 64 bs) :
    Calls Tryz.prog 192 #[.slice (some ⟨g, o, none⟩) 64 c] w fun e w' => e = .returned (.agg (Us (wl bs 64)).toArray) ∧ Below w.heap.size w w' := by
  go_enter Tryz.func192, Tryz.ntmps192
  go_wp2
  have HB := Lib.hid hb
  clear hb
  go_loopw [12] (fun i wr => ∃ k : Nat, k ≤ 16 ∧ i = .int .i64 k ∧ SchedAt w wr (wfill bs k)) (fun i _ => 16 - (intOf i).toNat)
  case atStart => exact ⟨0, by omega, rfl, by rw [wfill_zero]; exact sched_new w⟩
  case round =>
    obtain ⟨k, hk, rfl, hS⟩ := hrel
    have HS := Lib.hid hS
    clear hS
    by_cases hlt : k < 16
    · have l1 : (k : Int) < 16 := by omega
      go_wp2
      go_loopw [23] (fun i wr => ∃ j : Nat, j ≤ 4 ∧ i = .int .i64 j ∧ SchedAt w wr ((wfill bs k).set k (part bs k j))) (fun i _ => 4 - (intOf i).toNat)
      case atStart => exact ⟨0, by omega, rfl, by rw [part, wfill_set0 bs k (by omega)]; exact HS.out⟩
      case round =>
        obtain ⟨j, hj, rfl, hT⟩ := hrel
        by_cases hlt2 : j < 4
        · have l2 : (j : Int) < 4 := by omega
          have c1 : wr.cell? ⟨g, o + 4 * k + j, none⟩ = some (.int .u8 (ub (gb bs (4 * k + j)))) := by
            have := HB.out.2 (4 * k + j) (by omega)
            rw [← Nat.add_assoc] at this
            rw [hT.1.cell (p := ⟨g, o + 4 * k + j, none⟩) hg]
            exact this
          have c2 : wr.cell? ⟨w.heap.size + 1, k, none⟩ = some (.int .u32 (un (part bs k j))) := by
            refine hT.2.2.cell k _ ?_
            rw [Us_at _ _ (by rw [List.length_set, wfill_length bs k (by omega)]; omega), wfill_part bs k j _ (by omega)]
          have c3 : wr.frozen? ⟨w.heap.size + 1, k, none⟩ = false := hT.2.2.frozen k
          have HT := Lib.hid hT
          clear hT
          go_wp2
          go_roundw
          case rel => exact ⟨j + 1, by omega, by go_num, by have := HT.out.put k (part bs k (j + 1)); rw [List.set_set] at this; exact this⟩
          case measure => simp [intOf]; omega
        · have e : j = 4 := by omega
          subst e
          have HT := Lib.hid hT
          clear hT HS
          go_wp2
          go_roundw
          case rel => exact ⟨k + 1, by omega, by go_num, by rw [← wfill_set16 bs k hlt]; exact HT.out⟩
          case measure => simp [intOf]; omega
    · have e : k = 16 := by omega
      subst e
      go_wp2
      go_loopw [7] (fun i wr => ∃ k : Nat, 16 ≤ k ∧ k ≤ 64 ∧ i = .int .i64 k ∧ SchedAt w wr (wfill bs k)) (fun i _ => 64 - (intOf i).toNat)
      case atStart => exact ⟨16, by omega, by omega, rfl, HS.out⟩
      case round =>
        obtain ⟨k, hk1, hk2, rfl, hT⟩ := hrel
        by_cases hlt2 : k < 64
        · have l2 : (k : Int) < 64 := by omega
          have l3 : 16 ≤ (k : Int) := by omega
          have cell : ∀ i, i < k → wr.cell? ⟨w.heap.size + 1, i, none⟩ = some (.int .u32 (un (gw (wl bs k) i))) := fun i hi => by
            rw [← wfill_old bs k i hi]
            exact hT.2.2.cell i _ (Us_at _ _ (by rw [wfill_length bs k (by omega)]; omega))
          have c15 := cell (k - 15) (by omega)
          have c2 := cell (k - 2) (by omega)
          have c7 := cell (k - 7) (by omega)
          have c16 := cell (k - 16) (by omega)
          clear cell
          have ck : wr.cell? ⟨w.heap.size + 1, k, none⟩ = some (.int .u32 (un 0)) := by
            rw [← wfill_new bs k hlt2]
            exact hT.2.2.cell k _ (Us_at _ _ (by rw [wfill_length bs k (by omega)]; omega))
          have cf : wr.frozen? ⟨w.heap.size + 1, k, none⟩ = false := hT.2.2.frozen k
          have HT := Lib.hid hT
          clear hT
          go_wp2
          go_quiet (fail)
          go_wp2_with (go_at_call 194; refine (right_any _ _ (by omega) (by omega) _).mono ?_; rintro e w' ⟨rfl, rfl⟩)
          go_region
          go_wp2
          go_roundw
          case rel => ((repeat apply Exists.intro); exact ⟨⟨k + 1, by omega, by omega, by go_num, by rw [← wfill_set bs k hlt2, next_val bs _ k hk1]; exact (HT.out.drewN _).put k _⟩, rfl⟩)
          case measure => simp [intOf]; omega
        · have e : k = 64 := by omega
          subst e
          rw [wfill_all] at hT
          have HT := Lib.hid hT
          clear hT HS
          go_wp2_with (first | (refine wpl_load rfl 160 _ rfl (w.heap.size + 1) rfl 160 _ HT.out.2.2 64 128 Tryz.underlying160 (by rw [Tryz.size64]; simp) ?_) | (refine wpl_store rfl 160 _ _ rfl w.heap.size (Us (wl bs 64)) rfl rfl 160 _ HT.out.2.1 (by rw [Tryz.size64]; simp) (by simp) (Us_one _) ?_))
          refine bodyPost_ret (v := .agg (Us (wl bs 64)).toArray) (res_row rfl _ _ w.heap.size 160 _ 64 128 rfl (HT.out.2.1.row _) Tryz.underlying160 (by rw [Tryz.size64]; simp)) rfl ⟨rfl, below_setRow' HT.out.1 (Nat.le_refl _) _⟩
end Go.Proofs.YtcomibocajjhoaaGreatDoor
namespace Go.Proofs.YtcomibocajjhoaaGreatDoor
open Go.RowKit
attribute [local go_sem] un_add un_shl8 un_of_byte un_addm un_and un_or un_xor un_not un_shl8m un_shr3 un_shr10 ub_mod un_mod
def zero64 : List Value := Us (List.replicate 64 0)
def zero8 : List Value := Us (List.replicate 8 0)
set_option maxRecDepth 100000 in
set_option maxHeartbeats 400000 in
theorem consts_any (w : World) :
    Calls Tryz.prog 193 #[] w fun e w' => e = .returned (.agg (Us ks).toArray) ∧ Below w.heap.size w w' := by
  have hb0 : Blk (w.alloc (.cells zero64.toArray 160)) w.heap.size 160 zero64 := Blk.new w _ _
  have HB := Lib.hid hb0
  clear hb0
  go_enter Tryz.func193, Tryz.ntmps193
  go_wp2_with (first | (refine wpl_build rfl 160 _ rfl (Us ks) (by kernel_rfl) ?_) | (refine wpl_store rfl 160 _ _ rfl w.heap.size (Us ks) rfl rfl 160 _ HB.out (by rw [Tryz.size64]; rfl) rfl (Us_one _) ?_))
  refine bodyPost_ret (v := .agg (Us ks).toArray) (res_row rfl _ _ w.heap.size 160 _ 64 128 rfl (HB.out.row _) Tryz.underlying160 (by rw [Tryz.size64]; rfl)) rfl ⟨rfl, below_setRow' ((Below.refl _ _).alloc (Nat.le_refl _) _) (Nat.le_refl _) _⟩
set_option maxRecDepth 100000 in
set_option maxHeartbeats 400000 in
theorem table_any (w : World) :
    Calls Tryz.prog 132 #[] w fun e w' => e = .returned (.agg (Us ks).toArray) ∧ Below w.heap.size w w' := by
  have hb0 : Blk (w.alloc (.cells zero64.toArray 160)) w.heap.size 160 zero64 := Blk.new w _ _
  have HB := Lib.hid hb0
  clear hb0
  go_enter Tryz.func132, Tryz.ntmps132
  go_wp2_with (first | (refine wpl_build rfl 160 _ rfl (Us ks) (by kernel_rfl) ?_) | (refine wpl_store rfl 160 _ _ rfl w.heap.size (Us ks) rfl rfl 160 _ HB.out (by rw [Tryz.size64]; rfl) rfl (Us_one _) ?_))
  refine bodyPost_ret (v := .agg (Us ks).toArray) (res_row rfl _ _ w.heap.size 160 _ 64 128 rfl (HB.out.row _) Tryz.underlying160 (by rw [Tryz.size64]; rfl)) rfl ⟨rfl, below_setRow' ((Below.refl _ _).alloc (Nat.le_refl _) _) (Nat.le_refl _) _⟩
set_option maxRecDepth 100000 in
set_option maxHeartbeats 400000 in
theorem first_any (w : World) :
    Calls Tryz.prog 159 #[] w fun e w' => e = .returned (.agg (Us h0s).toArray) ∧ Below w.heap.size w w' := by
  have hb0 : Blk (w.alloc (.cells zero8.toArray 129)) w.heap.size 129 zero8 := Blk.new w _ _
  have HB := Lib.hid hb0
  clear hb0
  go_enter Tryz.func159, Tryz.ntmps159
  go_wp2_with (first | (refine wpl_build rfl 129 _ rfl (Us h0s) (by kernel_rfl) ?_) | (refine wpl_store rfl 129 _ _ rfl w.heap.size (Us h0s) rfl rfl 129 _ HB.out (by rw [Tryz.size8]; rfl) rfl (Us_one _) ?_))
  refine bodyPost_ret (v := .agg (Us h0s).toArray) (res_row rfl _ _ w.heap.size 129 _ 8 128 rfl (HB.out.row _) Tryz.underlying129 (by rw [Tryz.size8]; rfl)) rfl ⟨rfl, below_setRow' ((Below.refl _ _).alloc (Nat.le_refl _) _) (Nat.le_refl _) _⟩
end Go.Proofs.YtcomibocajjhoaaGreatDoor
namespace Go.Proofs.YtcomibocajjhoaaGreatDoor
open Go.RowKit
attribute [local go_sem] un_add un_shl8 un_of_byte un_addm un_and un_or un_xor un_not un_not' un_shl8m un_shr3 un_shr10 ub_mod un_mod
theorem hsz (w : World) (o : Obj) : (w.alloc o).heap.size = w.heap.size + 1 := by simp
/-- What is boxed, and what is handed back, in a world. -/
def Mx0 (w W : World) (l r : List (BitVec 32)) : Prop := Below w.heap.size w W ∧ Blk W w.heap.size 129 (Us l) ∧ Blk W (w.heap.size + 1) 129 (Us r)
theorem Mx0.new (w : World) (l : List (BitVec 32)) : Mx0 w ((w.alloc (.cells (Us l).toArray 129)).alloc (.cells zero8.toArray 129)) l (List.replicate 8 0) := by
  refine ⟨((Below.refl _ _).alloc (Nat.le_refl _) _).alloc (by simp) _, (Blk.new w _ _).alloc _, ?_⟩
  have := Blk.new (w.alloc (.cells (Us l).toArray 129)) 129 zero8
  rwa [hsz] at this
theorem Mx0.lt {w W : World} {l r : List (BitVec 32)} (h : Mx0 w W l r) : w.heap.size + 2 ≤ W.heap.size := by have := h.2.2.lt; omega
theorem Mx0.below {w W W1 : World} {l r : List (BitVec 32)} (h : Mx0 w W l r) (hb : Below W.heap.size W W1) : Mx0 w W1 l r :=
  ⟨h.1.trans (hb.mono (by have := h.lt; omega)), h.2.1.below hb, h.2.2.below hb⟩
theorem z8_eq : (Obj.cells #[.int .u32 0, .int .u32 0, .int .u32 0, .int .u32 0, .int .u32 0, .int .u32 0, .int .u32 0, .int .u32 0] 129 : Obj) = .cells zero8.toArray 129 := rfl
theorem z64_eq : (Obj.cells #[.int .u32 0, .int .u32 0, .int .u32 0, .int .u32 0, .int .u32 0, .int .u32 0, .int .u32 0, .int .u32 0, .int .u32 0, .int .u32 0, .int .u32 0, .int .u32 0, .int .u32 0, .int .u32 0, .int .u32 0, .int .u32 0, .int .u32 0, .int .u32 0, .int .u32 0, .int .u32 0, .int .u32 0, .int .u32 0, .int .u32 0, .int .u32 0, .int .u32 0, .int .u32 0, .int .u32 0, .int .u32 0, .int .u32 0, .int .u32 0, .int .u32 0, .int .u32 0, .int .u32 0, .int .u32 0, .int .u32 0, .int .u32 0, .int .u32 0, .int .u32 0, .int .u32 0, .int .u32 0, .int .u32 0, .int .u32 0, .int .u32 0, .int .u32 0, .int .u32 0, .int .u32 0, .int .u32 0, .int .u32 0, .int .u32 0, .int .u32 0, .int .u32 0, .int .u32 0, .int .u32 0, .int .u32 0, .int .u32 0, .int .u32 0, .int .u32 0, .int .u32 0, .int .u32 0, .int .u32 0, .int .u32 0, .int .u32 0, .int .u32 0, .int .u32 0] 160 : Obj) = .cells zero64.toArray 160 := rfl
theorem Mx0.alloc {w W : World} {l r : List (BitVec 32)} (h : Mx0 w W l r) (o : Obj) : Mx0 w (W.alloc o) l r :=
  ⟨h.1.alloc (by have := h.lt; omega) o, h.2.1.alloc o, h.2.2.alloc o⟩
theorem Mx0.setRow {w W : World} {l r : List (BitVec 32)} (h : Mx0 w W l r) {g : Nat} (hg : w.heap.size + 2 ≤ g) (cs : Array Value) : Mx0 w (W.setRow g cs) l r :=
  ⟨below_setRow' h.1 (by omega) cs, h.2.1.rowFar (by omega) cs, h.2.2.rowFar (by omega) cs⟩
theorem Mx0.drewN {w W : World} {l r : List (BitVec 32)} (h : Mx0 w W l r) (n : Nat) : Mx0 w (W.drewN n) l r := ⟨below_drewN h.1 n, h.2.1, h.2.2⟩
/-- The words of the block, and what is added. -/
def Mx1 (w W : World) (p : Nat) (l ws : List (BitVec 32)) : Prop :=
  Mx0 w W l (List.replicate 8 0) ∧ w.heap.size + 2 ≤ p ∧ Blk W p 160 (Us ws) ∧ Blk W (p + 1) 160 (Us ks)
theorem Mx1.new {w w2 : World} {l : List (BitVec 32)} (h : Mx0 w w2 l (List.replicate 8 0)) (ws : List (BitVec 32)) :
    Mx1 w ((((w2.alloc (.cells zero64.toArray 160)).alloc (.cells zero64.toArray 160)).setRow w2.heap.size (Us ws).toArray).setRow (w2.heap.size + 1) (Us ks).toArray) w2.heap.size l ws ∧
    ((((w2.alloc (.cells zero64.toArray 160)).alloc (.cells zero64.toArray 160)).setRow w2.heap.size (Us ws).toArray).setRow (w2.heap.size + 1) (Us ks).toArray).heap.size = w2.heap.size + 2 := by
  have hl := h.lt
  have n1 := (Blk.new w2 160 zero64).alloc (.cells zero64.toArray 160)
  have n0 := Blk.new (w2.alloc (.cells zero64.toArray 160)) 160 zero64
  rw [hsz] at n0
  refine ⟨⟨(((h.alloc _).alloc _).setRow hl _).setRow (by omega) _, hl, (n1.row _).rowFar (by omega) _, (n0.rowFar (by omega) _).row _⟩, by simp⟩
/-- .. and the eight words. -/
def Mx (w W : World) (p : Nat) (l ws v : List (BitVec 32)) : Prop := Mx1 w W p l ws ∧ Blk W (p + 2) 129 (Us v)
theorem Mx.new {w W : World} {p : Nat} {l ws : List (BitVec 32)} (h : Mx1 w W p l ws) (hs : W.heap.size = p + 2) (v : List (BitVec 32)) :
    Mx w ((W.alloc (.cells zero8.toArray 129)).setRow (p + 2) (Us v).toArray) p l ws v := by
  obtain ⟨h0, hp, h1, h2⟩ := h
  have n := Blk.new W 129 zero8
  rw [hs] at n
  exact ⟨⟨(h0.alloc _).setRow (by omega) _, hp, (h1.alloc _).rowFar (by omega) _, (h2.alloc _).rowFar (by omega) _⟩, n.row _⟩
theorem Mx.drewN {w W : World} {p : Nat} {l ws v : List (BitVec 32)} (h : Mx w W p l ws v) (n : Nat) : Mx w (W.drewN n) p l ws v := ⟨⟨h.1.1.drewN n, h.1.2.1, h.1.2.2.1, h.1.2.2.2⟩, h.2⟩
theorem Mx.put {w W : World} {p : Nat} {l ws v : List (BitVec 32)} (h : Mx w W p l ws v) (v' : List (BitVec 32)) : Mx w (W.setRow (p + 2) (Us v').toArray) p l ws v' := by
  obtain ⟨⟨h0, hp, h1, h2⟩, h3⟩ := h
  exact ⟨⟨h0.setRow (by omega) _, hp, h1.rowFar (by omega) _, h2.rowFar (by omega) _⟩, h3.row _⟩
theorem Mx.box {w W : World} {p : Nat} {l ws v : List (BitVec 32)} (h : Mx w W p l ws v) (k : Nat) (x : BitVec 32) : Mx w (W.setCell ⟨w.heap.size, k, none⟩ (.int .u32 (un x))) p (l.set k x) ws v := by
  obtain ⟨⟨⟨h0, hl, hr⟩, hp, h1, h2⟩, h3⟩ := h
  exact ⟨⟨⟨h0.setCell (Nat.le_refl _) _, by rw [← Us_set]; exact hl.setCell k _, hr.far (by simp) _⟩, hp, h1.far (by simp; omega) _, h2.far (by simp; omega) _⟩, h3.far (by simp; omega) _⟩
set_option maxRecDepth 100000 in
set_option maxHeartbeats 1000000 in
theorem mixed_any (s : St) (g o c : Nat) (bs : List UInt8) (w : World) (hc : 64 ≤ c) (hm : c ≤ 9223372036854775807) (hg : g < w.heap.size) (hb : BytesAt w g o 64 bs) :
    Calls Tryz.prog 160 #[.agg (Us s.list).toArray, .slice (some ⟨g, o, none⟩) 64 c] w fun e w' => e = .returned (.agg (Us (mix s bs).list).toArray) ∧ Below w.heap.size w w' := by
  have M0 := Lib.hid (Mx0.new w s.list)
  have B0 := Lib.hid (hb.of_block (w1 := (w.alloc (.cells (Us s.list).toArray 129)).alloc (.cells zero8.toArray 129)) ((Mx0.new w s.list).1.block g hg))
  clear hb
  have z8 := z8_eq
  have z64 := z64_eq
  go_enter Tryz.func160, Tryz.ntmps160
  go_wp2_with fail
  have hg' : g < ((w.alloc (.cells (Us s.list).toArray 129)).alloc (.cells zero8.toArray 129)).heap.size := by rw [hsz, hsz]; omega
  refine (schedule_any g o c bs _ hc hm hg' B0.out).mono ?_
  rintro e w1 ⟨rfl, hb1⟩
  have M1 := Lib.hid (M0.out.below hb1)
  clear hb1 M0 B0 hg'
  go_wp2_with fail
  refine (consts_any _).mono ?_
  rintro e w2 ⟨rfl, hb2⟩
  have M2 := Lib.hid (M1.out.below hb2)
  clear hb2 M1
  have N0 := Lib.hid (Blk.new (w2.alloc (.cells zero64.toArray 160)) 160 zero64)
  have N1 := Lib.hid ((Blk.new w2 160 zero64).alloc (.cells zero64.toArray 160))
  have M3 := Mx1.new M2.out (wl bs 64)
  have M3' := Lib.hid M3
  clear M3 M2
  rw [hsz] at N0
  go_wp2_with (first
    | (refine wpl_store rfl 160 (.tmp 5) _ rfl w2.heap.size (Us (wl bs 64)) rfl rfl 160 _ N1.out (by rw [Tryz.size64]; simp) (by simp [zero64]) (Us_one _) ?_)
    | (refine wpl_store rfl 160 (.tmp 6) _ rfl (w2.heap.size + 1) (Us ks) rfl rfl 160 _ (N0.out.rowFar (by omega) _) (by rw [Tryz.size64]; rfl) (by simp [zero64]; rfl) (Us_one _) ?_; generalize (((w2.alloc (.cells zero64.toArray 160)).alloc (.cells zero64.toArray 160)).setRow w2.heap.size (Us (wl bs 64)).toArray).setRow (w2.heap.size + 1) (Us ks).toArray = W3 at M3' ⊢; clear N0 N1)
    | (refine wpl_load rfl 129 (.tmp 2) rfl w.heap.size rfl 129 _ M3'.out.1.1.2.1 8 128 Tryz.underlying129 (by rw [Tryz.size8]; simp [St.list]) ?_)
    | (refine wpl_store rfl 129 (.tmp 7) _ rfl W3.heap.size (Us s.list) rfl rfl 129 _ (Blk.new W3 129 zero8) (by rw [Tryz.size8]; simp [St.list]) (by simp [zero8, St.list]) (Us_one _) ?_; rw [show W3.heap.size = w2.heap.size + 2 from M3'.out.2]))
  have M4 := Lib.hid (Mx.new M3'.out.1 M3'.out.2 s.list)
  generalize (W3.alloc (.cells zero8.toArray 129)).setRow (w2.heap.size + 2) (Us s.list).toArray = W4 at M4 ⊢
  clear M3'
  generalize w2.heap.size = p at M4 ⊢
  go_loopw [20] (fun i wr => ∃ k : Nat, k ≤ 64 ∧ i = .int .i64 k ∧ Mx w wr p s.list (wl bs 64) (rounds (wl bs 64) s k).list) (fun i _ => 64 - (intOf i).toNat)
  case atStart => exact ⟨0, by omega, rfl, M4.out⟩
  case round =>
    obtain ⟨k, hk, rfl, hT⟩ := hrel
    clear M4
    by_cases hlt : k < 64
    · have l1 : (k : Int) < 64 := by omega
      have HR : Hid (rounds (wl bs 64) s (k + 1) = round1 (rounds (wl bs 64) s k) (gw ks k) (gw (wl bs 64) k)) := rfl
      generalize rounds (wl bs 64) s k = r at hT HR
      have HR' := Lib.hid HR.out
      clear HR
      have c0 := hT.2.cell 0 (.int .u32 (un r.a)) rfl
      have c1 := hT.2.cell 1 (.int .u32 (un r.b)) rfl
      have c2 := hT.2.cell 2 (.int .u32 (un r.c)) rfl
      have c3 := hT.2.cell 3 (.int .u32 (un r.d)) rfl
      have c4 := hT.2.cell 4 (.int .u32 (un r.e)) rfl
      have c5 := hT.2.cell 5 (.int .u32 (un r.f)) rfl
      have c6 := hT.2.cell 6 (.int .u32 (un r.g)) rfl
      have c7 := hT.2.cell 7 (.int .u32 (un r.h)) rfl
      have ck := hT.1.2.2.2.cell k _ (Us_at ks k hlt)
      have cw := hT.1.2.2.1.cell k _ (Us_at (wl bs 64) k (by simpa using hlt))
      have HT := Lib.hid hT
      clear hT
      generalize gw ks k = kk at ck HR'
      generalize gw (wl bs 64) k = ww at cw HR'
      go_wp2
      go_quiet (fail)
      go_wp2_with (go_at_call 194; refine (right_any _ _ (by omega) (by omega) _).mono ?_; rintro e w' ⟨rfl, rfl⟩)
      go_quiet (fail)
      have HT' := Lib.hid (HT.out.drewN)
      go_wp2_with (first
        | (go_at_call 194; refine (right_any _ _ (by omega) (by omega) _).mono ?_; rintro e w' ⟨rfl, rfl⟩)
        | (refine wpl_build rfl 129 _ rfl (Us (round1 r kk ww).list) (by kernel_rfl) ?_)
        | (refine wpl_store rfl 129 (.tmp 7) _ rfl (p + 2) (Us (round1 r kk ww).list) rfl rfl 129 _ (HT'.out _).2 (by rw [Tryz.size8]; simp [St.list]) (by simp [St.list]) (Us_one _) ?_))
      go_roundw
      case rel => exact ⟨k + 1, by omega, by go_num, by rw [HR'.out]; exact (HT'.out _).put _⟩
      case measure => simp [intOf]; omega
    · have e : k = 64 := by omega
      subst e
      have HM : Hid (mix s bs = s.add (rounds (wl bs 64) s 64)) := rfl
      generalize rounds (wl bs 64) s 64 = r at hT HM
      have HM' := Lib.hid HM.out
      have HT := Lib.hid hT
      clear hT HM
      go_wp2
      go_loopw [102] (fun i wr => ∃ k : Nat, k ≤ 8 ∧ i = .int .i64 k ∧ Mx w wr p (mixk s r k) (wl bs 64) r.list) (fun i _ => 8 - (intOf i).toNat)
      case atStart => exact ⟨0, by omega, rfl, by rw [mixk_zero]; exact HT.out⟩
      case round =>
        obtain ⟨k, hk, rfl, hT⟩ := hrel
        clear HT
        by_cases hlt : k < 8
        · have l1 : (k : Int) < 8 := by omega
          have c1 := hT.1.1.2.1.cell k _ (Us_at (mixk s r k) k (by rw [mixk_length s r k hk]; omega))
          rw [mixk_at s r k hlt] at c1
          have c2 := hT.2.cell k _ (Us_at r.list k (by simpa [St.list] using hlt))
          have c3 := hT.1.1.2.1.frozen k
          have HT := Lib.hid hT
          clear hT
          have HN := Lib.hid (mixk_set s r k hlt)
          generalize gw s.list k = x at c1 HN
          generalize gw r.list k = y at c2 HN
          go_wp2
          go_region
          go_wp2
          go_roundw
          case rel => exact ⟨k + 1, by omega, by go_num, by rw [← HN.out]; exact (HT.out.drewN _).box _ _⟩
          case measure => simp [intOf]; omega
        · have e : k = 8 := by omega
          subst e
          rw [mixk_all, ← HM'.out] at hT
          have HT := Lib.hid hT
          clear hT HM'
          obtain ⟨m, hm⟩ : ∃ m, m = mix s bs := ⟨_, rfl⟩
          rw [← hm] at HT
          have HM2 := Lib.hid hm
          clear hm
          go_wp2_with (first
            | (refine wpl_load rfl 129 (.tmp 2) rfl w.heap.size rfl 129 _ HT.out.1.1.2.1 8 128 Tryz.underlying129 (by rw [Tryz.size8]; simp [St.list]) ?_)
            | (refine wpl_store rfl 129 (.tmp 4) _ rfl (w.heap.size + 1) (Us m.list) rfl rfl 129 _ HT.out.1.1.2.2 (by rw [Tryz.size8]; simp [St.list]) (by simp [St.list]) (Us_one _) ?_))
          refine bodyPost_ret (v := .agg (Us m.list).toArray) (res_row rfl _ _ (w.heap.size + 1) 129 _ 8 128 rfl (HT.out.1.1.2.2.row _) Tryz.underlying129 (by rw [Tryz.size8]; simp [St.list])) rfl ⟨by rw [HM2.out], below_setRow' HT.out.1.1.1 (by omega) _⟩
end Go.Proofs.YtcomibocajjhoaaGreatDoor
