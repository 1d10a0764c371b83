/- Blocks of cells: what is known of a block that the call itself owns. -/
import Derived.Test.YtpfoohfgochaiaaGreatDoorU
import Derived.WalkKit
import Derived.WalkSpells
import Derived.WalkLawsBesides
import Derived.Deep.WholeRow
import Derived.Laws.CopyOwn
namespace Go.Proofs.YtpfoohfgochaiaaGreatDoor
open Go.RowKit
/-- Block g holds just these cells, of element type t, none frozen. -/
def Blk (w : World) (g : Nat) (t : TypeId) (cs : List Value) : Prop := w.heap[g]? = some (.cells cs.toArray t (0, 0))
theorem Blk.lt {w : World} {g : Nat} {t : TypeId} {cs : List Value} (h : Blk w g t cs) : g < w.heap.size := (Array.getElem?_eq_some_iff.1 h).1
theorem Blk.cell {w : World} {g : Nat} {t : TypeId} {cs : List Value} (h : Blk w g t cs) (j : Nat) (v : Value) (hj : cs[j]? = some v) : w.cell? ⟨g, j, none⟩ = some v := by
  rw [cell_of_row w g j _ t _ h]; simpa using hj
theorem Blk.frozen {w : World} {g : Nat} {t : TypeId} {cs : List Value} (h : Blk w g t cs) (j : Nat) : w.frozen? ⟨g, j, none⟩ = false := frozen_of_row w g j _ t h
theorem Blk.new (w : World) (t : TypeId) (cs : List Value) : Blk (w.alloc (.cells cs.toArray t)) w.heap.size t cs := heap_alloc_new w _
theorem Blk.alloc {w : World} {g : Nat} {t : TypeId} {cs : List Value} (h : Blk w g t cs) (o : Obj) : Blk (w.alloc o) g t cs := (Below.heap_alloc w o g h.lt).trans h
theorem Blk.drew {w : World} {g : Nat} {t : TypeId} {cs : List Value} (h : Blk w g t cs) : Blk w.drew g t cs := h
theorem Blk.drewN {w : World} {g : Nat} {t : TypeId} {cs : List Value} (h : Blk w g t cs) (n : Nat) : Blk (w.drewN n) g t cs := h
theorem Blk.setCell {w : World} {g : Nat} {t : TypeId} {cs : List Value} (h : Blk w g t cs) (j : Nat) (v : Value) : Blk (w.setCell ⟨g, j, none⟩ v) g t (cs.set j v) := by
  have := heap_setCell_same w g j _ t v h
  simpa [Blk] using this
theorem Blk.far {w : World} {g : Nat} {t : TypeId} {cs : List Value} (h : Blk w g t cs) {p : Addr} (hp : g ≠ p.block) (v : Value) : Blk (w.setCell p v) g t cs := (heap_setCell_other w p g v hp).trans h
theorem Blk.below {w w1 : World} {g : Nat} {t : TypeId} {cs : List Value} (h : Blk w g t cs) (hb : Below w.heap.size w w1) : Blk w1 g t cs := (hb.block g h.lt).trans h
theorem Blk.belowB {B : Nat} {w w1 : World} {g : Nat} {t : TypeId} {cs : List Value} (h : Blk w g t cs) (hb : Below B w w1) (hg : g < B) : Blk w1 g t cs := (hb.block g hg).trans h
theorem Blk.grown {w w1 : World} {row : Option Nat} {g : Nat} {t : TypeId} {cs : List Value} (h : Blk w g t cs) (hb : w.grownBy w1 row) (hr : some g ≠ row) : Blk w1 g t cs := (hb.block g h.lt hr).trans h
theorem Blk.row {w : World} {g : Nat} {t : TypeId} {cs : List Value} (h : Blk w g t cs) (cs' : List Value) : Blk (w.setRow g cs'.toArray) g t cs' := setRow_heap w g _ _ t _ h
theorem Blk.rowFar {w : World} {g k : Nat} {t : TypeId} {cs : List Value} (h : Blk w g t cs) (hk : g ≠ k) (cs' : Array Value) : Blk (w.setRow k cs') g t cs := (setRow_other w k g cs' hk).trans h
theorem below_setRow' {B g : Nat} {w0 w : World} (hb : Below B w0 w) (hg : B ≤ g) (cs : Array Value) : Below B w0 (w.setRow g cs) := below_setRow hb hg cs
theorem below_drewN' {B : Nat} {a w : World} (h : Below B a w) (n : Nat) : Below B a (w.drewN n) := below_drewN h n
section
variable {P : Program} {ops : Array Oper} {rest : List Oper} {o : Oper} {a : Act} {w : World} {Q : Exit → Act → World → Prop}
/-- A whole array out of its variable. -/
theorem wpl_load (hgd : o.guard = none) (ty : TypeId) (x : Operand) (ho : o.op = .load ty x) (g : Nat) (hx : a.eval x = .pointer (some ⟨g, 0, none⟩)) (t : TypeId) (cs : List Value) (hb : Blk w g t cs)
    (n : Nat) (e : TypeId) (hu : P.underlying ty = some (.array n e)) (hi : (P.info? ty).map (·.size) = some cs.length) (h : wpList P ops Q rest (a.put o.dst (.agg cs.toArray)) w) : wpList P ops Q (o :: rest) a w :=
  wpList_load_row hgd ty x ho g hx t cs.toArray (0, 0) _ hb hu rfl (by simpa using hi) h
/-- A whole array into its variable. -/
theorem wpl_store (hgd : o.guard = none) (ty : TypeId) (x y : Operand) (ho : o.op = .store ty x y) (g : Nat) (cs' : List Value) (hx : a.eval x = .pointer (some ⟨g, 0, none⟩)) (hy : a.eval y = .agg cs'.toArray) (t : TypeId) (cs : List Value) (hb : Blk w g t cs)
    (hi : (P.info? ty).map (·.size) = some cs'.length) (hl : cs.length = cs'.length) (h1 : ∀ v ∈ cs', v.oneCell' = true) (h : wpList P ops Q rest (a.put o.dst undef) (w.setRow g cs'.toArray)) : wpList P ops Q (o :: rest) a w :=
  wpList_store_row hgd ty x y ho g cs'.toArray hx hy t cs.toArray hb (by simpa using hi) (by simpa using hl) (by rw [Array.all_eq_true_iff_forall_mem]; intro v hv; exact h1 v (by simpa using hv)) h
/-- An array that is written out. -/
theorem wpl_build (hgd : o.guard = none) (ty : TypeId) (parts : Array (Nat × Operand)) (ho : o.op = .build ty parts) (cs : List Value) (hb : P.built ty (parts.map fun (i, x) => (i, a.eval x)).toList = some cs.toArray)
    (h : wpList P ops Q rest (a.put o.dst (.agg cs.toArray)) w) : wpList P ops Q (o :: rest) a w :=
  wpList_build hgd ty parts ho (by rw [hb]; rfl) (by rw [hb]; exact h)
/-- A result that lies in an array. -/
theorem res_row {fn : Func} {p : Tmp} {ty : TypeId} (h : fn.results = #[.cell p ty]) (tmps : Array Value) (w : World) (g : Nat) (t : TypeId) (cs : List Value) (n : Nat) (e : TypeId)
    (hp : tmps.getD p undef = .pointer (some ⟨g, 0, none⟩)) (hg : Blk w g t cs) (hu : P.underlying ty = some (.array n e)) (hi : (P.info? ty).map (·.size) = some cs.length) :
    (results fn tmps).run P w = .ok (.agg cs.toArray) w := results_cell_row h tmps w g t cs.toArray (0, 0) _ hp hg hu rfl (by simpa using hi)
end
theorem Us_one (l : List (BitVec 32)) : ∀ v ∈ Us l, v.oneCell' = true := by
  intro v hv
  simp only [Us, List.mem_map] at hv
  obtain ⟨x, _, rfl⟩ := hv
  rfl
theorem Bs_one (l : List UInt8) : ∀ v ∈ Bs l, v.oneCell' = true := by
  intro v hv
  simp only [Bs, List.mem_map] at hv
  obtain ⟨x, _, rfl⟩ := hv
  rfl
theorem Tryz.size64 : (Tryz.prog.info? 130).map (·.size) = some 64 := by kernel_rfl
theorem Tryz.size8 : (Tryz.prog.info? 94).map (·.size) = some 8 := by kernel_rfl
theorem Tryz.size32 : (Tryz.prog.info? 28).map (·.size) = some 32 := by kernel_rfl
/-- n bytes that can be read from address a on. -/
def BytesAt (w : World) (g o n : Nat) (bs : List UInt8) : Prop := bs.length = n ∧ ∀ j, j < n → w.cell? ⟨g, o + j, none⟩ = some (.int .u8 (ub (gb bs j)))
theorem BytesAt.mono {w : World} {g o n : Nat} {bs : List UInt8} (h : BytesAt w g o n bs) (k m : Nat) (hk : k + m ≤ n) : BytesAt w g (o + k) m ((bs.drop k).take m) := by
  refine ⟨by rw [List.length_take, List.length_drop, h.1]; omega, fun j hj => ?_⟩
  rw [Nat.add_assoc, h.2 (k + j) (by omega)]
  simp [gb, List.getD_eq_getElem?_getD, hj]
theorem BytesAt.take {w : World} {g o n : Nat} {bs : List UInt8} (h : BytesAt w g o n bs) (m : Nat) (hm : m ≤ n) : BytesAt w g o m (bs.take m) := by
  have := h.mono 0 m (by omega)
  simpa using this
theorem BytesAt.of_block {w w1 : World} {g o n : Nat} {bs : List UInt8} (h : BytesAt w g o n bs) (hb : w1.heap[g]? = w.heap[g]?) : BytesAt w1 g o n bs :=
  ⟨h.1, fun j hj => (World.cell?_of_block (w := w) hb).trans (h.2 j hj)⟩
end Go.Proofs.YtpfoohfgochaiaaGreatDoor
