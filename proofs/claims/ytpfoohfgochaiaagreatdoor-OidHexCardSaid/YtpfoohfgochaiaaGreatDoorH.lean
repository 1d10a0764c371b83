/- sha.Hash in memory: what a hash holds; Put. -/
import Derived.Test.YtpfoohfgochaiaaGreatDoorSd
import Derived.Test.YtpfoohfgochaiaaGreatDoorR
import Derived.Deep.MidRow
import Derived.StillTailTactics
namespace Go.Proofs.YtpfoohfgochaiaaGreatDoor
open Go.RowKit
/-- Block g is a hash: the eight words, the bytes that are left in slice v, how many were put. -/
def HashAt (W : World) (B g : Nat) (s : St) (v : Value) (rs : List UInt8) (n : Int) : Prop :=
  Blk W g 97 (Us s.list ++ [v, .int .u64 n]) ∧ RowQ W B 5 1 v rs.length (Bs rs) ∧ v.ownBlock ≠ some g ∧ B ≤ g
/-- All but block g and row r is as it was. -/
structure Kept2 (W W' : World) (g : Nat) (r : Option Nat) : Prop where
  os : W'.os = W.os
  tape : W'.tape = W.tape
  output : W'.output = W.output
  size : W.heap.size ≤ W'.heap.size
  block : ∀ k, k < W.heap.size → k ≠ g → some k ≠ r → W'.heap[k]? = W.heap[k]?
theorem Kept2.refl (W : World) (g : Nat) (r : Option Nat) : Kept2 W W g r := ⟨rfl, rfl, rfl, Nat.le_refl _, fun _ _ _ _ => rfl⟩
theorem Kept2.trans {W W1 W2 : World} {g : Nat} {r : Option Nat} (h : Kept2 W W1 g r) (k : Kept2 W1 W2 g r) : Kept2 W W2 g r :=
  ⟨k.os.trans h.os, k.tape.trans h.tape, k.output.trans h.output, Nat.le_trans h.size k.size, fun i hi h1 h2 => (k.block i (Nat.lt_of_lt_of_le hi h.size) h1 h2).trans (h.block i hi h1 h2)⟩
theorem Kept2.setCell {W W1 : World} {g : Nat} {r : Option Nat} (h : Kept2 W W1 g r) (o : Nat) (u : Value) : Kept2 W (W1.setCell ⟨g, o, none⟩ u) g r :=
  h.trans ⟨rfl, rfl, rfl, by simp [World.setCell], fun k _ h1 _ => heap_setCell_other W1 ⟨g, o, none⟩ k u h1⟩
theorem Kept2.below {W W1 W2 : World} {g : Nat} {r : Option Nat} (h : Kept2 W W1 g r) (hb : Below W1.heap.size W1 W2) : Kept2 W W2 g r :=
  h.trans ⟨hb.os, hb.tape, hb.output, hb.size, fun k hk _ _ => hb.block k hk⟩
theorem Kept2.drewN {W W1 : World} {g : Nat} {r : Option Nat} (h : Kept2 W W1 g r) (n : Nat) : Kept2 W (W1.drewN n) g r := ⟨h.os, h.tape, h.output, h.size, h.block⟩
/-- A row that was grown: what was its block, or a new one. -/
theorem Kept2.grown {W W1 W2 : World} {g : Nat} {r : Option Nat} (h : Kept2 W W1 g r) {row : Option Nat} (hg : W1.grownBy W2 row) (hr : row = r ∨ ∀ k, row = some k → W.heap.size ≤ k) : Kept2 W W2 g r :=
  ⟨hg.os.trans h.os, hg.tape.trans h.tape, hg.output.trans h.output, Nat.le_trans h.size hg.size, fun i hi h1 h2 => by
    refine (hg.block i (Nat.lt_of_lt_of_le hi h.size) ?_).trans (h.block i hi h1 h2)
    rcases hr with rfl | hr
    · exact h2
    · intro e; have := hr i e.symm; omega⟩
theorem Kept2.toBelow {W W1 : World} {g : Nat} {r : Option Nat} (h : Kept2 W W1 g r) {B : Nat} (hB : B ≤ W.heap.size) (hg : B ≤ g) (hr : ∀ k, r = some k → B ≤ k) : Below B W W1 :=
  ⟨h.os, h.tape, h.output, h.size, fun k hk => h.block k (by omega) (by omega) (fun e => by have := hr k e.symm; omega)⟩
theorem HashAt.cell {W : World} {B g : Nat} {s : St} {v : Value} {rs : List UInt8} {n : Int} (h : HashAt W B g s v rs n) :
    W.cell? ⟨g, 8, none⟩ = some v ∧ W.cell? ⟨g, 9, none⟩ = some (.int .u64 n) := ⟨h.1.cell 8 v rfl, h.1.cell 9 _ rfl⟩
theorem HashAt.setN {W : World} {B g : Nat} {s : St} {v : Value} {rs : List UInt8} {n : Int} (h : HashAt W B g s v rs n) (m : Int) : HashAt (W.setCell ⟨g, 9, none⟩ (.int .u64 m)) B g s v rs m :=
  ⟨h.1.setCell 9 (.int .u64 m), h.2.1.far h.2.2.1 _, h.2.2⟩
/-- The bytes that are left are others. -/
theorem HashAt.setRest {W : World} {B g : Nat} {s : St} {v v' : Value} {rs rs' : List UInt8} {n : Int} (h : HashAt W B g s v rs n) (hr : RowQ W B 5 1 v' rs'.length (Bs rs')) (hne : v'.ownBlock ≠ some g) :
    HashAt (W.setCell ⟨g, 8, none⟩ v') B g s v' rs' n :=
  ⟨h.1.setCell 8 v', hr.far hne _, hne, h.2.2.2⟩
theorem Blk.setCells {g : Nat} {t : TypeId} : ∀ (vs : List Value) (o : Nat) (w : World) (cs : List Value), Blk w g t cs → o + vs.length ≤ cs.length → Blk (w.setCells g o vs) g t (cs.take o ++ vs ++ cs.drop (o + vs.length))
  | [], o, w, cs, h, _ => by simpa [World.setCells] using h
  | v :: r, o, w, cs, h, hl => by
    have hl' : o + (r.length + 1) ≤ cs.length := by simpa using hl
    have ih := Blk.setCells r (o + 1) (w.setCell ⟨g, o, none⟩ v) (cs.set o v) (h.setCell o v) (by simp; omega)
    rw [World.setCells]
    have e : (cs.set o v).take (o + 1) ++ r ++ (cs.set o v).drop (o + 1 + r.length) = cs.take o ++ (v :: r) ++ cs.drop (o + (v :: r).length) := by
      rw [List.drop_set_of_lt (by omega), List.take_add_one]
      simp [List.take_set_of_le (Nat.le_refl o), show o < cs.length by omega, Nat.add_assoc, Nat.add_comm 1]
    rw [← e]
    exact ih
theorem heap_setCells_other (g k : Nat) (hk : k ≠ g) : ∀ (vs : List Value) (o : Nat) (w : World), (w.setCells g o vs).heap[k]? = w.heap[k]?
  | [], _, _ => rfl
  | v :: r, o, w => (heap_setCells_other g k hk r (o + 1) (w.setCell ⟨g, o, none⟩ v)).trans (heap_setCell_other w ⟨g, o, none⟩ k v hk)
theorem size_setCells (g : Nat) : ∀ (vs : List Value) (o : Nat) (w : World), (w.setCells g o vs).heap.size = w.heap.size
  | [], _, _ => rfl
  | v :: r, o, w => (size_setCells g r (o + 1) (w.setCell ⟨g, o, none⟩ v)).trans (by simp [World.setCell])
theorem HashAt.setWords {W : World} {B g : Nat} {s : St} {v : Value} {rs : List UInt8} {n : Int} (h : HashAt W B g s v rs n) (m : St) : HashAt (W.setCells g 0 (Us m.list)) B g m v rs n :=
  ⟨Blk.setCells (Us m.list) 0 W _ h.1 (by simp [St.list]), h.2.1.of_block fun k hk => heap_setCells_other g k (fun e => h.2.2.1 (by rw [hk, e])) _ 0 W, h.2.2⟩
theorem Kept2.setCells {W W1 : World} {g : Nat} {r : Option Nat} (h : Kept2 W W1 g r) (o : Nat) (vs : List Value) (hos : (W1.setCells g o vs).os = W1.os ∧ (W1.setCells g o vs).tape = W1.tape ∧ (W1.setCells g o vs).output = W1.output) : Kept2 W (W1.setCells g o vs) g r :=
  h.trans ⟨hos.1, hos.2.1, hos.2.2, by rw [size_setCells]; exact Nat.le_refl _, fun k _ h1 _ => heap_setCells_other g k h1 vs o W1⟩
theorem setCells_os (g : Nat) : ∀ (vs : List Value) (o : Nat) (w : World), (w.setCells g o vs).os = w.os ∧ (w.setCells g o vs).tape = w.tape ∧ (w.setCells g o vs).output = w.output
  | [], _, _ => ⟨rfl, rfl, rfl⟩
  | v :: r, o, w => setCells_os g r (o + 1) (w.setCell ⟨g, o, none⟩ v)
theorem HashAt.below {W W1 : World} {B g : Nat} {s : St} {v : Value} {rs : List UInt8} {n : Int} (h : HashAt W B g s v rs n) (hb : Below W.heap.size W W1) : HashAt W1 B g s v rs n := ⟨h.1.below hb, h.2.1.below hb, h.2.2⟩
theorem HashAt.drewN {W : World} {B g : Nat} {s : St} {v : Value} {rs : List UInt8} {n : Int} (h : HashAt W B g s v rs n) (m : Nat) : HashAt (W.drewN m) B g s v rs n := h
theorem HashAt.there {W : World} {B g : Nat} {s : St} {v : Value} {rs : List UInt8} {n : Int} (h : HashAt W B g s v rs n) : W.there g 0 8 := by
  intro j hj
  refine ⟨?_, by rw [Nat.zero_add]; exact h.1.frozen j⟩
  have hl : j < (Us s.list ++ [v, Value.int .u64 n]).length := by simp [St.list]; omega
  rw [Nat.zero_add, h.1.cell j _ (List.getElem?_eq_getElem hl)]
  rfl
theorem st_tail {P : Program} {id : Nat} {Q : Exit → Act → World → Prop} {a : Act} {w : World} {l : List Oper} (n : Nat) (hm : P.follows .mixedOrders = true) (hB : Region.lexTailB .any l.toArray n = true)
    (h : wpStill P l.toArray w.drew (fun a' => wpList P l.toArray Q (l.drop n) a' w.drew) (l.take n) a) : (Code.region id l.toArray true).wp P Q a w := wp_region_still_tail n hm hB h
end Go.Proofs.YtpfoohfgochaiaaGreatDoor
