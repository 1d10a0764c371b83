/- Rows of integers: a cut of one, a cell of one, a cell written; a whole array read in a drawn region. -/
import Derived.Test.YtpfoohfgochaiaaGreatDoorLe
import Derived.Test.YtpfoohfgochaiaaGreatDoorAr
namespace Go.Proofs.YtpfoohfgochaiaaGreatDoor
open Go.RowKit
theorem Src.take {w : World} {A : Option Addr} {n : Nat} {xs : List Value} (h : Src w 1 A n xs) (q : Nat) (hq : q ≤ n) : Src w 1 A q (xs.take q) := by
  refine ⟨by rw [List.length_take, h.1]; omega, fun h0 => ?_, fun u hu => h.2.2 u (List.mem_of_mem_take hu)⟩
  obtain ⟨ad, ha, hx⟩ := h.2.1 (by omega)
  refine ⟨ad, ha, fun j u hj => hx j u ?_⟩
  rw [List.getElem?_take] at hj
  split at hj
  · exact hj
  · cases hj
/-- One element of a row of integers is written. -/
theorem RowQ.setAt {w : World} {base : Nat} {e : TypeId} {g o n c : Nat} {xs : List Value} (h : RowQ w base e 1 (.slice (some ⟨g, o, none⟩) n c) n xs) (k : Nat) (_hk : k < n) (v : Value) :
    RowQ (w.setCell ⟨g, o + k, none⟩ v) base e 1 (.slice (some ⟨g, o, none⟩) n c) n (xs.set k v) := by
  refine ⟨by rw [List.length_set]; exact h.1, ?_⟩
  rcases h.2 with ⟨hv, _⟩ | ⟨g', o', cap, cur, hv, hbg, hg, hnc, hcm, hcs, ht⟩
  · injection hv with h1; cases h1
  · injection hv with hA _ hc
    injection hA with hA
    injection hA with h1 h2 _
    subst h1; subst h2; subst hc
    refine .inr ⟨g, o, c, cur.setIfInBounds (o + k) v, rfl, hbg, heap_setCell_same w g (o + k) cur e v hg, hnc, hcm, by simpa using hcs, ?_⟩
    rw [Array.toList_setIfInBounds, ← ht]
    simp only [Nat.mul_one]
    rw [List.drop_set, if_neg (by omega), show o + k - o = k by omega, List.take_set]
theorem RowQ.cellAt {w : World} {base : Nat} {e : TypeId} {g o n c : Nat} {xs : List Value} (h : RowQ w base e 1 (.slice (some ⟨g, o, none⟩) n c) n xs) (k : Nat) (hk : k < n) (v : Value) (hx : xs[k]? = some v) :
    w.cell? ⟨g, o + k, none⟩ = some v ∧ w.frozen? ⟨g, o + k, none⟩ = false := by
  rcases h.2 with ⟨hv, _⟩ | ⟨g', o', cap, cur, hv, hbg, hg, hnc, hcm, hcs, ht⟩
  · injection hv with h1; cases h1
  · injection hv with hA _ hc
    injection hA with hA
    injection hA with h1 h2 _
    subst h1; subst h2; subst hc
    refine ⟨?_, frozen_of_row w g (o + k) cur e hg⟩
    rw [cell_of_row w g (o + k) cur e (0, 0) hg]
    rw [← ht, List.getElem?_take] at hx
    rw [if_pos (by omega), List.getElem?_drop] at hx
    simpa using hx
theorem RowQ.blk {w : World} {base : Nat} {e : TypeId} {A : Option Addr} {n c : Nat} {xs : List Value} (h : RowQ w base e 1 (.slice A n c) n xs) (hn : 0 < n) : ∃ g o, A = some ⟨g, o, none⟩ ∧ base ≤ g ∧ g < w.heap.size := by
  rcases h.2 with ⟨hv, hn0⟩ | ⟨g, o, cap, cur, hv, hbg, hg, _⟩
  · omega
  · injection hv with hA
    exact ⟨g, o, hA, hbg, (Array.getElem?_eq_some_iff.1 hg).1⟩
theorem RowQ.ad {w : World} {base : Nat} {e : TypeId} {A : Option Addr} {n c : Nat} {xs : List Value} (h : RowQ w base e 1 (.slice A n c) n xs) : ∀ ad, A = some ad → base ≤ ad.block ∧ ad.block < w.heap.size :=
  fun ad e => h.lt ad.block (by subst e; rfl)
theorem Blk.kept' {w w1 : World} {g b : Nat} {t : TypeId} {cs : List Value} (h : Blk w g t cs) (hk : Kept2 w w1 b none) (hg : g ≠ b) : Blk w1 g t cs := (hk.block g h.lt hg (fun e => by cases e)).trans h
/-- A whole array read, as one step of a region that draws. -/
theorem step_load {P : Program} {ops : Array Oper} {o : Oper} {a : Act} {w : World} {K : Act → World → Prop} {Q : Exit → Act → World → Prop} {E : Prop} (hgd : Region.wanted o (yielded ops a.tmps) = true) (ty : TypeId) (x : Operand) (ho : o.op = .load ty x) (g : Nat) (hx : a.eval x = .pointer (some ⟨g, 0, none⟩)) (t : TypeId) (cs : List Value) (hb : Blk w g t cs)
    (n : Nat) (e : TypeId) (hu : P.underlying ty = some (.array n e)) (hi : (P.info? ty).map (·.size) = some cs.length) (h : K (a.put o.dst (.agg cs.toArray)) w) :
    if Region.wanted o (yielded ops a.tmps) = true then Oper.wp P o a w K Q else E := by
  rw [if_pos hgd]
  exact wp_load_row ty x ho g hx t cs.toArray (0, 0) _ hb hu rfl (by simpa using hi) h
/-- A text's byte. -/
theorem run_byte (W : World) (s : ByteArray) (l : List UInt8) (hl : l = s.data.toList) (k : Nat) (h : k < s.size) : (Instr.index 9 (.string s) (.int .i64 k)).run Tryz.prog W = .ok (.int .u8 (ub (gb l k))) W := by
  have hu : Tryz.prog.underlying 9 = some .string := by kernel_rfl
  have hk : k < l.length := by rw [hl, ← ba_size]; exact h
  have e1 : s[k]'h = s.data.toList[k]'(by rw [← ba_size]; exact h) := rfl
  have e : s[k]? = some (gb l k) := by
    rw [getElem?_pos s k h, e1]
    subst hl
    simp only [gb, List.getD_eq_getElem?_getD, List.getElem?_eq_getElem hk, Option.getD_some]
  unfold Instr.index
  simp [go_sem, e]
  rfl
end Go.Proofs.YtpfoohfgochaiaaGreatDoor
