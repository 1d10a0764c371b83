/- Rows of bytes made of a text, and set; a slice of one byte, as a step of a region that draws. -/
import Derived.Test.YticcianbphljpaaGreatDoorAs
import Derived.Test.YticcianbphljpaaGreatDoorP5x
import Derived.Test.YticcianbphljpaaGreatDoorP3x
import Derived.Test.YticcianbphljpaaGreatDoorP2x
import Derived.Test.YticcianbphljpaaGreatDoorRk
namespace Go.Proofs.YticcianbphljpaaGreatDoor
open Go.RowKit
/-- A row of bytes made of a text: its cells. -/
def PB (w : World) (g : Nat) (l : List UInt8) : Prop := ∃ cur : Array Value, w.heap[g]? = some (.cells cur 5 (cur.size, cur.size + 1)) ∧ l.length ≤ cur.size ∧ ∀ j, j < l.length → cur[j]? = some (.int .u8 (ub (gb l j)))
theorem PB.frozen {w : World} {g : Nat} {l : List UInt8} (h : PB w g l) (j : Nat) (hj : j < l.length) : w.frozen? ⟨g, j, none⟩ = false := by
  obtain ⟨cur, h1, h2, _⟩ := h
  simp only [World.frozen?, h1]
  rw [Bool.and_eq_false_iff]
  left
  simp
  omega
theorem PB.cell {w : World} {g : Nat} {l : List UInt8} (h : PB w g l) (j : Nat) (hj : j < l.length) : w.cell? ⟨g, j, none⟩ = some (.int .u8 (ub (gb l j))) := by
  obtain ⟨cur, h1, _, h3⟩ := h
  rw [cell_of_row w g j cur _ _ h1]
  exact h3 j hj
theorem PB.set {w : World} {g : Nat} {l : List UInt8} (h : PB w g l) (k : Nat) (x : UInt8) : PB (w.setCell ⟨g, k, none⟩ (.int .u8 (ub x))) g (l.set k x) := by
  obtain ⟨cur, h1, h2, h3⟩ := h
  have h4 : (w.setCell ⟨g, k, none⟩ (.int .u8 (ub x))).heap[g]? = some (.cells (cur.setIfInBounds k (.int .u8 (ub x))) 5 (cur.size, cur.size + 1)) := by
    simp [World.setCell, Array.getElem?_modify, h1]
  refine ⟨cur.setIfInBounds k (.int .u8 (ub x)), by simpa using h4, by simpa using h2, fun j hj => ?_⟩
  rw [List.length_set] at hj
  have h5 := h3 j hj
  by_cases e : k = j
  · subst e
    rw [Array.getElem?_setIfInBounds_self_of_lt (by omega)]
    simp [gb, List.getD_eq_getElem?_getD, hj]
  · rw [Array.getElem?_setIfInBounds_ne e, h5]
    simp [gb, List.getD_eq_getElem?_getD, List.getElem?_set_ne e]
theorem PB.src {w : World} {g : Nat} {l : List UInt8} (h : PB w g l) (n : Nat) (hn : l.length = n) : Src w 1 (some ⟨g, 0, none⟩) n (Bs l) := by
  refine ⟨by rw [Bs_length, hn, Nat.mul_one], fun _ => ⟨_, rfl, fun j u hu => ?_⟩, Bs_one _⟩
  have hj : j < l.length := by
    have := (List.getElem?_eq_some_iff.1 hu).1
    simpa using this
  have ha : (⟨g, 0, none⟩ : Addr).add j = ⟨g, j, none⟩ := by unfold Addr.add; split <;> simp_all
  rw [ha, h.cell j hj, ← hu, Bs_at l j hj]
theorem PB.below {w w1 : World} {g : Nat} {l : List UInt8} (h : PB w g l) (hb : Below w.heap.size w w1) : PB w1 g l := by
  obtain ⟨cur, h1, h2, h3⟩ := h
  exact ⟨cur, (hb.block g (Array.getElem?_eq_some_iff.1 h1).1).trans h1, h2, h3⟩
theorem PB.new (w : World) (s : ByteArray) (l : List UInt8) (hl : l = s.data.toList) : PB (Lib.bytesWorld w 5 s) w.heap.size l := by
  have h1 := Lib.bytesWorld_at_new w 5 s
  have hc : ∀ j, j < s.size → (Lib.bytesCells w 5 s)[j]? = some (.int .u8 (ub (gb l j))) := fun j hj => by
    have h2 := Lib.bytesWorld_cell w 5 s j hj
    rw [cell_of_row _ _ j _ _ _ h1] at h2
    rw [h2, hl]
    rfl
  have hz : l.length = s.size := by rw [hl, ← ba_size]
  refine ⟨_, h1, ?_, fun j hj => hc j (by omega)⟩
  rcases Nat.eq_zero_or_pos s.size with h0 | h0
  · omega
  · have := (Array.getElem?_eq_some_iff.1 (hc (s.size - 1) (by omega))).1
    omega
/-- A slice of one byte. -/
theorem step_buildB {ops : Array Oper} {o : Oper} {a : Act} {w : World} {K : Act → World → Prop} {Q : Exit → Act → World → Prop} {E : Prop} (hgd : Region.wanted o (yielded ops a.tmps) = true) (X : Operand) (ho : o.op = .buildSlice 47 1 #[(0, X)]) (v : Int) (hx : a.eval X = .int .u8 v)
    (h : K (a.put o.dst (.slice (some ⟨w.heap.size, 0, none⟩) 1 1)) (w.alloc (.cells #[.int .u8 v] 5))) : if Region.wanted o (yielded ops a.tmps) = true then Oper.wp Tryz.prog o a w K Q else E := by
  rw [if_pos hgd]
  obtain ⟨ie, hi, hzz⟩ := Option.map_eq_some_iff.1 Tryz.infoB
  simp only [Prod.mk.injEq] at hzz
  obtain ⟨hz, hs, _⟩ := hzz
  refine wp_buildSlice 47 5 1 #[(0, X)] ho #[.int .u8 v] ie _ Tryz.underlying47 hi hz (by rw [hs]; decide) (by rw [hs]; decide) ?_ h
  rw [hs]
  simp [Instr.fill, hx, Value.cells]
  apply Array.ext
  · simp
  · intro i h1 h2
    have h3 : i = 0 := by simpa using h2
    subst h3
    simp
theorem byte_src (w : World) (x : UInt8) : Src (w.alloc (.cells #[.int .u8 (ub x)] 5)) 1 (some ⟨w.heap.size, 0, none⟩) 1 (Bs [x]) :=
  ⟨rfl, fun _ => ⟨_, rfl, fun j u hu => by rw [addr_row _ rfl, Nat.zero_add]; exact (Blk.new w 5 [.int .u8 (ub x)]).cell j u hu⟩, Bs_one _⟩
/-- A conversion, as one step of a region that draws. -/
theorem step_convB {P : Program} {ops : Array Oper} {o : Oper} {a : Act} {w : World} {K : Act → World → Prop} {Q : Exit → Act → World → Prop} {E : Prop} (hgd : Region.wanted o (yielded ops a.tmps) = true) (t1 t2 : TypeId) (x : Operand) (ho : o.op = .convert t1 t2 x) (v : Value) (h0 : (convert t1 t2 (a.eval x)).run P w = .ok v w)
    (h : K (a.put o.dst v) w) : if Region.wanted o (yielded ops a.tmps) = true then Oper.wp P o a w K Q else E := by
  rw [if_pos hgd]
  unfold Oper.wp execOp
  simp only [ho, Sem.run_bind, Sem.run_pure, Result.andThen_ok, h0]
  exact h
end Go.Proofs.YticcianbphljpaaGreatDoor
