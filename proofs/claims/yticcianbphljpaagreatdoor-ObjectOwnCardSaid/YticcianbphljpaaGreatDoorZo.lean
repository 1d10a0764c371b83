/- An object in a variable of the law's own, cut, set: what its block holds. -/
import Derived.Test.YticcianbphljpaaGreatDoorOj
namespace Go.Proofs.YticcianbphljpaaGreatDoor
open Go.RowKit
theorem obAt_row {w : World} {N N' : Nat} {o : Obt} {A B : Option Addr} {n k m d : Nat} (hr : RowQ w N 27 34 (.slice A n k) n (entE.row o.ents)) (ht : RowQ w N' 25 32 (.slice B m d) m (rowI o.com.ps))
    (hn : ∀ e ∈ o.ents, e.nm.length ≤ maxLen) (hb : o.blob.length ≤ 1048576) (h64 : o.com.wh < 18446744073709551616) (hnt : o.com.note.length ≤ 1048576) : ObAt w o A n k B m d := by
  obtain ⟨Ax, dx, e, hcd, hcm⟩ := hr.shape
  injection e with _ _ e
  subst e
  exact ⟨hr.src (entE.row_one _), hcd, hcm, hn, by simp only [maxLen]; omega, comAt_row ht h64 hnt⟩
/-- An object in a block of its own. -/
structure ObSt (W : World) (N g : Nat) (o : Obt) (n m : Nat) (w : World) : Prop where
  ex : ∃ A k B d, Blk w g 64 (objL o A n k B m d) ∧ RowQ w N 27 34 (.slice A n k) n (entE.row o.ents) ∧ RowQ w N 25 32 (.slice B m d) m (rowI o.com.ps)
  low : Below W.heap.size W w
  gN : g < N
  gW : W.heap.size ≤ g
  names : ∀ e ∈ o.ents, e.nm.length ≤ maxLen
  blob : o.blob.length ≤ 1048576
  bits : o.com.wh < 18446744073709551616
  note : o.com.note.length ≤ 1048576
  sz : N ≤ w.heap.size
theorem ObSt.below {W w w' : World} {N g : Nat} {o : Obt} {n m : Nat} (h : ObSt W N g o n m w) (hb : Below w.heap.size w w') : ObSt W N g o n m w' := by
  obtain ⟨A, k, B, d, hx, hr, ht⟩ := h.ex
  exact ⟨⟨A, k, B, d, hx.below hb, hr.below hb, ht.below hb⟩, h.low.trans (hb.mono h.low.size), h.gN, h.gW, h.names, h.blob, h.bits, h.note, Nat.le_trans h.sz hb.size⟩
theorem own_far {w : World} {N g : Nat} {e : TypeId} {s n : Nat} {v : Value} {xs : List Value} (hr : RowQ w N e s v n xs) (hg : g < N) : v.ownBlock ≠ some g := fun e => by
  have := (hr.lt _ e).1
  omega
theorem objL_set1 (o : Obt) (A : Option Addr) (n k : Nat) (B : Option Addr) (m d : Nat) (s : ByteArray) : (objL o A n k B m d).set 1 (.string s) = objL { o with blob := s.data.toList } A n k B m d := by
  unfold objL
  simp
theorem objL_set2 (o : Obt) (A : Option Addr) (n k : Nat) (B : Option Addr) (m d : Nat) (A' : Option Addr) (n' k' : Nat) (es : List Ent) : (objL o A n k B m d).set 2 (.slice A' n' k') = objL { o with ents := es } A' n' k' B m d := rfl
theorem objL_set36 (o : Obt) (A : Option Addr) (n k : Nat) (B : Option Addr) (m d : Nat) (b : Nat) : (objL o A n k B m d).set 36 (.float .f64 b) = objL { o with com := { o.com with wh := b } } A n k B m d := by
  unfold objL
  rw [List.set_append_right _ _ (by simp)]
  exact congrArg _ (comL_set33 o.com B m d b)
theorem objL_set37 (o : Obt) (A : Option Addr) (n k : Nat) (B : Option Addr) (m d : Nat) (s : ByteArray) : (objL o A n k B m d).set 37 (.string s) = objL { o with com := { o.com with note := s.data.toList } } A n k B m d := by
  unfold objL
  rw [List.set_append_right _ _ (by simp)]
  exact congrArg _ (comL_set34 o.com B m d s)
theorem ObSt.setBlob {W w : World} {N g : Nat} {o : Obt} {n m : Nat} (h : ObSt W N g o n m w) (s : ByteArray) (hs : s.size ≤ 1048576) : ObSt W N g { o with blob := s.data.toList } n m (w.setCell ⟨g, 1, none⟩ (.string s)) := by
  obtain ⟨A, k, B, d, hx, hr, ht⟩ := h.ex
  refine ⟨⟨A, k, B, d, ?_, hr.far (own_far hr h.gN) _, ht.far (own_far ht h.gN) _⟩, below_setCell' h.low g 1 h.gW _, h.gN, h.gW, h.names, by rw [ba_size] at hs; exact hs, h.bits, h.note, Nat.le_trans h.sz (below_setCell' (Below.refl W.heap.size w) g 1 h.gW _).size⟩
  have := hx.setCell 1 (.string s)
  rwa [objL_set1] at this
theorem ObSt.setNote {W w : World} {N g : Nat} {o : Obt} {n m : Nat} (h : ObSt W N g o n m w) (s : ByteArray) (hs : s.size ≤ 1048576) : ObSt W N g { o with com := { o.com with note := s.data.toList } } n m (w.setCell ⟨g, 37, none⟩ (.string s)) := by
  obtain ⟨A, k, B, d, hx, hr, ht⟩ := h.ex
  refine ⟨⟨A, k, B, d, ?_, hr.far (own_far hr h.gN) _, ht.far (own_far ht h.gN) _⟩, below_setCell' h.low g 37 h.gW _, h.gN, h.gW, h.names, h.blob, h.bits, by rw [ba_size] at hs; exact hs, Nat.le_trans h.sz (below_setCell' (Below.refl W.heap.size w) g 37 h.gW _).size⟩
  have := hx.setCell 37 (.string s)
  rwa [objL_set37] at this
theorem ObSt.setWhen {W w : World} {N g : Nat} {o : Obt} {n m : Nat} (h : ObSt W N g o n m w) (b : Nat) (hb : b < 18446744073709551616) : ObSt W N g { o with com := { o.com with wh := b } } n m (w.setCell ⟨g, 36, none⟩ (.float .f64 b)) := by
  obtain ⟨A, k, B, d, hx, hr, ht⟩ := h.ex
  refine ⟨⟨A, k, B, d, ?_, hr.far (own_far hr h.gN) _, ht.far (own_far ht h.gN) _⟩, below_setCell' h.low g 36 h.gW _, h.gN, h.gW, h.names, h.blob, hb, h.note, Nat.le_trans h.sz (below_setCell' (Below.refl W.heap.size w) g 36 h.gW _).size⟩
  have := hx.setCell 36 (.float .f64 b)
  rwa [objL_set36] at this
theorem ObSt.setEnts {W w : World} {N g : Nat} {o : Obt} {n m : Nat} (h : ObSt W N g o n m w) (A' : Option Addr) (n' k' : Nat) (es : List Ent) (hr' : RowQ w N 27 34 (.slice A' n' k') n' (entE.row es)) (hf : ∀ e ∈ es, e.nm.length ≤ maxLen) :
    ObSt W N g { o with ents := es } n' m (w.setCell ⟨g, 2, none⟩ (.slice A' n' k')) := by
  obtain ⟨A, k, B, d, hx, hr, ht⟩ := h.ex
  refine ⟨⟨A', k', B, d, ?_, hr'.far (own_far hr' h.gN) _, ht.far (own_far ht h.gN) _⟩, below_setCell' h.low g 2 h.gW _, h.gN, h.gW, hf, h.blob, h.bits, h.note, Nat.le_trans h.sz (below_setCell' (Below.refl W.heap.size w) g 2 h.gW _).size⟩
  have := hx.setCell 2 (.slice A' n' k')
  rwa [objL_set2 o A n k B m d A' n' k' es] at this
theorem ObSt.cell {W w : World} {N g : Nat} {o : Obt} {n m : Nat} (h : ObSt W N g o n m w) (j : Nat) (hj : j < 38) : (∃ v, w.cell? ⟨g, j, none⟩ = some v) ∧ w.frozen? ⟨g, j, none⟩ = false := by
  obtain ⟨A, k, B, d, hx, _, _⟩ := h.ex
  exact ⟨⟨_, hx.cell j _ (List.getElem?_eq_getElem (by rw [objL_len]; exact hj))⟩, hx.frozen j⟩
theorem ObSt.kd {W w : World} {N g : Nat} {o : Obt} {n m : Nat} (h : ObSt W N g o n m w) : w.cell? ⟨g, 0, none⟩ = some (.int .i64 o.kd) := by
  obtain ⟨A, k, B, d, hx, _, _⟩ := h.ex
  exact hx.cell 0 _ rfl
/-- The object as it is cut, laid where it was. -/
theorem ObSt.cut {W w : World} {N g : Nat} {o : Obt} {q q2 : Nat} {x : List Value} {A' B' : Option Addr} {k' d' : Nat} (hx : Blk w g 64 x) (hr : RowQ w N 27 34 (.slice A' q k') q (entE.row (o.ents.take q))) (ht : RowQ w N 25 32 (.slice B' q2 d') q2 (rowI (o.com.ps.take q2)))
    (hl : Below W.heap.size W w) (hN : g < N) (hg : W.heap.size ≤ g) (hn : ∀ e ∈ o.ents, e.nm.length ≤ maxLen) (h64 : o.com.wh < 18446744073709551616) (hs : N ≤ w.heap.size) : ObSt W N g (cutOb o q q2) q q2 (w.setRow g (objL (cutOb o q q2) A' q k' B' q2 d').toArray) :=
  ⟨⟨A', k', B', d', hx.row _, hr.rowFar (own_far hr hN) _, ht.rowFar (own_far ht hN) _⟩, below_setRow' hl hg _, hN, hg, fun e he => hn e (List.mem_of_mem_take he), Nat.le_trans (List.length_take_le _ _) (by decide), h64, Nat.le_trans (List.length_take_le _ _) (by decide), Nat.le_trans hs (below_setRow' (Below.refl W.heap.size w) hg _).size⟩
end Go.Proofs.YticcianbphljpaaGreatDoor
