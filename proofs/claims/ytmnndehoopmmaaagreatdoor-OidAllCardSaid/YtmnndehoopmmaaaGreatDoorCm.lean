/- Rows of integers: a cut of one, a cell of one, a cell written; a whole array read in a drawn region. A row of noughts is made, and filled. -/
import Derived.Test.YtmnndehoopmmaaaGreatDoorLe
import Derived.Test.YtmnndehoopmmaaaGreatDoorHt
import Derived.Laws.MakeOwn
namespace Go.Proofs.YtmnndehoopmmaaaGreatDoor
open Go.RowKit
theorem Src.take {w : World} {A : Option Addr} {n : Nat} {xs : List Value} (h : Src w 1 A n xs) (q : Nat) (hq : q ≤ n) : Src w 1 A q (xs.take q) := by
  refine ⟨by rw [List.length_take, h.1]; omega, fun h0 => ?_, fun u hu => h.2.2 u (List.mem_of_mem_take hu)⟩
  obtain ⟨ad, ha, hx⟩ := h.2.1 (by omega)
  refine ⟨ad, ha, fun j u hj => hx j u ?_⟩
  rw [List.getElem?_take] at hj
  split at hj
  · exact hj
  · cases hj
/-- One element of a row of integers is written. -/
theorem RowQ.setAt {w : World} {base : Nat} {e : TypeId} {g o n c : Nat} {xs : List Value} (h : RowQ w base e 1 (.slice (some ⟨g, o, none⟩) n c) n xs) (k : Nat) (_hk : k < n) (v : Value) :
    RowQ (w.setCell ⟨g, o + k, none⟩ v) base e 1 (.slice (some ⟨g, o, none⟩) n c) n (xs.set k v) := by
  refine ⟨by rw [List.length_set]; exact h.1, ?_⟩
  rcases h.2 with ⟨hv, _⟩ | ⟨g', o', cap, cur, hv, hbg, hg, hnc, hcm, hcs, ht⟩
  · injection hv with h1; cases h1
  · injection hv with hA _ hc
    injection hA with hA
    injection hA with h1 h2 _
    subst h1; subst h2; subst hc
    refine .inr ⟨g, o, c, cur.setIfInBounds (o + k) v, rfl, hbg, heap_setCell_same w g (o + k) cur e v hg, hnc, hcm, by simpa using hcs, ?_⟩
    rw [Array.toList_setIfInBounds, ← ht]
    simp only [Nat.mul_one]
    rw [List.drop_set, if_neg (by omega), show o + k - o = k by omega, List.take_set]
theorem RowQ.cellAt {w : World} {base : Nat} {e : TypeId} {g o n c : Nat} {xs : List Value} (h : RowQ w base e 1 (.slice (some ⟨g, o, none⟩) n c) n xs) (k : Nat) (hk : k < n) (v : Value) (hx : xs[k]? = some v) :
    w.cell? ⟨g, o + k, none⟩ = some v ∧ w.frozen? ⟨g, o + k, none⟩ = false := by
  rcases h.2 with ⟨hv, _⟩ | ⟨g', o', cap, cur, hv, hbg, hg, hnc, hcm, hcs, ht⟩
  · injection hv with h1; cases h1
  · injection hv with hA _ hc
    injection hA with hA
    injection hA with h1 h2 _
    subst h1; subst h2; subst hc
    refine ⟨?_, frozen_of_row w g (o + k) cur e hg⟩
    rw [cell_of_row w g (o + k) cur e (0, 0) hg]
    rw [← ht, List.getElem?_take] at hx
    rw [if_pos (by omega), List.getElem?_drop] at hx
    simpa using hx
theorem RowQ.blk {w : World} {base : Nat} {e : TypeId} {A : Option Addr} {n c : Nat} {xs : List Value} (h : RowQ w base e 1 (.slice A n c) n xs) (hn : 0 < n) : ∃ g o, A = some ⟨g, o, none⟩ ∧ base ≤ g ∧ g < w.heap.size := by
  rcases h.2 with ⟨hv, hn0⟩ | ⟨g, o, cap, cur, hv, hbg, hg, _⟩
  · omega
  · injection hv with hA
    exact ⟨g, o, hA, hbg, (Array.getElem?_eq_some_iff.1 hg).1⟩
theorem RowQ.ad {w : World} {base : Nat} {e : TypeId} {A : Option Addr} {n c : Nat} {xs : List Value} (h : RowQ w base e 1 (.slice A n c) n xs) : ∀ ad, A = some ad → base ≤ ad.block ∧ ad.block < w.heap.size :=
  fun ad e => h.lt ad.block (by subst e; rfl)
theorem Blk.kept' {w w1 : World} {g b : Nat} {t : TypeId} {cs : List Value} (h : Blk w g t cs) (hk : Kept2 w w1 b none) (hg : g ≠ b) : Blk w1 g t cs := (hk.block g h.lt hg (fun e => by cases e)).trans h
/-- A whole array read, as one step of a region that draws. -/
theorem step_load {P : Program} {ops : Array Oper} {o : Oper} {a : Act} {w : World} {K : Act → World → Prop} {Q : Exit → Act → World → Prop} {E : Prop} (hgd : Region.wanted o (yielded ops a.tmps) = true) (ty : TypeId) (x : Operand) (ho : o.op = .load ty x) (g : Nat) (hx : a.eval x = .pointer (some ⟨g, 0, none⟩)) (t : TypeId) (cs : List Value) (hb : Blk w g t cs)
    (n : Nat) (e : TypeId) (hu : P.underlying ty = some (.array n e)) (hi : (P.info? ty).map (·.size) = some cs.length) (h : K (a.put o.dst (.agg cs.toArray)) w) :
    if Region.wanted o (yielded ops a.tmps) = true then Oper.wp P o a w K Q else E := by
  rw [if_pos hgd]
  exact wp_load_row ty x ho g hx t cs.toArray (0, 0) _ hb hu rfl (by simpa using hi) h
/-- A text's byte. -/
theorem run_byte (W : World) (s : ByteArray) (l : List UInt8) (hl : l = s.data.toList) (k : Nat) (h : k < s.size) : (Instr.index 9 (.string s) (.int .i64 k)).run Tryz.prog W = .ok (.int .u8 (ub (gb l k))) W := by
  have hu : Tryz.prog.underlying 9 = some .string := by kernel_rfl
  have hk : k < l.length := by rw [hl, ← ba_size]; exact h
  have e1 : s[k]'h = s.data.toList[k]'(by rw [← ba_size]; exact h) := rfl
  have e : s[k]? = some (gb l k) := by
    rw [getElem?_pos s k h, e1]
    subst hl
    simp only [gb, List.getD_eq_getElem?_getD, List.getElem?_eq_getElem hk, Option.getD_some]
  unfold Instr.index
  simp [go_sem, e]
  rfl
/-- A cut of a row, from a place on. -/
theorem RowQ.mid {w : World} {base : Nat} {A : Option Addr} {n c : Nat} {l : List UInt8} (h : RowQ w base 5 1 (.slice A n c) n (Bs l)) (i m : Nat) (hm : i + m ≤ n) :
    Src w 1 (if c = i then A else A.map (·.add i)) m (Bs ((l.drop i).take m)) := by
  have hl : l.length = n := by have := h.1; simpa using this
  refine ⟨by rw [Bs_length, List.length_take, List.length_drop]; omega, fun h0 => ?_, Bs_one _⟩
  have hs := h.src (Bs_one _)
  obtain ⟨ad, rfl, hc⟩ := hs.2.1 (by omega)
  have hci : c ≠ i := by
    obtain ⟨A1, c1, e, h1, _⟩ := h.shape
    injection e with _ _ e
    omega
  rw [if_neg hci]
  refine ⟨ad.add i, rfl, fun j u hu => ?_⟩
  have hj : j < m := by
    rcases Nat.lt_or_ge j m with h | h
    · exact h
    · have e : (Bs ((l.drop i).take m))[j]? = none := List.getElem?_eq_none (by rw [Bs_length, List.length_take, List.length_drop]; omega)
      rw [e] at hu; cases hu
  have := hc (i + j) u (by
    rw [← hu]
    simp [Bs, hj, List.getElem?_drop])
  have ha : (ad.add i).add j = ad.add (i + j) := by
    unfold Addr.add
    by_cases h1 : i = 0 <;> by_cases h2 : j = 0 <;> simp [h1, h2, Nat.add_assoc]
  rw [ha]
  exact this
theorem mid_block {A : Option Addr} {k hb : Nat} (h : ∀ ad, A = some ad → ad.block < hb) : ∀ ad, Option.map (fun x => x.add k) A = some ad → ad.block < hb := by
  intro ad e
  cases A with
  | none => cases e
  | some a =>
    have h1 := h a rfl
    have e1 : a.add k = ad := Option.some.inj e
    have e2 : (a.add k).block = a.block := by unfold Addr.add; split <;> rfl
    rw [← e1, e2]
    exact h1
end Go.Proofs.YtmnndehoopmmaaaGreatDoor
namespace Go.Proofs.YtmnndehoopmmaaaGreatDoor
open Go.RowKit
theorem ub_of (c : Int) (h0 : 0 ≤ c) (h1 : c < 256) : ∃ x : UInt8, c = ub x := ⟨UInt8.ofNat c.toNat, by unfold ub; rw [UInt8.toNat_ofNat']; omega⟩
/-- A row of noughts is made. -/
theorem run_make_bytes (w : World) (n : Nat) (h : n ≤ 1048576) : (Instr.makeSlice 23 (.int .i64 (n : Int)) (.int .i64 (n : Int))).run Tryz.prog w =
    .ok (.slice (some ⟨w.heap.size, 0, none⟩) n n) (w.alloc (.cells (Bs (List.replicate n 0)).toArray 5)) := by
  obtain ⟨i, hi, hz, hs, hb⟩ : ∃ i, Tryz.prog.info? 5 = some i ∧ i.zero = some (.int .u8 0) ∧ i.size = 1 ∧ i.bytes = 1 := by
    have := Tryz.info5
    cases hi : Tryz.prog.info? 5 with
    | none => rw [hi] at this; cases this
    | some i =>
      rw [hi] at this
      have h2 := Option.some.inj this
      simp only [Prod.mk.injEq] at h2
      exact ⟨i, rfl, h2.1, h2.2.1, h2.2.2⟩
  have hr := run_make (P := Tryz.prog) w 23 5 i (.int .u8 0) Tryz.underlying23 hi hz .i64 .i64 n n (by omega) (by omega) (by rw [hb]; omega) (by omega)
  have hm : madeCells (Value.int .u8 0).cells n = (Bs (List.replicate n 0)).toArray := by
    apply Array.ext
    · simp [madeCells]
    · intro j h1 h2
      have e : (Value.int .u8 0).cells = #[.int .u8 0] := rfl
      simp [madeCells, Bs, ub, e, Nat.mod_one]
  rw [hr, hs, Int.toNat_natCast, Nat.mul_one, hm]
theorem Blk.src {w : World} {g : Nat} {t : TypeId} {cs : List Value} (h : Blk w g t cs) (h1 : ∀ v ∈ cs, v.oneCell' = true) (n : Nat) (hn : cs.length = n) : Src w 1 (some ⟨g, 0, none⟩) n cs :=
  ⟨by omega, fun _ => ⟨_, rfl, fun j u hu => by
    have ha : (⟨g, 0, none⟩ : Addr).add j = ⟨g, j, none⟩ := by unfold Addr.add; split <;> simp_all
    rw [ha]; exact h.cell j u hu⟩, h1⟩
/-- A remainder, made one that is not below 0. -/
theorem tmod_round (n m : Int) (hm : 0 < m) (h2 : m ≤ 1000000) : ∃ q : Nat, (q : Int) < m ∧ (wrap64 (n.tmod m + m)).tmod m = (q : Int) := by
  have h : -m < n.tmod m ∧ n.tmod m < m := by
    rcases Int.le_total 0 n with h | h
    · rw [Int.tmod_eq_emod_of_nonneg h]
      have := Int.emod_nonneg n (show m ≠ 0 by omega)
      have := Int.emod_lt_of_pos n hm
      omega
    · have e : n = -(-n) := by omega
      rw [e, Int.neg_tmod, Int.tmod_eq_emod_of_nonneg (by omega)]
      have := Int.emod_nonneg (-n) (show m ≠ 0 by omega)
      have := Int.emod_lt_of_pos (-n) hm
      omega
  have hw : wrap64 (n.tmod m + m) = n.tmod m + m := by unfold wrap64; omega
  rw [hw, Int.tmod_eq_emod_of_nonneg (by omega)]
  have h3 := Int.emod_nonneg (n.tmod m + m) (show m ≠ 0 by omega)
  have h4 := Int.emod_lt_of_pos (n.tmod m + m) hm
  exact ⟨((n.tmod m + m) % m).toNat, by omega, by omega⟩
/-- The row while it is filled. -/
def fillF (f : Nat → UInt8) (n k : Nat) : List UInt8 := (List.range k).map f ++ List.replicate (n - k) 0
theorem fillF_len (f : Nat → UInt8) (n k : Nat) (h : k ≤ n) : (fillF f n k).length = n := by simp [fillF]; omega
theorem fillF_set (f : Nat → UInt8) (n k : Nat) (h : k < n) : (fillF f n k).set k (f k) = fillF f n (k + 1) := by
  unfold fillF
  rw [show n - k = (n - (k + 1)) + 1 by omega, List.replicate_succ, List.set_append_right _ _ (by simp), List.length_map, List.length_range, Nat.sub_self, List.set_cons_zero, List.range_succ, List.map_append, List.append_assoc]
  rfl
theorem fillF_at (f : Nat → UInt8) (n k : Nat) (h : k < n) : gb (fillF f n k) k = 0 := by
  unfold gb fillF
  rw [List.getD_eq_getElem?_getD, List.getElem?_append_right (by simp), List.length_map, List.length_range, Nat.sub_self, show n - k = (n - (k + 1)) + 1 by omega, List.replicate_succ]
  rfl
theorem fillF_zero (f : Nat → UInt8) (n : Nat) : fillF f n 0 = List.replicate n 0 := by simp [fillF]
theorem fillF_all (f : Nat → UInt8) (n : Nat) : fillF f n n = (List.range n).map f := by simp [fillF]
end Go.Proofs.YtmnndehoopmmaaaGreatDoor
