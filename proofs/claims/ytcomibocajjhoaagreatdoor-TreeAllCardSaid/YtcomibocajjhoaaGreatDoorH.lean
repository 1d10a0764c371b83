/- Rows that the call owns, and that may begin inside their block: append, cut, read, write. sha.Hash in memory: what a hash holds; Put. -/
import Derived.Test.YtcomibocajjhoaaGreatDoorP1x
import Derived.Deep.MidRow
import Derived.StillTailTactics
namespace Go.Proofs.YtcomibocajjhoaaGreatDoor
open Go.RowKit
/-- Slice v holds the n elements (of 'size' cells each) xs, in a block from base on that is not frozen. -/
def RowQ (w : World) (base : Nat) (e : TypeId) (size : Nat) (v : Value) (n : Nat) (xs : List Value) : Prop :=
  xs.length = n * size ∧ ((v = .slice none 0 0 ∧ n = 0) ∨
    ∃ g o cap cur, v = .slice (some ⟨g, o, none⟩) n cap ∧ base ≤ g ∧ w.heap[g]? = some (.cells cur e (0, 0)) ∧ n ≤ cap ∧ cap ≤ maxLen ∧ o + cap * size ≤ cur.size ∧ (cur.toList.drop o).take (n * size) = xs)
/-- What may be appended: m elements that can be read; nil where there are none. -/
def Src (w : World) (size : Nat) (A : Option Addr) (m : Nat) (news : List Value) : Prop :=
  news.length = m * size ∧ (0 < m → ∃ ad, A = some ad ∧ ∀ j u, news[j]? = some u → w.cell? (ad.add j) = some u) ∧ ∀ u ∈ news, u.oneCell' = true
theorem RowQ.of_owns {w : World} {base : Nat} {e : TypeId} {size : Nat} {v : Value} {n : Nat} {xs : List Value} (h : w.ownsRow base e size v n xs) : RowQ w base e size v n xs := by
  refine ⟨h.1, ?_⟩
  rcases h.2 with h | ⟨g, cap, cur, rfl, hb, hg, h1, h2, h3, h4⟩
  · exact .inl h
  · exact .inr ⟨g, 0, cap, cur, rfl, hb, hg, h1, h2, by omega, by simpa using h4⟩
theorem RowQ.nil (w : World) (base : Nat) (e : TypeId) (size : Nat) : RowQ w base e size (.slice none 0 0) 0 [] := ⟨by simp, .inl ⟨rfl, rfl⟩⟩
theorem RowQ.lt {w : World} {base : Nat} {e : TypeId} {size : Nat} {v : Value} {n : Nat} {xs : List Value} (h : RowQ w base e size v n xs) : ∀ k, v.ownBlock = some k → base ≤ k ∧ k < w.heap.size := by
  intro k hk
  rcases h.2 with ⟨rfl, _⟩ | ⟨g, o, cap, cur, rfl, hb, hg, _⟩
  · simp [Value.ownBlock] at hk
  · simp [Value.ownBlock] at hk
    subst hk
    exact ⟨hb, (Array.getElem?_eq_some_iff.1 hg).1⟩
theorem RowQ.of_block {w w' : World} {base : Nat} {e : TypeId} {size : Nat} {v : Value} {n : Nat} {xs : List Value} (h : RowQ w base e size v n xs) (hb : ∀ k, v.ownBlock = some k → w'.heap[k]? = w.heap[k]?) : RowQ w' base e size v n xs := by
  refine ⟨h.1, ?_⟩
  rcases h.2 with h | ⟨g, o, cap, cur, rfl, hbg, hg, r⟩
  · exact .inl h
  · exact .inr ⟨g, o, cap, cur, rfl, hbg, (hb g rfl).trans hg, r⟩
theorem RowQ.grown {w w' : World} {row : Option Nat} {base : Nat} {e : TypeId} {size : Nat} {v : Value} {n : Nat} {xs : List Value} (h : RowQ w base e size v n xs) (hg : w.grownBy w' row) (hne : v.ownBlock = none ∨ v.ownBlock ≠ row) : RowQ w' base e size v n xs :=
  h.of_block fun k hk => hg.block k (h.lt k hk).2 (by rcases hne with h' | h' <;> rw [hk] at h'; · cases h'
                                                      · exact h')
theorem RowQ.below {w w' : World} {base : Nat} {e : TypeId} {size : Nat} {v : Value} {n : Nat} {xs : List Value} (h : RowQ w base e size v n xs) (hb : Below w.heap.size w w') : RowQ w' base e size v n xs :=
  h.of_block fun k hk => hb.block k (h.lt k hk).2
theorem RowQ.alloc {w : World} {base : Nat} {e : TypeId} {size : Nat} {v : Value} {n : Nat} {xs : List Value} (h : RowQ w base e size v n xs) (o : Obj) : RowQ (w.alloc o) base e size v n xs :=
  h.of_block fun k hk => Below.heap_alloc w o k (h.lt k hk).2
theorem RowQ.drewN {w : World} {base : Nat} {e : TypeId} {size : Nat} {v : Value} {n : Nat} {xs : List Value} (h : RowQ w base e size v n xs) (m : Nat) : RowQ (w.drewN m) base e size v n xs := h
theorem RowQ.far {w : World} {base : Nat} {e : TypeId} {size : Nat} {v : Value} {n : Nat} {xs : List Value} (h : RowQ w base e size v n xs) {p : Addr} (hp : v.ownBlock ≠ some p.block) (u : Value) : RowQ (w.setCell p u) base e size v n xs :=
  h.of_block fun k hk => heap_setCell_other w p k u (fun e => hp (by rw [hk, e]))
theorem RowQ.rowFar {w : World} {base : Nat} {e : TypeId} {size : Nat} {v : Value} {n : Nat} {xs : List Value} (h : RowQ w base e size v n xs) {g : Nat} (hp : v.ownBlock ≠ some g) (cs : Array Value) : RowQ (w.setRow g cs) base e size v n xs :=
  h.of_block fun k hk => setRow_other w g k cs (fun e => hp (by rw [hk, e]))
/-- The shape of the value. -/
theorem RowQ.shape {w : World} {base : Nat} {e : TypeId} {size : Nat} {v : Value} {n : Nat} {xs : List Value} (h : RowQ w base e size v n xs) : ∃ A c, v = .slice A n c ∧ n ≤ c ∧ c ≤ maxLen := by
  rcases h.2 with ⟨rfl, rfl⟩ | ⟨g, o, cap, cur, rfl, hbg, hg, h1, h2, _⟩
  · exact ⟨none, 0, rfl, Nat.le_refl _, by simp⟩
  · exact ⟨_, cap, rfl, h1, h2⟩
theorem RowQ.src {w : World} {base : Nat} {e : TypeId} {size : Nat} {A : Option Addr} {n c : Nat} {xs : List Value} (h : RowQ w base e size (.slice A n c) n xs) (h1 : ∀ u ∈ xs, u.oneCell' = true) : Src w size A n xs := by
  refine ⟨h.1, fun hp => ?_, h1⟩
  rcases h.2 with ⟨hv, hn⟩ | ⟨g, o, cap, cur, hv, hbg, hg, _, _, _, ht⟩
  · omega
  · injection hv with hA _ hc
    refine ⟨_, hA, fun j u hu => ?_⟩
    have hadd : (⟨g, o, none⟩ : Addr).add j = ⟨g, o + j, none⟩ := by unfold Addr.add; split <;> simp_all
    rw [hadd, cell_of_row w g (o + j) cur e (0, 0) hg]
    rw [← ht, List.getElem?_take] at hu
    split at hu
    · rw [List.getElem?_drop] at hu; simpa using hu
    · cases hu
section
variable {P : Program} (w : World)
theorem run_append_Q (base : Nat) (t ty e : TypeId) (i : TypeInfo) (z : Value) (size bytes : Nat) (ht : P.underlying t = some (.slice e)) (hi : P.info? e = some i) (hz : i.zero = some z)
    (hsize : i.size = size) (hby : i.bytes = bytes) (hzs : z.cells.size = size) (hsz : 0 < size)
    (v : Value) (n : Nat) (xs : List Value) (hown : RowQ w base e size v n xs)
    (A : Option Addr) (m c : Nat) (news : List Value) (hs : Src w size A m news)
    (h63 : n + m ≤ maxLen) (hbytes : (n + m) * bytes ≤ 140737488355328) (hbase : base ≤ w.heap.size) :
    ∃ v' w', (Builtin.append_ #[t, t] ty #[v, .slice A m c]).run P w = .ok v' w' ∧ RowQ w' base e size v' (n + m) (xs ++ news) ∧ w.grownBy w' v.ownBlock ∧
      (v'.ownBlock = v.ownBlock ∨ v'.ownBlock = some w.heap.size) := by
  subst hsize
  subst hby
  obtain ⟨hl, hnews, h1⟩ := hs
  have hlen : (xs ++ news).length = (n + m) * i.size := by rw [List.length_append, hown.1, hl, Nat.add_mul]
  have hsmall : n + m ≤ 9223372036854775807 := by simp only [maxLen] at h63; omega
  rcases Nat.eq_zero_or_pos m with hm | hm
  · subst hm
    have hn : news = [] := List.eq_nil_of_length_eq_zero (by simpa using hl)
    subst hn
    refine ⟨v, w, ?_, by simpa using hown, ⟨rfl, rfl, rfl, Nat.le_refl _, fun _ _ _ => rfl⟩, .inl rfl⟩
    rcases hown.2 with ⟨rfl, rfl⟩ | ⟨g, o, cap, cur, rfl, _, _, hnc, _⟩
    · cases A <;> simp [Builtin.append_, run_underlying ht, sizeOf, typeInfo, hi, Builtin.lenOf, Builtin.firstCells, loadCells, loadCellsFrom]
    · cases A <;> simp [Builtin.append_, run_underlying ht, sizeOf, typeInfo, hi, Builtin.lenOf, Builtin.firstCells, hnc, storeCells, loadCells, loadCellsFrom]
  obtain ⟨a, rfl, hcells⟩ := hnews hm
  have grown : ∀ (old : Nat), old < n + m → ∀ (row : Option Nat),
      RowQ (w.drew.alloc (.cells (xs.toArray ++ news.toArray ++ Builtin.zeroCells z.cells (grownCap w (n + m) old e - (n + m))) e)) base e i.size
        (.slice (some ⟨w.heap.size, 0, none⟩) (n + m) (grownCap w (n + m) old e)) (n + m) (xs ++ news) ∧
      w.grownBy (w.drew.alloc (.cells (xs.toArray ++ news.toArray ++ Builtin.zeroCells z.cells (grownCap w (n + m) old e - (n + m))) e)) row := by
    intro old ho row
    have hge := grownCap_ge w (n + m) old e
    have hcm : grownCap w (n + m) old e ≤ maxLen := grownCap_le_maxLen w (n + m) old e h63
    refine ⟨⟨hlen, .inr ⟨w.heap.size, 0, _, _, rfl, hbase, heap_alloc_new w.drew _, hge, hcm, ?_, ?_⟩⟩, ⟨rfl, rfl, rfl, by simp, fun k hk _ => Below.heap_alloc w.drew _ k hk⟩⟩
    · simp only [Array.size_append, List.size_toArray, size_zeroCells, hzs, hown.1, hl, ← Nat.add_mul, Nat.zero_add]
      exact Nat.mul_le_mul_right _ (by omega)
    · simp only [Array.toList_append, List.append_assoc, List.drop_zero]
      rw [← List.append_assoc, ← hlen]
      exact List.take_left
  rcases hown.2 with ⟨rfl, rfl⟩ | ⟨g, o, cap, cur, rfl, hbg, hg, hnc, hcm, hcs, htake⟩
  · have hx : xs = [] := List.eq_nil_of_length_eq_zero (by simpa using hown.1)
    subst hx
    have hr := run_append_nil (P := P) w t ty e i z ht hi hz a m c news hl hcells hm (by omega) (by have hb := hbytes; simp only [Nat.zero_add] at hb; omega)
    have hgr := grown 0 (by omega) (Value.ownBlock (.slice none 0 0))
    simp only [Nat.zero_add, List.nil_append, Array.empty_append] at hgr ⊢
    exact ⟨_, _, hr, hgr.1, hgr.2, .inr rfl⟩
  · by_cases hroom : n + m ≤ cap
    · have hmul : (n + m) * i.size ≤ cap * i.size := Nat.mul_le_mul_right _ hroom
      rw [Nat.add_mul] at hmul
      have hf := run_firstCells_some (P := P) w i.size m a m c news hl hcells
      have hst := run_storeCells_at P g (o + n * i.size) e news 0 cur w hg (by simp; omega) h1
      simp only [Nat.add_zero] at hst
      have hr : (Builtin.append_ #[t, t] ty #[.slice (some ⟨g, o, none⟩) n cap, .slice (some a) m c]).run P w =
          .ok (.slice (some ⟨g, o, none⟩) (n + m) cap) (w.setRow g (cur.toList.take (o + n * i.size) ++ news ++ cur.toList.drop (o + n * i.size + news.length)).toArray) := by
        simp [Builtin.append_, run_underlying ht, sizeOf, typeInfo, hi, Builtin.lenOf, hroom, hf, Addr.add_lit, hst]
      refine ⟨_, _, hr, ⟨hlen, .inr ⟨g, o, cap, _, rfl, hbg, setRow_heap w g cur _ e _ hg, hroom, hcm, ?_, ?_⟩⟩, ⟨rfl, rfl, rfl, by simp, fun k _ hk => setRow_other w g k _ (fun e => hk (by simp [Value.ownBlock, e]))⟩, .inl rfl⟩
      · simp only [List.size_toArray, List.length_append, List.length_take, List.length_drop, Array.length_toList]
        omega
      · have hlc : cur.toList.length = cur.size := by simp
        have e1 : cur.toList.take (o + n * i.size) = cur.toList.take o ++ xs := by
          rw [← htake, List.take_add]
        rw [e1, ← hlen, List.append_assoc, List.append_assoc, List.drop_append_of_le_length (by rw [List.length_take]; omega), List.drop_of_length_le (by rw [List.length_take]; omega), List.nil_append, ← List.append_assoc]
        exact List.take_left
    · have holds : ∀ j u, xs[j]? = some u → w.cell? ((⟨g, o, none⟩ : Addr).add j) = some u := by
        intro j u hu
        have hadd : (⟨g, o, none⟩ : Addr).add j = ⟨g, o + j, none⟩ := by unfold Addr.add; split <;> simp_all
        rw [hadd, cell_of_row w g (o + j) cur e (0, 0) hg]
        rw [← htake, List.getElem?_take] at hu
        split at hu
        · rw [List.getElem?_drop] at hu; simpa using hu
        · cases hu
      have hr := run_append_grow (P := P) w t ty e i z ht hi hz ⟨g, o, none⟩ n cap xs hown.1 holds a m c news hl hcells (by omega) (by omega) (growslice_fits (by omega) hbytes)
      have hgr := grown cap (by omega) (Value.ownBlock (.slice (some ⟨g, o, none⟩) n cap))
      exact ⟨_, _, hr, hgr.1, hgr.2, .inr rfl⟩
end
section
variable {P : Program} {ops : Array Oper} {rest : List Oper} {o : Oper} {a : Act} {Q : Exit → Act → World → Prop} {w : World}
theorem wpl_append (hgd : o.guard = none) (s x : Operand) (t : TypeId) (ho : o.op = .call { callee := .builtin .append, args := #[s, x], argTypes := #[t, t] })
    (base : Nat) (e : TypeId) (z : Value) (size bytes : Nat) (ht : P.underlying t = some (.slice e)) (hinfo : (P.info? e).map (fun i => (i.zero, i.size, i.bytes)) = some (some z, size, bytes)) (hzs : z.cells.size = size) (hsz : 0 < size)
    (v : Value) (n : Nat) (xs : List Value) (hs : a.eval s = v) (hown : RowQ w base e size v n xs)
    (A : Option Addr) (m c : Nat) (news : List Value) (hx : a.eval x = .slice A m c) (hsrc : Src w size A m news)
    (h63 : n + m ≤ 140737488355328) (hbytes : (n + m) * bytes ≤ 140737488355328) (hbase : base ≤ w.heap.size)
    (h : ∀ v' w', RowQ w' base e size v' (n + m) (xs ++ news) → w.grownBy w' v.ownBlock → (v'.ownBlock = v.ownBlock ∨ v'.ownBlock = some w.heap.size) → wpList P ops Q rest (a.put o.dst v') w') : wpList P ops Q (o :: rest) a w := by
  obtain ⟨i0, hi, hzz⟩ := Option.map_eq_some_iff.1 hinfo
  simp only [Prod.mk.injEq] at hzz
  obtain ⟨hz0, hz1, hz2⟩ := hzz
  obtain ⟨v', w', hr, h2, h3, h4⟩ := run_append_Q (P := P) w base t o.type e i0 z size bytes ht hi hz0 hz1 hz2 hzs hsz v n xs hown A m c news hsrc (by simp only [maxLen]; omega) hbytes hbase
  refine wpList_plain hgd fun K hK => ?_
  unfold Oper.wp execOp
  simp only [ho, resolve, invoke, builtin, Sem.run_bind, Sem.run_pure, Result.andThen_ok, List.map_toArray, List.map_cons, List.map_nil, hs, hx, hr]
  exact hK _ _ (h v' w' h2 h3 h4)
end
/-- A cut behind k elements ('xs[k:]'), in the walk's own spelling of the address. -/
theorem RowQ.drop {w : World} {base : Nat} {e : TypeId} {size : Nat} {A : Option Addr} {n c : Nat} {xs : List Value} (h : RowQ w base e size (.slice A n c) n xs) (k : Nat) (hk : k ≤ n) (hp : 0 < c) :
    RowQ w base e size (.slice (if c = k then A else A.map (·.add (k * size))) (n - k) (c - k)) (n - k) (xs.drop (k * size)) := by
  refine ⟨by rw [List.length_drop, h.1, Nat.sub_mul], ?_⟩
  rcases h.2 with ⟨hv, hn⟩ | ⟨g, o, cap, cur, hv, hbg, hg, hnc, hcm, hcs, ht⟩
  · injection hv with _ _ hc; omega
  · injection hv with hA _ hc
    subst hA
    subst hc
    by_cases hck : c = k
    · subst hck
      have e0 : n - c = 0 := by omega
      refine .inr ⟨g, o, c - c, cur, by simp, hbg, hg, by omega, by omega, by simp; omega, ?_⟩
      rw [e0]
      have : xs.drop (c * size) = [] := List.drop_of_length_le (by rw [h.1]; exact Nat.mul_le_mul_right _ hnc)
      simp [this]
    · have hadd : (⟨g, o, none⟩ : Addr).add (k * size) = ⟨g, o + k * size, none⟩ := by unfold Addr.add; split <;> simp_all
      refine .inr ⟨g, o + k * size, c - k, cur, by rw [if_neg hck]; simp [hadd], hbg, hg, by omega, by omega, ?_, ?_⟩
      · have := Nat.mul_le_mul_right size (show k ≤ c by omega)
        rw [Nat.sub_mul]; omega
      · rw [← ht, List.drop_take, List.drop_drop, Nat.sub_mul]
/-- The same, the address a letter: 'obtain ⟨A1, hcut, hrow⟩ := row_cut ..' ahead of the walk. -/
theorem row_cut {P : Program} (t e : TypeId) {i : TypeInfo} (ht : P.underlying t = some (.slice e)) (hi : P.info? e = some i) (size : Nat) (hsz : i.size = size) (kl : IntKind) (A : Option Addr) (n c k : Nat) (hk : k ≤ n) :
    ∃ A' : Option Addr, (∀ W : World, (Instr.slice t (.slice A n c) (some (.int kl (k : Int))) none none).run P W = .ok (.slice A' (n - k) (c - k)) W) ∧
      (∀ (w : World) (base : Nat) (xs : List Value), 0 < c → RowQ w base e size (.slice A n c) n xs → RowQ w base e size (.slice A' (n - k) (c - k)) (n - k) (xs.drop (k * size))) ∧
      (A'.map (·.block) = A.map (·.block)) := by
  refine ⟨if c = k then A else A.map (·.add (k * size)), fun W => ?_, fun w base xs hc h => h.drop k hk hc, ?_⟩
  · have hel : P.elem t = e := by simp [Program.elem, ht]
    have hu : P.underlying t = some (.slice (P.elem t)) := by rw [hel]; exact ht
    rw [run_slice_l W t A n c hu kl (k : Int) (Int.natCast_nonneg _) (by omega), hel]
    simp [sizeOf, typeInfo, hi, hsz, sliced, Result.andThen]
  · split
    · rfl
    · cases A with
      | none => rfl
      | some a => simp only [Option.map_some]; unfold Addr.add; split <;> rfl
theorem RowQ.bytes {w : World} {base : Nat} {e : TypeId} {A : Option Addr} {n c : Nat} {bs : List UInt8} (h : RowQ w base e 1 (.slice A n c) n (Bs bs)) (hn : 0 < n) :
    ∃ g o, A = some ⟨g, o, none⟩ ∧ base ≤ g ∧ g < w.heap.size ∧ BytesAt w g o n bs := by
  have hl : bs.length = n := by have := h.1; simpa using this
  rcases h.2 with ⟨hv, hn0⟩ | ⟨g, o, cap, cur, hv, hbg, hg, hnc, hcm, hcs, ht⟩
  · omega
  · injection hv with hA _ hc
    subst hA
    refine ⟨g, o, rfl, hbg, (Array.getElem?_eq_some_iff.1 hg).1, hl, fun j hj => ?_⟩
    rw [cell_of_row w g (o + j) cur e (0, 0) hg]
    have := Bs_at bs j (by omega)
    rw [← ht, List.getElem?_take] at this
    rw [if_pos (by omega), List.getElem?_drop] at this
    simpa using this
end Go.Proofs.YtcomibocajjhoaaGreatDoor
namespace Go.Proofs.YtcomibocajjhoaaGreatDoor
open Go.RowKit
/-- Block g is a hash: the eight words, the bytes that are left in slice v, how many were put. -/
def HashAt (W : World) (B g : Nat) (s : St) (v : Value) (rs : List UInt8) (n : Int) : Prop :=
  Blk W g 190 (Us s.list ++ [v, .int .u64 n]) ∧ RowQ W B 5 1 v rs.length (Bs rs) ∧ v.ownBlock ≠ some g ∧ B ≤ g
/-- All but block g and row r is as it was. -/
structure Kept2 (W W' : World) (g : Nat) (r : Option Nat) : Prop where
  os : W'.os = W.os
  tape : W'.tape = W.tape
  output : W'.output = W.output
  size : W.heap.size ≤ W'.heap.size
  block : ∀ k, k < W.heap.size → k ≠ g → some k ≠ r → W'.heap[k]? = W.heap[k]?
theorem Kept2.refl (W : World) (g : Nat) (r : Option Nat) : Kept2 W W g r := ⟨rfl, rfl, rfl, Nat.le_refl _, fun _ _ _ _ => rfl⟩
theorem Kept2.trans {W W1 W2 : World} {g : Nat} {r : Option Nat} (h : Kept2 W W1 g r) (k : Kept2 W1 W2 g r) : Kept2 W W2 g r :=
  ⟨k.os.trans h.os, k.tape.trans h.tape, k.output.trans h.output, Nat.le_trans h.size k.size, fun i hi h1 h2 => (k.block i (Nat.lt_of_lt_of_le hi h.size) h1 h2).trans (h.block i hi h1 h2)⟩
theorem Kept2.setCell {W W1 : World} {g : Nat} {r : Option Nat} (h : Kept2 W W1 g r) (o : Nat) (u : Value) : Kept2 W (W1.setCell ⟨g, o, none⟩ u) g r :=
  h.trans ⟨rfl, rfl, rfl, by simp [World.setCell], fun k _ h1 _ => heap_setCell_other W1 ⟨g, o, none⟩ k u h1⟩
theorem Kept2.below {W W1 W2 : World} {g : Nat} {r : Option Nat} (h : Kept2 W W1 g r) (hb : Below W1.heap.size W1 W2) : Kept2 W W2 g r :=
  h.trans ⟨hb.os, hb.tape, hb.output, hb.size, fun k hk _ _ => hb.block k hk⟩
theorem Kept2.drewN {W W1 : World} {g : Nat} {r : Option Nat} (h : Kept2 W W1 g r) (n : Nat) : Kept2 W (W1.drewN n) g r := ⟨h.os, h.tape, h.output, h.size, h.block⟩
/-- A row that was grown: what was its block, or a new one. -/
theorem Kept2.grown {W W1 W2 : World} {g : Nat} {r : Option Nat} (h : Kept2 W W1 g r) {row : Option Nat} (hg : W1.grownBy W2 row) (hr : row = r ∨ ∀ k, row = some k → W.heap.size ≤ k) : Kept2 W W2 g r :=
  ⟨hg.os.trans h.os, hg.tape.trans h.tape, hg.output.trans h.output, Nat.le_trans h.size hg.size, fun i hi h1 h2 => by
    refine (hg.block i (Nat.lt_of_lt_of_le hi h.size) ?_).trans (h.block i hi h1 h2)
    rcases hr with rfl | hr
    · exact h2
    · intro e; have := hr i e.symm; omega⟩
theorem Kept2.toBelow {W W1 : World} {g : Nat} {r : Option Nat} (h : Kept2 W W1 g r) {B : Nat} (hB : B ≤ W.heap.size) (hg : B ≤ g) (hr : ∀ k, r = some k → B ≤ k) : Below B W W1 :=
  ⟨h.os, h.tape, h.output, h.size, fun k hk => h.block k (by omega) (by omega) (fun e => by have := hr k e.symm; omega)⟩
theorem HashAt.cell {W : World} {B g : Nat} {s : St} {v : Value} {rs : List UInt8} {n : Int} (h : HashAt W B g s v rs n) :
    W.cell? ⟨g, 8, none⟩ = some v ∧ W.cell? ⟨g, 9, none⟩ = some (.int .u64 n) := ⟨h.1.cell 8 v rfl, h.1.cell 9 _ rfl⟩
theorem HashAt.setN {W : World} {B g : Nat} {s : St} {v : Value} {rs : List UInt8} {n : Int} (h : HashAt W B g s v rs n) (m : Int) : HashAt (W.setCell ⟨g, 9, none⟩ (.int .u64 m)) B g s v rs m :=
  ⟨h.1.setCell 9 (.int .u64 m), h.2.1.far h.2.2.1 _, h.2.2⟩
/-- The bytes that are left are others. -/
theorem HashAt.setRest {W : World} {B g : Nat} {s : St} {v v' : Value} {rs rs' : List UInt8} {n : Int} (h : HashAt W B g s v rs n) (hr : RowQ W B 5 1 v' rs'.length (Bs rs')) (hne : v'.ownBlock ≠ some g) :
    HashAt (W.setCell ⟨g, 8, none⟩ v') B g s v' rs' n :=
  ⟨h.1.setCell 8 v', hr.far hne _, hne, h.2.2.2⟩
theorem Blk.setCells {g : Nat} {t : TypeId} : ∀ (vs : List Value) (o : Nat) (w : World) (cs : List Value), Blk w g t cs → o + vs.length ≤ cs.length → Blk (w.setCells g o vs) g t (cs.take o ++ vs ++ cs.drop (o + vs.length))
  | [], o, w, cs, h, _ => by simpa [World.setCells] using h
  | v :: r, o, w, cs, h, hl => by
    have hl' : o + (r.length + 1) ≤ cs.length := by simpa using hl
    have ih := Blk.setCells r (o + 1) (w.setCell ⟨g, o, none⟩ v) (cs.set o v) (h.setCell o v) (by simp; omega)
    rw [World.setCells]
    have e : (cs.set o v).take (o + 1) ++ r ++ (cs.set o v).drop (o + 1 + r.length) = cs.take o ++ (v :: r) ++ cs.drop (o + (v :: r).length) := by
      rw [List.drop_set_of_lt (by omega), List.take_add_one]
      simp [List.take_set_of_le (Nat.le_refl o), show o < cs.length by omega, Nat.add_assoc, Nat.add_comm 1]
    rw [← e]
    exact ih
theorem heap_setCells_other (g k : Nat) (hk : k ≠ g) : ∀ (vs : List Value) (o : Nat) (w : World), (w.setCells g o vs).heap[k]? = w.heap[k]?
  | [], _, _ => rfl
  | v :: r, o, w => (heap_setCells_other g k hk r (o + 1) (w.setCell ⟨g, o, none⟩ v)).trans (heap_setCell_other w ⟨g, o, none⟩ k v hk)
theorem size_setCells (g : Nat) : ∀ (vs : List Value) (o : Nat) (w : World), (w.setCells g o vs).heap.size = w.heap.size
  | [], _, _ => rfl
  | v :: r, o, w => (size_setCells g r (o + 1) (w.setCell ⟨g, o, none⟩ v)).trans (by simp [World.setCell])
theorem HashAt.setWords {W : World} {B g : Nat} {s : St} {v : Value} {rs : List UInt8} {n : Int} (h : HashAt W B g s v rs n) (m : St) : HashAt (W.setCells g 0 (Us m.list)) B g m v rs n :=
  ⟨Blk.setCells (Us m.list) 0 W _ h.1 (by simp [St.list]), h.2.1.of_block fun k hk => heap_setCells_other g k (fun e => h.2.2.1 (by rw [hk, e])) _ 0 W, h.2.2⟩
theorem Kept2.setCells {W W1 : World} {g : Nat} {r : Option Nat} (h : Kept2 W W1 g r) (o : Nat) (vs : List Value) (hos : (W1.setCells g o vs).os = W1.os ∧ (W1.setCells g o vs).tape = W1.tape ∧ (W1.setCells g o vs).output = W1.output) : Kept2 W (W1.setCells g o vs) g r :=
  h.trans ⟨hos.1, hos.2.1, hos.2.2, by rw [size_setCells]; exact Nat.le_refl _, fun k _ h1 _ => heap_setCells_other g k h1 vs o W1⟩
theorem setCells_os (g : Nat) : ∀ (vs : List Value) (o : Nat) (w : World), (w.setCells g o vs).os = w.os ∧ (w.setCells g o vs).tape = w.tape ∧ (w.setCells g o vs).output = w.output
  | [], _, _ => ⟨rfl, rfl, rfl⟩
  | v :: r, o, w => setCells_os g r (o + 1) (w.setCell ⟨g, o, none⟩ v)
theorem HashAt.below {W W1 : World} {B g : Nat} {s : St} {v : Value} {rs : List UInt8} {n : Int} (h : HashAt W B g s v rs n) (hb : Below W.heap.size W W1) : HashAt W1 B g s v rs n := ⟨h.1.below hb, h.2.1.below hb, h.2.2⟩
theorem HashAt.drewN {W : World} {B g : Nat} {s : St} {v : Value} {rs : List UInt8} {n : Int} (h : HashAt W B g s v rs n) (m : Nat) : HashAt (W.drewN m) B g s v rs n := h
theorem HashAt.there {W : World} {B g : Nat} {s : St} {v : Value} {rs : List UInt8} {n : Int} (h : HashAt W B g s v rs n) : W.there g 0 8 := by
  intro j hj
  refine ⟨?_, by rw [Nat.zero_add]; exact h.1.frozen j⟩
  have hl : j < (Us s.list ++ [v, Value.int .u64 n]).length := by simp [St.list]; omega
  rw [Nat.zero_add, h.1.cell j _ (List.getElem?_eq_getElem hl)]
  rfl
theorem st_tail {P : Program} {id : Nat} {Q : Exit → Act → World → Prop} {a : Act} {w : World} {l : List Oper} (n : Nat) (hm : P.follows .mixedOrders = true) (hB : Region.lexTailB .any l.toArray n = true)
    (h : wpStill P l.toArray w.drew (fun a' => wpList P l.toArray Q (l.drop n) a' w.drew) (l.take n) a) : (Code.region id l.toArray true).wp P Q a w := wp_region_still_tail n hm hB h
end Go.Proofs.YtcomibocajjhoaaGreatDoor
