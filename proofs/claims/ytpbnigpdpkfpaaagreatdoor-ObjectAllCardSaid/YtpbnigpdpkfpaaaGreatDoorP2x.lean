/- (*sha.Hash).Sum: the digest of a hash. oid.Hex: bytes as digits. strconv: numbers in base 16; a row of bytes made a text. strconv.FormatInt, FormatUint in base 16. oid.Hex: bytes as digits. sha.Sum: the hash of a text, at once. Arrays of bytes, held against each other. The hash of "abc". oid: the word of a kind. -/
import Derived.Test.YtpbnigpdpkfpaaaGreatDoorP1x
import Derived.Test.YtpbnigpdpkfpaaaGreatDoorU
import Derived.Deep.RegionHeld3
import Derived.Deep.LoopGhost
import Derived.Deep.RegionLaw
import Derived.Deep.DeepCutAuto
import Derived.ChangeKeysEq
import Derived.ProofKit
namespace Go.Proofs.YtpbnigpdpkfpaaaGreatDoor
open Go.RowKit
attribute [local go_sem] un_add un_shl8 un_of_byte un_addm un_and un_or un_xor un_not un_not' un_shl8m un_shr3 un_shr10 ub_mod un_mod un_shr24 un_shr16 un_shr8 ub_of_word un_mod256
def zero32 : List Value := Bs (List.replicate 32 0)
theorem z32_eq : (Obj.cells #[.int .u8 0, .int .u8 0, .int .u8 0, .int .u8 0, .int .u8 0, .int .u8 0, .int .u8 0, .int .u8 0, .int .u8 0, .int .u8 0, .int .u8 0, .int .u8 0, .int .u8 0, .int .u8 0, .int .u8 0, .int .u8 0, .int .u8 0, .int .u8 0, .int .u8 0, .int .u8 0, .int .u8 0, .int .u8 0, .int .u8 0, .int .u8 0, .int .u8 0, .int .u8 0, .int .u8 0, .int .u8 0, .int .u8 0, .int .u8 0, .int .u8 0, .int .u8 0] 23 : Obj) = .cells zero32.toArray 23 := rfl
theorem HashAt.alloc {W : World} {B g : Nat} {s : St} {v : Value} {rs : List UInt8} {n : Int} (h : HashAt W B g s v rs n) (o : Obj) : HashAt (W.alloc o) B g s v rs n := ⟨h.1.alloc o, h.2.1.alloc o, h.2.2⟩
/-- The hash of its own that Sum works on, and its frame: all below the call's own memory is as it was; block D of the result is 'zero32'. -/
def SumIn (W : World) (g : Nat) (n : Nat) (gc : Nat) (s : St) (rs : List UInt8) (m : Int) (w : World) : Prop :=
  Below W.heap.size W w ∧ Blk w W.heap.size 23 zero32 ∧ W.heap.size < gc ∧ w.cell? ⟨g, 9, none⟩ = some (.int .u64 n) ∧ ∃ v, HashAt w (W.heap.size + 1) gc s v rs m
def SumIn0 (W : World) (g : Nat) (n : Nat) (s : St) (rs : List UInt8) (p : Value) (w : World) : Prop := ∃ gc, p = .pointer (some ⟨gc, 0, none⟩) ∧ SumIn W g n gc s rs 0 w
/-- What a walk of Sum's first statement keeps: the frame, the result's block, the hash that is asked. -/
structure Fr (W : World) (g : Nat) (cs : List Value) (w : World) : Prop where
  low : Below W.heap.size W w
  size : W.heap.size + 1 ≤ w.heap.size
  res : Blk w W.heap.size 23 zero32
  hash : Blk w g 259 cs
  old : g < W.heap.size
theorem Fr.alloc {W : World} {g : Nat} {cs : List Value} {w : World} (h : Fr W g cs w) (o : Obj) : Fr W g cs (w.alloc o) :=
  ⟨h.low.alloc (by have := h.size; omega) o, by rw [hsz]; have := h.size; omega, h.res.alloc o, h.hash.alloc o, h.old⟩
theorem Fr.drew {W : World} {g : Nat} {cs : List Value} {w : World} (h : Fr W g cs w) : Fr W g cs w.drew := ⟨h.low.drew, h.size, h.res, h.hash, h.old⟩
theorem Fr.below {W : World} {g : Nat} {cs : List Value} {w w1 : World} (h : Fr W g cs w) (hb : Below w.heap.size w w1) : Fr W g cs w1 :=
  ⟨h.low.trans (hb.mono (by have := h.size; omega)), Nat.le_trans h.size hb.size, h.res.below hb, h.hash.below hb, h.old⟩
theorem Fr.grown {W : World} {g : Nat} {cs : List Value} {w w1 : World} {row : Option Nat} (h : Fr W g cs w) (hg : w.grownBy w1 row) (hr : ∀ k, row = some k → W.heap.size + 1 ≤ k) : Fr W g cs w1 :=
  ⟨h.low.grown hg (by have := h.size; omega) (fun k e => by have := hr k e; omega), Nat.le_trans h.size hg.size, h.res.grown hg (fun e => by have := hr _ e.symm; omega), h.hash.grown hg (fun e => by have := hr _ e.symm; have := h.old; omega), h.old⟩
theorem Fr.nine {W : World} {g : Nat} {s : St} {v u : Value} {w : World} (h : Fr W g (Us s.list ++ [v, u]) w) :
    w.cell? ⟨g, 0, none⟩ = some (.int .u32 (un s.a)) ∧ w.cell? ⟨g, 1, none⟩ = some (.int .u32 (un s.b)) ∧ w.cell? ⟨g, 2, none⟩ = some (.int .u32 (un s.c)) ∧ w.cell? ⟨g, 3, none⟩ = some (.int .u32 (un s.d)) ∧ w.cell? ⟨g, 4, none⟩ = some (.int .u32 (un s.e)) ∧ w.cell? ⟨g, 5, none⟩ = some (.int .u32 (un s.f)) ∧ w.cell? ⟨g, 6, none⟩ = some (.int .u32 (un s.g)) ∧ w.cell? ⟨g, 7, none⟩ = some (.int .u32 (un s.h)) ∧ w.cell? ⟨g, 8, none⟩ = some v :=
  ⟨h.hash.cell 0 _ rfl, h.hash.cell 1 _ rfl, h.hash.cell 2 _ rfl, h.hash.cell 3 _ rfl, h.hash.cell 4 _ rfl, h.hash.cell 5 _ rfl, h.hash.cell 6 _ rfl, h.hash.cell 7 _ rfl, h.hash.cell 8 _ rfl⟩
theorem RowQ.drew {w : World} {base : Nat} {e : TypeId} {size : Nat} {v : Value} {n : Nat} {xs : List Value} (h : RowQ w base e size v n xs) : RowQ w.drew base e size v n xs := h
/-- A box of one byte can be read. -/
theorem drew_size (w : World) : w.drew.heap.size = w.heap.size := rfl
theorem src_box (w : World) (x : Int) (k : Nat) (hk : w.heap.size = k) : Src (w.alloc (.cells #[.int .u8 x] 5)) 1 (some ⟨k, 0, none⟩) 1 [.int .u8 x] := by
  subst hk
  refine ⟨rfl, fun _ => ⟨_, rfl, fun j u hu => ?_⟩, by intro u hu; simp at hu; subst hu; rfl⟩
  have hj : j = 0 := by
    rcases j with _ | j
    · rfl
    · simp at hu
  subst hj
  have := (Blk.new w 5 [.int .u8 x]).cell 0 u (by simpa using hu)
  simpa [Addr.add] using this
theorem src_drew {w : World} {A : Option Addr} {m : Nat} {news : List Value} (h : Src w 1 A m news) : Src w.drew 1 A m news := h
theorem src_al {w : World} {A : Option Addr} {m : Nat} {news : List Value} (h : Src w 1 A m news) (o : Obj) : Src (w.alloc o) 1 A m news := h.far (src_alloc h o)
def zero10 : List Value := zero8 ++ [.slice none 0 0, .int .u64 0]
/-- The new hash's block, made: no tactic looks into it. -/
def allocZ (w : World) : World := w.alloc (.cells zero10.toArray 259)
theorem z10_eq (w : World) : w.alloc (.cells #[.int .u32 0, .int .u32 0, .int .u32 0, .int .u32 0, .int .u32 0, .int .u32 0, .int .u32 0, .int .u32 0, .slice none 0 0, .int .u64 0] 259 : Obj) = allocZ w := rfl
theorem z10_size (w : World) : (allocZ w).heap.size = w.heap.size + 1 := hsz _ _
theorem Fr.allocZ {W : World} {g : Nat} {cs : List Value} {w : World} (h : Fr W g cs w) : Fr W g cs (allocZ w) := h.alloc _
theorem RowQ.allocZ {w : World} {base : Nat} {e : TypeId} {size : Nat} {v : Value} {n : Nat} {xs : List Value} (h : RowQ w base e size v n xs) : RowQ (allocZ w) base e size v n xs := h.alloc _
theorem src_alZ {w : World} {A : Option Addr} {m : Nat} {news : List Value} (h : Src w 1 A m news) : Src (allocZ w) 1 A m news := h.far (src_alloc h _)
theorem Blk.newZ (w : World) : Blk (allocZ w) w.heap.size 259 zero10 := Blk.new w _ _
theorem zero10_cells {w : World} {g : Nat} (h : Blk w g 259 zero10) :
    (w.cell? ⟨g, 0, none⟩ = some (.int .u32 0) ∧ w.cell? ⟨g, 1, none⟩ = some (.int .u32 0) ∧ w.cell? ⟨g, 2, none⟩ = some (.int .u32 0) ∧ w.cell? ⟨g, 3, none⟩ = some (.int .u32 0) ∧ w.cell? ⟨g, 4, none⟩ = some (.int .u32 0) ∧ w.cell? ⟨g, 5, none⟩ = some (.int .u32 0) ∧ w.cell? ⟨g, 6, none⟩ = some (.int .u32 0) ∧ w.cell? ⟨g, 7, none⟩ = some (.int .u32 0) ∧ w.cell? ⟨g, 8, none⟩ = some (.slice none 0 0) ∧ w.cell? ⟨g, 9, none⟩ = some (.int .u64 0)) ∧
    w.frozen? ⟨g, 0, none⟩ = false ∧ w.frozen? ⟨g, 1, none⟩ = false ∧ w.frozen? ⟨g, 2, none⟩ = false ∧ w.frozen? ⟨g, 3, none⟩ = false ∧ w.frozen? ⟨g, 4, none⟩ = false ∧ w.frozen? ⟨g, 5, none⟩ = false ∧ w.frozen? ⟨g, 6, none⟩ = false ∧ w.frozen? ⟨g, 7, none⟩ = false ∧ w.frozen? ⟨g, 8, none⟩ = false ∧ w.frozen? ⟨g, 9, none⟩ = false :=
  ⟨⟨h.cell 0 _ rfl, h.cell 1 _ rfl, h.cell 2 _ rfl, h.cell 3 _ rfl, h.cell 4 _ rfl, h.cell 5 _ rfl, h.cell 6 _ rfl, h.cell 7 _ rfl, h.cell 8 _ rfl, h.cell 9 _ rfl⟩, h.frozen 0, h.frozen 1, h.frozen 2, h.frozen 3, h.frozen 4, h.frozen 5, h.frozen 6, h.frozen 7, h.frozen 8, h.frozen 9⟩
theorem RowQ.ne_type {w : World} {base : Nat} {e t : TypeId} {size : Nat} {v : Value} {n gc : Nat} {xs cs : List Value} (h : RowQ w base e size v n xs) (hb : Blk w gc t cs) (hne : e ≠ t) : v.ownBlock ≠ some gc := by
  intro hk
  rcases h.2 with ⟨rfl, _⟩ | ⟨g, o, cap, cur, rfl, _, hg, _⟩
  · simp [Value.ownBlock] at hk
  · simp [Value.ownBlock] at hk
    subst hk
    have hb' : w.heap[g]? = some (.cells cs.toArray t (0, 0)) := hb
    rw [hg] at hb'
    injection hb' with hb'
    injection hb' with _ h2
    exact hne h2
theorem Fr.setCells {W : World} {g gc : Nat} {cs : List Value} {w : World} (h : Fr W g cs w) (hlt : W.heap.size < gc) (vs : List Value) (o : Nat) : Fr W g cs (w.setCells gc o vs) := by
  have e := setCells_os gc vs o w
  refine ⟨h.low.trans ⟨e.1, e.2.1, e.2.2, by rw [size_setCells]; exact Nat.le_refl _, fun k hk => heap_setCells_other gc k (by omega) vs o w⟩, by rw [size_setCells]; exact h.size, ?_, ?_, h.old⟩
  · exact (heap_setCells_other gc _ (by omega) vs o w).trans h.res
  · have := h.old
    exact (heap_setCells_other gc _ (by omega) vs o w).trans h.hash
theorem row_snoc {w : World} {base : Nat} {v : Value} {rs : List UInt8} (b : UInt8) (x : Int) (hx : ub b = x) (h : RowQ w base 5 1 v (rs.length + 1) (Bs rs ++ [.int .u8 x])) : RowQ w base 5 1 v (rs ++ [b]).length (Bs (rs ++ [b])) := by
  subst hx
  simpa [Bs] using h
/-- The new hash is laid. -/
theorem store10 {W X : World} {g gc : Nat} {cs0 : List Value} {v : Value} {bs : List UInt8} (s : St) (hZ : Blk X gc 259 zero10) (hF : Fr W g cs0 X) (hlt : W.heap.size < gc) (hR : RowQ X (W.heap.size + 1) 5 1 v bs.length (Bs bs)) :
    ∃ w4, w4 = ((((((((((X.setCell ⟨gc, 0, none⟩ (.int .u32 (un s.a))).setCell ⟨gc, 1, none⟩ (.int .u32 (un s.b))).setCell ⟨gc, 2, none⟩ (.int .u32 (un s.c))).setCell ⟨gc, 3, none⟩ (.int .u32 (un s.d))).setCell ⟨gc, 4, none⟩ (.int .u32 (un s.e))).setCell ⟨gc, 5, none⟩ (.int .u32 (un s.f))).setCell ⟨gc, 6, none⟩ (.int .u32 (un s.g))).setCell ⟨gc, 7, none⟩ (.int .u32 (un s.h))).setCell ⟨gc, 8, none⟩ v).setCell ⟨gc, 9, none⟩ (.int .u64 0)) ∧
      Fr W g cs0 w4 ∧ HashAt w4 (W.heap.size + 1) gc s v bs 0 := by
  have hne := hR.ne_type hZ (by decide)
  refine ⟨X.setCells gc 0 (Us s.list ++ [v, .int .u64 0]), rfl, hF.setCells hlt _ _, ?_, hR.of_block fun k hk => heap_setCells_other gc k (fun e => hne (by rw [hk, e])) _ 0 X, hne, hlt⟩
  exact Blk.setCells (Us s.list ++ [v, .int .u64 0]) 0 X zero10 hZ (by simp [St.list, zero10, zero8, Us])
theorem sumIn_of {W w : World} {g gc : Nat} {s : St} {v u : Value} {bs : List UInt8} {n : Nat} (hF : Fr W g (Us s.list ++ [u, .int .u64 n]) w) (h : HashAt w (W.heap.size + 1) gc s v bs 0) : SumIn0 W g n s bs (.pointer (some ⟨gc, 0, none⟩)) w :=
  ⟨gc, rfl, hF.low, hF.res, h.2.2.2, hF.hash.cell 9 _ rfl, v, h⟩
attribute [irreducible] allocZ
/-- The new hash lay there before the append: it lies there still. -/
theorem zero10_kept {X w2 : World} {v1 : Value} {gc : Nat} (h : Blk X gc 259 zero10) (hg : X.grownBy w2 v1.ownBlock) (hne : v1.ownBlock ≠ some gc) : Blk w2 gc 259 zero10 := h.grown hg (fun e => hne e.symm)
theorem own_ne_hi {v1 : Value} {N M gc : Nat} (h : ∀ k, v1.ownBlock = some k → N ≤ k ∧ k < M) (hg : M ≤ gc) : v1.ownBlock ≠ some gc := fun e => by have := h gc e; omega
theorem own_ne_lo {v1 : Value} {N M gc : Nat} (h : ∀ k, v1.ownBlock = some k → N ≤ k ∧ k < M) (hg : gc < N) : v1.ownBlock ≠ some gc := fun e => by have := h gc e; omega
/-- So many noughts are left to be laid. -/
def SumG (W : World) (g n gc : Nat) (s : St) (bs : List UInt8) (Z k : Nat) (wr : World) : Prop := ∃ bs1 j, bs1.length = bs.length + j ∧ bs1 = bs ++ List.replicate j 0 ∧ j + k = Z ∧ SumIn W g n gc s bs1 0 wr
theorem below_cell {B : Nat} {W w : World} (hb : Below B W w) {g : Nat} (hg : g < B) (o : Nat) : w.cell? ⟨g, o, none⟩ = W.cell? ⟨g, o, none⟩ := World.cell?_of_block (hb.block g hg)
/-- The hash that Sum works on, and its frame. -/
structure Core (W : World) (gc : Nat) (s : St) (v : Value) (bs : List UInt8) (m : Int) (X : World) : Prop where
  low : Below W.heap.size W X
  res : Blk X W.heap.size 23 zero32
  gt : W.heap.size < gc
  hash : HashAt X (W.heap.size + 1) gc s v bs m
theorem Core.alloc {W : World} {gc : Nat} {s : St} {v : Value} {bs : List UInt8} {m : Int} {X : World} (h : Core W gc s v bs m X) (o : Obj) : Core W gc s v bs m (X.alloc o) :=
  ⟨h.low.alloc h.low.size o, h.res.alloc o, h.gt, h.hash.alloc o⟩
theorem Core.drew {W : World} {gc : Nat} {s : St} {v : Value} {bs : List UInt8} {m : Int} {X : World} (h : Core W gc s v bs m X) : Core W gc s v bs m X.drew :=
  ⟨h.low.drew, h.res, h.gt, h.hash⟩
theorem Core.row {W : World} {gc : Nat} {s : St} {v : Value} {bs : List UInt8} {m : Int} {X : World} (h : Core W gc s v bs m X) : RowQ X (W.heap.size + 1) 5 1 v bs.length (Bs bs) := h.hash.2.1
theorem sum_step {W X w3 : World} {g n gc : Nat} {s : St} {bs1 : List UInt8} {m x : Int} {v v3 : Value} (b : UInt8) (hx : ub b = x) (hg0 : g < W.heap.size) (h9 : W.cell? ⟨g, 9, none⟩ = some (.int .u64 n)) (hC : Core W gc s v bs1 m X)
    (hr : RowQ w3 (W.heap.size + 1) 5 1 v3 (bs1.length + 1) (Bs bs1 ++ [.int .u8 x])) (hg : X.grownBy w3 v.ownBlock) :
    Blk w3 gc 259 (Us s.list ++ [v, .int .u64 m]) ∧ SumIn W g n gc s (bs1 ++ [b]) m (w3.setCell ⟨gc, 8, none⟩ v3) := by
  obtain ⟨hb, hz, hgc, hH⟩ := hC
  have hlt := hH.2.1.lt
  have hs := hb.size
  have b1 : Blk w3 gc 259 (Us s.list ++ [v, .int .u64 m]) := hH.1.grown hg (fun e => hH.2.2.1 e.symm)
  have hne := hr.ne_type b1 (by decide)
  have hb3 : Below W.heap.size W w3 := hb.grown hg hs (fun k e => by have := (hlt k e).1; omega)
  have hb4 : Below W.heap.size W (w3.setCell ⟨gc, 8, none⟩ v3) := hb3.trans ⟨rfl, rfl, rfl, by simp [World.setCell], fun k hk => heap_setCell_other w3 ⟨gc, 8, none⟩ k v3 (by show k ≠ gc; omega)⟩
  refine ⟨b1, hb4, ?_, hgc, ?_, v3, b1.setCell 8 v3, (row_snoc b x hx hr).far hne _, hne, hH.2.2.2⟩
  · exact (hz.grown hg (fun e => by have := (hlt _ e.symm).1; omega)).far (by show _ ≠ gc; omega) _
  · rw [below_cell hb4 hg0 9]; exact h9
theorem padz_of_mod' {rs : List UInt8} {bs1 : List UInt8} {j k : Nat} (hl : bs1.length = (rs ++ [(128 : UInt8)]).length + j) (hj : j + k = padz (rs.length + 1)) (hd : (bs1.length : Int) % 64 = 56) : j = padz (rs.length + 1) := by
  simp at hl
  exact padz_of_mod (by omega) (by omega)
theorem sum_loop0 {W wr : World} {g n gc : Nat} {s : St} {rs bs1 : List UInt8} {v : Value} {j : Nat} (h9 : wr.cell? ⟨g, 9, none⟩ = some (.int .u64 n)) (h : Core W gc s v bs1 0 wr)
    (hb : bs1 = rs ++ [128] ++ List.replicate j 0) (hj : j = padz (rs.length + 1)) : SumIn W g n gc s (rs ++ 128 :: List.replicate (padz (rs.length + 1)) 0) 0 wr := by
  subst hj
  have e : rs ++ 128 :: List.replicate (padz (rs.length + 1)) 0 = bs1 := by rw [hb]; simp
  rw [e]
  exact ⟨h.low, h.res, h.gt, h9, v, h.hash⟩
theorem Src.none {w : World} : Src w 1 none 0 (Bs []) := ⟨rfl, fun h => absurd h (Nat.lt_irrefl 0), by intro u hu; cases hu⟩
theorem take_len8 (n k : Nat) (hk : k < 8) : (len8 n).take (k + 1) = (len8 n).take k ++ [lenB n (56 - 8 * k)] := by
  rcases k with _ | _ | _ | _ | _ | _ | _ | _ | k
  all_goals first | rfl | omega
theorem after_put {W X w6 : World} {gc : Nat} {s s' : St} {v : Value} {bs rs' : List UInt8} {m n' : Int} (hC : Core W gc s v bs m X) (hP : PutPost X (W.heap.size + 1) gc s' rs' n' v.ownBlock w6) :
    Below W.heap.size W w6 ∧ Blk w6 W.heap.size 23 zero32 ∧ (∀ o, (w6.alloc o).cell? ⟨gc, 0, none⟩ = some (.int .u32 (un s'.a))) ∧ (∀ o, (w6.alloc o).cell? ⟨gc, 1, none⟩ = some (.int .u32 (un s'.b))) ∧ (∀ o, (w6.alloc o).cell? ⟨gc, 2, none⟩ = some (.int .u32 (un s'.c))) ∧ (∀ o, (w6.alloc o).cell? ⟨gc, 3, none⟩ = some (.int .u32 (un s'.d))) ∧
      (∀ o, (w6.alloc o).cell? ⟨gc, 4, none⟩ = some (.int .u32 (un s'.e))) ∧ (∀ o, (w6.alloc o).cell? ⟨gc, 5, none⟩ = some (.int .u32 (un s'.f))) ∧ (∀ o, (w6.alloc o).cell? ⟨gc, 6, none⟩ = some (.int .u32 (un s'.g))) ∧ (∀ o, (w6.alloc o).cell? ⟨gc, 7, none⟩ = some (.int .u32 (un s'.h))) := by
  obtain ⟨hb, hz, hgt, hH⟩ := hC
  obtain ⟨v6, h6, k6, r6⟩ := hP
  have hlt := hH.2.1.lt
  have hs := hb.size
  refine ⟨hb.trans (k6.toBelow hs (Nat.le_of_lt hgt) (fun k e => by have := (hlt k e).1; omega)), (k6.block _ hz.lt (by omega) (fun e => by have := (hlt _ e.symm).1; omega)).trans hz, ?_, ?_, ?_, ?_, ?_, ?_, ?_, ?_⟩
  all_goals intro o
  · exact (h6.1.alloc o).cell 0 _ rfl
  · exact (h6.1.alloc o).cell 1 _ rfl
  · exact (h6.1.alloc o).cell 2 _ rfl
  · exact (h6.1.alloc o).cell 3 _ rfl
  · exact (h6.1.alloc o).cell 4 _ rfl
  · exact (h6.1.alloc o).cell 5 _ rfl
  · exact (h6.1.alloc o).cell 6 _ rfl
  · exact (h6.1.alloc o).cell 7 _ rfl
/-- So many words are written out. -/
def OutIn (W : World) (D : Nat) (S : St) (k : Nat) (wr : World) : Prop := Below W.heap.size W wr ∧ Blk wr W.heap.size 23 zero32 ∧ Blk wr D 23 (Bs ((outB S).take (4 * k) ++ List.replicate (32 - 4 * k) 0))
theorem outIn0 {W w6 : World} {S : St} (hb : Below W.heap.size W w6) (hz : Blk w6 W.heap.size 23 zero32) : OutIn W w6.heap.size S 0 (w6.alloc (.cells zero32.toArray 23)) :=
  ⟨hb.alloc hb.size _, hz.alloc _, Blk.new w6 _ _⟩
theorem out_step4 {W wr : World} {D : Nat} {cs cs' : List Value} (hb : Below W.heap.size W wr) (hz : Blk wr W.heap.size 23 zero32) (hD : Blk wr D 23 cs) (hlt : W.heap.size < D) (o : Nat) (a b c d : Value)
    (he : (((cs.set o a).set (o + 1) b).set (o + 2) c).set (o + 3) d = cs') :
    Below W.heap.size W ((((wr.setCell ⟨D, o, none⟩ a).setCell ⟨D, o + 1, none⟩ b).setCell ⟨D, o + 2, none⟩ c).setCell ⟨D, o + 3, none⟩ d) ∧
      Blk ((((wr.setCell ⟨D, o, none⟩ a).setCell ⟨D, o + 1, none⟩ b).setCell ⟨D, o + 2, none⟩ c).setCell ⟨D, o + 3, none⟩ d) W.heap.size 23 zero32 ∧
      Blk ((((wr.setCell ⟨D, o, none⟩ a).setCell ⟨D, o + 1, none⟩ b).setCell ⟨D, o + 2, none⟩ c).setCell ⟨D, o + 3, none⟩ d) D 23 cs' := by
  subst he
  have hne : W.heap.size ≠ D := by omega
  refine ⟨?_, (((hz.far (p := ⟨D, o, none⟩) hne a).far (p := ⟨D, o + 1, none⟩) hne b).far (p := ⟨D, o + 2, none⟩) hne c).far (p := ⟨D, o + 3, none⟩) hne d, (((hD.setCell o a).setCell (o + 1) b).setCell (o + 2) c).setCell (o + 3) d⟩
  have e := setCells_os D [a, b, c, d] o wr
  show Below _ W (wr.setCells D o [a, b, c, d])
  exact hb.trans ⟨e.1, e.2.1, e.2.2, by rw [size_setCells]; exact Nat.le_refl _, fun k hk => heap_setCells_other D k (by omega) [a, b, c, d] o wr⟩
section
variable {P : Program} {ops : Array Oper} {rest : List Oper} {o : Oper} {a : Act} {w : World} {Q : Exit → Act → World → Prop}
/-- An element of an array value. -/
theorem wpl_index (hgd : o.guard = none) (ty : TypeId) (x ix : Operand) (ho : o.op = .index ty x ix) (v : Value) (h0 : (Instr.index ty (a.eval x) (a.eval ix)).run P w = .ok v w)
    (h : wpList P ops Q rest (a.put o.dst v) w) : wpList P ops Q (o :: rest) a w := by
  refine wpList_plain hgd fun K hK => ?_
  unfold Oper.wp execOp
  simp only [ho, Sem.run_bind, Sem.run_pure, Result.andThen_ok, h0]
  exact hK _ _ h
end
theorem shiftB (n k : Nat) (hn : n ≤ 140737488355328) : IntKind.u8.wrap (IntKind.u64.wrap ((n : Int) * 8) / 2 ^ ((56 : Int) - 8 * (k : Int)).toNat) = ub (lenB n (56 - 8 * k)) := by
  have e1 : IntKind.u64.wrap ((n : Int) * 8) = ((8 * n : Nat) : Int) := by
    show ((n : Int) * 8) % 18446744073709551616 = _
    omega
  have e2 : ((56 : Int) - 8 * (k : Int)).toNat = 56 - 8 * k := by omega
  rw [e1, e2]
  show (((8 * n : Nat) : Int) / 2 ^ (56 - 8 * k)) % 256 = _
  unfold lenB ub
  rw [show ((2 : Int) ^ (56 - 8 * k)) = ((2 ^ (56 - 8 * k) : Nat) : Int) by simp, ← Int.natCast_ediv]
  simp
set_option maxRecDepth 100000 in
set_option maxHeartbeats 8000000 in
theorem sum_any (W : World) (B g : Nat) (s : St) (v : Value) (rs : List UInt8) (n : Nat) (h : HashAt W B g s v rs n) (hn : n ≤ 140737488355328) (hlen : rs.length < 64) :
    Calls Tryz.prog 188 #[.pointer (some ⟨g, 0, none⟩)] W fun e W' => e = .returned (.agg (Bs (digest s rs n)).toArray) ∧ Below W.heap.size W W' := by
  have z32 := z32_eq
  have z10 := z10_eq
  have z10s := z10_size
  obtain ⟨A0, c0, rfl, hc0, hm0⟩ := h.2.1.shape
  have N0 := Lib.hid h.cell.2
  have F0 : Hid (Fr W g (Us s.list ++ [.slice A0 rs.length c0, .int .u64 n]) (W.alloc (.cells zero32.toArray 23))) :=
    ⟨(Below.refl _ _).alloc (Nat.le_refl _) _, by rw [hsz]; exact Nat.le_refl _, Blk.new W _ _, h.1.alloc _, h.1.lt⟩
  have R0 := Lib.hid (h.2.1.alloc (.cells zero32.toArray 23))
  clear h
  have e9 := F0.out.hash.cell 9 _ rfl
  obtain ⟨e0, e1, e2, e3, e4, e5, e6, e7, e8⟩ := F0.out.nine
  go_enter Tryz.func188, Tryz.ntmps188
  go_wp2_with fail
  generalize W.alloc (.cells zero32.toArray 23) = W0 at *
  go_cut [3] (fun p w => SumIn0 W g n s (rs ++ [128]) p w)
  case first =>
    go_region_held3 (fun w' => w'.cell? ⟨g, 0, none⟩ = some (.int .u32 (un s.a)) ∧ w'.cell? ⟨g, 1, none⟩ = some (.int .u32 (un s.b)) ∧ w'.cell? ⟨g, 2, none⟩ = some (.int .u32 (un s.c)) ∧ w'.cell? ⟨g, 3, none⟩ = some (.int .u32 (un s.d)) ∧ w'.cell? ⟨g, 4, none⟩ = some (.int .u32 (un s.e)) ∧ w'.cell? ⟨g, 5, none⟩ = some (.int .u32 (un s.f)) ∧ w'.cell? ⟨g, 6, none⟩ = some (.int .u32 (un s.g)) ∧ w'.cell? ⟨g, 7, none⟩ = some (.int .u32 (un s.h)) ∧ w'.cell? ⟨g, 8, none⟩ = some (.slice A0 rs.length c0))
      (first | exact Fr.nine F4.out | exact Fr.nine (by with_reducible repeat (first | exact F2.out | exact F1.out | exact F0.out | apply Fr.allocZ | apply Fr.alloc | apply Fr.drew)) | go_keep)
      (first
        | (go_at_call 81; refine (clone_row _ B A0 rs.length c0 rs (by with_reducible repeat (first | exact R0.out | apply RowQ.allocZ | apply RowQ.alloc | apply RowQ.drew)) (by omega)).mono ?_; rintro e w1 ⟨v1, rfl, hr1, hb1⟩; have F1 : Hid (Fr W g (Us s.list ++ [.slice A0 rs.length c0, .int .u64 n]) w1) := Fr.below (by with_reducible repeat (first | exact F0.out | apply Fr.allocZ | apply Fr.alloc | apply Fr.drew)) hb1; have R1 := Lib.hid (hr1.mono (base' := W.heap.size + 1) (by have := F0.out.size; (try simp only [z10_size, hsz, drew_size]); first | done | omega)); have L1 := Lib.hid (fun k hk => (hr1.lt k hk)); have B1 := Lib.hid hb1; clear hr1 hb1)
        | (have _t := R1; clear _t; refine step_append_Q rfl (.tmp 20) (.tmp 21) 53 rfl (W.heap.size + 1) 5 (.int .u8 0) 1 1 Tryz.underlying53 Tryz.info5 rfl (by decide) v1 rs.length (Bs rs) rfl (by with_reducible repeat (first | exact R1.out | apply RowQ.allocZ | apply RowQ.alloc | apply RowQ.drew)) _ 1 1 [.int .u8 128] rfl (by with_reducible repeat (first | exact src_box _ _ _ (by simp only [z10_size, drew_size]) | apply src_alZ | apply src_al | refine src_below ?_ B1.out | apply src_drew)) (by omega) (by omega) (by have := F1.out.size; (try simp only [z10_size, hsz]); first | done | omega) ?_; intro v2 w2 hr2 hg2 hat2; obtain ⟨A2, c2, rfl, hc2, hm2⟩ := hr2.shape; have F2 : Hid (Fr W g (Us s.list ++ [.slice A0 rs.length c0, .int .u64 n]) w2) := Fr.grown (by with_reducible repeat (first | exact F1.out | apply Fr.allocZ | apply Fr.alloc | apply Fr.drew)) hg2 (fun k hk => (R1.out.lt k hk).1); have R2 := Lib.hid hr2; have G2 := Lib.hid hg2; clear hr2 hg2 hat2)
        | (have _t := R2; clear _t R0 e0 e1 e2 e3 e4 e5 e6 e7 e8 e9 z32 z10; first
            | (have Z1 := zero10_kept (Blk.newZ _) G2.out; have Z := Z1 (own_ne_hi L1.out (by (try simp only [hsz]); first | done | omega)); clear Z1; (try simp only [hsz] at Z); obtain ⟨⟨y0, y1, y2, y3, y4, y5, y6, y7, y8, y9⟩, x0, x1, x2, x3, x4, x5, x6, x7, x8, x9⟩ := zero10_cells Z; have s0 := F0.out.size; have s1 := F1.out.size; have s2 := F2.out.size; obtain ⟨w4, hw4, f4, h4⟩ := store10 s Z (by with_reducible repeat (first | exact F2.out | apply Fr.allocZ)) (by (try simp only [z10_size, hsz, drew_size]); first | done | omega) (row_snoc 128 128 rfl (by with_reducible repeat (first | exact R2.out | apply RowQ.allocZ))); have F4 := Lib.hid f4; have H4 := Lib.hid h4; clear Z f4 h4; go_simp; rw [← hw4]; clear hw4 y0 y1 y2 y3 y4 y5 y6 y7 y8 y9 x0 x1 x2 x3 x4 x5 x6 x7 x8 x9)
            | (have Z1 := zero10_kept ((Blk.newZ _).alloc _) G2.out; have Z := Z1 (own_ne_hi L1.out (by (try simp only [z10_size, hsz, drew_size]); first | done | omega)); clear Z1; (try simp only [z10_size, hsz, drew_size] at Z); obtain ⟨⟨y0, y1, y2, y3, y4, y5, y6, y7, y8, y9⟩, x0, x1, x2, x3, x4, x5, x6, x7, x8, x9⟩ := zero10_cells Z; have s0 := F0.out.size; have s1 := F1.out.size; have s2 := F2.out.size; obtain ⟨w4, hw4, f4, h4⟩ := store10 s Z (by with_reducible repeat (first | exact F2.out | apply Fr.allocZ)) (by (try simp only [z10_size, hsz, drew_size]); first | done | omega) (row_snoc 128 128 rfl (by with_reducible repeat (first | exact R2.out | apply RowQ.allocZ))); have F4 := Lib.hid f4; have H4 := Lib.hid h4; clear Z f4 h4; go_simp; rw [← hw4]; clear hw4 y0 y1 y2 y3 y4 y5 y6 y7 y8 y9 x0 x1 x2 x3 x4 x5 x6 x7 x8 x9)
            | (have Z0 := (Blk.newZ _).below B1.out; have Z1 := zero10_kept (Z0.alloc _) G2.out; have Z := Z1 (own_ne_lo L1.out (by (try simp only [z10_size, drew_size]); first | done | omega)); clear Z1 Z0; (try simp only [drew_size] at Z); obtain ⟨⟨y0, y1, y2, y3, y4, y5, y6, y7, y8, y9⟩, x0, x1, x2, x3, x4, x5, x6, x7, x8, x9⟩ := zero10_cells Z; have s0 := F0.out.size; have s1 := F1.out.size; have s2 := F2.out.size; obtain ⟨w4, hw4, f4, h4⟩ := store10 s Z (by with_reducible repeat (first | exact F2.out | apply Fr.allocZ)) (by (try simp only [z10_size, hsz, drew_size]); first | done | omega) (row_snoc 128 128 rfl (by with_reducible repeat (first | exact R2.out | apply RowQ.allocZ))); have F4 := Lib.hid f4; have H4 := Lib.hid h4; clear Z f4 h4; go_simp; rw [← hw4]; clear hw4 y0 y1 y2 y3 y4 y5 y6 y7 y8 y9 x0 x1 x2 x3 x4 x5 x6 x7 x8 x9)
            | (have Z0 := (Blk.newZ _).below B1.out; have Z1 := zero10_kept Z0 G2.out; have Z := Z1 (own_ne_lo L1.out (by (try simp only [z10_size, hsz, drew_size]); first | done | omega)); clear Z1 Z0; (try simp only [hsz, drew_size] at Z); obtain ⟨⟨y0, y1, y2, y3, y4, y5, y6, y7, y8, y9⟩, x0, x1, x2, x3, x4, x5, x6, x7, x8, x9⟩ := zero10_cells Z; have s0 := F0.out.size; have s1 := F1.out.size; have s2 := F2.out.size; obtain ⟨w4, hw4, f4, h4⟩ := store10 s Z (by with_reducible repeat (first | exact F2.out | apply Fr.allocZ)) (by (try simp only [z10_size, hsz, drew_size]); first | done | omega) (row_snoc 128 128 rfl (by with_reducible repeat (first | exact R2.out | apply RowQ.allocZ))); have F4 := Lib.hid f4; have H4 := Lib.hid h4; clear Z f4 h4; go_simp; rw [← hw4]; clear hw4 y0 y1 y2 y3 y4 y5 y6 y7 y8 y9 x0 x1 x2 x3 x4 x5 x6 x7 x8 x9)
            | (have Z0 := ((Blk.newZ _).alloc _).below B1.out; have Z1 := zero10_kept Z0 G2.out; have Z := Z1 (own_ne_lo L1.out (by (try simp only [z10_size, hsz, drew_size]); first | done | omega)); clear Z1 Z0; (try simp only [drew_size] at Z); obtain ⟨⟨y0, y1, y2, y3, y4, y5, y6, y7, y8, y9⟩, x0, x1, x2, x3, x4, x5, x6, x7, x8, x9⟩ := zero10_cells Z; have s0 := F0.out.size; have s1 := F1.out.size; have s2 := F2.out.size; obtain ⟨w4, hw4, f4, h4⟩ := store10 s Z (by with_reducible repeat (first | exact F2.out | apply Fr.allocZ)) (by (try simp only [z10_size, hsz, drew_size]); first | done | omega) (row_snoc 128 128 rfl (by with_reducible repeat (first | exact R2.out | apply RowQ.allocZ))); have F4 := Lib.hid f4; have H4 := Lib.hid h4; clear Z f4 h4; go_simp; rw [← hw4]; clear hw4 y0 y1 y2 y3 y4 y5 y6 y7 y8 y9 x0 x1 x2 x3 x4 x5 x6 x7 x8 x9)
            | (have Z := Blk.newZ w2; (try simp only [z10_size, hsz, drew_size] at Z); obtain ⟨⟨y0, y1, y2, y3, y4, y5, y6, y7, y8, y9⟩, x0, x1, x2, x3, x4, x5, x6, x7, x8, x9⟩ := zero10_cells Z; have s0 := F0.out.size; have s1 := F1.out.size; have s2 := F2.out.size; obtain ⟨w4, hw4, f4, h4⟩ := store10 s Z (by with_reducible repeat (first | exact F2.out | apply Fr.allocZ)) (by (try simp only [z10_size, hsz, drew_size]); first | done | omega) (row_snoc 128 128 rfl (by with_reducible repeat (first | exact R2.out | apply RowQ.allocZ))); have F4 := Lib.hid f4; have H4 := Lib.hid h4; clear Z f4 h4; go_simp; rw [← hw4]; clear hw4 y0 y1 y2 y3 y4 y5 y6 y7 y8 y9 x0 x1 x2 x3 x4 x5 x6 x7 x8 x9)
            ))
    all_goals (go_wp2_with fail; go_meet; exact sumIn_of F4.out H4.out)
  case rest =>
    obtain ⟨gc, rfl, hS⟩ := hcut
    have S0 := Lib.hid hS
    clear hS R0 e0 e1 e2 e3 e4 e5 e6 e7 e8 e9 z10 z10s hc0 hm0
    go_wp2_with fail
    have G0 := F0.out.old
    clear F0
    go_loopg [24] (padz (rs.length + 1)) (fun k _ wr => SumG W g n gc s (rs ++ [128]) (padz (rs.length + 1)) k wr)
    case atStart => exact ⟨_, 0, rfl, by simp, Nat.zero_add _, S0.out⟩
    case round =>
      obtain ⟨bs1, j, hlen1, hbs, hj, hb, hz, hgc, h9, v2, hH⟩ := hrel
      clear S0
      obtain ⟨A2, c2, rfl, hc2, hm2⟩ := hH.2.1.shape
      obtain ⟨d8, d9⟩ := hH.cell
      have f8 := hH.1.frozen 8
      have H1 := Lib.hid (Core.mk hb hz hgc hH)
      have HJ := Lib.hid (And.intro hlen1 (And.intro hbs hj))
      have l1 : bs1.length < 200 := by have := padz_lt (rs.length + 1); simp at hlen1; omega
      by_cases hd : (bs1.length : Int) % 64 = 56
      · have hd2 : ((bs1.length : Int) % 64 != 56) = false := by simp [hd]
        clear hb hz hgc hH hlen1 hbs hj
        go_wp2_with fail
        have L0 := Lib.hid (sum_loop0 h9 H1.out (HJ.out.2.1) (by have := HJ.out; exact padz_of_mod' this.1 this.2.2 hd))
        clear h9 H1 HJ d8 d9 f8 hd hd2
        generalize wr = w5 at L0 ⊢
        go_loopw [4] (fun i wr => ∃ k : Nat, k ≤ 8 ∧ i = .int .i64 (56 - 8 * k) ∧ SumIn W g n gc s (rs ++ 128 :: List.replicate (padz (rs.length + 1)) 0 ++ (len8 n).take k) 0 wr) (fun i _ => (intOf i + 8).toNat)
        case atStart => exact ⟨0, by omega, rfl, by simpa using L0.out⟩
        case round =>
          obtain ⟨k, hk, rfl, hb, hz, hgc, h9, v4, hH⟩ := hrel
          clear L0
          obtain ⟨bs2, hbs2⟩ : ∃ b, b = rs ++ 128 :: List.replicate (padz (rs.length + 1)) 0 ++ (len8 n).take k := ⟨_, rfl⟩
          rw [← hbs2] at hH
          have hl2 : bs2.length < 300 := by have := padz_lt (rs.length + 1); rw [hbs2]; simp; omega
          obtain ⟨A4, c4, rfl, hc4, hm4⟩ := hH.2.1.shape
          obtain ⟨d8, d9⟩ := hH.cell
          have f8 := hH.1.frozen 8
          have H2 := Lib.hid (Core.mk hb hz hgc hH)
          have HJ := Lib.hid hbs2
          clear hb hz hgc hH hbs2
          by_cases hk8 : k = 8
          · subst hk8
            go_wp2_with (go_at_call 187; refine (put_any wr (W.heap.size + 1) gc s (.slice A4 bs2.length c4) bs2 0 none 0 0 [] H2.out.hash Src.none (by intro ad e; cases e) (by omega) (by simp) (by omega) (by have := H2.out.hash.1.lt; have := H2.out.gt; omega)).mono ?_; rintro e w6 ⟨rfl, P6⟩; obtain ⟨S, hS⟩ : ∃ S, S = (absorb s (bs2 ++ [])).1 := ⟨_, rfl⟩; rw [← hS] at P6; have P7 := Lib.hid (after_put H2.out P6); obtain ⟨e0, e1, e2, e3, e4, e5, e6, e7⟩ := P7.out.2.2; have HS := Lib.hid hS; clear hS P6 d8 d9 f8 h9)
            have U0 := Lib.hid (outIn0 (S := S) P7.out.1 P7.out.2.1)
            have D0 : W.heap.size < w6.heap.size := P7.out.2.1.lt
            clear P7 e0 e1 e2 e3 e4 e5 e6 e7
            go_loopw [54] (fun i wr => ∃ k : Nat, k ≤ 8 ∧ i = .int .i64 k ∧ OutIn W w6.heap.size S k wr) (fun i _ => 8 - (intOf i).toNat)
            case atStart => exact ⟨0, by omega, rfl, U0.out⟩
            case round =>
              obtain ⟨k, hk, rfl, hb, hz, hD⟩ := hrel
              clear U0
              have hb := Lib.hid hb
              have hz := Lib.hid hz
              have hD := Lib.hid hD
              have hk' : k = 0 ∨ k = 1 ∨ k = 2 ∨ k = 3 ∨ k = 4 ∨ k = 5 ∨ k = 6 ∨ k = 7 ∨ k = 8 := by omega
              rcases hk' with rfl | rfl | rfl | rfl | rfl | rfl | rfl | rfl | rfl
              · have x0 := hD.out.cell 0 _ rfl
                have x1 := hD.out.cell 1 _ rfl
                have x2 := hD.out.cell 2 _ rfl
                have x3 := hD.out.cell 3 _ rfl
                have y0 := hD.out.frozen 0
                have y1 := hD.out.frozen 1
                have y2 := hD.out.frozen 2
                have y3 := hD.out.frozen 3
                go_wp2_with (refine wpl_index rfl 208 _ _ rfl (.int .u32 (un S.a)) rfl ?_)
                go_roundw
                case measure => decide
                case rel => exact ⟨1, by omega, by go_num, out_step4 hb.out hz.out hD.out D0 0 _ _ _ _ rfl⟩
              · have x0 := hD.out.cell 4 _ rfl
                have x1 := hD.out.cell 5 _ rfl
                have x2 := hD.out.cell 6 _ rfl
                have x3 := hD.out.cell 7 _ rfl
                have y0 := hD.out.frozen 4
                have y1 := hD.out.frozen 5
                have y2 := hD.out.frozen 6
                have y3 := hD.out.frozen 7
                go_wp2_with (refine wpl_index rfl 208 _ _ rfl (.int .u32 (un S.b)) rfl ?_)
                go_roundw
                case measure => decide
                case rel => exact ⟨2, by omega, by go_num, out_step4 hb.out hz.out hD.out D0 4 _ _ _ _ rfl⟩
              · have x0 := hD.out.cell 8 _ rfl
                have x1 := hD.out.cell 9 _ rfl
                have x2 := hD.out.cell 10 _ rfl
                have x3 := hD.out.cell 11 _ rfl
                have y0 := hD.out.frozen 8
                have y1 := hD.out.frozen 9
                have y2 := hD.out.frozen 10
                have y3 := hD.out.frozen 11
                go_wp2_with (refine wpl_index rfl 208 _ _ rfl (.int .u32 (un S.c)) rfl ?_)
                go_roundw
                case measure => decide
                case rel => exact ⟨3, by omega, by go_num, out_step4 hb.out hz.out hD.out D0 8 _ _ _ _ rfl⟩
              · have x0 := hD.out.cell 12 _ rfl
                have x1 := hD.out.cell 13 _ rfl
                have x2 := hD.out.cell 14 _ rfl
                have x3 := hD.out.cell 15 _ rfl
                have y0 := hD.out.frozen 12
                have y1 := hD.out.frozen 13
                have y2 := hD.out.frozen 14
                have y3 := hD.out.frozen 15
                go_wp2_with (refine wpl_index rfl 208 _ _ rfl (.int .u32 (un S.d)) rfl ?_)
                go_roundw
                case measure => decide
                case rel => exact ⟨4, by omega, by go_num, out_step4 hb.out hz.out hD.out D0 12 _ _ _ _ rfl⟩
              · have x0 := hD.out.cell 16 _ rfl
                have x1 := hD.out.cell 17 _ rfl
                have x2 := hD.out.cell 18 _ rfl
                have x3 := hD.out.cell 19 _ rfl
                have y0 := hD.out.frozen 16
                have y1 := hD.out.frozen 17
                have y2 := hD.out.frozen 18
                have y3 := hD.out.frozen 19
                go_wp2_with (refine wpl_index rfl 208 _ _ rfl (.int .u32 (un S.e)) rfl ?_)
                go_roundw
                case measure => decide
                case rel => exact ⟨5, by omega, by go_num, out_step4 hb.out hz.out hD.out D0 16 _ _ _ _ rfl⟩
              · have x0 := hD.out.cell 20 _ rfl
                have x1 := hD.out.cell 21 _ rfl
                have x2 := hD.out.cell 22 _ rfl
                have x3 := hD.out.cell 23 _ rfl
                have y0 := hD.out.frozen 20
                have y1 := hD.out.frozen 21
                have y2 := hD.out.frozen 22
                have y3 := hD.out.frozen 23
                go_wp2_with (refine wpl_index rfl 208 _ _ rfl (.int .u32 (un S.f)) rfl ?_)
                go_roundw
                case measure => decide
                case rel => exact ⟨6, by omega, by go_num, out_step4 hb.out hz.out hD.out D0 20 _ _ _ _ rfl⟩
              · have x0 := hD.out.cell 24 _ rfl
                have x1 := hD.out.cell 25 _ rfl
                have x2 := hD.out.cell 26 _ rfl
                have x3 := hD.out.cell 27 _ rfl
                have y0 := hD.out.frozen 24
                have y1 := hD.out.frozen 25
                have y2 := hD.out.frozen 26
                have y3 := hD.out.frozen 27
                go_wp2_with (refine wpl_index rfl 208 _ _ rfl (.int .u32 (un S.g)) rfl ?_)
                go_roundw
                case measure => decide
                case rel => exact ⟨7, by omega, by go_num, out_step4 hb.out hz.out hD.out D0 24 _ _ _ _ rfl⟩
              · have x0 := hD.out.cell 28 _ rfl
                have x1 := hD.out.cell 29 _ rfl
                have x2 := hD.out.cell 30 _ rfl
                have x3 := hD.out.cell 31 _ rfl
                have y0 := hD.out.frozen 28
                have y1 := hD.out.frozen 29
                have y2 := hD.out.frozen 30
                have y3 := hD.out.frozen 31
                go_wp2_with (refine wpl_index rfl 208 _ _ rfl (.int .u32 (un S.h)) rfl ?_)
                go_roundw
                case measure => decide
                case rel => exact ⟨8, by omega, by go_num, out_step4 hb.out hz.out hD.out D0 28 _ _ _ _ rfl⟩
              · have hD8 : Blk wr w6.heap.size 23 (Bs (outB S)) := hD.out
                have hD := Lib.hid hD8
                clear hD8
                go_wp2_with (first | (refine wpl_load rfl 23 (.tmp 5) rfl w6.heap.size rfl 23 _ hD.out 32 5 Tryz.underlying23 (by rw [Tryz.size32]; simp) ?_) | (refine wpl_store rfl 23 (.tmp 2) _ rfl W.heap.size (Bs (outB S)) rfl rfl 23 _ hz.out (by rw [Tryz.size32]; simp) (by simp [zero32]) (Bs_one _) ?_))
                refine bodyPost_ret (v := .agg (Bs (outB S)).toArray) (res_row rfl _ _ W.heap.size 23 _ 32 5 rfl (hz.out.row _) Tryz.underlying23 (by rw [Tryz.size32]; simp)) rfl ⟨?_, below_setRow' hb.out (Nat.le_refl _) _⟩
                rw [HS.out, HJ.out]
                simp [digest, tailB, len8]
          · have hk7 : k < 8 := by omega
            have q1 : (0 : Int) ≤ 56 - 8 * k := by omega
            have q2 := shiftB n k hn
            have d8a : ∀ o, (wr.alloc o).cell? ⟨gc, 8, none⟩ = some (.slice A4 bs2.length c4) := fun o => (World.cell?_alloc_some wr _ o (by rw [d8]; rfl)).trans d8
            go_wp2_with fail
            go_region_law (first | (refine step_append_Q rfl (.tmp 39) (.tmp 48) 53 rfl (W.heap.size + 1) 5 (.int .u8 0) 1 1 Tryz.underlying53 Tryz.info5 rfl (by decide) (.slice A4 bs2.length c4) bs2.length (Bs bs2) rfl (by with_reducible repeat (first | exact H2.out.row | apply RowQ.alloc | apply RowQ.drew)) _ 1 1 _ rfl (by with_reducible repeat (first | exact src_box _ _ _ (by simp only) | apply src_drew)) (by omega) (by omega) (by have := H2.out.low.size; (try simp only [hsz, drew_size]); first | done | omega) ?_; intro v3 w3 hr3 hg3 hat3; obtain ⟨A3, c3, rfl, hc3, hm3⟩ := hr3.shape; obtain ⟨b1, P1⟩ := sum_step (lenB n (56 - 8 * k)) rfl G0 N0.out (by with_reducible repeat (first | exact H2.out | apply Core.alloc | apply Core.drew)) hr3 hg3; have x8 := b1.cell 8 _ rfl; have y8 := b1.frozen 8; have P1' := Lib.hid P1; clear P1 hr3 hg3 hat3 b1))
            all_goals
              go_wp2_with fail
              go_roundw
              case measure => show (56 - 8 * (k : Int) - 8 + 8).toNat < (56 - 8 * (k : Int) + 8).toNat; omega
              case rel => exact ⟨k + 1, by omega, by go_num, by rw [take_len8 n k hk7, ← List.append_assoc, ← HJ.out]; exact P1'.out⟩
      · have hd2 : ((bs1.length : Int) % 64 != 56) = true := by simp [hd]
        clear hb hz hgc hH hlen1 hbs hj
        go_wp2_with (at_builtin; refine wpl_append rfl (.tmp 30) (.tmp 31) 53 rfl (W.heap.size + 1) 5 (.int .u8 0) 1 1 Tryz.underlying53 Tryz.info5 rfl (by decide) (.slice A2 bs1.length c2) bs1.length (Bs bs1) rfl (H1.out.hash.2.1.alloc _) _ 1 1 [.int .u8 0] rfl (src_box _ _ _ rfl) (by omega) (by omega) (by rw [hsz]; have := H1.out.low.size; omega) ?_; intro v3 w3 hr3 hg3 hat3; obtain ⟨A3, c3, rfl, hc3, hm3⟩ := hr3.shape; obtain ⟨b1, P1⟩ := sum_step 0 rfl G0 N0.out (H1.out.alloc _) hr3 hg3; have x8 := b1.cell 8 _ rfl; have y8 := b1.frozen 8; have P1' := Lib.hid P1; clear P1 hr3 hg3 hat3 b1)
        have hlt : j < padz (rs.length + 1) := by
          obtain ⟨q1, q2, q3⟩ := HJ.out
          rcases Nat.lt_or_ge j (padz (rs.length + 1)) with h | h
          · exact h
          · exfalso
            have e : j = padz (rs.length + 1) := by omega
            have := padz_mod (rs.length + 1)
            rw [← e] at this
            simp at q1
            omega
        go_roundg (padz (rs.length + 1) - (j + 1))
        case measure => have := HJ.out.2.2; omega
        case rel => exact ⟨bs1 ++ [0], j + 1, by have := HJ.out.1; simp at this ⊢; omega, by rw [HJ.out.2.1, List.replicate_succ', List.append_assoc], by omega, P1'.out⟩
end Go.Proofs.YtpbnigpdpkfpaaaGreatDoor
namespace Go.Proofs.YtpbnigpdpkfpaaaGreatDoor
open Go.RowKit
/-- A digit. -/
def hexd (n : Nat) : UInt8 := [48, 49, 50, 51, 52, 53, 54, 55, 56, 57, 97, 98, 99, 100, 101, 102].getD n 0
def hex2 (b : UInt8) : List UInt8 := [hexd (b.toNat / 16), hexd (b.toNat % 16)]
def hexL (bs : List UInt8) : List UInt8 := bs.flatMap hex2
theorem hexL_snoc (bs : List UInt8) (b : UInt8) : hexL (bs ++ [b]) = hexL bs ++ hex2 b := by simp [hexL]
@[simp] theorem hexL_length (bs : List UInt8) : (hexL bs).length = 2 * bs.length := by
  induction bs with
  | nil => rfl
  | cons b r ih => simp [hexL, hex2] at ih ⊢; omega
def digitsB : ByteArray := ⟨#[48, 49, 50, 51, 52, 53, 54, 55, 56, 57, 97, 98, 99, 100, 101, 102]⟩
theorem digits_at (n : Nat) (h : n < 16) : digitsB[n]? = some (hexd n) := by
  have : ∀ m : Fin 16, digitsB[m.val]? = some (hexd m.val) := by decide
  exact this ⟨n, h⟩
theorem and15 (b : UInt8) : bits .and .u8 (ub b) 15 = ((b.toNat % 16 : Nat) : Int) := by
  have h : ∀ n : Fin 256, bits .and .u8 ((n.val : Nat) : Int) 15 = ((n.val % 16 : Nat) : Int) := by decide +kernel
  exact h ⟨b.toNat, b.toNat_lt⟩
end Go.Proofs.YtpbnigpdpkfpaaaGreatDoor
namespace Go.Proofs.YtpbnigpdpkfpaaaGreatDoor
open Go.RowKit
/-- A row of bytes as a text. -/
theorem run_str (w : World) (A : Option Addr) (m c : Nat) (bs : List UInt8) (h : Src w 1 A m (Bs bs)) :
    (convert 53 9 (.slice A m c)).run Tryz.prog w = .ok (.string ⟨bs.toArray⟩) w := by
  have hs := Tryz.underlying53
  have he : Tryz.prog.underlying 5 = some (.int .u8) := by kernel_rfl
  have hd : Tryz.prog.underlying 9 = some .string := by kernel_rfl
  have hl : bs.length = m := by have := h.1; simpa using this
  rw [run_convert_bytes_string w _ _ _ _ _ _ hs he hd]
  rcases A with _ | ad
  · rcases m with _ | m
    · have : bs = [] := List.eq_nil_of_length_eq_zero hl
      subst this
      simp [Conv.bytesToString]
      rfl
    · obtain ⟨ad, e, _⟩ := h.2.1 (by omega); cases e
  · have hc : ∀ j u, (Bs bs)[j]? = some u → w.cell? (ad.add j) = some u := by
      intro j u hu
      have hm : 0 < m := by
        rcases Nat.eq_zero_or_pos m with h0 | h0
        · have e : (Bs bs)[j]? = none := List.getElem?_eq_none (by simp; omega)
          rw [e] at hu; cases hu
        · exact h0
      obtain ⟨ad', e, hc⟩ := h.2.1 hm
      obtain rfl : ad = ad' := Option.some.inj e
      exact hc j u hu
    have e1 : Bs bs = (bs.map fun b => (b.toNat : Int)).map (Value.int .u8) := by simp [Bs, ub]
    have hl2 : (loadCells ad m).run Tryz.prog w = .ok ((bs.map fun b => (b.toNat : Int)).map (Value.int .u8)).toArray w := by
      have := run_loadCells_list (P := Tryz.prog) w ad (Bs bs) hc
      rw [e1] at this
      simpa [hl] using this
    rw [run_bytesToString w ad m c _ hl2, foldl_push_bytes]
    simp [ByteArray.empty, ByteArray.emptyWithCapacity, Function.comp_def]
    rfl
section
variable {P : Program} {ops : Array Oper} {rest : List Oper} {o : Oper} {a : Act} {w : World} {Q : Exit → Act → World → Prop}
/-- A conversion, by what it runs to. -/
theorem wpl_conv (hgd : o.guard = none) (t1 t2 : TypeId) (x : Operand) (ho : o.op = .convert t1 t2 x) (v : Value) (h0 : (convert t1 t2 (a.eval x)).run P w = .ok v w)
    (h : wpList P ops Q rest (a.put o.dst v) w) : wpList P ops Q (o :: rest) a w := by
  refine wpList_plain hgd fun K hK => ?_
  unfold Oper.wp execOp
  simp only [ho, Sem.run_bind, Sem.run_pure, Result.andThen_ok, h0]
  exact hK _ _ h
end
/-- A number in base 16, no nought ahead. -/
def hexS (n : Nat) : List UInt8 := if n < 16 then [hexd n] else hexS (n / 16) ++ [hexd (n % 16)]
theorem hexS_lt {n : Nat} (h : n < 16) : hexS n = [hexd n] := by rw [hexS, if_pos h]
theorem hexS_ge {n : Nat} (h : 16 ≤ n) : hexS n = hexS (n / 16) ++ [hexd (n % 16)] := by rw [hexS, if_neg (by omega)]
theorem hexS_pos (n : Nat) : 1 ≤ (hexS n).length := by
  rw [hexS]; split <;> simp
theorem hexS_len (k : Nat) : ∀ n, n < 16 ^ (k + 1) → (hexS n).length ≤ k + 1 := by
  induction k with
  | zero => intro n h; rw [hexS_lt (by simpa using h)]; simp
  | succ k ih =>
    intro n h
    rcases Nat.lt_or_ge n 16 with h1 | h1
    · rw [hexS_lt h1]; simp
    · rw [hexS_ge h1, List.length_append]
      have := ih (n / 16) (by rw [Nat.pow_succ] at h; omega)
      simp; omega
def digits36 : ByteArray := ⟨#[48, 49, 50, 51, 52, 53, 54, 55, 56, 57, 97, 98, 99, 100, 101, 102, 103, 104, 105, 106, 107, 108, 109, 110, 111, 112, 113, 114, 115, 116, 117, 118, 119, 120, 121, 122]⟩
theorem digits36_at (n : Nat) (h : n < 16) : digits36[n]? = some (hexd n) := by
  have : ∀ m : Fin 16, digits36[m.val]? = some (hexd m.val) := by decide
  exact this ⟨n, h⟩
theorem run_digit36 (W : World) (n : Nat) (h : n < 16) : (Instr.index 9 (.string digits36) (.int .u64 n)).run Tryz.prog W = .ok (.int .u8 (ub (hexd n))) W := by
  have hu : Tryz.prog.underlying 9 = some .string := by kernel_rfl
  unfold Instr.index
  simp [go_sem, digits36_at n h]
  rfl
def zero65 : List Value := Bs (List.replicate 65 0)
theorem z65_eq : (Obj.cells #[.int .u8 0, .int .u8 0, .int .u8 0, .int .u8 0, .int .u8 0, .int .u8 0, .int .u8 0, .int .u8 0, .int .u8 0, .int .u8 0, .int .u8 0, .int .u8 0, .int .u8 0, .int .u8 0, .int .u8 0, .int .u8 0, .int .u8 0, .int .u8 0, .int .u8 0, .int .u8 0, .int .u8 0, .int .u8 0, .int .u8 0, .int .u8 0, .int .u8 0, .int .u8 0, .int .u8 0, .int .u8 0, .int .u8 0, .int .u8 0, .int .u8 0, .int .u8 0, .int .u8 0, .int .u8 0, .int .u8 0, .int .u8 0, .int .u8 0, .int .u8 0, .int .u8 0, .int .u8 0, .int .u8 0, .int .u8 0, .int .u8 0, .int .u8 0, .int .u8 0, .int .u8 0, .int .u8 0, .int .u8 0, .int .u8 0, .int .u8 0, .int .u8 0, .int .u8 0, .int .u8 0, .int .u8 0, .int .u8 0, .int .u8 0, .int .u8 0, .int .u8 0, .int .u8 0, .int .u8 0, .int .u8 0, .int .u8 0, .int .u8 0, .int .u8 0, .int .u8 0] 301 : Obj) = .cells zero65.toArray 301 := rfl
theorem run_pow2 (W : World) : Calls Tryz.prog 276 #[.int .i64 16] W fun e W' => e = .returned (.bool true) ∧ W' = W := by
  go_enter Tryz.func276, Tryz.ntmps276
  go_wp2
  go_ret
  exact ⟨rfl, rfl⟩
/-- The table of the trailing noughts, as it is laid. -/
def Deb (W : World) : Prop := W.cell? ⟨8, 15, none⟩ = some (.int .u8 4)
theorem tz64_16 (W : World) (hT : Deb W) : Calls Tryz.prog 295 #[.int .u64 16] W fun e W' => e = .returned (.int .i64 4) ∧ W' = W := by
  have hc : W.cell? ⟨8, 15, none⟩ = some (.int .u8 4) := hT
  clear hT
  have q1 : IntKind.u64.wrap (-16) = 18446744073709551600 := by decide
  have q2 : bits .and .u64 16 18446744073709551600 = 16 := by decide
  have q3 : IntKind.u64.wrap (16 * 285870213051353865) = 4573923408821661840 := by decide
  go_enter Tryz.func295, Tryz.ntmps295
  go_wp2
  go_ret
  exact ⟨rfl, rfl⟩
theorem tz_16 (W : World) (hT : Deb W) : Calls Tryz.prog 277 #[.int .u64 16] W fun e W' => e = .returned (.int .i64 4) ∧ W' = W := by
  have HT := Lib.hid hT
  clear hT
  go_enter Tryz.func277, Tryz.ntmps277
  go_wp2_with (go_at_call 295; refine (tz64_16 _ HT.out).mono ?_; rintro e w' ⟨rfl, rfl⟩)
  go_ret
  exact ⟨rfl, rfl⟩
end Go.Proofs.YtpbnigpdpkfpaaaGreatDoor
namespace Go.Proofs.YtpbnigpdpkfpaaaGreatDoor
open Go.RowKit
/-- The digits so far stand at the array's end. -/
def FbIn (W : World) (u0 u : Nat) (ds : List UInt8) (wr : World) : Prop :=
  hexS u0 = hexS u ++ ds ∧ u * 16 ^ ds.length ≤ u0 ∧ Below W.heap.size W wr ∧ ∃ cs, Blk wr W.heap.size 301 cs ∧ cs.length = 65 ∧ cs.drop (65 - ds.length) = Bs ds
theorem fb_start (W wr : World) (u0 : Nat) (hb : Below W.heap.size W wr) (h : Blk wr W.heap.size 301 zero65) : FbIn W u0 u0 [] wr :=
  ⟨by simp, by simp, hb, zero65, h, by simp [zero65], by simp [zero65, Bs]⟩
theorem FbIn.small {W wr : World} {u0 u : Nat} {ds : List UInt8} (h : FbIn W u0 u ds wr) (h0 : u0 < 18446744073709551616) (hu : 1 ≤ u ∨ ds = []) : ds.length ≤ 15 := by
  rcases hu with hu | rfl
  · rcases Nat.lt_or_ge ds.length 16 with hl | hl
    · omega
    · have h1 : 16 ^ 16 ≤ 16 ^ ds.length := Nat.pow_le_pow_right (by omega) hl
      have h2 : 1 * 16 ^ ds.length ≤ u * 16 ^ ds.length := Nat.mul_le_mul_right _ hu
      have := h.2.1
      omega
  · simp
theorem fb_put {W wr : World} {u0 u : Nat} {ds : List UInt8} (h : FbIn W u0 u ds wr) (hl : ds.length < 65) (d : UInt8) (k : Nat) (hk : k = 65 - ds.length - 1) :
    Below W.heap.size W (wr.setCell ⟨W.heap.size, k, none⟩ (.int .u8 (ub d))) ∧ ∃ cs, Blk (wr.setCell ⟨W.heap.size, k, none⟩ (.int .u8 (ub d))) W.heap.size 301 cs ∧ cs.length = 65 ∧ cs.drop (65 - (d :: ds).length) = Bs (d :: ds) := by
  obtain ⟨_, _, hb, cs, hc, hcl, hd⟩ := h
  subst hk
  refine ⟨hb.setCell (Nat.le_refl _) _, _, hc.setCell _ _, by simpa using hcl, ?_⟩
  have e : 65 - (d :: ds).length = 65 - ds.length - 1 := by simp; omega
  rw [e, List.drop_eq_getElem_cons (by simp; omega)]
  rw [List.getElem_set_self, List.drop_set_of_lt (by omega), show 65 - ds.length - 1 + 1 = 65 - ds.length by omega, hd]
  rfl
theorem fb_round {W wr : World} {u0 u : Nat} {ds : List UInt8} (h : FbIn W u0 u ds wr) (hl : ds.length < 65) (hu : 16 ≤ u) (k : Nat) (hk : k = 65 - ds.length - 1) :
    FbIn W u0 (u / 16) (hexd (u % 16) :: ds) (wr.setCell ⟨W.heap.size, k, none⟩ (.int .u8 (ub (hexd (u % 16))))) := by
  obtain ⟨h1, h2⟩ := fb_put h hl (hexd (u % 16)) k hk
  refine ⟨?_, ?_, h1, h2⟩
  · rw [h.1, hexS_ge hu]; simp
  · refine Nat.le_trans ?_ h.2.1
    rw [List.length_cons, Nat.pow_succ, ← Nat.mul_assoc, Nat.mul_right_comm]
    exact Nat.mul_le_mul_right _ (by omega)
theorem fb_last {W wr : World} {u0 u : Nat} {ds : List UInt8} (h : FbIn W u0 u ds wr) (hl : ds.length < 65) (hu : u < 16) (k : Nat) (hk : k = 65 - ds.length - 1) :
    Src (wr.setCell ⟨W.heap.size, k, none⟩ (.int .u8 (ub (hexd u)))) 1 (some ⟨W.heap.size, k, none⟩) (65 - k) (Bs (hexS u0)) ∧ Below W.heap.size W (wr.setCell ⟨W.heap.size, k, none⟩ (.int .u8 (ub (hexd u)))) := by
  obtain ⟨h1, cs, hc, hcl, hd⟩ := fb_put h hl (hexd u) k hk
  have e : hexS u0 = hexd u :: ds := by rw [h.1, hexS_lt hu]; rfl
  refine ⟨⟨by rw [e]; simp; omega, fun _ => ⟨_, rfl, fun j v hj => ?_⟩, Bs_one _⟩, h1⟩
  have ha : (⟨W.heap.size, k, none⟩ : Addr).add j = ⟨W.heap.size, k + j, none⟩ := by unfold Addr.add; split <;> simp_all
  rw [ha]
  refine hc.cell _ _ ?_
  rw [e, ← hd, List.getElem?_drop] at hj
  rw [← hj]
  congr 1
  simp; omega
theorem fb_and (u : Nat) (h : u < 18446744073709551616) : bits .and .u64 (u : Int) 15 = ((u % 16 : Nat) : Int) := by
  show IntKind.u64.wrap ((BitVec.ofInt 64 (u : Int) &&& BitVec.ofInt 64 15).toNat : Int) = _
  have e1 : (BitVec.ofInt 64 (u : Int) &&& BitVec.ofInt 64 15).toNat = u % 16 := by
    rw [BitVec.toNat_and]
    have : (BitVec.ofInt 64 (u : Int)).toNat = u := by simp; omega
    rw [this]
    exact Nat.and_two_pow_sub_one_eq_mod u 4
  rw [e1]
  show ((u % 16 : Nat) : Int) % 18446744073709551616 = _
  omega
/-- A byte array cut from k on. -/
theorem run_cutAt (T n : Nat) (hu : Tryz.prog.underlying T = some (.array n 5)) (g k : Nat) (hk : k < n) (W : World) :
    (Instr.sliceAt T (.pointer (some ⟨g, 0, none⟩)) (some (.int .i64 (k : Int))) none none).run Tryz.prog W = .ok (.slice (some ⟨g, k, none⟩) (n - k) (n - k)) W := by
  have e1 : Tryz.prog.arrayLen T = n := by simp [Program.arrayLen, hu]
  have e2 : Tryz.prog.elem T = 5 := by simp [Program.elem, hu]
  have hs : (sizeOf 5).run Tryz.prog W = .ok 1 W := by kernel_rfl
  rw [run_sliceAt_array_l W T ⟨g, 0, none⟩ (by rw [e1, e2]; exact hu) .i64 (k : Int) (Int.natCast_nonneg _) (by rw [e1]; omega), e1, e2, hs]
  have ha : (⟨g, 0, none⟩ : Addr).add k = ⟨g, k, none⟩ := by unfold Addr.add; split <;> simp_all
  simp only [Result.andThen, slicedAt, Int.toNat_natCast]
  rw [if_neg (by omega), Nat.mul_one, ha]
def FbPost (W : World) (u0 : Nat) (e : Ending) (W' : World) : Prop := e = .returned (.tuple #[.slice none 0 0, .string ⟨(hexS u0).toArray⟩]) ∧ Below W.heap.size W W'
set_option maxRecDepth 100000 in
set_option maxHeartbeats 1000000 in
theorem fbits_16 (W : World) (u0 : Nat) (h0 : u0 < 18446744073709551616) (hT : Deb W) : Calls Tryz.prog 243 #[.slice none 0 0, .int .u64 u0, .int .i64 16, .bool false, .bool false] W (FbPost W u0) := by
  have z65 := z65_eq
  have HT : Hid (Deb (W.alloc (.cells zero65.toArray 301))) := by
    have h1 : W.cell? ⟨8, 15, none⟩ = some (.int .u8 4) := hT
    exact (World.cell?_alloc_some W _ _ (by rw [h1]; rfl)).trans h1
  clear hT
  have HB : Hid (FbIn W u0 u0 [] (W.alloc (.cells zero65.toArray 301))) := fb_start W _ u0 ((Below.refl _ _).alloc (Nat.le_refl _) _) (Blk.new W _ _)
  go_enter Tryz.func243, Tryz.ntmps243
  go_wp2_with (first | (go_at_call 276; refine (run_pow2 _).mono ?_; rintro e w' ⟨rfl, rfl⟩) | (go_at_call 277; refine (tz_16 _ HT.out).mono ?_; rintro e w' ⟨rfl, rfl⟩))
  generalize W.alloc (.cells zero65.toArray 301) = W0 at HB HT ⊢
  go_loopw [1, 13] (fun v i wr => ∃ (u : Nat) (ds : List UInt8), v = .int .u64 u ∧ i = .int .i64 (65 - ds.length : Nat) ∧ (1 ≤ u ∨ ds = []) ∧ FbIn W u0 u ds wr) (fun v _ _ => (intOf v).toNat)
  case atStart => exact ⟨u0, [], rfl, rfl, .inr rfl, HB.out⟩
  case round =>
    obtain ⟨u, ds, rfl, rfl, hu, hI⟩ := hrel
    have hs := hI.small h0 hu
    clear HB z65
    have u64 : (u : Int) < 18446744073709551616 := by
      have h1 : u * 1 ≤ u * 16 ^ ds.length := Nat.mul_le_mul_left _ (Nat.one_le_pow _ _ (by omega))
      have := hI.2.1
      omega
    obtain ⟨k, hk⟩ : ∃ k, k = 65 - ds.length - 1 := ⟨_, rfl⟩
    have hk1 : 65 - ds.length = k + 1 := by omega
    have l1 : k < 65 := by omega
    have l1' : (k : Int) < 65 := by omega
    obtain ⟨x, hx⟩ : ∃ x, wr.cell? ⟨W.heap.size, k, none⟩ = some x := by
      obtain ⟨_, _, _, cs, hc, hcl, _⟩ := hI
      exact ⟨_, hc.cell k _ (List.getElem?_eq_getElem (show k < cs.length by omega))⟩
    have hf : wr.frozen? ⟨W.heap.size, k, none⟩ = false := by
      obtain ⟨_, _, _, cs, hc, hcl, _⟩ := hI
      exact hc.frozen k
    rw [hk1]
    have HI := Lib.hid hI
    have HK := Lib.hid hk
    have HU := Lib.hid hu
    have HS := Lib.hid hs
    clear hI hk hu hs hk1
    by_cases hlt : u < 16
    · have l2 : (u : Int) < 16 := by omega
      have l3 : ¬ (16 : Int) ≤ (u : Int) := by omega
      have hsl := run_cutAt 301 65 Tryz.underlying301 W.heap.size k l1
      go_wp2_with (first | (refine wpl_index rfl 9 _ _ rfl (.int .u8 (ub (hexd u))) (run_digit36 _ u hlt) ?_) | (refine wpl_conv rfl 53 9 _ rfl (.string ⟨(hexS u0).toArray⟩) (run_str _ _ _ _ _ (fb_last HI.out (by have := HS.out; omega) hlt k HK.out).1) ?_))
      go_ret2
      exact ⟨rfl, (fb_last HI.out (by have := HS.out; omega) hlt k HK.out).2⟩
    · obtain ⟨m, hm⟩ : ∃ m, m = u % 16 := ⟨_, rfl⟩
      have l3 : (16 : Int) ≤ (u : Int) := by omega
      have q1 : bits .and .u64 (u : Int) 15 = (m : Int) := by rw [fb_and u (by omega), hm]
      have l4 : m < 16 := by omega
      have HM := Lib.hid hm
      clear hm
      go_wp2_with (refine wpl_index rfl 9 _ _ rfl (.int .u8 (ub (hexd m))) (run_digit36 _ m l4) ?_)
      go_roundw
      case measure => simp [intOf]; omega
      case rel =>
        have hr := fb_round HI.out (by have := HS.out; omega) (by omega) k HK.out
        rw [← HM.out] at hr
        exact ⟨u / 16, hexd m :: ds, by go_num, by rw [List.length_cons, show 65 - (ds.length + 1) = k by have := HK.out; omega], .inl (by omega), hr⟩
set_option maxHeartbeats 400000 in
theorem fint_16 (W : World) (u : Nat) (h : u < 9223372036854775808) (hT : Deb W) : Calls Tryz.prog 262 #[.int .i64 u, .int .i64 16] W fun e W' => e = .returned (.string ⟨(hexS u).toArray⟩) ∧ Below W.heap.size W W' := by
  have h1 : ¬ (u : Int) < 0 := by omega
  have h2 : (u : Int) < 9223372036854775808 := by omega
  have HT := Lib.hid hT
  clear hT
  have c0 : ∀ w, Deb w → Calls Tryz.prog 225 #[.int .i64 u, .int .i64 16] w fun e W' => e = .returned (.string ⟨(hexS u).toArray⟩) ∧ Below w.heap.size w W' := by
    intro w hw
    have HW := Lib.hid hw
    clear hw
    have e1 : IntKind.u64.wrap (u : Int) = (u : Int) := by show (u : Int) % 18446744073709551616 = _; omega
    go_enter Tryz.func225, Tryz.ntmps225
    go_wp2_with (go_at_call 243; refine (fbits_16 _ u (by omega) HW.out).mono ?_; rintro e w' ⟨rfl, hb⟩; have B := Lib.hid hb; clear hb)
    go_ret
    exact ⟨rfl, B.out⟩
  go_enter Tryz.func262, Tryz.ntmps262
  go_wp2_with (go_at_call 225; refine (c0 _ HT.out).mono ?_; rintro e w' ⟨rfl, hb⟩; have B := Lib.hid hb; clear hb)
  go_ret
  exact ⟨rfl, B.out⟩
set_option maxHeartbeats 400000 in
theorem fuint_16 (W : World) (u : Nat) (h : u < 18446744073709551616) (hT : Deb W) : Calls Tryz.prog 162 #[.int .u64 u, .int .i64 16] W fun e W' => e = .returned (.string ⟨(hexS u).toArray⟩) ∧ Below W.heap.size W W' := by
  have HT := Lib.hid hT
  clear hT
  have c0 : ∀ w, Deb w → Calls Tryz.prog 207 #[.int .u64 u, .int .i64 16] w fun e W' => e = .returned (.string ⟨(hexS u).toArray⟩) ∧ Below w.heap.size w W' := by
    intro w hw
    have HW := Lib.hid hw
    clear hw
    go_enter Tryz.func207, Tryz.ntmps207
    go_wp2_with (go_at_call 243; refine (fbits_16 _ u h HW.out).mono ?_; rintro e w' ⟨rfl, hb⟩; have B := Lib.hid hb; clear hb)
    go_ret
    exact ⟨rfl, B.out⟩
  go_enter Tryz.func162, Tryz.ntmps162
  go_wp2_with (go_at_call 207; refine (c0 _ HT.out).mono ?_; rintro e w' ⟨rfl, hb⟩; have B := Lib.hid hb; clear hb)
  go_ret
  exact ⟨rfl, B.out⟩
end Go.Proofs.YtpbnigpdpkfpaaaGreatDoor
namespace Go.Proofs.YtpbnigpdpkfpaaaGreatDoor
open Go.RowKit
theorem Tryz.sizeId : (Tryz.prog.info? 24).map (·.size) = some 32 := by kernel_rfl
theorem run_atId (W : World) (bs : List UInt8) (hl : bs.length = 32) (k : Nat) (h : k < 32) : (Instr.index 24 (.agg (Bs bs).toArray) (.int .i64 k)).run Tryz.prog W = .ok (.int .u8 (ub (gb bs k))) W := by
  have hu := Tryz.underlying24
  have hg : (Bs bs)[k]? = some (.int .u8 (ub (gb bs k))) := by
    simp [Bs, gb, List.getD_eq_getElem?_getD, hl, h]
  unfold Instr.index
  simp [go_sem, h]
  rw [hg]
  rfl
def hi4 (b : UInt8) : Nat := b.toNat / 16
def lo4 (b : UInt8) : Nat := b.toNat % 16
theorem hi4_lt (b : UInt8) : hi4 b < 16 := by have := b.toNat_lt; unfold hi4; omega
theorem lo4_lt (b : UInt8) : lo4 b < 16 := by unfold lo4; omega
theorem hi4_eq (b : UInt8) : ub b / 16 = (hi4 b : Int) := by unfold ub hi4; omega
theorem lo4_eq (b : UInt8) : bits .and .u8 (ub b) 15 = (lo4 b : Int) := and15 b
theorem digit_of (n : Nat) (h : n < digitsB.size) : ((digitsB[n]'h).toNat : Int) = ub (hexd n) := by
  have h16 : n < 16 := h
  have := digits_at n h16
  rw [getElem?_pos digitsB n h] at this
  injection this with this
  rw [this]; rfl
theorem src_box2 (w : World) (x y : Int) (k : Nat) (hk : w.heap.size = k) : Src (w.alloc (.cells #[.int .u8 x, .int .u8 y] 5)) 1 (some ⟨k, 0, none⟩) 2 [.int .u8 x, .int .u8 y] := by
  subst hk
  refine ⟨rfl, fun _ => ⟨_, rfl, fun j u hu => ?_⟩, by intro u hu; simp at hu; rcases hu with rfl | rfl <;> rfl⟩
  have := (Blk.new w 5 [.int .u8 x, .int .u8 y]).cell j u (by simpa using hu)
  have e : (⟨w.heap.size, 0, none⟩ : Addr).add j = ⟨w.heap.size, j, none⟩ := by unfold Addr.add; split <;> simp_all
  rw [e]; exact this
theorem hex_round {w : World} {base : Nat} {v : Value} (bs : List UInt8) (k : Nat) (hk : k < 32) (hl : bs.length = 32)
    (h : RowQ w base 5 1 v (2 * k + 2) (Bs (hexL (bs.take k)) ++ [.int .u8 (ub (hexd (hi4 (gb bs k)))), .int .u8 (ub (hexd (lo4 (gb bs k))))])) : RowQ w base 5 1 v (2 * (k + 1)) (Bs (hexL (bs.take (k + 1)))) := by
  have e : bs.take (k + 1) = bs.take k ++ [gb bs k] := by
    rw [List.take_succ_eq_append_getElem (by omega)]
    simp [gb, List.getD_eq_getElem?_getD, hl, hk]
  rw [e, hexL_snoc, Bs_append]
  exact h
theorem grown_low {B : Nat} {W w w1 : World} {row : Option Nat} (hb : Below B W w) (hs : B ≤ w.heap.size) (hg : w.grownBy w1 row) (hr : ∀ k, row = some k → B ≤ k) : Below B W w1 := hb.grown hg hs hr
set_option maxRecDepth 100000 in
set_option maxHeartbeats 1000000 in
theorem hex_any (W : World) (bs : List UInt8) (hl : bs.length = 32) : Calls Tryz.prog 111 #[.agg (Bs bs).toArray] W fun e W' => e = .returned (.string ⟨(hexL bs).toArray⟩) ∧ Below W.heap.size W W' := by
  have hb : (Bs bs).length = 32 := by simp [hl]
  obtain ⟨cs, hcs⟩ : ∃ cs, cs = Bs bs := ⟨_, rfl⟩
  rw [← hcs]
  have HL := Lib.hid hl
  have HC := Lib.hid hcs
  clear hl hcs hb
  go_enter Tryz.func111, Tryz.ntmps111
  go_wp2_with (refine wpl_load rfl 24 (.tmp 1) rfl W.heap.size rfl 24 cs (Blk.new W _ _) 32 5 Tryz.underlying24 (by rw [Tryz.sizeId, HC.out]; simp [HL.out]) ?_)
  generalize hW0 : W.alloc (.cells cs.toArray 24) = W0
  have B0 : Hid (Below W.heap.size W W0) := by rw [← hW0]; exact (Below.refl _ _).alloc (Nat.le_refl _) _
  clear hW0
  go_loopw [3, 7] (fun v i wr => ∃ k : Nat, k ≤ 32 ∧ i = .int .i64 k ∧ RowQ wr W.heap.size 5 1 v (2 * k) (Bs (hexL (bs.take k))) ∧ Below W.heap.size W wr) (fun _ i _ => 32 - (intOf i).toNat)
  case atStart => exact ⟨0, by omega, rfl, RowQ.nil _ _ _ _, B0.out⟩
  case round =>
    obtain ⟨k, hk, rfl, hr, hb⟩ := hrel
    clear B0
    obtain ⟨A2, c2, rfl, hc2, hm2⟩ := hr.shape
    have R2 := Lib.hid hr
    have B2 := Lib.hid hb
    clear hr hb
    by_cases h32 : k = 32
    · subst h32
      go_wp2_with (refine wpl_conv rfl 53 9 _ rfl (.string ⟨(hexL (bs.take 32)).toArray⟩) (run_str _ _ _ _ _ (R2.out.src (Bs_one _))) ?_)
      go_ret
      exact ⟨by rw [List.take_of_length_le (by rw [HL.out]; omega)]; rfl, B2.out⟩
    · have hlt : k < 32 := by omega
      have l1 : (k : Int) < 32 := by omega
      go_wp2_with (refine wpl_index rfl 24 _ _ rfl (.int .u8 (ub (gb bs k))) (by rw [show Act.eval _ _ = Value.agg (Bs bs).toArray from by rw [← HC.out]; rfl]; exact run_atId _ bs HL.out k hlt) ?_)
      have q1 := hi4_eq (gb bs k)
      have q2 := lo4_eq (gb bs k)
      have b3 : (hi4 (gb bs k) : Int) < 16 := by have := hi4_lt (gb bs k); omega
      have b4 : (lo4 (gb bs k) : Int) < 16 := by have := lo4_lt (gb bs k); omega
      have q3 : ∀ n h, (((({ data := #[48, 49, 50, 51, 52, 53, 54, 55, 56, 57, 97, 98, 99, 100, 101, 102] } : ByteArray)[n]'h).toNat : Nat) : Int) = ub (hexd n) := fun n h => digit_of n h
      go_region_law (first | (refine step_append_Q rfl (.tmp 10) (.tmp 17) 53 rfl W.heap.size 5 (.int .u8 0) 1 1 Tryz.underlying53 Tryz.info5 rfl (by decide) (.slice A2 (2 * k) c2) (2 * k) (Bs (hexL (bs.take k))) rfl (by with_reducible repeat (first | exact R2.out | apply RowQ.alloc | apply RowQ.drew)) _ 2 2 _ rfl (by with_reducible repeat (first | exact src_box2 _ _ _ _ (by simp only) | apply src_drew)) (by omega) (by omega) (by have := B2.out.size; (try simp only [hsz, drew_size]); first | done | omega) ?_; intro v3 w3 hr3 hg3 hat3; have R3 := Lib.hid hr3; have G3 := Lib.hid hg3; clear hr3 hg3 hat3))
      all_goals
        go_wp2_with fail
        go_roundw
        case measure => show 32 - ((k : Int) + 1).toNat < 32 - (k : Int).toNat; omega
        case rel => exact ⟨k + 1, by omega, by go_num, hex_round bs k hlt HL.out R3.out, grown_low (by with_reducible repeat (first | exact B2.out | apply Below.drew | refine Below.alloc ?_ (by have := B2.out.size; (try simp only [drew_size]); omega) _)) (by have := B2.out.size; (try simp only [hsz, drew_size]); omega) G3.out (fun k e => (R2.out.lt k e).1)⟩
end Go.Proofs.YtpbnigpdpkfpaaaGreatDoor
namespace Go.Proofs.YtpbnigpdpkfpaaaGreatDoor
open Go.RowKit
theorem sum_end {W w3 : World} {xs : List Value} (hb : Below W.heap.size W w3) : Below W.heap.size W (w3.setRow W.heap.size xs.toArray) := below_setRow' hb (Nat.le_refl _) _
theorem sum_blk {W0 w1 w2 w3 : World} {p g : Nat} {r : Option Nat} (hz : Blk W0 p 23 zero32) (hn : W0.heap.size = p + 1) (h1 : Below W0.heap.size W0 w1) (h2 : Kept2 w1 w2 g r) (hr : r = none) (h3 : Below w2.heap.size w2 w3) (hg : W0.heap.size ≤ g) : Blk w3 p 23 zero32 :=
  Blk.below (w := w2) ((h2.block p (by have := h1.size; omega) (by omega) (by rw [hr]; simp)).trans (hz.below h1)) h3
theorem sum_low {W W0 w1 w2 w3 : World} {g : Nat} {r : Option Nat} (h0 : Below W.heap.size W W0) (h1 : Below W0.heap.size W0 w1) (h2 : Kept2 w1 w2 g r) (hr : r = none) (h3 : Below w2.heap.size w2 w3) (hg : W0.heap.size ≤ g) : Below W.heap.size W w3 := by
  have s0 := h0.size
  have s1 := h1.size
  have s2 := h2.size
  exact ((h0.trans (h1.mono s0)).trans (h2.toBelow (B := W.heap.size) (by omega) (by omega) (fun k e => by rw [hr] at e; cases e))).trans (h3.mono (by omega))
set_option maxRecDepth 100000 in
set_option maxHeartbeats 2000000 in
theorem shaSum_any (W : World) (A : Option Addr) (m c : Nat) (bs : List UInt8) (hs : Src W 1 A m (Bs bs)) (hA : ∀ ad, A = some ad → ad.block < W.heap.size) (hm : m ≤ 140737488355328) :
    Calls Tryz.prog 130 #[.slice A m c] W fun e W' => e = .returned (.agg (Bs (sha256 bs)).toArray) ∧ Below W.heap.size W W' := by
  have z32 := z32_eq
  have hl : bs.length = m := by have := hs.1; simpa using this
  have S0 := Lib.hid (hs.far (src_alloc hs (.cells zero32.toArray 23)))
  have A0 := Lib.hid hA
  have L0 := Lib.hid hl
  have B0 : Hid (Below W.heap.size W (W.alloc (.cells zero32.toArray 23))) := (Below.refl _ _).alloc (Nat.le_refl _) _
  have Z0 := Lib.hid (Blk.new W 23 zero32)
  have N0 : Hid ((W.alloc (.cells zero32.toArray 23)).heap.size = W.heap.size + 1) := hsz _ _
  clear hs hA hl
  go_enter Tryz.func130, Tryz.ntmps130
  go_wp2_with (first
    | (go_at_call 186; generalize W.alloc (.cells zero32.toArray 23) = W0 at *; refine (new_any W0).mono ?_; rintro e w1 ⟨g, rfl, hg, hH, hb⟩; have G1 := Lib.hid hg; have H1 := Lib.hid hH; have B1 := Lib.hid hb; clear hg hH hb)
    | (go_at_call 187; refine (put_any w1 W0.heap.size g st0 (.slice none 0 0) [] 0 A m c bs H1.out (src_below S0.out B1.out) (fun ad e => by have := A0.out ad e; have := G1.out; have := N0.out; omega) (by omega) (by omega) (by simp; omega) B1.out.size).mono ?_; rintro e w2 ⟨rfl, v2, h2, k2, r2⟩; rw [List.nil_append, Int.zero_add] at h2; have H2 := Lib.hid h2; have K2 := Lib.hid k2; clear h2 k2 r2)
    | (go_at_call 188; refine (sum_any w2 W0.heap.size g (absorb st0 bs).1 v2 (absorb st0 bs).2 m H2.out hm (by rw [absorb_mod]; omega)).mono ?_; rintro e w3 ⟨rfl, hb3⟩; have B3 := Lib.hid hb3; clear hb3)
    | (refine wpl_store rfl 23 (.tmp 2) _ rfl W.heap.size (Bs (digest (absorb st0 bs).1 (absorb st0 bs).2 m)) rfl rfl 23 zero32 (sum_blk Z0.out N0.out B1.out K2.out rfl B3.out G1.out) (by rw [Tryz.size32]; simp) (by simp [zero32]) (Bs_one _) ?_))
  refine bodyPost_ret (v := .agg (Bs (digest (absorb st0 bs).1 (absorb st0 bs).2 m)).toArray) (res_row rfl _ _ W.heap.size 23 _ 32 5 rfl ((sum_blk Z0.out N0.out B1.out K2.out rfl B3.out G1.out).row _) Tryz.underlying23 (by rw [Tryz.size32]; simp)) rfl ⟨?_, sum_end (sum_low B0.out B1.out K2.out rfl B3.out G1.out)⟩
  rw [← L0.out, digest_absorb]
end Go.Proofs.YtpbnigpdpkfpaaaGreatDoor
namespace Go.Proofs.YtpbnigpdpkfpaaaGreatDoor
open Go.RowKit
theorem eqItems_ints {P : Program} (w : World) (d : Nat) (e : TypeId) (k : IntKind) (he : P.underlying e = some (.int k)) (hp : P.plainKey e = true) (xs ys : Array Value) (X Y : Nat → Int) :
    ∀ is : List Nat, (∀ i ∈ is, xs[i]? = some (.int k (X i)) ∧ ys[i]? = some (.int k (Y i))) → (Op.eqItems (d + 1) e 1 xs ys is).run P w = .ok (is.all fun i => X i == Y i) w
  | [], _ => by simp [Op.eqItems]
  | i :: is, h => by
    obtain ⟨h1, h2⟩ := h i (.head _)
    have ih := eqItems_ints w d e k he hp xs ys X Y is (fun j hj => h j (.tail _ hj))
    simp only [Op.eqItems, Sem.run_bind, Nat.mul_one, run_part_plain w hp h1, run_part_plain w hp h2, Result.andThen_ok, run_equalIn_int w d e k k (X i) (Y i) he, List.all_cons]
    cases X i == Y i
    · simp
    · simpa using ih
theorem bytes_all (a b : List UInt8) (n : Nat) (ha : a.length = n) (hb : b.length = n) : ((List.range n).all fun i => ub (gb a i) == ub (gb b i)) = decide (a = b) := by
  by_cases h : a = b
  · rw [decide_eq_true h, h]; simp
  · rw [decide_eq_false h, Bool.eq_false_iff]
    intro hall
    apply h
    apply List.ext_getElem?
    intro j
    by_cases hj : j < n
    · have := List.all_eq_true.1 hall j (by simpa using hj)
      have h2 : gb a j = gb b j := ub_inj (by simpa using this)
      unfold gb at h2
      rw [List.getD_eq_getElem?_getD, List.getD_eq_getElem?_getD] at h2
      rw [List.getElem?_eq_getElem (by omega), List.getElem?_eq_getElem (by omega)] at h2 ⊢
      simpa using h2
    · rw [List.getElem?_eq_none (by omega), List.getElem?_eq_none (by omega)]
theorem eqIn_bytes (w : World) (t : TypeId) (ht : Tryz.prog.underlying t = some (.array 32 5)) (a b : List UInt8) (ha : a.length = 32) (hb : b.length = 32) :
    (Op.equalIn 10000 t (.agg (Bs a).toArray) (.agg (Bs b).toArray)).run Tryz.prog w = .ok (decide (a = b)) w := by
  obtain ⟨i, hi, hc⟩ : ∃ i, Tryz.prog.info? 5 = some i ∧ Tryz.prog.cellsOf 5 = 1 := by
    cases h : Tryz.prog.info? 5 with
    | none => have := Tryz.info5; rw [h] at this; cases this
    | some i => exact ⟨i, rfl, by kernel_rfl⟩
  rw [run_equalIn_array w 9999 _ _ ht hi, hc, eqItems_ints w 9998 5 .u8 (by kernel_rfl) (by kernel_rfl) _ _ (fun i => ub (gb a i)) (fun i => ub (gb b i)) _ (fun i hi => by
    have hi' : i < 32 := by simpa using hi
    exact ⟨by simpa using Bs_at a i (by omega), by simpa using Bs_at b i (by omega)⟩), bytes_all a b 32 ha hb]
end Go.Proofs.YtpbnigpdpkfpaaaGreatDoor
namespace Go.Proofs.YtpbnigpdpkfpaaaGreatDoor
open Go.RowKit
theorem abc_tail : [97, 98, 99] ++ tailB 3 3 = ([97, 98, 99, 128] ++ List.replicate 52 0 ++ [0, 0, 0, 0, 0, 0, 0, 24] : List UInt8) := by decide
theorem abc_absorb : (absorb st0 ([97, 98, 99] ++ tailB 3 3)).1 = mix st0 ([97, 98, 99] ++ tailB 3 3) := by
  rw [absorb_long st0 _ (by rw [abc_tail]; decide)]
  have e1 : (([97, 98, 99] : List UInt8) ++ tailB 3 3).take 64 = [97, 98, 99] ++ tailB 3 3 := by rw [abc_tail]; rfl
  have e2 : (([97, 98, 99] : List UInt8) ++ tailB 3 3).drop 64 = [] := by rw [abc_tail]; rfl
  rw [e1, e2, absorb_short _ _ (by decide)]
theorem sha_abc : sha256 [97, 98, 99] = outB (mix st0 ([97, 98, 99, 128] ++ List.replicate 52 0 ++ [0, 0, 0, 0, 0, 0, 0, 24])) := by
  have : sha256 [97, 98, 99] = outB (absorb (absorb st0 []).1 ([97, 98, 99] ++ tailB 3 3)).1 := by
    rw [absorb_short st0 [] (by decide)]
    rfl
  rw [this, absorb_short st0 [] (by decide), abc_absorb, abc_tail]
theorem abc0 : (sha256 [97, 98, 99])[0]? = some 0xba := by rw [sha_abc]; kernel_rfl
theorem abc1 : (sha256 [97, 98, 99])[1]? = some 0x78 := by rw [sha_abc]; kernel_rfl
theorem abc31 : (sha256 [97, 98, 99])[31]? = some 0xad := by rw [sha_abc]; kernel_rfl
end Go.Proofs.YtpbnigpdpkfpaaaGreatDoor
namespace Go.Proofs.YtpbnigpdpkfpaaaGreatDoor
open Go.RowKit
/-- The word of a kind, its bytes. -/
def wordB (k : Int) : ByteArray := if k = 1 then ⟨#[98, 108, 111, 98]⟩ else if k = 2 then ⟨#[116, 114, 101, 101]⟩ else if k = 3 then ⟨#[99, 111, 109, 109, 105, 116]⟩ else ⟨#[63]⟩
set_option maxHeartbeats 400000 in
theorem word_any (W : World) (k : Int) : Calls Tryz.prog 131 #[.int .i64 k] W fun e W' => e = .returned (.string (wordB k)) ∧ W' = W := by
  obtain ⟨x, hx⟩ : ∃ x, x = wordB k := ⟨_, rfl⟩
  rw [← hx]
  by_cases h1 : k = 1
  · subst h1
    go_enter Tryz.func131, Tryz.ntmps131
    go_wp2
    go_ret
    exact ⟨by rw [hx]; rfl, rfl⟩
  by_cases h2 : k = 2
  · subst h2
    go_enter Tryz.func131, Tryz.ntmps131
    go_wp2
    go_ret
    exact ⟨by rw [hx]; rfl, rfl⟩
  by_cases h3 : k = 3
  · subst h3
    go_enter Tryz.func131, Tryz.ntmps131
    go_wp2
    go_ret
    exact ⟨by rw [hx]; rfl, rfl⟩
  · have b1 : (k == 1) = false := by simp [h1]
    have b2 : (k == 2) = false := by simp [h2]
    have b3 : (k == 3) = false := by simp [h3]
    go_enter Tryz.func131, Tryz.ntmps131
    go_wp2
    go_ret
    exact ⟨by rw [hx]; simp [wordB, h1, h2, h3], rfl⟩
end Go.Proofs.YtpbnigpdpkfpaaaGreatDoor
