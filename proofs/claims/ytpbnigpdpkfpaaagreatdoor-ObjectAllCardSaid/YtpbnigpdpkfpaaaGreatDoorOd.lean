/- Names compared: bytes.Compare, oid.compare, oid.Less. Rows of names. -/
import Derived.Test.YtpbnigpdpkfpaaaGreatDoorP4x
import Derived.Test.YtpbnigpdpkfpaaaGreatDoorP5x
import Derived.Test.YtpbnigpdpkfpaaaGreatDoorP3x
import Derived.Lib.BytesEntry
import Derived.Laws.Externs
import Derived.Shelf.SlSortCmp.InsertionK
namespace Go.Proofs.YtpbnigpdpkfpaaaGreatDoor
open Go.RowKit Go.Sort
def encI (x : Idt) : List Value := Bs x.1
theorem encI_len (x : Idt) : (encI x).length = 32 := by unfold encI; rw [Bs_length]; exact x.2
theorem encI_one (x : Idt) : ∀ v ∈ encI x, v.oneCell' = true := Bs_one _
theorem Bs_ints (l : List UInt8) : Bs l = (l.map fun b => (b.toNat : Int)).map (Value.int .u8) := by simp [Bs, ub]
theorem ints_bytes (l : List UInt8) : Lib.bytesOf (l.map fun b => (b.toNat : Int)) = l := by
  induction l with
  | nil => rfl
  | cons x r ih =>
    unfold Lib.bytesOf at ih ⊢
    simp only [List.map_cons, List.cons.injEq]
    exact ⟨by simp, ih⟩
theorem run_cmp (w : World) (a b : Addr) (n m c d : Nat) (x y : List UInt8) (hx : Src w 1 (some a) n (Bs x)) (hy : Src w 1 (some b) m (Bs y)) :
    (Extern.BytealgCompare.compare #[.slice (some a) n c, .slice (some b) m d]).run Tryz.prog w = .ok (.int .i64 (Lib.compareBytes x y)) w := by
  have ld : ∀ (a : Addr) (n : Nat) (x : List UInt8), Src w 1 (some a) n (Bs x) → (Extern.Bytes.loadBytes a n .empty).run Tryz.prog w = .ok ⟨x.toArray⟩ w := by
    intro a n x h
    have hl : x.length = n := by have := h.1; simpa using this
    have := Lib.run_loadBytesX (P := Tryz.prog) w (x.map fun b => (b.toNat : Int)) a .empty (fun j u hj => by
      have h0 : 0 < n := by
        have := (List.getElem?_eq_some_iff.1 hj).1
        rw [List.length_map] at this
        omega
      obtain ⟨ad, e, hc⟩ := h.2.1 h0
      obtain rfl := Option.some.inj e
      refine hc j _ ?_
      rw [Bs_ints, List.getElem?_map, hj]
      rfl)
    rw [List.length_map, hl, ints_bytes] at this
    rw [this]
    simp [ByteArray.empty, ByteArray.emptyWithCapacity]
    rfl
  change Sem.run Tryz.prog (do pure (goInt (Extern.BytealgCompare.cmp (← Extern.Bytes.bytesOf (.slice (some a) n c)) (← Extern.Bytes.bytesOf (.slice (some b) m d))))) w = _
  simp only [Extern.Bytes.bytesOf, Sem.run_bind, ld a n x hx, ld b m y hy, Result.andThen_ok, Sem.run_pure, Lib.cmp_eq]
  rfl
set_option maxHeartbeats 800000 in
theorem bcmp_any (w : World) (a b : Addr) (n m c d : Nat) (x y : List UInt8) (hx : Src w 1 (some a) n (Bs x)) (hy : Src w 1 (some b) m (Bs y)) :
    Calls Tryz.prog 201 #[.slice (some a) n c, .slice (some b) m d] w fun e w' => e = .returned (.int .i64 (Lib.compareBytes x y)) ∧ w' = w := by
  have hr : (callFunc 239 #[.slice (some a) n c, .slice (some b) m d]).run Tryz.prog w = .ok (.value (.int .i64 (Lib.compareBytes x y))) w := by
    rw [run_callFunc_extern Tryz.func239 (by kernel_rfl) (by kernel_rfl) (by kernel_rfl) (e := Extern.BytealgCompare.compare) (by kernel_rfl), run_cmp w a b n m c d x y hx hy]
    rfl
  clear hx hy
  generalize Lib.compareBytes x y = z at hr ⊢
  go_enter Tryz.func201, Tryz.ntmps201
  go_wp2
  go_ret
  exact ⟨rfl, rfl⟩
def boxes (W : World) (x y : Idt) : World := (W.alloc (.cells (encI x).toArray 24)).alloc (.cells (encI y).toArray 24)
set_option maxRecDepth 20000 in
set_option maxHeartbeats 1600000 in
theorem icompare_any (W : World) (x y : Idt) : Calls Tryz.prog 152 #[.agg (encI x).toArray, .agg (encI y).toArray] W fun e w' => e = .returned (.int .i64 (icmp x y)) ∧ ∃ q, w' = (boxes W x y).drewN q := by
  have b1 : Blk (boxes W x y) W.heap.size 24 (encI x) := (Blk.new W _ _).alloc _
  have b2 : Blk (boxes W x y) (W.heap.size + 1) 24 (encI y) := by
    have := Blk.new (W.alloc (.cells (encI x).toArray 24)) 24 (encI y)
    rwa [hsz] at this
  have hc : ∀ n, Calls Tryz.prog 201 #[.slice (some ⟨W.heap.size, 0, none⟩) 32 32, .slice (some ⟨W.heap.size + 1, 0, none⟩) 32 32] ((boxes W x y).drewN n) fun e w' => e = .returned (.int .i64 (icmp x y)) ∧ w' = (boxes W x y).drewN n := fun n =>
    bcmp_any _ _ _ 32 32 32 32 x.1 y.1 ((b1.drewN n).src (encI_one x) 32 (encI_len x)) ((b2.drewN n).src (encI_one y) 32 (encI_len y))
  have HC := Lib.hid hc
  have hbx : (W.alloc (.cells (encI x).toArray 24)).alloc (.cells (encI y).toArray 24) = boxes W x y := rfl
  generalize icmp x y = z at HC ⊢
  clear hc b1 b2
  go_enter Tryz.func152, Tryz.ntmps152
  go_upto_region 1 with fail
  clear hbx
  generalize hW2 : boxes W x y = W2 at HC ⊢
  have HW2 := Lib.hid hW2
  clear hW2
  go_quiet ((go_at_call 201; exact Calls.quiet_of_same (HC.out _)))
  go_wp2
  go_ret
  exact ⟨rfl, nq, by rw [HW2.out]⟩
theorem boxes_grow (W : World) (x y : Idt) : boxes W x y = grow W #[.cells (encI x).toArray 24, .cells (encI y).toArray 24] := by
  unfold boxes
  rw [alloc_eq_grow, alloc_eq_grow, grow_grow]
  rfl
theorem cmpLaysI (blk off size : Nat) (w : World) : CmpLays Tryz.prog 152 #[] encI 32 icmp blk off size w := fun m os dk _ x y =>
  (icompare_any (sortWorldK encI 32 w blk off m dk os) x y).mono fun _ _ ⟨he, q, hw⟩ => ⟨he, q, #[.cells (encI x).toArray 24, .cells (encI y).toArray 24], by rw [hw, boxes_grow]; rfl⟩
end Go.Proofs.YtpbnigpdpkfpaaaGreatDoor
