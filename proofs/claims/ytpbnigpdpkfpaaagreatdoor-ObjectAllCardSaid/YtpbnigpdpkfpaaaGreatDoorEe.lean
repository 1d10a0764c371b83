/- Entries held against each other; rows of entries, of names. -/
import Derived.Test.YtpbnigpdpkfpaaaGreatDoorP7x
import Derived.Test.YtpbnigpdpkfpaaaGreatDoorP6x
import Derived.Test.YtpbnigpdpkfpaaaGreatDoorSe
import Derived.Shelf.SlicesQ.Equal
namespace Go.Proofs.YtpbnigpdpkfpaaaGreatDoor
open Go.RowKit
theorem ba_eq (a b : List UInt8) : ((⟨a.toArray⟩ : ByteArray).toList == (⟨b.toArray⟩ : ByteArray).toList) = decide (a = b) := by
  rw [ByteArray.toList_eq, ByteArray.toList_eq]
  by_cases h : a = b
  · simp [h]
  · simp [h]
theorem eqIn_bytes9 (w : World) (t : TypeId) (ht : Tryz.prog.underlying t = some (.array 32 5)) (a b : List UInt8) (ha : a.length = 32) (hb : b.length = 32) :
    (Op.equalIn 9999 t (.agg (Bs a).toArray) (.agg (Bs b).toArray)).run Tryz.prog w = .ok (decide (a = b)) w := by
  obtain ⟨i, hi, hc⟩ : ∃ i, Tryz.prog.info? 5 = some i ∧ Tryz.prog.cellsOf 5 = 1 := by
    cases h : Tryz.prog.info? 5 with
    | none => have := Tryz.info5; rw [h] at this; cases this
    | some i => exact ⟨i, rfl, by kernel_rfl⟩
  rw [run_equalIn_array w 9998 _ _ ht hi, hc, eqItems_ints w 9997 5 .u8 (by kernel_rfl) (by kernel_rfl) _ _ (fun i => ub (gb a i)) (fun i => ub (gb b i)) _ (fun i hi => by
    have hi' : i < 32 := by simpa using hi
    exact ⟨by simpa using Bs_at a i (by omega), by simpa using Bs_at b i (by omega)⟩), bytes_all a b 32 ha hb]
theorem run_partI (w : World) (e : Ent) : (_root_.Go.part 24 (encE e).toArray 2).run Tryz.prog w = .ok (.agg (encI e.id).toArray) w := by
  have hz := Tryz.sizeOf24 w
  have ha := Tryz.isAgg24 w
  have hl : (encE e).length = 34 := entE.len e
  have he2 : (encE e).drop 2 = encI e.id := rfl
  simp [_root_.Go.part, ha, hl, he2, encI_len, List.take_of_length_le]
theorem eqlE (w : World) (x y : Ent) : (Op.equalIn 10000 99 (.agg (encE x).toArray) (.agg (encE y).toArray)).run Tryz.prog w = .ok (decide (x = y)) w := by
  have h0 : ∀ (w : World) (z : Ent), (_root_.Go.part 9 (encE z).toArray 0).run Tryz.prog w = .ok (.string ⟨z.nm.toArray⟩) w := fun w z => run_part_plain w (by kernel_rfl) (by simp [encE])
  have h1 : ∀ (w : World) (z : Ent), (_root_.Go.part 4 (encE z).toArray 1).run Tryz.prog w = .ok (.bool z.tr) w := fun w z => run_part_plain w (by kernel_rfl) (by simp [encE])
  have h2 := run_partI
  have hf : (Tryz.prog.fieldsOf 99).toList.map (fun f => (f.name, f.type, f.offset)) = [("Name", 9, 0), ("Tree", 4, 1), ("Id", 24, 2)] := by kernel_rfl
  rw [run_equalIn_struct w 9999 99 _ _ (by kernel_rfl) (by kernel_rfl)]
  obtain ⟨f0, f1, f2, hfs, n0, n1, n2⟩ : ∃ f0 f1 f2, (Tryz.prog.fieldsOf 99).toList = [f0, f1, f2] ∧ (f0.name, f0.type, f0.offset) = ("Name", 9, 0) ∧ (f1.name, f1.type, f1.offset) = ("Tree", 4, 1) ∧ (f2.name, f2.type, f2.offset) = ("Id", 24, 2) := by
    obtain ⟨L, hL⟩ : ∃ L, L = (Tryz.prog.fieldsOf 99).toList := ⟨_, rfl⟩
    rw [← hL] at hf ⊢
    rcases L with _ | ⟨f0, _ | ⟨f1, _ | ⟨f2, _ | ⟨f3, r⟩⟩⟩⟩ <;> simp at hf
    exact ⟨f0, f1, f2, rfl, by simp [hf], by simp [hf], by simp [hf]⟩
  rw [hfs]
  simp only [Prod.mk.injEq] at n0 n1 n2
  obtain ⟨a0, a1, a2⟩ := n0
  obtain ⟨b0, b1, b2⟩ := n1
  obtain ⟨c0, c1, c2⟩ := n2
  have hd : decide (x = y) = (decide (x.nm = y.nm) && (decide (x.tr = y.tr) && decide (x.id = y.id))) := by
    cases x; cases y
    simp only [Ent.mk.injEq, Bool.decide_and]
  have hs : Tryz.prog.underlying 9 = some .string := by kernel_rfl
  have hb : Tryz.prog.underlying 4 = some .bool := by kernel_rfl
  have hi : ∀ w, (Op.equalIn 9999 24 (.agg (encI x.id).toArray) (.agg (encI y.id).toArray)).run Tryz.prog w = .ok (decide (x.id = y.id)) w := fun w => by
    have := eqIn_bytes9 w 24 Tryz.underlying24 x.id.1 y.id.1 x.id.2 y.id.2
    have e : decide (x.id.1 = y.id.1) = decide (x.id = y.id) := by
      by_cases h : x.id = y.id
      · rw [decide_eq_true h, decide_eq_true (by rw [h])]
      · rw [decide_eq_false h, decide_eq_false (fun e => h (Subtype.ext e))]
    rw [e] at this
    exact this
  rw [hd]
  simp only [Op.eqFields, a0, a1, a2, b0, b1, b2, c0, c1, c2, Sem.run_bind, h0, h1, h2, Result.andThen_ok, run_equalIn_string w 9998 _ _ _ hs, run_equalIn_bool' w 9998 _ _ _ hb, hi, ba_eq, ne_eq, String.reduceEq, not_false_eq_true, if_true, Sem.run_ite, Sem.run_pure]
  cases decide (x.nm = y.nm) <;> cases hxt : x.tr <;> cases hyt : y.tr <;> cases decide (x.id = y.id) <;> simp
theorem eqlAtE : EqlAt Tryz.prog 99 (fun x => .agg (encE x).toArray) (fun x y => decide (x = y)) :=
  ⟨fun x y w => by rw [run_eql_struct, eqlE w x y]; rfl, GuardAt.agg _ (by kernel_rfl)⟩
theorem neqAtE : NeqAt Tryz.prog 99 (fun x => .agg (encE x).toArray) (fun x y => decide (x = y)) :=
  ⟨fun x y w => by rw [run_neq_struct, eqlE w x y]; rfl, GuardAt.agg _ (by kernel_rfl)⟩
theorem allEq_dec {α : Type} [DecidableEq α] : ∀ (a b : List α), Lib.allEq (fun x y => decide (x = y)) a b = decide (a = b)
  | [], [] => by simp [Lib.allEq]
  | [], y :: b => by simp [Lib.allEq]
  | x :: a, [] => by simp [Lib.allEq]
  | x :: a, y :: b => by
    rw [Lib.allEq, allEq_dec a b]
    by_cases h1 : x = y <;> by_cases h2 : a = b <;> simp [h1, h2]
set_option maxHeartbeats 1600000 in
theorem idsEqual_any (W : World) (A B : Option Addr) (n c m d : Nat) (l r : List Idt) (ha : Src W 32 A n (rowI l)) (hb : Src W 32 B m (rowI r)) (hn : n ≤ 1099511627776) (hm : m ≤ 1099511627776) :
    Calls Tryz.prog 124 #[.slice A n c, .slice B m d] W fun e W' => e = .returned (.bool (decide (l = r))) ∧ Below W.heap.size W W' := by
  have ln := src_len ha
  have lm := src_len hb
  by_cases h : n = m ∧ 0 < n
  · obtain ⟨_, b1, o1, rfl, c1⟩ := src_names ha (by omega)
    obtain ⟨_, b2, o2, rfl, c2⟩ := src_names hb (by omega)
    refine (AnyQ.slices_Equal Tryz.equalI 32 Tryz.isAgg24 Tryz.sizeOf24 encI encI_len (fun x y => decide (x = y)) neqAtI b1 o1 n c b2 o2 m d l r W (by omega) (by omega) (by omega) (by omega) (fun j hj => c1 j (by omega)) (fun j hj => c2 j (by omega))).mono ?_
    rintro e w ⟨rfl, q, rfl⟩
    rw [List.take_of_length_le (by omega), List.take_of_length_le (by omega), allEq_dec]
    exact ⟨rfl, below_drewN' (Below.refl _ _) q⟩
  · by_cases hnm : n = m
    · have h0 : n = 0 := by omega
      subst hnm; subst h0
      have e1 : l = [] := List.eq_nil_of_length_eq_zero ln
      have e2 : r = [] := List.eq_nil_of_length_eq_zero lm
      subst e1; subst e2
      clear ha hb
      go_enter Tryz.func124, Tryz.ntmps124
      go_wp2
      go_loopw [13] (fun i wr => i = .int .i64 0 ∧ Below W.heap.size W wr) (fun _ _ => 0)
      case atStart => exact ⟨rfl, Below.refl _ _⟩
      case round =>
        obtain ⟨rfl, hb⟩ := hrel
        have HB := Lib.hid hb
        clear hb
        go_wp2
        go_ret
        exact ⟨by simp, HB.out⟩
    · have e1 : decide (l = r) = false := decide_eq_false fun e => by subst e; omega
      have hnm' : ((n : Int) != (m : Int)) = true := by simp; omega
      rw [e1]
      clear ha hb
      go_enter Tryz.func124, Tryz.ntmps124
      go_wp2
      go_ret
      exact ⟨rfl, Below.refl _ _⟩
set_option maxHeartbeats 1600000 in
theorem entsEqual_any (W : World) (A B : Option Addr) (n c m d : Nat) (l r : List Ent) (ha : Src W entE.k A n (entE.row l)) (hb : Src W entE.k B m (entE.row r)) (hn : n ≤ 1099511627776) (hm : m ≤ 1099511627776) :
    Calls Tryz.prog 73 #[.slice A n c, .slice B m d] W fun e W' => e = .returned (.bool (decide (l = r))) ∧ Below W.heap.size W W' := by
  have ln := entE.src_len ha
  have lm := entE.src_len hb
  by_cases h : n = m ∧ 0 < n
  · obtain ⟨_, b1, o1, rfl, c1⟩ := entE.src_at ha (by omega)
    obtain ⟨_, b2, o2, rfl, c2⟩ := entE.src_at hb (by omega)
    refine (AnyQ.slices_Equal Tryz.equalE 34 Tryz.isAgg99 Tryz.sizeOf99 encE (fun x => entE.len x) (fun x y => decide (x = y)) neqAtE b1 o1 n c b2 o2 m d l r W (by omega) (by omega) (by omega) (by omega) (fun j hj => c1 j (by omega)) (fun j hj => c2 j (by omega))).mono ?_
    rintro e w ⟨rfl, q, rfl⟩
    rw [List.take_of_length_le (by omega), List.take_of_length_le (by omega), allEq_dec]
    exact ⟨rfl, below_drewN' (Below.refl _ _) q⟩
  · by_cases hnm : n = m
    · have h0 : n = 0 := by omega
      subst hnm; subst h0
      have e1 : l = [] := List.eq_nil_of_length_eq_zero ln
      have e2 : r = [] := List.eq_nil_of_length_eq_zero lm
      subst e1; subst e2
      clear ha hb
      go_enter Tryz.func73, Tryz.ntmps73
      go_wp2
      go_loopw [13] (fun i wr => i = .int .i64 0 ∧ Below W.heap.size W wr) (fun _ _ => 0)
      case atStart => exact ⟨rfl, Below.refl _ _⟩
      case round =>
        obtain ⟨rfl, hb⟩ := hrel
        have HB := Lib.hid hb
        clear hb
        go_wp2
        go_ret
        exact ⟨by simp, HB.out⟩
    · have e1 : decide (l = r) = false := decide_eq_false fun e => by subst e; omega
      have hnm' : ((n : Int) != (m : Int)) = true := by simp; omega
      rw [e1]
      clear ha hb
      go_enter Tryz.func73, Tryz.ntmps73
      go_wp2
      go_ret
      exact ⟨rfl, Below.refl _ _⟩
end Go.Proofs.YtpbnigpdpkfpaaaGreatDoor
