/- The document's answers for names: which of two is the less, whether one is among others, names put in one by one. -/
import Derived.Test.YtmnndehoopmmaaaGreatDoorRw
import Derived.Test.YtmnndehoopmmaaaGreatDoorTk
import Derived.Deep.DeepCutAuto
namespace Go.Proofs.YtmnndehoopmmaaaGreatDoor
open Go.RowKit Go.Sort
theorem cmp_prefix (p a b : List UInt8) : Lib.compareBytes (p ++ a) (p ++ b) = Lib.compareBytes a b := by
  induction p with
  | nil => rfl
  | cons c p ih =>
    show (if c < c then -1 else if c < c then 1 else Lib.compareBytes (p ++ a) (p ++ b)) = _
    rw [if_neg (UInt8.lt_irrefl c), if_neg (UInt8.lt_irrefl c), ih]
theorem split_at (l : List UInt8) (k : Nat) (h : k < l.length) : l = l.take k ++ gb l k :: l.drop (k + 1) := by
  conv => lhs; rw [← List.take_append_drop k l, List.drop_eq_getElem_cons h]
  simp [gb, List.getD_eq_getElem?_getD, h]
theorem take_same {a b : List UInt8} (k : Nat) (ha : k ≤ a.length) (hb : k ≤ b.length) (h : ∀ j, j < k → gb a j = gb b j) : a.take k = b.take k := by
  apply List.ext_getElem?
  intro j
  by_cases hj : j < k
  · have := h j hj
    simp only [gb, List.getD_eq_getElem?_getD] at this
    rw [List.getElem?_take, List.getElem?_take, if_pos hj, if_pos hj, List.getElem?_eq_getElem (by omega : j < a.length), List.getElem?_eq_getElem (by omega : j < b.length)]
    rw [List.getElem?_eq_getElem (by omega : j < a.length), List.getElem?_eq_getElem (by omega : j < b.length)] at this
    simpa using this
  · rw [List.getElem?_eq_none (by rw [List.length_take]; omega), List.getElem?_eq_none (by rw [List.length_take]; omega)]
theorem ilt_at (x y : Idt) (k : Nat) (hk : k < 32) (h : ∀ j, j < k → gb x.1 j = gb y.1 j) (hne : gb x.1 k ≠ gb y.1 k) : ilt x y = decide (ub (gb x.1 k) < ub (gb y.1 k)) := by
  have hx := x.2
  have hy := y.2
  have e : ilt x y = decide (Lib.compareBytes x.1 y.1 < 0) := rfl
  have e2 : Lib.compareBytes x.1 y.1 = Lib.compareBytes (gb x.1 k :: x.1.drop (k + 1)) (gb y.1 k :: y.1.drop (k + 1)) := by
    conv => lhs; rw [split_at x.1 k (by omega), split_at y.1 k (by omega)]
    rw [← take_same k (by omega) (by omega) h, cmp_prefix]
  rw [e, e2]
  generalize gb x.1 k = a at hne ⊢
  generalize gb y.1 k = b at hne ⊢
  unfold Lib.compareBytes
  by_cases h1 : a < b
  · have : ub a < ub b := by unfold ub; have := UInt8.lt_iff_toNat_lt.1 h1; omega
    simp [h1, this]
  · have h2 : b < a := by
      rcases UInt8.lt_or_lt_of_ne hne with h | h
      · exact absurd h h1
      · exact h
    have : ¬ ub a < ub b := by unfold ub; have := UInt8.lt_iff_toNat_lt.1 h2; omega
    simp [h1, h2, this]
theorem id_ext {x y : Idt} (h : ∀ j, j < 32 → gb x.1 j = gb y.1 j) : x = y := by
  have hx := x.2
  have hy := y.2
  have := take_same 32 (by omega) (by omega) h
  rw [List.take_of_length_le (by omega), List.take_of_length_le (by omega)] at this
  exact Subtype.ext this
set_option maxRecDepth 20000 in
set_option maxHeartbeats 1600000 in
theorem lessId_any (W : World) (x y : Idt) : Calls Tryz.prog 43 #[.agg (encI x).toArray, .agg (encI y).toArray] W fun e W' => e = .returned (.bool (ilt x y)) ∧ Below W.heap.size W W' := by
  have b1 : Blk (boxes W x y) W.heap.size 51 (encI x) := (Blk.new W _ _).alloc _
  have b2 : Blk (boxes W x y) (W.heap.size + 1) 51 (encI y) := by
    have := Blk.new (W.alloc (.cells (encI x).toArray 51)) 51 (encI y)
    rwa [hsz] at this
  have hl : Below W.heap.size W (boxes W x y) := ((Below.refl _ _).alloc (Nat.le_refl _) _).alloc (by rw [hsz]; omega) _
  have hbx : (W.alloc (.cells (encI x).toArray 51)).alloc (.cells (encI y).toArray 51) = boxes W x y := rfl
  have h32x : x.1.length = 32 := x.2
  have h32y : y.1.length = 32 := y.2
  have X1 := Lib.hid b1
  have X2 := Lib.hid b2
  have HL := Lib.hid hl
  have HX := Lib.hid h32x
  have HY := Lib.hid h32y
  clear b1 b2 hl h32x h32y
  go_enter Tryz.func43, Tryz.ntmps43
  go_upto_region 1 with fail
  generalize hW2 : boxes W x y = W2 at X1 X2 HL ⊢
  clear hW2 hbx
  generalize W.heap.size = g at X1 X2 ⊢
  go_wp2
  go_loopw [5] (fun i wr => ∃ k q : Nat, k ≤ 32 ∧ i = .int .i64 k ∧ wr = W2.drewN q ∧ ∀ j, j < k → gb x.1 j = gb y.1 j) (fun i _ => 32 - (intOf i).toNat)
  case atStart => exact ⟨0, 0, by omega, rfl, rfl, fun j h => by omega⟩
  case round =>
    obtain ⟨k, q, hk, rfl, rfl, hall⟩ := hrel
    by_cases hlt : k < 32
    · have l1 : (k : Int) < 32 := by omega
      have c1 : W2.cell? ⟨g, k, none⟩ = some (.int .u8 (ub (gb x.1 k))) := X1.out.cell k _ (Bs_at x.1 k (by have := HX.out; omega))
      have c2 : W2.cell? ⟨g + 1, k, none⟩ = some (.int .u8 (ub (gb y.1 k))) := X2.out.cell k _ (Bs_at y.1 k (by have := HY.out; omega))
      by_cases hne : gb x.1 k = gb y.1 k
      · have hall' : ∀ j, j < k + 1 → gb x.1 j = gb y.1 j := fun j hj => by
          rcases Nat.lt_or_ge j k with h | h
          · exact hall j h
          · rw [show j = k by omega]; exact hne
        have HA := Lib.hid hall'
        rw [← hne] at c2
        generalize ub (gb x.1 k) = u at c1 c2
        clear hall hall' hne
        go_wp2
        go_quiet (fail)
        go_wp2
        go_roundw
        case measure => simp [intOf]; omega
        case rel => exact ⟨k + 1, q + nq, by omega, by go_num, by simp, HA.out⟩
      · have hi := ilt_at x y k hlt hall hne
        have hu : ¬ ub (gb x.1 k) = ub (gb y.1 k) := fun e => hne (ub_inj e)
        have HI := Lib.hid hi
        generalize ub (gb x.1 k) = u at c1 hu HI
        generalize ub (gb y.1 k) = v at c2 hu HI
        clear hall hne hi
        go_wp2
        go_quiet (fail)
        go_wp2
        go_quiet (fail)
        go_wp2
        go_ret
        exact ⟨by rw [HI.out]; rfl, below_drewN' (below_drewN' (below_drewN' HL.out _) _) _⟩
    · have : k = 32 := by omega
      subst this
      have hxy := id_ext hall
      subst hxy
      have HI := Lib.hid (ilt_irrefl x)
      clear hall
      go_wp2
      go_ret
      exact ⟨by rw [HI.out]; rfl, below_drewN' HL.out _⟩
set_option maxHeartbeats 1600000 in
/-- .. among others. -/
theorem rhas_any (W : World) (A : Option Addr) (n c : Nat) (l : List Idt) (hs : Src W 32 A n (rowI l)) (hn : n ≤ 1099511627776) (x : Idt) :
    Calls Tryz.prog 45 #[.slice A n c, .agg (encI x).toArray] W fun e W' => e = .returned (.bool (decide (x ∈ l))) ∧ Below W.heap.size W W' := by
  obtain ⟨w1, hw1⟩ : ∃ w1, w1 = W.alloc (.cells (encI x).toArray 51) := ⟨_, rfl⟩
  have hb := (Below.refl W.heap.size W).alloc (Nat.le_refl _) (.cells (encI x).toArray 51)
  have hB := boxI_blk W x
  rw [← hw1] at hb hB
  have S1 := Lib.hid (srcI_below hs hb)
  have LN := Lib.hid (src_len hs)
  have lx := infoI x
  have HB := Lib.hid hb
  have HX := Lib.hid hB
  have LX := Lib.hid lx
  clear hs hb hB lx
  have n9 : (n : Int) ≤ 1099511627776 := by omega
  have HN := Lib.hid hn
  clear hn
  go_enter Tryz.func45, Tryz.ntmps45
  go_upto_region 1 with fail
  rw [← hw1]
  clear hw1
  generalize W.heap.size = g at HX ⊢
  go_wp2
  go_loopw [5] (fun i wr => ∃ k q : Nat, k ≤ n ∧ i = .int .i64 k ∧ wr = w1.drewN q ∧ ∀ j, j < k → l[j]! ≠ x) (fun i _ => n - (intOf i).toNat)
  case atStart => exact ⟨0, 0, by omega, rfl, rfl, fun j h => by omega⟩
  case round =>
    obtain ⟨k, q, hk, rfl, rfl, hall⟩ := hrel
    by_cases hlt : k < n
    · have l1 : (k : Int) < (n : Int) := by omega
      obtain ⟨hl, b, o, rfl, ct⟩ := src_names S1.out (by omega)
      have c1 := at_name (ct k hlt)
      have i1 := infoI l[k]!
      have heq : ∀ w, (binOp .eql 51 (.agg (encI l[k]!).toArray) (.agg (encI x).toArray)).run Tryz.prog w = .ok (.bool (decide (l[k]! = x))) w := fun w => eqlAtI.1 l[k]! x w
      have hgu : ∀ op a b w, (eqGuard op 51 a b (.agg (encI l[k]!).toArray) (.agg (encI x).toArray)).run Tryz.prog w = .ok () w := fun op a b w => eqlAtI.2 op a b l[k]! x w
      by_cases he : l[k]! = x
      · have hmem : x ∈ l := by rw [← he, getElem!_pos l k (by omega)]; exact List.getElem_mem _
        rw [decide_eq_true he] at heq
        have HM := Lib.hid hmem
        have C1 := Lib.hid c1
        have I1 := Lib.hid i1
        clear he hall ct hmem
        generalize encI l[k]! = cs at C1 I1 heq hgu
        clear c1 i1
        go_upto_region 4 with fail
        refine wp_region_quiet_lit (by kernel_rfl) (by kernel_rfl) ?_
        repeat (go_big_quiet_step (fail))
        refine wpQuiet_loadA (by rfl) 51 (.tmp 14) rfl ⟨b, o + k * 32, none⟩ rfl cs 32 5 Tryz.underlying51 I1.out (fun w ⟨m, hw⟩ => by subst hw; exact C1.out) ?_
        refine wpQuiet_loadA (by rfl) 51 (.tmp 3) rfl ⟨g, 0, none⟩ rfl (encI x) 32 5 Tryz.underlying51 LX.out (fun w ⟨m, hw⟩ j v hv => by subst hw; rw [add_row _ rfl, Nat.zero_add]; exact HX.out.cell j v hv) ?_
        quiet_step (fail)
        refine wpQuiet_nil ?_
        rintro _ ⟨n9, rfl⟩
        go_wp2
        go_ret
        exact ⟨by rw [decide_eq_true HM.out]; rfl, below_drewN' (below_drewN' HB.out _) _⟩
      · have hall' : ∀ j, j < k + 1 → l[j]! ≠ x := fun j hj => by
          rcases Nat.lt_or_ge j k with h | h
          · exact hall j h
          · rw [show j = k by omega]; exact he
        rw [decide_eq_false he] at heq
        have HA := Lib.hid hall'
        have C1 := Lib.hid c1
        have I1 := Lib.hid i1
        clear he hall ct hall'
        generalize encI l[k]! = cs at C1 I1 heq hgu
        clear c1 i1
        go_upto_region 4 with fail
        refine wp_region_quiet_lit (by kernel_rfl) (by kernel_rfl) ?_
        repeat (go_big_quiet_step (fail))
        refine wpQuiet_loadA (by rfl) 51 (.tmp 14) rfl ⟨b, o + k * 32, none⟩ rfl cs 32 5 Tryz.underlying51 I1.out (fun w ⟨m, hw⟩ => by subst hw; exact C1.out) ?_
        refine wpQuiet_loadA (by rfl) 51 (.tmp 3) rfl ⟨g, 0, none⟩ rfl (encI x) 32 5 Tryz.underlying51 LX.out (fun w ⟨m, hw⟩ j v hv => by subst hw; rw [add_row _ rfl, Nat.zero_add]; exact HX.out.cell j v hv) ?_
        quiet_step (fail)
        refine wpQuiet_nil ?_
        rintro _ ⟨n9, rfl⟩
        go_wp2
        go_roundw
        case measure => simp [intOf]; omega
        case rel => exact ⟨k + 1, q + n9, by omega, by go_num, by simp, HA.out⟩
    · have : k = n := by omega
      subst this
      have hno : ¬ x ∈ l := fun hm => by
        obtain ⟨j, hj, e⟩ := List.getElem_of_mem hm
        exact hall j (by have := LN.out; omega) (by rw [getElem!_pos l j hj]; exact e)
      have HM := Lib.hid hno
      clear hall hno
      go_wp2
      go_ret
      exact ⟨by rw [decide_eq_false HM.out]; rfl, below_drewN' HB.out _⟩
end Go.Proofs.YtmnndehoopmmaaaGreatDoor
