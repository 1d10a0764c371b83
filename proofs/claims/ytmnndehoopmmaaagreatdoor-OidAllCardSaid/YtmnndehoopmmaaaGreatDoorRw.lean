/- A row of names: an element read, as a step of a walk; whether a name is among them; two rows held against each other. -/
import Derived.Test.YtmnndehoopmmaaaGreatDoorOr
import Derived.Test.YtmnndehoopmmaaaGreatDoorQt
namespace Go.Proofs.YtmnndehoopmmaaaGreatDoor
open Go.RowKit Go.Sort
section
variable {P : Program}
theorem run_loadA (w : World) (ty : TypeId) (ad : Addr) (cs : List Value) (n : Nat) (e : TypeId) (hu : P.underlying ty = some (.array n e)) (hi : (P.info? ty).map (·.size) = some cs.length)
    (h : ∀ j v, cs[j]? = some v → w.cell? (ad.add j) = some v) : (Instr.loadAt ty (.pointer (some ad))).run P w = .ok (.agg cs.toArray) w := by
  have hl : (loadCells ad cs.length).run P w = .ok cs.toArray w := run_loadCells_list (P := P) (w := w) ad cs h
  have : (loadVar ty ad).run P w = .ok (.agg cs.toArray) w := by
    cases hq : P.info? ty with
    | none => simp [hq] at hi
    | some i =>
      have hs : i.size = cs.length := by simpa [hq] using hi
      have hagg : (isAgg ty).run P w = .ok true w := by
        unfold isAgg
        rw [Sem.run_bind, run_underlying hu w]
        rfl
      simp [loadVar, hagg, sizeOf, typeInfo, hq, hs, hl]
  simpa [Instr.loadAt, Instr.sureAddr] using this
variable {ops : Array Oper} {rest : List Oper} {o : Oper} {a : Act} {w : World} {C : World → Prop}
theorem wpl_loadA {Q : Exit → Act → World → Prop} (hgd : o.guard = none) (ty : TypeId) (x : Operand) (ho : o.op = .load ty x) (ad : Addr) (hx : a.eval x = .pointer (some ad)) (cs : List Value) (n : Nat) (e : TypeId) (hu : P.underlying ty = some (.array n e)) (hi : (P.info? ty).map (·.size) = some cs.length)
    (hc : ∀ j v, cs[j]? = some v → w.cell? (ad.add j) = some v) (h : wpList P ops Q rest (a.put o.dst (.agg cs.toArray)) w) : wpList P ops Q (o :: rest) a w := by
  refine wpList_plain hgd fun K hK => ?_
  unfold Oper.wp execOp
  simp only [ho, hx, Sem.run_bind, Sem.run_pure, Result.andThen_ok, run_loadA w ty ad cs n e hu hi hc]
  exact hK _ _ h
theorem wpQuiet_loadA {Q : Act → Prop} (hgd : Region.wanted o (yielded ops a.tmps) = true) (ty : TypeId) (x : Operand) (ho : o.op = .load ty x) (ad : Addr) (hx : a.eval x = .pointer (some ad)) (cs : List Value) (n : Nat) (e : TypeId) (hu : P.underlying ty = some (.array n e)) (hi : (P.info? ty).map (·.size) = some cs.length)
    (hc : ∀ w, C w → ∀ j v, cs[j]? = some v → w.cell? (ad.add j) = some v) (h : wpQuiet P ops C Q rest (a.put o.dst (.agg cs.toArray))) : wpQuiet P ops C Q (o :: rest) a := by
  refine wpQuiet_val hgd (.agg cs.toArray) (fun w hw => ?_) h
  unfold execOp
  simp only [ho, hx]
  simp [run_loadA w ty ad cs n e hu hi (hc w hw)]
end
theorem infoI (x : Idt) : (Tryz.prog.info? 51).map (·.size) = some (encI x).length := by rw [Tryz.sizeId, encI_len]
/-- The place of element k of a row. -/
theorem at_name {w : World} {b o : Nat} {x : Idt} {k : Nat} (h : ∀ i v, (encI x)[i]? = some v → w.cell? ⟨b, o + k * 32 + i, none⟩ = some v) : ∀ j v, (encI x)[j]? = some v → w.cell? ((⟨b, o + k * 32, none⟩ : Addr).add j) = some v := by
  intro j v hv
  rw [add_row _ rfl]
  exact h j v hv
set_option maxHeartbeats 1600000 in
/-- Two rows of the same names. -/
theorem ieq_same (W : World) (A B : Option Addr) (n c d : Nat) (l : List Idt) (ha : Src W 32 A n (rowI l)) (hb : Src W 32 B n (rowI l)) (hn : n ≤ 1099511627776) :
    Calls Tryz.prog 36 #[.slice A n c, .slice B n d] W fun e W' => e = .returned (.bool true) ∧ ∃ q, W' = W.drewN q := by
  have HA := Lib.hid ha
  have HB := Lib.hid hb
  clear ha hb
  go_enter Tryz.func36, Tryz.ntmps36
  go_wp2
  go_loopw [5] (fun i wr => ∃ k q : Nat, k ≤ n ∧ i = .int .i64 k ∧ wr = W.drewN q) (fun i _ => n - (intOf i).toNat)
  case atStart => exact ⟨0, 0, by omega, rfl, rfl⟩
  case round =>
    obtain ⟨k, q, hk, rfl, rfl⟩ := hrel
    by_cases hlt : k < n
    · obtain ⟨hl, ba, oa, rfl, ca⟩ := src_names HA.out (by omega)
      obtain ⟨_, bb, ob, rfl, cb⟩ := src_names HB.out (by omega)
      have ca1 := at_name (ca k hlt)
      have cb1 := at_name (cb k hlt)
      have hin := infoI l[k]!
      have heq : ∀ w, (binOp .neq 51 (.agg (encI l[k]!).toArray) (.agg (encI l[k]!).toArray)).run Tryz.prog w = .ok (.bool false) w := fun w => by
        have := neqAtI.1 l[k]! l[k]! w
        simpa using this
      have hgu : ∀ op a b w, (eqGuard op 51 a b (.agg (encI l[k]!).toArray) (.agg (encI l[k]!).toArray)).run Tryz.prog w = .ok () w := fun op a b w => neqAtI.2 op a b l[k]! l[k]! w
      generalize encI l[k]! = cs at ca1 cb1 hin heq hgu
      have CA := Lib.hid ca1
      have CB := Lib.hid cb1
      have HI := Lib.hid hin
      clear ca cb ca1 cb1 HA HB hl hin
      have k1 : (k : Int) < (n : Int) := by omega
      have k2 : (n : Int) ≤ 1099511627776 := by omega
      have HN := Lib.hid hn
      have HK := Lib.hid hk
      have HL := Lib.hid hlt
      clear hn hk 
      go_wp2
      refine wp_region_quiet_lit (by kernel_rfl) (by kernel_rfl) ?_
      repeat (go_big_quiet_step (fail))
      refine wpQuiet_loadA (by rfl) 51 (.tmp 19) rfl ⟨ba, oa + k * 32, none⟩ rfl cs 32 5 Tryz.underlying51 HI.out (fun w ⟨m, hw⟩ => by subst hw; exact CA.out) ?_
      quiet_step (fail)
      repeat (go_big_quiet_step (fail))
      refine wpQuiet_loadA (by rfl) 51 (.tmp 23) rfl ⟨bb, ob + k * 32, none⟩ rfl cs 32 5 Tryz.underlying51 HI.out (fun w ⟨m, hw⟩ => by subst hw; exact CB.out) ?_
      quiet_step (fail)
      refine wpQuiet_nil ?_
      rintro _ ⟨n9, rfl⟩
      go_wp2
      go_roundw
      case measure => simp [intOf]; have := HL.out; omega
      case rel => exact ⟨k + 1, q + n9, by have := HL.out; omega, by go_num, by simp⟩
    · have : k = n := by omega
      subst this
      go_wp2
      go_ret
      exact ⟨rfl, q, rfl⟩
theorem any_mem (l : List Idt) (x : Idt) : ((l.take l.length).any fun y => decide (x = y)) = decide (x ∈ l) := by
  rw [List.take_length, Bool.eq_iff_iff]
  simp
set_option maxHeartbeats 1600000 in
theorem icontains_any (W : World) (A : Option Addr) (n c : Nat) (l : List Idt) (hs : Src W 32 A n (rowI l)) (hn : n ≤ 1099511627776) (hp : 0 < n) (x : Idt) :
    Calls Tryz.prog 78 #[.slice A n c, .agg (encI x).toArray] W fun e W' => e = .returned (.bool (decide (x ∈ l))) ∧ Below W.heap.size W W' := by
  obtain ⟨hl, b, o, rfl, hc⟩ := src_names hs hp
  have := AnyQ.slices_Contains Tryz.containsK 32 Tryz.isAgg51 Tryz.sizeOf51 encI encI_len (fun x y => decide (x = y)) eqlAtI b o n c l x W (by omega) (by omega) (fun j hj => hc j (by omega))
  subst hl
  rw [any_mem] at this
  exact this
theorem boxI_blk (W : World) (x : Idt) : Blk (W.alloc (.cells (encI x).toArray 51)) W.heap.size 51 (encI x) := Blk.new W _ _
set_option maxHeartbeats 1600000 in
theorem ihas_any (W : World) (A : Option Addr) (n c : Nat) (l : List Idt) (hs : Src W 32 A n (rowI l)) (hn : n ≤ 1099511627776) (hp : 0 < n) (x : Idt) :
    Calls Tryz.prog 35 #[.slice A n c, .agg (encI x).toArray] W fun e W' => e = .returned (.bool (decide (x ∈ l))) ∧ Below W.heap.size W W' := by
  obtain ⟨w1, hw1⟩ : ∃ w1, w1 = W.alloc (.cells (encI x).toArray 51) := ⟨_, rfl⟩
  have hb := (Below.refl W.heap.size W).alloc (Nat.le_refl _) (.cells (encI x).toArray 51)
  have hB := boxI_blk W x
  rw [← hw1] at hb hB
  have hc := icontains_any w1 A n c l (srcI_below hs hb) hn hp x
  have lx := infoI x
  have HC := Lib.hid hc
  have HB := Lib.hid hb
  have HX := Lib.hid hB
  have LX := Lib.hid lx
  clear hs hc hb hB lx
  generalize decide (x ∈ l) = z at HC ⊢
  go_enter Tryz.func35, Tryz.ntmps35
  go_upto_region 1 with fail
  rw [← hw1]
  clear hw1
  go_wp2_with (first
    | (refine wpl_load rfl 51 (.tmp 3) rfl W.heap.size rfl 51 (encI x) HX.out 32 5 Tryz.underlying51 LX.out ?_)
    | (go_at_call 78; refine HC.out.mono ?_; rintro e w' ⟨rfl, h2⟩; have H2 := Lib.hid h2; clear h2))
  go_ret
  exact ⟨rfl, HB.out.trans (H2.out.mono HB.out.size)⟩
end Go.Proofs.YtmnndehoopmmaaaGreatDoor
