/- LineDigits: the walk of the law's body. -/
import Derived.Test.YtmnndehoopmmaaaGreatDoorRh
import Derived.Test.YtmnndehoopmmaaaGreatDoorBe
import Derived.Test.YtmnndehoopmmaaaGreatDoorCm
import Derived.Test.YtmnndehoopmmaaaGreatDoorTk
namespace Go.Proofs.YtmnndehoopmmaaaGreatDoor
open Go.RowKit
/-- A number cut down by a mask. -/
theorem and_mask (n : Int) (m : Nat) (h : m < 9223372036854775808) : ∃ q : Nat, q ≤ m ∧ bits .and .i64 n (m : Int) = (q : Int) := by
  refine ⟨(BitVec.ofInt 64 n).toNat &&& m, Nat.and_le_right, ?_⟩
  show IntKind.i64.wrap (((BitVec.ofInt 64 n &&& BitVec.ofInt 64 (m : Int)).toNat : Nat) : Int) = _
  have e : (BitVec.ofInt 64 (m : Int)).toNat = m := by
    rw [BitVec.toNat_ofInt]
    omega
  rw [BitVec.toNat_and, e, IntKind.wrap_i64]
  have : (BitVec.ofInt 64 n).toNat &&& m ≤ m := Nat.and_le_right
  omega
def signsL : List UInt8 := [48, 49, 50, 51, 52, 53, 54, 55, 56, 57, 97, 98, 99, 100, 101, 102, 65, 32, 103]
theorem rem19 (x : UInt8) : (ub x).tmod 19 = ((x.toNat % 19 : Nat) : Int) := by
  unfold ub
  rw [Int.tmod_eq_emod_of_nonneg (by omega)]
  omega
/-- A conversion, as one step of a region that draws. -/
theorem step_conv {P : Program} {ops : Array Oper} {o : Oper} {a : Act} {w : World} {K : Act → World → Prop} {Q : Exit → Act → World → Prop} {E : Prop} (hgd : Region.wanted o (yielded ops a.tmps) = true) (t1 t2 : TypeId) (x : Operand) (ho : o.op = .convert t1 t2 x) (v : Value) (h0 : (convert t1 t2 (a.eval x)).run P w = .ok v w)
    (h : K (a.put o.dst v) w) : if Region.wanted o (yielded ops a.tmps) = true then Oper.wp P o a w K Q else E := by
  rw [if_pos hgd]
  unfold Oper.wp execOp
  simp only [ho, Sem.run_bind, Sem.run_pure, Result.andThen_ok, h0]
  exact h
set_option maxRecDepth 20000 in
set_option maxHeartbeats 4000000 in
theorem lineDigits_any (W : World) (a b c d n : Int) (ha : 0 ≤ a ∧ a < 256) (hb : 0 ≤ b ∧ b < 256) (hc : 0 ≤ c ∧ c < 256) (hd : 0 ≤ d ∧ d < 256) (hG : Gl W) :
    Calls Tryz.prog 3 #[.int .u8 a, .int .u8 b, .int .u8 c, .int .u8 d, .int .i64 n] W fun e W' => e = .returned (.bool true) ∧ Below W.heap.size W W' := by
  obtain ⟨xa, rfl⟩ := ub_of a ha.1 ha.2
  obtain ⟨xb, rfl⟩ := ub_of b hb.1 hb.2
  obtain ⟨xc, rfl⟩ := ub_of c hc.1 hc.2
  obtain ⟨xd, rfl⟩ := ub_of d hd.1 hd.2
  obtain ⟨m, hm, hmask⟩ := and_mask n 1023 (by omega)
  have hbe := begun_any W hG
  have HB := Lib.hid hbe
  have HG := Lib.hid hG
  have hmask' : bits BinOp.and IntKind.i64 n 1023 = (m : Int) := hmask
  clear hbe hG ha hb hc hd hmask
  have hsg : ∀ (x : UInt8) w, (Instr.index 9 (.string ⟨signsL.toArray⟩) (.int .i64 ((ub x).tmod 19))).run Tryz.prog w = .ok (.int .u8 (ub (gb signsL (x.toNat % 19)))) w := fun x w => by
    rw [rem19]
    exact run_byte w ⟨signsL.toArray⟩ signsL rfl (x.toNat % 19) (by show _ < 19; omega)
  obtain ⟨ya, ia⟩ : ∃ y : UInt8, ∀ w, (Instr.index 9 (.string ⟨#[48, 49, 50, 51, 52, 53, 54, 55, 56, 57, 97, 98, 99, 100, 101, 102, 65, 32, 103]⟩) (.int .i64 ((ub xa).tmod 19))).run Tryz.prog w = .ok (.int .u8 (ub y)) w := ⟨_, hsg xa⟩
  obtain ⟨yb, ib⟩ : ∃ y : UInt8, ∀ w, (Instr.index 9 (.string ⟨#[48, 49, 50, 51, 52, 53, 54, 55, 56, 57, 97, 98, 99, 100, 101, 102, 65, 32, 103]⟩) (.int .i64 ((ub xb).tmod 19))).run Tryz.prog w = .ok (.int .u8 (ub y)) w := ⟨_, hsg xb⟩
  obtain ⟨yc, ic⟩ : ∃ y : UInt8, ∀ w, (Instr.index 9 (.string ⟨#[48, 49, 50, 51, 52, 53, 54, 55, 56, 57, 97, 98, 99, 100, 101, 102, 65, 32, 103]⟩) (.int .i64 ((ub xc).tmod 19))).run Tryz.prog w = .ok (.int .u8 (ub y)) w := ⟨_, hsg xc⟩
  obtain ⟨yd, id⟩ : ∃ y : UInt8, ∀ w, (Instr.index 9 (.string ⟨#[48, 49, 50, 51, 52, 53, 54, 55, 56, 57, 97, 98, 99, 100, 101, 102, 65, 32, 103]⟩) (.int .i64 ((ub xd).tmod 19))).run Tryz.prog w = .ok (.int .u8 (ub y)) w := ⟨_, hsg xd⟩
  have hwr : ∀ x : UInt8, IntKind.i64.wrap (ub x) = ub x := fun x => by
    have := ub_nonneg x
    have := ub_lt x
    rw [IntKind.wrap_i64]
    omega
  have va := hwr xa
  have vb := hwr xb
  have vc := hwr xc
  have vd := hwr xd
  clear hwr
  clear hsg
  have hmk0 := fun w => run_make_bytes w m (by omega)
  obtain ⟨Z, hZ⟩ : ∃ Z : Obj, Z = .cells (Bs (List.replicate m 0)).toArray 5 := ⟨_, rfl⟩
  rw [← hZ] at hmk0
  have hmk : ∀ w, (Instr.makeSlice 23 (.int .i64 (m : Int)) (.int .i64 (m : Int))).run Tryz.prog w = .ok (.slice (some ⟨w.heap.size, 0, none⟩) m m) (w.alloc Z) := hmk0
  clear hmk0
  have HZ : Hid (∀ v : World, Src (v.alloc Z) 1 (some ⟨v.heap.size, 0, none⟩) m (Bs (List.replicate m 0))) := Lib.hid fun v => by
    have := src_new v (Bs (List.replicate m 0)) 5 (Bs_one _)
    rw [Bs_length, List.length_replicate, ← hZ] at this
    exact this
  obtain ⟨z, hz⟩ : ∃ z : ByteArray, z = ⟨(List.replicate m 0).toArray⟩ := ⟨_, rfl⟩
  have HC : Hid (∀ (v : World) (g : Nat), Src v 1 (some ⟨g, 0, none⟩) m (Bs (List.replicate m 0)) → (convert 23 9 (.slice (some ⟨g, 0, none⟩) m m)).run Tryz.prog v = .ok (.string z) v) := Lib.hid fun v g h => by
    rw [hz]; exact run_str v _ m m _ h
  have hsz : ((⟨#[ya, yb, yc, yd]⟩ : ByteArray) ++ z).size ≤ 2000 := by
    rw [ByteArray.size_append, hz]
    show 4 + (ByteArray.mk (List.replicate m 0).toArray).data.size ≤ _
    simp
    omega
  have zb : ¬ 9223372036854775807 < 4 + z.size := by
    have h4 : (⟨#[ya, yb, yc, yd]⟩ : ByteArray).size = 4 := rfl
    rw [ByteArray.size_append, h4] at hsz
    omega
  have ZZ := Lib.hid hsz
  clear hZ hz hsz hm
  go_enter Tryz.func3, Tryz.ntmps3
  go_upto_region 5 with (first
      | (go_at_call 10; refine HB.out.mono ?_; rintro e w1 ⟨rfl, hb⟩; have L1 := Lib.hid hb; clear hb))
  go_cut [13] (fun v wr => ∃ s : ByteArray, v = .string s ∧ s.size ≤ 2000 ∧ Below W.heap.size W wr)
  case first =>
    refine wp_region_any (by kernel_rfl) ?_
    change wpAny _ _ _ _ _ _ _ (World.drew _)
    have Lv := Lib.hid L1.out.drew
    generalize World.drew w1 = v at Lv ⊢
    refine wpAny_prefix 20 8 (by rfl) (by kernel_rfl) (fun _ _ _ d _ h => by cases d <;> exact h) ?_
    quiet_step (fail)
    repeat (first | quiet_step (fail) | go_big_quiet_step (fail))
    refine wpQuiet_nil ?_
    refine wpAny_take (i := 22) (v := .int .i64 n) rfl (by kernel_rfl) (by kernel_rfl) (by kernel_rfl) (fun _ _ _ h => h) (Or.inl ⟨by rfl, fun w => by go_simp⟩) ?_
    refine wpAny_take (i := 23) (v := .int .i64 (m : Int)) rfl (by kernel_rfl) (by kernel_rfl) (by kernel_rfl) (fun _ _ _ h => h) (Or.inl ⟨by rfl, fun w => by go_simp⟩) ?_
    refine wpAny_ready (rs := [20, 24]) (by kernel_rfl) (by simp) ?_
    refine AllReady.cons rfl (fun K hK => ?_) (AllReady.cons rfl (fun K hK => ?_) AllReady.nil)
    · skip
      go_simp
      refine hK _ _ ?_
      clear hK K
      have S1 : Src (v.alloc (.cells #[.int .u8 (ub ya), .int .u8 (ub yb), .int .u8 (ub yc), .int .u8 (ub yd)] 5)) 1 (some ⟨v.heap.size, 0, none⟩) 4 (Bs [ya, yb, yc, yd]) := src_new v (Bs [ya, yb, yc, yd]) 5 (Bs_one _)
      have Lva := Lib.hid (Lv.out.alloc Lv.out.size (.cells #[.int .u8 (ub ya), .int .u8 (ub yb), .int .u8 (ub yc), .int .u8 (ub yd)] 5))
      have S1 := Lib.hid S1
      generalize v.alloc (.cells #[.int .u8 (ub ya), .int .u8 (ub yb), .int .u8 (ub yc), .int .u8 (ub yd)] 5) = va at S1 Lva ⊢
      generalize v.heap.size = g1 at S1 ⊢
      refine wpAny_ready (rs := [21, 24]) (by kernel_rfl) (by simp) ?_
      refine AllReady.cons rfl (fun K hK => ?_) (AllReady.cons rfl (fun K hK => ?_) AllReady.nil)
      · skip
        refine step_conv (by rfl) _ _ _ rfl (.string ⟨#[ya, yb, yc, yd]⟩) (run_str _ _ 4 4 [ya, yb, yc, yd] S1.out) ?_
        refine hK _ _ ?_
        clear hK K
        refine wpAny_ready (rs := [24]) (by kernel_rfl) (by simp) ?_
        refine AllReady.cons rfl (fun K hK => ?_) AllReady.nil
        · skip
          go_simp
          refine hK _ _ ?_
          clear hK K
          have S2 : Src (va.alloc Z) 1 (some ⟨va.heap.size, 0, none⟩) m (Bs (List.replicate m 0)) := HZ.out va
          have Lvab := Lib.hid (Lva.out.alloc Lva.out.size Z)
          have S1 := Lib.hid (src_al S1.out Z)
          have S2 := Lib.hid S2
          generalize va.alloc Z = vab at S2 Lvab S1 ⊢
          generalize va.heap.size = g2 at S2 ⊢
          refine wpAny_ready (rs := [25]) (by kernel_rfl) (by simp) ?_
          refine AllReady.cons rfl (fun K hK => ?_) AllReady.nil
          · skip
            refine step_conv (by rfl) _ _ _ rfl (.string z) (HC.out _ _ S2.out) ?_
            refine hK _ _ ?_
            clear hK K
            refine wpAny_ready (rs := [26]) (by kernel_rfl) (by simp) ?_
            refine AllReady.cons rfl (fun K hK => ?_) AllReady.nil
            · skip
              go_simp
              refine hK _ _ ?_
              clear hK K
              refine wpAny_ready (rs := [27]) (by kernel_rfl) (by simp) ?_
              refine AllReady.cons rfl (fun K hK => ?_) AllReady.nil
              · skip
                go_simp
                refine hK _ _ ?_
                clear hK K
                refine wpAny_done (by kernel_rfl) ?_ _
                show (_ : Prop)
                simp only [Exit.then]
                refine (by assumption : ∀ (a2 : Act) (w2 : World), Met _ a2 w2 → _) _ _ ?_
                go_meet
                exact ⟨_, rfl, ZZ.out, Lvab.out⟩
      · skip
        go_simp
        refine hK _ _ ?_
        clear hK K
        have S2 : Src (va.alloc Z) 1 (some ⟨va.heap.size, 0, none⟩) m (Bs (List.replicate m 0)) := HZ.out va
        have Lvab := Lib.hid (Lva.out.alloc Lva.out.size Z)
        have S1 := Lib.hid (src_al S1.out Z)
        have S2 := Lib.hid S2
        generalize va.alloc Z = vab at S2 Lvab S1 ⊢
        generalize va.heap.size = g2 at S2 ⊢
        refine wpAny_ready (rs := [21, 25]) (by kernel_rfl) (by simp) ?_
        refine AllReady.cons rfl (fun K hK => ?_) (AllReady.cons rfl (fun K hK => ?_) AllReady.nil)
        · skip
          refine step_conv (by rfl) _ _ _ rfl (.string ⟨#[ya, yb, yc, yd]⟩) (run_str _ _ 4 4 [ya, yb, yc, yd] S1.out) ?_
          refine hK _ _ ?_
          clear hK K
          refine wpAny_ready (rs := [25]) (by kernel_rfl) (by simp) ?_
          refine AllReady.cons rfl (fun K hK => ?_) AllReady.nil
          · skip
            refine step_conv (by rfl) _ _ _ rfl (.string z) (HC.out _ _ S2.out) ?_
            refine hK _ _ ?_
            clear hK K
            refine wpAny_ready (rs := [26]) (by kernel_rfl) (by simp) ?_
            refine AllReady.cons rfl (fun K hK => ?_) AllReady.nil
            · skip
              go_simp
              refine hK _ _ ?_
              clear hK K
              refine wpAny_ready (rs := [27]) (by kernel_rfl) (by simp) ?_
              refine AllReady.cons rfl (fun K hK => ?_) AllReady.nil
              · skip
                go_simp
                refine hK _ _ ?_
                clear hK K
                refine wpAny_done (by kernel_rfl) ?_ _
                show (_ : Prop)
                simp only [Exit.then]
                refine (by assumption : ∀ (a2 : Act) (w2 : World), Met _ a2 w2 → _) _ _ ?_
                go_meet
                exact ⟨_, rfl, ZZ.out, Lvab.out⟩
        · skip
          refine step_conv (by rfl) _ _ _ rfl (.string z) (HC.out _ _ S2.out) ?_
          refine hK _ _ ?_
          clear hK K
          refine wpAny_ready (rs := [21]) (by kernel_rfl) (by simp) ?_
          refine AllReady.cons rfl (fun K hK => ?_) AllReady.nil
          · skip
            refine step_conv (by rfl) _ _ _ rfl (.string ⟨#[ya, yb, yc, yd]⟩) (run_str _ _ 4 4 [ya, yb, yc, yd] S1.out) ?_
            refine hK _ _ ?_
            clear hK K
            refine wpAny_ready (rs := [26]) (by kernel_rfl) (by simp) ?_
            refine AllReady.cons rfl (fun K hK => ?_) AllReady.nil
            · skip
              go_simp
              refine hK _ _ ?_
              clear hK K
              refine wpAny_ready (rs := [27]) (by kernel_rfl) (by simp) ?_
              refine AllReady.cons rfl (fun K hK => ?_) AllReady.nil
              · skip
                go_simp
                refine hK _ _ ?_
                clear hK K
                refine wpAny_done (by kernel_rfl) ?_ _
                show (_ : Prop)
                simp only [Exit.then]
                refine (by assumption : ∀ (a2 : Act) (w2 : World), Met _ a2 w2 → _) _ _ ?_
                go_meet
                exact ⟨_, rfl, ZZ.out, Lvab.out⟩
    · skip
      go_simp
      refine hK _ _ ?_
      clear hK K
      have S2 : Src (v.alloc Z) 1 (some ⟨v.heap.size, 0, none⟩) m (Bs (List.replicate m 0)) := HZ.out v
      have Lvb := Lib.hid (Lv.out.alloc Lv.out.size Z)
      have S2 := Lib.hid S2
      generalize v.alloc Z = vb at S2 Lvb ⊢
      generalize v.heap.size = g2 at S2 ⊢
      refine wpAny_ready (rs := [20, 25]) (by kernel_rfl) (by simp) ?_
      refine AllReady.cons rfl (fun K hK => ?_) (AllReady.cons rfl (fun K hK => ?_) AllReady.nil)
      · skip
        go_simp
        refine hK _ _ ?_
        clear hK K
        have S1 : Src (vb.alloc (.cells #[.int .u8 (ub ya), .int .u8 (ub yb), .int .u8 (ub yc), .int .u8 (ub yd)] 5)) 1 (some ⟨vb.heap.size, 0, none⟩) 4 (Bs [ya, yb, yc, yd]) := src_new vb (Bs [ya, yb, yc, yd]) 5 (Bs_one _)
        have Lvba := Lib.hid (Lvb.out.alloc Lvb.out.size (.cells #[.int .u8 (ub ya), .int .u8 (ub yb), .int .u8 (ub yc), .int .u8 (ub yd)] 5))
        have S2 := Lib.hid (src_al S2.out (.cells #[.int .u8 (ub ya), .int .u8 (ub yb), .int .u8 (ub yc), .int .u8 (ub yd)] 5))
        have S1 := Lib.hid S1
        generalize vb.alloc (.cells #[.int .u8 (ub ya), .int .u8 (ub yb), .int .u8 (ub yc), .int .u8 (ub yd)] 5) = vba at S1 Lvba S2 ⊢
        generalize vb.heap.size = g1 at S1 ⊢
        refine wpAny_ready (rs := [21, 25]) (by kernel_rfl) (by simp) ?_
        refine AllReady.cons rfl (fun K hK => ?_) (AllReady.cons rfl (fun K hK => ?_) AllReady.nil)
        · skip
          refine step_conv (by rfl) _ _ _ rfl (.string ⟨#[ya, yb, yc, yd]⟩) (run_str _ _ 4 4 [ya, yb, yc, yd] S1.out) ?_
          refine hK _ _ ?_
          clear hK K
          refine wpAny_ready (rs := [25]) (by kernel_rfl) (by simp) ?_
          refine AllReady.cons rfl (fun K hK => ?_) AllReady.nil
          · skip
            refine step_conv (by rfl) _ _ _ rfl (.string z) (HC.out _ _ S2.out) ?_
            refine hK _ _ ?_
            clear hK K
            refine wpAny_ready (rs := [26]) (by kernel_rfl) (by simp) ?_
            refine AllReady.cons rfl (fun K hK => ?_) AllReady.nil
            · skip
              go_simp
              refine hK _ _ ?_
              clear hK K
              refine wpAny_ready (rs := [27]) (by kernel_rfl) (by simp) ?_
              refine AllReady.cons rfl (fun K hK => ?_) AllReady.nil
              · skip
                go_simp
                refine hK _ _ ?_
                clear hK K
                refine wpAny_done (by kernel_rfl) ?_ _
                show (_ : Prop)
                simp only [Exit.then]
                refine (by assumption : ∀ (a2 : Act) (w2 : World), Met _ a2 w2 → _) _ _ ?_
                go_meet
                exact ⟨_, rfl, ZZ.out, Lvba.out⟩
        · skip
          refine step_conv (by rfl) _ _ _ rfl (.string z) (HC.out _ _ S2.out) ?_
          refine hK _ _ ?_
          clear hK K
          refine wpAny_ready (rs := [21]) (by kernel_rfl) (by simp) ?_
          refine AllReady.cons rfl (fun K hK => ?_) AllReady.nil
          · skip
            refine step_conv (by rfl) _ _ _ rfl (.string ⟨#[ya, yb, yc, yd]⟩) (run_str _ _ 4 4 [ya, yb, yc, yd] S1.out) ?_
            refine hK _ _ ?_
            clear hK K
            refine wpAny_ready (rs := [26]) (by kernel_rfl) (by simp) ?_
            refine AllReady.cons rfl (fun K hK => ?_) AllReady.nil
            · skip
              go_simp
              refine hK _ _ ?_
              clear hK K
              refine wpAny_ready (rs := [27]) (by kernel_rfl) (by simp) ?_
              refine AllReady.cons rfl (fun K hK => ?_) AllReady.nil
              · skip
                go_simp
                refine hK _ _ ?_
                clear hK K
                refine wpAny_done (by kernel_rfl) ?_ _
                show (_ : Prop)
                simp only [Exit.then]
                refine (by assumption : ∀ (a2 : Act) (w2 : World), Met _ a2 w2 → _) _ _ ?_
                go_meet
                exact ⟨_, rfl, ZZ.out, Lvba.out⟩
      · skip
        refine step_conv (by rfl) _ _ _ rfl (.string z) (HC.out _ _ S2.out) ?_
        refine hK _ _ ?_
        clear hK K
        refine wpAny_ready (rs := [20]) (by kernel_rfl) (by simp) ?_
        refine AllReady.cons rfl (fun K hK => ?_) AllReady.nil
        · skip
          go_simp
          refine hK _ _ ?_
          clear hK K
          have S1 : Src (vb.alloc (.cells #[.int .u8 (ub ya), .int .u8 (ub yb), .int .u8 (ub yc), .int .u8 (ub yd)] 5)) 1 (some ⟨vb.heap.size, 0, none⟩) 4 (Bs [ya, yb, yc, yd]) := src_new vb (Bs [ya, yb, yc, yd]) 5 (Bs_one _)
          have Lvba := Lib.hid (Lvb.out.alloc Lvb.out.size (.cells #[.int .u8 (ub ya), .int .u8 (ub yb), .int .u8 (ub yc), .int .u8 (ub yd)] 5))
          have S2 := Lib.hid (src_al S2.out (.cells #[.int .u8 (ub ya), .int .u8 (ub yb), .int .u8 (ub yc), .int .u8 (ub yd)] 5))
          have S1 := Lib.hid S1
          generalize vb.alloc (.cells #[.int .u8 (ub ya), .int .u8 (ub yb), .int .u8 (ub yc), .int .u8 (ub yd)] 5) = vba at S1 Lvba S2 ⊢
          generalize vb.heap.size = g1 at S1 ⊢
          refine wpAny_ready (rs := [21]) (by kernel_rfl) (by simp) ?_
          refine AllReady.cons rfl (fun K hK => ?_) AllReady.nil
          · skip
            refine step_conv (by rfl) _ _ _ rfl (.string ⟨#[ya, yb, yc, yd]⟩) (run_str _ _ 4 4 [ya, yb, yc, yd] S1.out) ?_
            refine hK _ _ ?_
            clear hK K
            refine wpAny_ready (rs := [26]) (by kernel_rfl) (by simp) ?_
            refine AllReady.cons rfl (fun K hK => ?_) AllReady.nil
            · skip
              go_simp
              refine hK _ _ ?_
              clear hK K
              refine wpAny_ready (rs := [27]) (by kernel_rfl) (by simp) ?_
              refine AllReady.cons rfl (fun K hK => ?_) AllReady.nil
              · skip
                go_simp
                refine hK _ _ ?_
                clear hK K
                refine wpAny_done (by kernel_rfl) ?_ _
                show (_ : Prop)
                simp only [Exit.then]
                refine (by assumption : ∀ (a2 : Act) (w2 : World), Met _ a2 w2 → _) _ _ ?_
                go_meet
                exact ⟨_, rfl, ZZ.out, Lvba.out⟩
  case rest =>
    obtain ⟨s, rfl, hs, hb⟩ := hcut
    have hdw := HG.out.deb.belowB hb HG.out.deb.lt
    have cG := get_any _ s (by omega) hdw
    have cR := fun w => get5_any w s (by omega)
    unfold getV at cG cR
    obtain ⟨A, hA⟩ : ∃ A : Int, A = ((getR s.data.toList).1 : Int) := ⟨_, rfl⟩
    obtain ⟨T, hT⟩ : ∃ T : ByteArray, T = ⟨(getR s.data.toList).2.1.toArray⟩ := ⟨_, rfl⟩
    obtain ⟨M, hM⟩ : ∃ A : Int, A = ((getR s.data.toList).2.2.1 : Int) := ⟨_, rfl⟩
    obtain ⟨E, hE⟩ : ∃ A : Int, A = ((getR s.data.toList).2.2.2 : Int) := ⟨_, rfl⟩
    rw [← hA, ← hT, ← hM, ← hE] at cG
    simp only [← hA, ← hT, ← hM, ← hE] at cR
    have CG := Lib.hid cG
    have CR := Lib.hid cR
    have L2 := Lib.hid hb
    clear cG cR hA hT hM hE hb hs hdw hmk zb va vb vc vd ia ib ic id L1 hmask'
    go_wp2_with (first
      | (go_at_call 11; refine CG.out.mono ?_; rintro e w3 ⟨rfl, h3⟩; have L3 := Lib.hid (L2.out.trans (h3.mono L2.out.size)); clear h3)
      | (go_at_call 12; refine (CR.out _).mono ?_; rintro e w4 ⟨rfl, h4⟩; have L4 := Lib.hid (L3.out.trans (h4.mono L3.out.size)); clear h4))
    go_ret
    exact ⟨rfl, L4.out⟩
end Go.Proofs.YtmnndehoopmmaaaGreatDoor
