/- OidHex: the walk of the law's body. -/
import Derived.Test.YtpfoohfgochaiaaGreatDoorBe
import Derived.Test.YtpfoohfgochaiaaGreatDoorIg
import Derived.Test.YtpfoohfgochaiaaGreatDoorQt
namespace Go.Proofs.YtpfoohfgochaiaaGreatDoor
open Go.RowKit
/-- A row of bytes made of a text: its cells. -/
def PB (w : World) (g : Nat) (l : List UInt8) : Prop := ∃ cur : Array Value, w.heap[g]? = some (.cells cur 5 (cur.size, cur.size + 1)) ∧ l.length ≤ cur.size ∧ ∀ j, j < l.length → cur[j]? = some (.int .u8 (ub (gb l j)))
theorem PB.frozen {w : World} {g : Nat} {l : List UInt8} (h : PB w g l) (j : Nat) (hj : j < l.length) : w.frozen? ⟨g, j, none⟩ = false := by
  obtain ⟨cur, h1, h2, _⟩ := h
  simp only [World.frozen?, h1]
  rw [Bool.and_eq_false_iff]
  left
  simp
  omega
theorem PB.cell {w : World} {g : Nat} {l : List UInt8} (h : PB w g l) (j : Nat) (hj : j < l.length) : w.cell? ⟨g, j, none⟩ = some (.int .u8 (ub (gb l j))) := by
  obtain ⟨cur, h1, _, h3⟩ := h
  rw [cell_of_row w g j cur _ _ h1]
  exact h3 j hj
theorem PB.set {w : World} {g : Nat} {l : List UInt8} (h : PB w g l) (k : Nat) (x : UInt8) : PB (w.setCell ⟨g, k, none⟩ (.int .u8 (ub x))) g (l.set k x) := by
  obtain ⟨cur, h1, h2, h3⟩ := h
  have h4 : (w.setCell ⟨g, k, none⟩ (.int .u8 (ub x))).heap[g]? = some (.cells (cur.setIfInBounds k (.int .u8 (ub x))) 5 (cur.size, cur.size + 1)) := by
    simp [World.setCell, Array.getElem?_modify, h1]
  refine ⟨cur.setIfInBounds k (.int .u8 (ub x)), by simpa using h4, by simpa using h2, fun j hj => ?_⟩
  rw [List.length_set] at hj
  have h5 := h3 j hj
  by_cases e : k = j
  · subst e
    rw [Array.getElem?_setIfInBounds_self_of_lt (by omega)]
    simp [gb, List.getD_eq_getElem?_getD, hj]
  · rw [Array.getElem?_setIfInBounds_ne e, h5]
    simp [gb, List.getD_eq_getElem?_getD, List.getElem?_set_ne e]
theorem PB.src {w : World} {g : Nat} {l : List UInt8} (h : PB w g l) (n : Nat) (hn : l.length = n) : Src w 1 (some ⟨g, 0, none⟩) n (Bs l) := by
  refine ⟨by rw [Bs_length, hn, Nat.mul_one], fun _ => ⟨_, rfl, fun j u hu => ?_⟩, Bs_one _⟩
  have hj : j < l.length := by
    have := (List.getElem?_eq_some_iff.1 hu).1
    simpa using this
  have ha : (⟨g, 0, none⟩ : Addr).add j = ⟨g, j, none⟩ := by unfold Addr.add; split <;> simp_all
  rw [ha, h.cell j hj, ← hu, Bs_at l j hj]
theorem PB.below {w w1 : World} {g : Nat} {l : List UInt8} (h : PB w g l) (hb : Below w.heap.size w w1) : PB w1 g l := by
  obtain ⟨cur, h1, h2, h3⟩ := h
  exact ⟨cur, (hb.block g (Array.getElem?_eq_some_iff.1 h1).1).trans h1, h2, h3⟩
theorem PB.new (w : World) (s : ByteArray) (l : List UInt8) (hl : l = s.data.toList) : PB (Lib.bytesWorld w 5 s) w.heap.size l := by
  have h1 := Lib.bytesWorld_at_new w 5 s
  have hc : ∀ j, j < s.size → (Lib.bytesCells w 5 s)[j]? = some (.int .u8 (ub (gb l j))) := fun j hj => by
    have h2 := Lib.bytesWorld_cell w 5 s j hj
    rw [cell_of_row _ _ j _ _ _ h1] at h2
    rw [h2, hl]
    rfl
  have hz : l.length = s.size := by rw [hl, ← ba_size]
  refine ⟨_, h1, ?_, fun j hj => hc j (by omega)⟩
  rcases Nat.eq_zero_or_pos s.size with h0 | h0
  · omega
  · have := (Array.getElem?_eq_some_iff.1 (hc (s.size - 1) (by omega))).1
    omega
section
variable {P : Program} {ops : Array Oper} {C : World → Prop}
/-- A whole array read, guarded or not, in the walk of what only reads. -/
theorem wpQuiet_loadG {Q : Act → Prop} {o : Oper} {rest : List Oper} {a : Act} (hgd : Region.wanted o (yielded ops a.tmps) = true) (ty : TypeId) (x : Operand) (ho : o.op = .load ty x) (g : Nat) (hx : a.eval x = .pointer (some ⟨g, 0, none⟩)) (t : TypeId) (cs : List Value) (hb : ∀ w, C w → Blk w g t cs)
    (n : Nat) (e : TypeId) (hu : P.underlying ty = some (.array n e)) (hi : (P.info? ty).map (·.size) = some cs.length) (h : wpQuiet P ops C Q rest (a.put o.dst (.agg cs.toArray))) : wpQuiet P ops C Q (o :: rest) a := by
  refine wpQuiet_val hgd (.agg cs.toArray) (fun w hw => ?_) h
  unfold execOp
  have hr : (Instr.loadAt ty (.pointer (some ⟨g, 0, none⟩))).run P w = .ok (.agg cs.toArray) w := by
    have := run_loadVar_row (P := P) w g t ty cs.toArray (0, 0) _ (hb w hw) hu rfl (by simpa using hi)
    simpa [Instr.loadAt, Instr.sureAddr] using this
  simp only [ho, hx]
  simp [hr]
end
/-- A name is laid in a block of its own. -/
theorem id_laid {w4 w5 : World} (h : Below w4.heap.size w4 w5) (ys : List Value) : Below w4.heap.size w4 ((w5.alloc (.cells zero32.toArray 72)).setRow w5.heap.size ys.toArray) ∧
    Blk ((w5.alloc (.cells zero32.toArray 72)).setRow w5.heap.size ys.toArray) w5.heap.size 72 ys ∧ Below w5.heap.size w5 ((w5.alloc (.cells zero32.toArray 72)).setRow w5.heap.size ys.toArray) :=
  ⟨below_setRow' (h.alloc h.size _) h.size _, (Blk.new w5 72 zero32).row _, below_setRow' ((Below.refl _ _).alloc (Nat.le_refl _) _) (Nat.le_refl _) _⟩
set_option maxRecDepth 100000 in
set_option maxHeartbeats 8000000 in
theorem oidHex_any (W : World) (l : List UInt8) (hl : l.length = 32) (at_ b : Int) (hb0 : 0 ≤ b) (hb1 : b < 256) (hG : Gl W) :
    Calls Tryz.prog 16 #[.agg (Bs l).toArray, .int .i64 at_, .int .u8 b] W fun e W' => e = .returned (.bool true) ∧ Below W.heap.size W W' := by
  obtain ⟨x, hx⟩ : ∃ x : UInt8, b = ub x := ⟨UInt8.ofNat b.toNat, by unfold ub; rw [UInt8.toNat_ofNat']; omega⟩
  subst hx
  have h0 : Below W.heap.size W (W.alloc (.cells (Bs l).toArray 72)) := (Below.refl _ _).alloc (Nat.le_refl _) _
  have hbe := begun_any _ (hG.below h0)
  have HB := Lib.hid hbe
  have H0 := Lib.hid h0
  have B0 := Lib.hid (Blk.new W 72 (Bs l))
  have HL := Lib.hid hl
  obtain ⟨cs, hcs⟩ : ∃ cs, cs = Bs l := ⟨_, rfl⟩
  rw [← hcs] at HB H0 B0 ⊢
  have HC := Lib.hid hcs
  obtain ⟨s, hs⟩ : ∃ s : ByteArray, s = ⟨(hexL l).toArray⟩ := ⟨_, rfl⟩
  have hsl : s.data.toList = hexL l := by rw [hs]
  have hsz : s.size = 64 := by rw [ba_size, hsl, hexL_length, hl]
  have cH : ∀ w, Calls Tryz.prog 60 #[.agg cs.toArray] w fun e w' => e = .returned (.string s) ∧ Below w.heap.size w w' := fun w => by
    rw [hcs, hs]; exact hex_any w l hl
  have HSL := Lib.hid hsl
  clear hbe hG h0 hb0 hb1 hcs hs hl
  go_enter Tryz.func16, Tryz.ntmps16
  go_upto_region 5 with (first
    | (go_at_call 23; refine HB.out.mono ?_; rintro e w1 ⟨rfl, hb⟩; have L1 := Lib.hid (H0.out.trans (hb.mono H0.out.size)); have B1 := Lib.hid (B0.out.below hb); clear hb)
    | (refine wpl_load rfl 72 (.tmp 3) rfl W.heap.size rfl 72 cs B1.out 32 5 Tryz.underlying72 (by rw [Tryz.sizeId, HC.out]; simp [HL.out]) ?_)
    | (go_at_call 60; refine (cH _).mono ?_; rintro e w2 ⟨rfl, hb⟩; have L2 := Lib.hid (L1.out.trans (hb.mono L1.out.size)); have B2 := Lib.hid (B1.out.below hb); clear hb))
  have z64 : (s.size : Int) = 64 := by omega
  by_cases hneg : at_ < 0
  · go_wp2
    go_ret
    exact ⟨rfl, L2.out⟩
  · obtain ⟨k, hk⟩ : ∃ k : Nat, at_ % 64 = (k : Int) := ⟨(at_ % 64).toNat, by omega⟩
    have hk2 : at_.tmod 64 = (k : Int) := by rw [Int.tmod_eq_emod_of_nonneg (by omega)]; exact hk
    have k64 : (k : Int) < 64 := by omega
    have k65 : k < 64 := by omega
    obtain ⟨c, hcv⟩ : ∃ c, (convert 9 22 (.string s)).run Tryz.prog w2 = .ok (.slice (some ⟨w2.heap.size, 0, none⟩) 64 c) (Lib.bytesWorld w2 5 s) := by
      have hs1 : Tryz.prog.underlying 9 = some .string := by kernel_rfl
      have he1 : Tryz.prog.underlying 5 = some (.int .u8) := by kernel_rfl
      have := Lib.run_convert_string_bytes (P := Tryz.prog) w2 9 22 5 s hs1 Tryz.underlying22 he1
      rw [hsz] at this
      exact ⟨_, this⟩
    have p3 := PB.new w2 s (hexL l) HSL.out.symm
    have b3 : Below w2.heap.size w2 (Lib.bytesWorld w2 5 s) := ⟨rfl, rfl, rfl, by rw [Lib.bytesWorld_size]; omega, fun k hk => Lib.bytesWorld_at_old w2 5 s k hk⟩
    have HCV := Lib.hid hcv
    have hll : (hexL l).length = 64 := by rw [hexL_length, HL.out]
    have HLL := Lib.hid hll
    generalize Lib.bytesWorld w2 5 s = w3 at p3 b3 HCV
    obtain ⟨p, hp⟩ : ∃ p, p = (hexL l).set k x := ⟨_, rfl⟩
    have p4 := p3.set k x
    rw [← hp] at p4
    have x3 := p3.frozen k (by rw [hll]; exact k65)
    have x4 := p3.cell k (by rw [hll]; exact k65)
    have hg : W.heap.size < w2.heap.size := by have := B2.out.lt; exact this
    have l3 := L2.out.trans (b3.mono L2.out.size)
    have l4 : Below W.heap.size W (w3.setCell ⟨w2.heap.size, k, none⟩ (.int .u8 (ub x))) := l3.setCell (by show W.heap.size ≤ w2.heap.size; omega) _
    have b4 : Blk (w3.setCell ⟨w2.heap.size, k, none⟩ (.int .u8 (ub x))) W.heap.size 72 cs := (B2.out.below b3).far (by show W.heap.size ≠ w2.heap.size; omega) _
    have P4 := Lib.hid p4
    have L4 := Lib.hid l4
    have B4 := Lib.hid b4
    have HP := Lib.hid hp
    have hpl : p.length = 64 := by rw [hp, List.length_set, hll]
    have HPL := Lib.hid hpl
    have c64 : (64 : Int) ≤ (c : Int) ∨ True := Or.inr trivial
    clear p4 l4 b4 p3 b3 l3 hp hll hpl c64 hg hcv B1 L1 HB H0 B0
    go_upto_region 9 with (refine wpl_convw rfl 9 22 _ rfl _ rfl _ w3 HCV.out ?_)
    clear x3 x4
    generalize w3.setCell ⟨w2.heap.size, k, none⟩ (.int .u8 (ub x)) = w4 at P4 L4 B4 ⊢
    generalize w2.heap.size = g at P4 ⊢
    obtain ⟨u, hu⟩ : ∃ u : ByteArray, u = ⟨p.toArray⟩ := ⟨_, rfl⟩
    have hul : u.data.toList = p := by rw [hu]
    have hcv4 : ∀ w, Below w4.heap.size w4 w → (convert 22 9 (.slice (some ⟨g, 0, none⟩) 64 c)).run Tryz.prog w = .ok (.string u) w := fun w hb => by
      rw [hu]
      exact run_str _ _ _ _ _ ((P4.out.below hb).src 64 HPL.out)
    have HCV4 := Lib.hid hcv4
    obtain ⟨y, hy⟩ : ∃ y, y = (idR p).1 := ⟨_, rfl⟩
    obtain ⟨o, ho⟩ : ∃ o, o = (idR p).2 := ⟨_, rfl⟩
    have hyl : y.length = 32 := by rw [hy]; exact idR_len p
    have cG : ∀ w, Calls Tryz.prog 61 #[.string u] w fun e w' => e = .returned (.tuple #[.agg (Bs y).toArray, .bool o]) ∧ Below w.heap.size w w' := fun w => by
      rw [hy, ho]; exact idGet_any w u p hul.symm
    have cR : ∀ w, Calls Tryz.prog 62 #[.string u] w fun e w' => e = .returned (.tuple #[.agg (Bs y).toArray, .bool o]) ∧ Below w.heap.size w w' := fun w => by
      rw [hy, ho]; exact getHex_any w u p hul.symm
    have cS : ∀ (v : ByteArray), v.size ≠ 64 → ∀ w, Calls Tryz.prog 61 #[.string v] w fun e w' => e = .returned (.tuple #[.agg zero32.toArray, .bool false]) ∧ Below w.heap.size w w' := fun v hv w => by
      have := idGet_any w v v.data.toList rfl
      have h2 : idR v.data.toList = (List.replicate 32 0, false) := by
        unfold idR
        rw [if_neg (by rw [← ba_size]; omega)]
      rw [h2] at this
      exact this
    have CG := Lib.hid cG
    have CR := Lib.hid cR
    have CS := Lib.hid cS
    have HU := Lib.hid hul
    have HY := Lib.hid (And.intro hy ho)
    have HYL := Lib.hid hyl
    clear hcv4 cG cR cS hu hul hy ho hyl HCV
    have zI := zI_eq
    go_upto_region 10 with (first
      | (refine wpl_conv rfl 22 9 _ rfl (.string u) (HCV4.out w4 (Below.refl _ _)) ?_)
      | (go_at_call 61; refine (CG.out _).mono ?_; rintro e w5 ⟨rfl, hb⟩; have E5 := Lib.hid hb; clear hb)
      | (refine wpl_store rfl 72 (.tmp 10) _ rfl w5.heap.size (Bs y) rfl rfl 72 zero32 (Blk.new w5 _ _) (by rw [Tryz.sizeId]; simp [HYL.out]) (by simp [zero32, HYL.out]) (Bs_one _) ?_))
    have E6 := Lib.hid (id_laid E5.out (Bs y)).1
    have Y6 := Lib.hid (id_laid E5.out (Bs y)).2.1
    generalize (w5.alloc (.cells zero32.toArray 72)).setRow w5.heap.size (Bs y).toArray = w6 at E6 Y6 ⊢
    generalize w5.heap.size = g10 at Y6 ⊢
    go_upto_region 11 with (first
      | (refine wpl_conv rfl 22 9 _ rfl (.string u) (HCV4.out w6 E6.out) ?_)
      | (go_at_call 62; refine (CR.out _).mono ?_; rintro e w7 ⟨rfl, hb⟩; have E7 := Lib.hid (E6.out.trans (hb.mono E6.out.size)); have Y7 := Lib.hid (Y6.out.below hb); clear hb)
      | (refine wpl_store rfl 72 (.tmp 12) _ rfl w7.heap.size (Bs y) rfl rfl 72 zero32 (Blk.new w7 _ _) (by rw [Tryz.sizeId]; simp [HYL.out]) (by simp [zero32, HYL.out]) (Bs_one _) ?_))
    have E8 := Lib.hid (id_laid E7.out (Bs y)).1
    have Z8 := Lib.hid (id_laid E7.out (Bs y)).2.1
    have Y8 := Lib.hid (Y7.out.below (id_laid E7.out (Bs y)).2.2)
    generalize (w7.alloc (.cells zero32.toArray 72)).setRow w7.heap.size (Bs y).toArray = w8 at E8 Y8 Z8 ⊢
    generalize w7.heap.size = g12 at Z8 ⊢
    clear E5 E6 Y6 E7 Y7
    have s63 : (s.extract 0 63).size ≠ 64 := by rw [ByteArray.size_extract]; omega
    have S63 := Lib.hid s63
    have s65 : (s ++ ({ data := #[48] } : ByteArray)).size ≠ 64 := by
      rw [ByteArray.size_append]
      have : ({ data := #[48] } : ByteArray).size = 1 := rfl
      omega
    have S65 := Lib.hid s65
    clear s63 s65
    go_upto_region 12 with (first
      | (go_at_call 61; refine (CS.out _ S63.out _).mono ?_; rintro e w9 ⟨rfl, hb⟩; have E9 := Lib.hid (E8.out.trans (hb.mono E8.out.size)); have Y9 := Lib.hid (Y8.out.below hb); have Z9 := Lib.hid (Z8.out.below hb); clear hb)
      | (refine wpl_store rfl 72 (.tmp 14) _ rfl w9.heap.size zero32 rfl rfl 72 zero32 (Blk.new w9 _ _) (by rw [Tryz.sizeId]; simp [zero32]) rfl (Bs_one _) ?_))
    have EA := Lib.hid (id_laid E9.out zero32).1
    have YA := Lib.hid (Y9.out.below (id_laid E9.out zero32).2.2)
    have ZA := Lib.hid (Z9.out.below (id_laid E9.out zero32).2.2)
    generalize (w9.alloc (.cells zero32.toArray 72)).setRow w9.heap.size zero32.toArray = wa at EA YA ZA ⊢
    generalize w9.heap.size = g14
    clear E8 Y8 Z8 E9 Y9 Z9
    go_upto_region 13 with (first
      | (go_at_call 61; refine (CS.out _ S65.out _).mono ?_; rintro e wb ⟨rfl, hb⟩; have EB := Lib.hid (EA.out.trans (hb.mono EA.out.size)); have YB := Lib.hid (YA.out.below hb); have ZB := Lib.hid (ZA.out.below hb); clear hb)
      | (refine wpl_store rfl 72 (.tmp 16) _ rfl wb.heap.size zero32 rfl rfl 72 zero32 (Blk.new wb _ _) (by rw [Tryz.sizeId]; simp [zero32]) rfl (Bs_one _) ?_))
    have EC := Lib.hid (id_laid EB.out zero32).1
    have YC := Lib.hid (YB.out.below (id_laid EB.out zero32).2.2)
    have ZC := Lib.hid (ZB.out.below (id_laid EB.out zero32).2.2)
    generalize (wb.alloc (.cells zero32.toArray 72)).setRow wb.heap.size zero32.toArray = wc at EC YC ZC ⊢
    generalize wb.heap.size = g16
    clear EA YA ZA EB YB ZB
    have BC := Lib.hid (B4.out.below EC.out)
    have LC := Lib.hid (L4.out.trans (EC.out.mono L4.out.size))
    have hcvn : ∀ n, (convert 22 9 (.slice (some ⟨g, 0, none⟩) 64 c)).run Tryz.prog (wc.drewN n) = .ok (.string u) (wc.drewN n) := fun n => HCV4.out _ (below_drewN' EC.out n)
    have hyl := HYL.out
    have heq : ∀ w, (binOp .eql 72 (.agg (Bs y).toArray) (.agg (Bs y).toArray)).run Tryz.prog w = .ok (.bool true) w := fun w => by
      rw [run_eql_struct, eqIn_bytes w _ Tryz.underlying72 _ _ hyl hyl, decide_eq_true rfl]; rfl
    have heq2 : ∀ w, (binOp .eql 72 (.agg (Bs y).toArray) (.agg cs.toArray)).run Tryz.prog w = .ok (.bool (decide (y = l))) w := fun w => by
      rw [HC.out, run_eql_struct, eqIn_bytes w _ Tryz.underlying72 _ _ hyl HL.out]; rfl
    have hsame : o = true → ((u.toList == s.toList) = decide (y = l)) := fun ho => by
      rw [ByteArray.toList_eq, ByteArray.toList_eq, HU.out, HSL.out]
      have h1 := idR_inj (a := l) (p := p) (by rw [← HY.out.2]; exact ho)
      rw [← HY.out.1] at h1
      rw [Bool.eq_iff_iff]
      simp only [beq_iff_eq, decide_eq_true_eq]
      exact h1.symm
    have HSM := Lib.hid hsame
    clear hsame hyl HCV4 CG CR CS
    cases o
    · refine wp_region_quiet_lit (by kernel_rfl) (by kernel_rfl) ?_
      repeat (go_big_quiet_step (fail))
      refine wpQuiet_loadG (by rfl) 72 (.tmp 10) rfl g10 rfl 72 (Bs y) (fun w ⟨n, hw⟩ => by subst hw; exact YC.out) 32 5 Tryz.underlying72 (by rw [Tryz.sizeId]; simp [HYL.out]) ?_
      refine wpQuiet_loadG (by rfl) 72 (.tmp 12) rfl g12 rfl 72 (Bs y) (fun w ⟨n, hw⟩ => by subst hw; exact ZC.out) 32 5 Tryz.underlying72 (by rw [Tryz.sizeId]; simp [HYL.out]) ?_
      quiet_step (fail)
      repeat (go_big_quiet_step (fail))
      refine wpQuiet_nil ?_
      rintro _ ⟨n9, rfl⟩
      go_wp2
      go_ret
      exact ⟨rfl, below_drewN' LC.out _⟩
    · have hs2 := HSM.out rfl
      obtain ⟨q, hq⟩ : ∃ q : Bool, q = decide (y = l) := ⟨_, rfl⟩
      rw [← hq] at hs2 heq2
      clear hq
      refine wp_region_quiet_lit (by kernel_rfl) (by kernel_rfl) ?_
      repeat (go_big_quiet_step (fail))
      refine wpQuiet_loadG (by rfl) 72 (.tmp 10) rfl g10 rfl 72 (Bs y) (fun w ⟨n, hw⟩ => by subst hw; exact YC.out) 32 5 Tryz.underlying72 (by rw [Tryz.sizeId]; simp [HYL.out]) ?_
      refine wpQuiet_loadG (by rfl) 72 (.tmp 12) rfl g12 rfl 72 (Bs y) (fun w ⟨n, hw⟩ => by subst hw; exact ZC.out) 32 5 Tryz.underlying72 (by rw [Tryz.sizeId]; simp [HYL.out]) ?_
      quiet_step (fail)
      repeat (go_big_quiet_step (fail))
      refine wpQuiet_loadG (by rfl) 72 (.tmp 10) rfl g10 rfl 72 (Bs y) (fun w ⟨n, hw⟩ => by subst hw; exact YC.out) 32 5 Tryz.underlying72 (by rw [Tryz.sizeId]; simp [HYL.out]) ?_
      refine wpQuiet_loadG (by rfl) 72 (.tmp 3) rfl W.heap.size rfl 72 cs (fun w ⟨n, hw⟩ => by subst hw; exact BC.out) 32 5 Tryz.underlying72 (by rw [Tryz.sizeId, HC.out]; simp [HL.out]) ?_
      quiet_step (fail)
      repeat (go_big_quiet_step (fail))
      refine wpQuiet_nil ?_
      rintro _ ⟨n9, rfl⟩
      cases q
      all_goals
        go_wp2
        go_ret
        exact ⟨rfl, below_drewN' LC.out _⟩
end Go.Proofs.YtpfoohfgochaiaaGreatDoor
