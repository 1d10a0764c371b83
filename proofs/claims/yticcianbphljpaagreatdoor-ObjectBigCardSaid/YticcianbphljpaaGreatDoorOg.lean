/- ObjectBig: blobs of a thousand bytes, and not one more: the law's walk. -/
import Derived.Test.YticcianbphljpaaGreatDoorP18x
import Derived.Test.YticcianbphljpaaGreatDoorP17x
import Derived.Test.YticcianbphljpaaGreatDoorBn
import Derived.Test.YticcianbphljpaaGreatDoorLp
import Derived.Test.YticcianbphljpaaGreatDoorPz
namespace Go.Proofs.YticcianbphljpaaGreatDoor
open Go.RowKit
theorem built_blobO (s : ByteArray) : Tryz.prog.built 64 [(0, .int .i64 1), (1, .string s)] = some (objL ⟨1, s.data.toList, [], noCom⟩ none 0 0 none 0 0).toArray := by
  rw [builtO, fill_one _ _ 0 _ _ 0 [.int .i64 1] rfl (by simp) (by simp [zeroO, objL_len]), fill_one _ _ 1 _ _ 1 [.string s] rfl (by simp) (by simp [zeroO, objL]), Instr.fill]
  simp [zeroO, objL, noOb]
theorem blobAt (w : World) (l : List UInt8) (h : l.length ≤ 1048576) : ObAt w ⟨1, l, [], noCom⟩ none 0 0 none 0 0 :=
  ⟨⟨rfl, fun h => absurd h (Nat.lt_irrefl 0), fun u hu => by cases hu⟩, Nat.le_refl _, Nat.zero_le _, fun e he => absurd he List.not_mem_nil, by unfold maxLen; show l.length ≤ _; omega, noComAt w⟩
theorem blobMay (l : List UInt8) : mayO ⟨1, l, [], noCom⟩ = decide (l.length ≤ 1000) := by
  unfold mayO
  rw [if_pos rfl]
  have : eqC noCom noCom = true := by unfold eqC; simp
  simp [this]
set_option maxRecDepth 20000 in
set_option maxHeartbeats 6400000 in
theorem objectBigLaw_any (W : World) (n b : Int) (hb0 : 0 ≤ b) (hb1 : b < 256) (hG : Gl W) (hE : Ge W) :
    Calls Tryz.prog 8 #[.int .i64 n, .int .u8 b] W fun e W' => e = .returned (.bool true) ∧ Below W.heap.size W W' := by
  obtain ⟨x, rfl⟩ := ub_of b hb0 hb1
  obtain ⟨q, hq, he⟩ := tmod_round n 20 (by omega) (by omega)
  obtain ⟨p, hp⟩ : ∃ p : Nat, p = 990 + q := ⟨_, rfl⟩
  have hpw : wrap64 (990 + (q : Int)) = (p : Int) := by unfold wrap64; omega
  have p1 : p < 1010 := by omega
  have P1 := Lib.hid p1
  have cB := begun6_any W hG hE
  have CB := Lib.hid cB
  have HG := Lib.hid hG
  have HE := Lib.hid hE
  clear cB hG hE hq hp hb0 hb1 p1
  go_enter Tryz.func8, Tryz.ntmps8
  go_upto_region 5 with (go_at_call 13; refine CB.out.mono ?_; rintro e w1 ⟨rfl, hb⟩; have L1 := Lib.hid hb; clear hb)
  rw [hpw]
  clear he hpw CB
  have hmk := run_make_bytes w1 p (by have := P1.out; omega)
  have B0 := Blk.new w1 5 (Bs (List.replicate p 0))
  have L2 := Lib.hid (L1.out.alloc L1.out.size (.cells (Bs (List.replicate p 0)).toArray 5))
  go_upto_region 6 with fail
  clear hmk
  have HW := Lib.hid L1.out.size
  generalize w1.alloc (.cells (Bs (List.replicate p 0)).toArray 5) = w2 at B0 L2 ⊢
  generalize w1.heap.size = g at B0 HW ⊢
  obtain ⟨f, hf⟩ : ∃ f : Nat → UInt8, f = fun _ => x := ⟨_, rfl⟩
  have hfv : ∀ k : Nat, f k = x := fun k => by rw [hf]
  have HF := Lib.hid hfv
  have B1 : Hid (Blk w2 g 5 (Bs (fillF f p 0))) := Lib.hid (by rw [fillF_zero]; exact B0)
  clear hf hfv L1 B0
  go_wp2
  go_loopw [24] (fun i wr => ∃ k : Nat, k ≤ p ∧ i = .int .i64 k ∧ Blk wr g 5 (Bs (fillF f p k)) ∧ Below W.heap.size W wr) (fun i _ => p - (intOf i).toNat)
  case atStart => exact ⟨0, by omega, rfl, B1.out, L2.out⟩
  case round =>
    obtain ⟨k, hk, rfl, hB, hL⟩ := hrel
    clear B1 L2
    by_cases hlt : k < p
    · have l1 : (k : Int) < (p : Int) := by omega
      have c1 := hB.cell k (.int .u8 0) (by rw [Bs_at _ _ (by rw [fillF_len f p k hk]; exact hlt), fillF_at f p k hlt]; rfl)
      have c2 := hB.frozen k
      have HBk := Lib.hid hB
      have HL := Lib.hid hL
      have HLT := Lib.hid hlt
      have p1010 : k < 1010 := by have := P1.out; omega
      clear hB hL hk hlt
      go_wp2
      go_roundw
      case measure => simp [intOf]; have := HLT.out; omega
      case rel =>
        have h9 := HBk.out.setCell k (.int .u8 (ub (f k)))
        rw [Bs_set, fillF_set f p k HLT.out, HF.out] at h9
        exact ⟨k + 1, HLT.out, by go_num, h9, HL.out.setCell HW.out _⟩
    · have hk' : k = p := by omega
      subst hk'
      obtain ⟨l, hl⟩ : ∃ l, l = fillF f k k := ⟨_, rfl⟩
      rw [← hl] at hB
      have hll : l.length = k := by rw [hl]; exact fillF_len f k k (by omega)
      have SB := Lib.hid (hB.src (Bs_one _) k (by rw [Bs_length]; exact hll))
      have HL := Lib.hid hL
      obtain ⟨s, hs⟩ : ∃ s : ByteArray, s = ⟨l.toArray⟩ := ⟨_, rfl⟩
      have hcv : ∀ w, Below wr.heap.size wr w → (convert 47 9 (.slice (some ⟨g, 0, none⟩) k k)).run Tryz.prog w = .ok (.string s) w := fun w hw => by rw [hs]; exact run_str _ _ _ _ _ (src_below SB.out hw)
      have HCV := Lib.hid hcv
      have bu := built_blobO s
      have hsl : s.data.toList = l := by rw [hs]
      rw [hsl] at bu
      have hp1 := P1.out
      have cP := fun w (hw : Below W.heap.size W w) => objPut_any w ⟨1, l, [], noCom⟩ none 0 0 none 0 0 (blobAt w l (by omega)) (by omega) (by omega) (HG.out.below hw)
      unfold putOV at cP
      rw [blobMay, hll] at cP
      have cG := fun w (hw : Below W.heap.size W w) => objGet_1 w 1 s l hsl.symm (by rw [ba_size, hsl]; omega) (HG.out.below hw) (HE.out.below hw) rfl
      unfold GetOPost getO at cG
      rw [if_pos rfl, hll] at cG
      obtain ⟨o, ho⟩ : ∃ o : Obt, o = ⟨1, l, [], noCom⟩ := ⟨_, rfl⟩
      have oc : ∀ A n c B m d, (objL o A n c B m d)[1]? = some (.string s) := fun A n c B m d => by rw [ho, hs]; rfl
      have e1 : putO o = l := by rw [ho]; rfl
      simp only [← ho] at cP cG bu
      rw [e1] at cP
      have OC := Lib.hid oc
      have BU := Lib.hid bu
      have hse : (s.toList == s.toList) = true := beq_self_eq_true _
      by_cases h1000 : k ≤ 1000
      · rw [decide_eq_true h1000, cond_true, ← hs] at cP
        simp only [if_pos h1000, if_true] at cG
        have CP := Lib.hid cP
        have CG := Lib.hid cG
        have k1 : (k : Int) ≤ 1000 := by omega
        clear cP cG e1 h1000 hB hl hll hs hcv hsl hp1 hlt hk SB ho oc bu
        go_upto_region 12 with (first
          | (refine wpl_conv rfl 47 9 _ rfl (.string s) (HCV.out wr (Below.refl _ _)) ?_)
          | (refine wpl_buildP rfl 64 _ rfl (objL o none 0 0 none 0 0) BU.out ?_)
          | (go_at_call 33; refine (CP.out _ HL.out).mono ?_; rintro e w4 ⟨rfl, hb⟩; have E4 := Lib.hid hb; have L4 := Lib.hid (HL.out.trans (hb.mono HL.out.size)); clear hb))
        go_upto_region 13 with (first
          | (refine wpl_conv rfl 47 9 _ rfl (.string s) (HCV.out w4 E4.out) ?_)
          | (go_at_call 34; refine (CG.out _ L4.out).mono ?_; rintro e w5 ⟨hb, A5, c5, B5, d5, rfl, _, _⟩; have E5 := Lib.hid (E4.out.trans (hb.mono E4.out.size)); have L5 := Lib.hid (L4.out.trans (hb.mono L4.out.size)); clear hb)
          | (refine wpl_storeS rfl 64 (.tmp 10) _ rfl w5.heap.size (objL o A5 o.ents.length c5 B5 o.com.ps.length d5) rfl rfl 64 zeroO (Blk.new w5 _ _) (infoO _ _ _ _ _ _ _) (by rw [objL_len]; rfl) (objL_one _ _ _ _ _ _ _) ?_))
        generalize hw6 : World.setRow _ _ _ = w6
        have Y6 : Hid (Below w5.heap.size w5 w6) := Lib.hid (by rw [← hw6]; exact below_setRow' ((Below.refl _ _).alloc (Nat.le_refl _) _) (Nat.le_refl _) _)
        have K6 : Hid (Blk w6 w5.heap.size 64 (objL o A5 o.ents.length c5 B5 o.com.ps.length d5)) := Lib.hid (by rw [← hw6]; exact (Blk.new w5 _ zeroO).row _)
        clear hw6
        have E6 := Lib.hid (E5.out.trans (Y6.out.mono E5.out.size))
        have L6 := Lib.hid (L5.out.trans (Y6.out.mono L5.out.size))
        have c6 : w6.cell? ⟨w5.heap.size, 1, none⟩ = some (.string s) := K6.out.cell 1 _ (OC.out _ _ _ _ _ _)
        generalize w5.heap.size = g6 at c6 ⊢
        have hcv6 := HCV.out w6 E6.out
        clear K6 Y6 E5 L5 E4 L4 CP CG BU OC HCV
        go_wp2_with (refine wpl_guard (by rfl) ?_; refine wpl_conv rfl 47 9 _ rfl (.string s) hcv6 ?_)
        go_ret
        exact ⟨rfl, L6.out⟩
      · rw [decide_eq_false h1000, cond_false] at cP
        simp only [if_neg h1000] at cG
        have CP := Lib.hid cP
        have CG := Lib.hid cG
        have k1 : ¬ (k : Int) ≤ 1000 := by omega
        have k2 : decide ((k : Int) ≤ 1000) = false := decide_eq_false k1
        clear cP cG e1 h1000 hB hl hll hs hcv hsl hp1 hlt hk SB ho oc bu
        go_upto_region 12 with (first
          | (refine wpl_conv rfl 47 9 _ rfl (.string s) (HCV.out wr (Below.refl _ _)) ?_)
          | (refine wpl_buildP rfl 64 _ rfl (objL o none 0 0 none 0 0) BU.out ?_)
          | (go_at_call 33; refine (CP.out _ HL.out).mono ?_; rintro e w4 ⟨rfl, hb⟩; have E4 := Lib.hid hb; have L4 := Lib.hid (HL.out.trans (hb.mono HL.out.size)); clear hb))
        go_upto_region 13 with (first
          | (refine wpl_conv rfl 47 9 _ rfl (.string s) (HCV.out w4 E4.out) ?_)
          | (go_at_call 34; refine (CG.out _ L4.out).mono ?_; rintro e w5 ⟨hb, h5⟩; have h6 : e = .returned (.tuple #[.agg zeroO.toArray, .int .i64 5]) := h5; subst h6; have L5 := Lib.hid (L4.out.trans (hb.mono L4.out.size)); clear hb h5)
          | (refine wpl_storeS rfl 64 (.tmp 10) _ rfl w5.heap.size zeroO rfl rfl 64 zeroO (Blk.new w5 _ _) infoZO rfl zeroO_one ?_))
        generalize hw6 : World.setRow _ _ _ = w6
        have Y6 : Hid (Below w5.heap.size w5 w6) := Lib.hid (by rw [← hw6]; exact below_setRow' ((Below.refl _ _).alloc (Nat.le_refl _) _) (Nat.le_refl _) _)
        clear hw6
        have L6 := Lib.hid (L5.out.trans (Y6.out.mono L5.out.size))
        clear Y6 L5 E4 L4 CP CG BU OC HCV
        go_wp2
        go_ret
        exact ⟨rfl, L6.out⟩
end Go.Proofs.YticcianbphljpaaGreatDoor
