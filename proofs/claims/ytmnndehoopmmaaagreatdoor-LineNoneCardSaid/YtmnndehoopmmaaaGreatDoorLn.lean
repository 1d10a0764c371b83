/- LineNone: nothing, asked of each. -/
import Derived.Test.YtmnndehoopmmaaaGreatDoorWg
import Derived.Test.YtmnndehoopmmaaaGreatDoorBe
import Derived.Test.YtmnndehoopmmaaaGreatDoorIg
import Derived.Test.YtmnndehoopmmaaaGreatDoorNx
import Derived.Test.YtmnndehoopmmaaaGreatDoorSk
namespace Go.Proofs.YtmnndehoopmmaaaGreatDoor
open Go.RowKit
set_option maxHeartbeats 400000 in
theorem put_nil (W : World) (A : Option Addr) (n c : Nat) : Calls Tryz.prog 46 #[.pointer none, .slice A n c] W fun e W' => e = .returned (.tuple #[]) ∧ W' = W := by
  go_enter Tryz.func46, Tryz.ntmps46
  go_wp2
  first | go_end0 | refine bodyPost_ret (results_none rfl _ _ _) rfl ?_
  exact ⟨rfl, rfl⟩
set_option maxHeartbeats 400000 in
theorem left_nil (W : World) : Calls Tryz.prog 56 #[.pointer none] W fun e W' => e = .returned (.int .i64 0) ∧ W' = W := by
  go_enter Tryz.func56, Tryz.ntmps56
  go_wp2
  go_ret
  exact ⟨rfl, rfl⟩
set_option maxHeartbeats 400000 in
theorem bytes_nil1 (W : World) : Calls Tryz.prog 51 #[.pointer none, .int .i64 1] W fun e W' => e = faultOf 2 ∧ W' = W := by
  go_enter Tryz.func51, Tryz.ntmps51
  go_wp2_with (first
    | (go_at_call 56; refine (left_nil _).mono ?_; rintro e w' ⟨rfl, hw⟩; replace hw := hw.symm; subst hw)
    | (go_at_call 86; (with_reducible refine (must_true _ _).mono ?_); rintro e w' ⟨rfl, hw⟩; replace hw := hw.symm; subst hw)
    | (go_at_call 86; (with_reducible refine (must_false _ _).mono ?_); rintro e w' ⟨rfl, hw⟩; replace hw := hw.symm; subst hw))
  exact ⟨rfl, rfl, rfl⟩
set_option maxHeartbeats 400000 in
theorem bytes_nil0 (W : World) : Calls Tryz.prog 51 #[.pointer none, .int .i64 0] W fun e W' => e = .returned (.slice none 0 0) ∧ W' = W := by
  go_enter Tryz.func51, Tryz.ntmps51
  go_wp2_with (first
    | (go_at_call 56; refine (left_nil _).mono ?_; rintro e w' ⟨rfl, hw⟩; replace hw := hw.symm; subst hw)
    | (go_at_call 86; (with_reducible refine (must_true _ _).mono ?_); rintro e w' ⟨rfl, hw⟩; replace hw := hw.symm; subst hw))
  go_ret
  exact ⟨rfl, rfl⟩
set_option maxHeartbeats 400000 in
theorem ln1_any (w : World) (g : Nat) (h : w.cell? ⟨g, 0, none⟩ = some (.pointer none)) : Calls Tryz.prog 48 #[.pointer (some ⟨g, 0, none⟩)] w fun e w' => e = faultOf 2 ∧ w' = w := by
  have cB : ∀ w, Calls Tryz.prog 49 #[.pointer none] w fun e w' => e = faultOf 2 ∧ w' = w := fun w => by
    go_enter Tryz.func49, Tryz.ntmps49
    go_wp2_with (go_at_call 51; refine (bytes_nil1 _).mono ?_; rintro e w' ⟨he, hw⟩; replace hw := hw.symm; subst hw; unfold faultOf at he; subst he)
    exact ⟨rfl, rfl, rfl⟩
  go_enter Tryz.func48, Tryz.ntmps48
  go_wp2_with (go_at_call 49; refine (cB _).mono ?_; rintro e w' ⟨he, hw⟩; replace hw := hw.symm; subst hw; unfold faultOf at he; subst he)
  exact ⟨rfl, rfl, rfl⟩
set_option maxHeartbeats 400000 in
theorem ln2_any (w : World) (g : Nat) (h : w.cell? ⟨g, 0, none⟩ = some (.pointer none)) : Calls Tryz.prog 50 #[.pointer (some ⟨g, 0, none⟩)] w fun e w' => e = .returned (.tuple #[]) ∧ w' = w := by
  go_enter Tryz.func50, Tryz.ntmps50
  go_wp2_with (go_at_call 51; refine (bytes_nil0 _).mono ?_; rintro e w' ⟨rfl, hw⟩; replace hw := hw.symm; subst hw)
  first | go_end0 | refine bodyPost_ret (results_none rfl _ _ _) rfl ?_
  exact ⟨rfl, rfl⟩
/-- Do over what leaves all as it was: told, or well. -/
theorem do_told (W : World) (k : Nat) (cap : Array Value) (e : Int) (hc : ∀ w, (callFunc k cap).run Tryz.prog w = .ok (.enter k cap) w)
    (hk : ∀ w, Below W.heap.size W w → Calls Tryz.prog k cap w fun e' w' => e' = faultOf e ∧ w' = w) :
    Calls Tryz.prog 47 #[.func (.func k) #[] cap] W fun e' W' => e' = .returned (.int .i64 e) ∧ Below W.heap.size W W' := by
  have h0 : Below W.heap.size W (W.alloc (.cells #[.int .i64 0] 24)) := (Below.refl _ _).alloc (Nat.le_refl _) _
  refine (do_fault W k cap e (fun W2 => W2 = W.alloc (.cells #[.int .i64 0] 24)) hc ((hk _ h0).mono ?_)).mono ?_
  · rintro e' W2 ⟨rfl, rfl⟩
    exact ⟨rfl, Blk.new W _ [.int .i64 0], rfl⟩
  · rintro e' W' ⟨rfl, W2, rfl, hk⟩
    exact ⟨rfl, h0.trans (hk.toBelow h0.size (Nat.le_refl _) (fun k e => by cases e))⟩
theorem do_well (W : World) (k : Nat) (cap : Array Value) (hc : ∀ w, (callFunc k cap).run Tryz.prog w = .ok (.enter k cap) w)
    (hk : ∀ w, Below W.heap.size W w → Calls Tryz.prog k cap w fun e' w' => e' = .returned (.tuple #[]) ∧ w' = w) :
    Calls Tryz.prog 47 #[.func (.func k) #[] cap] W fun e' W' => e' = .returned (.int .i64 0) ∧ Below W.heap.size W W' := by
  have h0 : Below W.heap.size W (W.alloc (.cells #[.int .i64 0] 24)) := (Below.refl _ _).alloc (Nat.le_refl _) _
  refine (do_ok W k cap (fun W2 => W2 = W.alloc (.cells #[.int .i64 0] 24)) hc ((hk _ h0).mono ?_)).mono ?_
  · rintro e' W2 ⟨rfl, rfl⟩
    exact ⟨rfl, Blk.new W _ [.int .i64 0], rfl⟩
  · rintro e' W' ⟨rfl, W2, rfl, hk⟩
    exact ⟨rfl, h0.trans (hk.toBelow h0.size (Nat.le_refl _) (fun k e => by cases e))⟩
set_option maxRecDepth 100000 in
set_option maxHeartbeats 2000000 in
theorem sum_nil (W : World) : Calls Tryz.prog 54 #[.pointer none] W fun e W' => e = .returned (.agg (Bs (sha256 [])).toArray) ∧ Below W.heap.size W W' := by
  have z32 := z32_eq
  have B0 : Hid (Below W.heap.size W (W.alloc (.cells zero32.toArray 50))) := (Below.refl _ _).alloc (Nat.le_refl _) _
  have Z0 := Lib.hid (Blk.new W 50 zero32)
  have N0 : Hid ((W.alloc (.cells zero32.toArray 50)).heap.size = W.heap.size + 1) := hsz _ _
  go_enter Tryz.func54, Tryz.ntmps54
  go_wp2_with (first
    | (go_at_call 93; generalize W.alloc (.cells zero32.toArray 50) = W0 at *; refine (new_any W0).mono ?_; rintro e w1 ⟨g, rfl, hg, hH, hb⟩; have G1 := Lib.hid hg; have H1 := Lib.hid hH; have B1 := Lib.hid hb; clear hg hH hb)
    | (go_at_call 54; refine (sum_any w1 W0.heap.size g st0 (.slice none 0 0) [] 0 H1.out (by omega) (by simp)).mono ?_; rintro e w3 ⟨rfl, hb3⟩; have B3 := Lib.hid hb3; clear hb3)
    | (refine wpl_store rfl 50 (.tmp 2) _ rfl W.heap.size (Bs (digest st0 [] 0)) rfl rfl 50 zero32 (sum_blk Z0.out N0.out B1.out (Kept2.refl w1 g none) rfl B3.out G1.out) (by rw [Tryz.size32]; simp) (by simp [zero32]) (Bs_one _) ?_))
  refine bodyPost_ret (v := .agg (Bs (digest st0 [] 0)).toArray) (res_row rfl _ _ W.heap.size 50 _ 32 5 rfl ((sum_blk Z0.out N0.out B1.out (Kept2.refl w1 g none) rfl B3.out G1.out).row _) Tryz.underlying50 (by rw [Tryz.size32]; simp)) rfl ⟨rfl, sum_end (sum_low B0.out B1.out (Kept2.refl w1 g none) rfl B3.out G1.out)⟩
set_option maxRecDepth 20000 in
set_option maxHeartbeats 800000 in
theorem isort_nil (W : World) : Calls Tryz.prog 33 #[.slice none 0 0] W fun e W' => e = .returned (.slice none 0 0) ∧ W' = W := by
  have hnil : ∀ W, (binOp .eql 47 (.slice none 0 0) (.slice none 0 0)).run Tryz.prog W = .ok (.bool true) W := fun W => Lib.run_eql_slice_nil (P := Tryz.prog) W 47 51 none 0 0 0 0 Tryz.underlying47
  have cC : ∀ w, Calls Tryz.prog 74 #[.slice none 0 0] w fun e w' => e = .returned (.slice none 0 0) ∧ w' = w := fun w => by
    go_enter Tryz.func74, Tryz.ntmps74
    go_wp2
    go_ret
    exact ⟨rfl, rfl⟩
  have cK : ∀ w, Calls Tryz.prog 77 #[.slice none 0 0] w fun e w' => e = .returned (.slice none 0 0) ∧ w' = w := fun w => by
    go_enter Tryz.func77, Tryz.ntmps77
    go_wp2
    go_ret
    exact ⟨rfl, rfl⟩
  have cS : ∀ w, Calls Tryz.prog 75 #[.slice none 0 0, .func (.func 76) #[] #[]] w fun e w' => e = .returned (.tuple #[]) ∧ w' = w := fun w => AnyF.slices_SortFunc_none Tryz.sortK none 0 _ w
  go_enter Tryz.func33, Tryz.ntmps33
  go_wp2_with (first
    | (go_at_call 74; refine (cC _).mono ?_; rintro e w' ⟨rfl, hw⟩; replace hw := hw.symm; subst hw)
    | (go_at_call 75; refine (cS _).mono ?_; rintro e w' ⟨rfl, hw⟩; replace hw := hw.symm; subst hw)
    | (go_at_call 77; refine (cK _).mono ?_; rintro e w' ⟨rfl, hw⟩; replace hw := hw.symm; subst hw))
  go_ret
  exact ⟨rfl, rfl⟩
theorem huge_inf : fmay 9218868437227405312 = false := by decide +kernel
set_option maxRecDepth 100000 in
set_option maxHeartbeats 8000000 in
theorem lineNone_any (W : World) (hG : Gl W) (hE : Ge W) : Calls Tryz.prog 9 #[] W fun e W' => e = .returned (.bool true) ∧ Below W.heap.size W W' := by
  have z72 : (Obj.cells #[.int .u8 0, .int .u8 0, .int .u8 0, .int .u8 0, .int .u8 0, .int .u8 0, .int .u8 0, .int .u8 0, .int .u8 0, .int .u8 0, .int .u8 0, .int .u8 0, .int .u8 0, .int .u8 0, .int .u8 0, .int .u8 0, .int .u8 0, .int .u8 0, .int .u8 0, .int .u8 0, .int .u8 0, .int .u8 0, .int .u8 0, .int .u8 0, .int .u8 0, .int .u8 0, .int .u8 0, .int .u8 0, .int .u8 0, .int .u8 0, .int .u8 0, .int .u8 0] 51 : Obj) = .cells zero32.toArray 51 := rfl
  have hmf : ∀ (fn : Fn) (first cap : Array Value) (w : World), (Instr.makeFunc fn first cap).run Tryz.prog w = .ok (.func fn first cap) w := fun _ _ _ _ => rfl
  have hcv := fun (w : World) (C : Array Value) (n c : Nat) => Lib.run_convert_bytes_const (P := Tryz.prog) w 23 5 C n c Tryz.underlying23 (by kernel_rfl)
  have HG := Lib.hid hG
  have HE := Lib.hid hE
  clear hG hE
  have l0 : Below W.heap.size W (W.alloc (.cells #[.pointer none] 62)) := (Below.refl _ _).alloc (Nat.le_refl _) _
  have b0 : Blk (W.alloc (.cells #[.pointer none] 62)) W.heap.size 62 [.pointer none] := Blk.new W _ [.pointer none]
  have hc1 : (convert 23 23 (.slice (some ⟨W.heap.size + 1, 0, none⟩) 1 1)).run Tryz.prog ((W.alloc (.cells #[.pointer none] 62)).alloc (.cells #[.int .u8 120] 5)) =
      .ok (.slice (some ⟨W.heap.size + 1, 0, none⟩) 1 1) ((W.alloc (.cells #[.pointer none] 62)).alloc (.cells #[.int .u8 120] 5 (1, 2))) := by
    have := hcv (W.alloc (.cells #[.pointer none] 62)) #[.int .u8 120] 1 1
    rw [hsz] at this
    exact this
  have l1 := l0.alloc l0.size (.cells #[.int .u8 120] 5 (1, 2))
  have b1 := b0.alloc (.cells #[.int .u8 120] 5 (1, 2))
  have L1 := Lib.hid l1
  have B1 := Lib.hid b1
  clear l0 b0 l1 b1 hcv
  go_enter Tryz.func9, Tryz.ntmps9
  go_upto_region 4 with (first
    | (go_at_call 46; refine (put_nil _ _ _ _).mono ?_; rintro e w' ⟨rfl, hw⟩; replace hw := hw.symm; subst hw))
  clear hc1
  generalize (W.alloc (.cells #[.pointer none] 62)).alloc (.cells #[.int .u8 120] 5 (1, 2)) = w1 at L1 B1 ⊢
  obtain ⟨g, hg⟩ : ∃ g, g = W.heap.size := ⟨_, rfl⟩
  rw [← hg] at B1
  have HSZ := Lib.hid (Nat.le_of_eq hg.symm)
  have ep : (Value.pointer (some ⟨W.heap.size, 0, none⟩)) = Value.pointer (some ⟨g, 0, none⟩) := by rw [hg]
  rw [ep]
  clear ep hg
  have hc48 : ∀ w, (callFunc 48 #[.pointer (some ⟨g, 0, none⟩)]).run Tryz.prog w = .ok (.enter 48 #[.pointer (some ⟨g, 0, none⟩)]) w := fun _ => rfl
  have hc50 : ∀ w, (callFunc 50 #[.pointer (some ⟨g, 0, none⟩)]).run Tryz.prog w = .ok (.enter 50 #[.pointer (some ⟨g, 0, none⟩)]) w := fun _ => rfl
  have HC := Lib.hid (And.intro hc48 hc50)
  clear hc48 hc50
  have e0 : ByteArray.size ⟨#[]⟩ = 0 := rfl
  have E0 := Lib.hid e0
  clear e0
  have cGet := fun w hw => get_any w ⟨#[]⟩ (by have := E0.out; omega) hw
  rw [show getV (getR (ByteArray.data ⟨#[]⟩).toList) = .tuple #[.int .i64 0, .string ⟨#[]⟩, .int .i64 0, .int .i64 2] by kernel_rfl] at cGet
  have cPut := fun w hw => lput_any w ⟨#[]⟩ (by have := E0.out; omega) hw
  have cWg := fun w hG hE => wget_any w ⟨#[]⟩ (by have := E0.out; omega) hG hE
  have cSz := fun w hG => size_any w ⟨#[]⟩ (by have := E0.out; omega) hG
  have cId := fun w => idGet_any w ⟨#[]⟩ [] rfl
  have hv1 : (putL (ByteArray.data ⟨#[]⟩).toList) = ([], false) := by kernel_rfl
  have hv2 : wgetT (ByteArray.data ⟨#[]⟩).toList = .tuple #[.float .f64 0, .bool false] := by kernel_rfl
  have hv3 : (sizeR (ByteArray.data ⟨#[]⟩).toList).2 = false := by kernel_rfl
  have hv4 : (idR []).2 = false := by kernel_rfl
  rw [hv1] at cPut
  rw [hv2] at cWg
  obtain ⟨fz, hfz⟩ : ∃ f, f = (sizeR (ByteArray.data ⟨#[]⟩).toList).1 := ⟨_, rfl⟩
  rw [hv3, ← hfz] at cSz
  obtain ⟨iz, hiz⟩ : ∃ l, l = (idR []).1 := ⟨_, rfl⟩
  have hizl : iz.length = 32 := by rw [hiz]; exact idR_len []
  rw [hv4, ← hiz] at cId
  have CG := Lib.hid cGet
  have CP : Hid (∀ w, Deb w → Calls Tryz.prog 52 #[.string ⟨#[]⟩] w fun e W' => e = .returned (.tuple #[.string ⟨#[]⟩, .bool false]) ∧ Below w.heap.size w W') := Lib.hid cPut
  have CW := Lib.hid cWg
  have CS := Lib.hid cSz
  have CI := Lib.hid cId
  have IZ := Lib.hid hizl
  clear cGet cPut cWg cSz cId hv1 hv2 hv3 hv4 hfz hiz hizl
  go_upto_region 11 with (first
    | (go_at_call 47; (with_reducible refine (do_told w1 48 #[.pointer (some ⟨g, 0, none⟩)] 2 HC.out.1 (fun w hb => ln1_any w g ((B1.out.below hb).cell 0 _ rfl))).mono ?_); rintro e w2 ⟨rfl, hb⟩; have L2 := Lib.hid (L1.out.trans (hb.mono L1.out.size)); have B2 := Lib.hid (B1.out.below hb); clear hb)
    | (go_at_call 47; (with_reducible refine (do_well w2 50 #[.pointer (some ⟨g, 0, none⟩)] HC.out.2 (fun w hb => ln2_any w g ((B2.out.below hb).cell 0 _ rfl))).mono ?_); rintro e w3 ⟨rfl, hb⟩; have L3 := Lib.hid (L2.out.trans (hb.mono L2.out.size)); have B3 := Lib.hid (B2.out.below hb); clear hb)
    | (go_at_call 11; refine (CG.out _ (HG.out.below L3.out).deb).mono ?_; rintro e w4 ⟨rfl, hb⟩; have L4 := Lib.hid (L3.out.trans (hb.mono L3.out.size)); have B4 := Lib.hid (B3.out.below hb); clear hb)
    | (go_at_call 52; refine (CP.out _ (HG.out.below L4.out).deb).mono ?_; rintro e w5 ⟨rfl, hb⟩; have L5 := Lib.hid (L4.out.trans (hb.mono L4.out.size)); have B5 := Lib.hid (B4.out.below hb); clear hb)
    | (go_at_call 17; refine (CW.out _ (HG.out.below L5.out) (HE.out.below L5.out)).mono ?_; rintro e w6 ⟨rfl, hb⟩; have L6 := Lib.hid (L5.out.trans (hb.mono L5.out.size)); have B6 := Lib.hid (B5.out.below hb); clear hb)
    | (go_at_call 53; refine (CS.out _ (HG.out.below L6.out)).mono ?_; rintro e w7 ⟨rfl, hb⟩; have L7 := Lib.hid (L6.out.trans (hb.mono L6.out.size)); have B7 := Lib.hid (B6.out.below hb); clear hb)
    | (go_at_call 38; refine (CI.out _).mono ?_; rintro e w8 ⟨rfl, hb⟩; have L8 := Lib.hid (L7.out.trans (hb.mono L7.out.size)); have B8 := Lib.hid (B7.out.below hb); clear hb)
    | (refine wpl_store rfl 51 (.tmp 15) _ rfl w8.heap.size (Bs iz) rfl rfl 51 zero32 (Blk.new w8 _ _) (by rw [Tryz.sizeId]; simp [IZ.out]) (by simp [zero32, IZ.out]) (Bs_one _) ?_))
  have L9 := Lib.hid (below_setRow' (L8.out.alloc L8.out.size (.cells zero32.toArray 51)) L8.out.size (Bs iz).toArray)
  have B9 := Lib.hid ((B8.out.alloc (.cells zero32.toArray 51)).rowFar (k := w8.heap.size) (Nat.ne_of_lt B8.out.lt) (Bs iz).toArray)
  generalize (w8.alloc (.cells zero32.toArray 51)).setRow w8.heap.size (Bs iz).toArray = w9 at L9 B9 ⊢
  clear L1 L2 L3 L4 L5 L6 L7 L8 B1 B2 B3 B4 B5 B6 B7 B8 CG CP CW CS CI IZ z72 hmf HC E0
  obtain ⟨sl, hsl⟩ : ∃ l, l = sha256 [] := ⟨_, rfl⟩
  have hl32 : sl.length = 32 := by rw [hsl]; exact sha256_length []
  have heq : ∀ w, (binOp .eql 50 (.agg (Bs sl).toArray) (.agg (Bs sl).toArray)).run Tryz.prog w = .ok (.bool true) w := fun w => by
    rw [run_eql_struct, eqIn_bytes w _ Tryz.underlying50 _ _ hl32 hl32, decide_eq_true rfl]; rfl
  have cA := fun w => sum_nil w
  have cB := fun w => shaSum_any w none 0 0 [] Src.none (fun ad e => by cases e) (by omega)
  simp only [← hsl] at cA cB
  have hinf := huge_inf
  obtain ⟨pi, hpi⟩ : ∃ n : Nat, n = 9218868437227405312 := ⟨_, rfl⟩
  have cIp : ∀ w, Calls Tryz.prog 30 #[.int .i64 1] w fun e w' => e = .returned (.float .f64 pi) ∧ w' = w := fun w => by rw [hpi]; exact inf_pos w
  have cPt : ∀ w, Gl w → Calls Tryz.prog 16 #[.float .f64 pi] w fun e W' => e = .returned (.string ⟨#[]⟩) ∧ Below w.heap.size w W' := fun w h => by
    have := wput_any w pi (by omega) h
    rw [hpi, wput_not hinf] at this
    rw [hpi]
    exact this
  have CA := Lib.hid cA
  have CB := Lib.hid cB
  have CI := Lib.hid cIp
  have CP := Lib.hid cPt
  clear cA cB cIp cPt hpi hinf hsl hl32
  go_wp2_with (first
    | (go_at_call 10; refine (begun_any w9 (HG.out.below L9.out)).mono ?_; rintro e w10 ⟨rfl, hb⟩; have L10 := Lib.hid (L9.out.trans (hb.mono L9.out.size)); have B10 := Lib.hid (B9.out.below hb); clear hb)
    | (go_at_call 54; refine (CA.out _).mono ?_; rintro e w11 ⟨rfl, hb⟩; have L11 := Lib.hid (L10.out.trans (hb.mono L10.out.size)); have B11 := Lib.hid (B10.out.below hb); clear hb)
    | (go_at_call 55; refine (CB.out _).mono ?_; rintro e w12 ⟨rfl, hb⟩; have L12 := Lib.hid (L11.out.trans (hb.mono L11.out.size)); have c12 := (B11.out.below hb).cell 0 _ rfl; clear hb)
    | (go_at_call 56; refine (left_nil _).mono ?_; rintro e w' ⟨rfl, hw⟩; replace hw := hw.symm; subst hw)
    | (go_at_call 33; refine (isort_nil _).mono ?_; rintro e w' ⟨rfl, hw⟩; replace hw := hw.symm; subst hw)
    | (go_at_call 57; refine (flush_any _ (HG.out.below L12.out).deb).mono ?_; rintro e w13 ⟨rfl, hb⟩; have L13 := Lib.hid (L12.out.trans (hb.mono L12.out.size)); clear hb)
    | (go_at_call 58; refine (delim_any _ (HG.out.below L13.out).deb).mono ?_; rintro e w14 ⟨rfl, hb⟩; have L14 := Lib.hid (L13.out.trans (hb.mono L13.out.size)); clear hb)
    | (go_at_call 30; refine (CI.out _).mono ?_; rintro e w' ⟨rfl, hw⟩; replace hw := hw.symm; subst hw)
    | (go_at_call 16; refine (CP.out _ (HG.out.below L14.out)).mono ?_; rintro e w15 ⟨rfl, hb⟩; have L15 := Lib.hid (L14.out.trans (hb.mono L14.out.size)); clear hb))
  go_ret
  exact ⟨rfl, L15.out⟩
end Go.Proofs.YtmnndehoopmmaaaGreatDoor
