/- CommitNote: a note of any bytes comes back; of a hundred, and not one more: the law's walk. -/
import Derived.Test.YtcomibocajjhoaaGreatDoorBn
import Derived.Test.YtcomibocajjhoaaGreatDoorNp
import Derived.Test.YtcomibocajjhoaaGreatDoorP18x
namespace Go.Proofs.YtcomibocajjhoaaGreatDoor
open Go.RowKit
set_option maxRecDepth 20000 in
set_option maxHeartbeats 6400000 in
theorem commitNoteLaw_any (W : World) (s : ByteArray) (n : Int) (hG : Gl W) (hE : Ge W) :
    Calls Tryz.prog 6 #[.string s, .int .i64 n] W fun e W' => e = .returned (.bool true) ∧ Below W.heap.size W W' := by
  obtain ⟨q, hq, he⟩ := tmod_round n 10 (by omega) (by omega)
  have cB := begun6_any W hG hE
  have CB := Lib.hid cB
  have HG := Lib.hid hG
  have HE := Lib.hid hE
  clear cB hG hE
  have q10 : q < 10 := by omega
  go_enter Tryz.func6, Tryz.ntmps6
  go_upto_region 5 with (go_at_call 11; refine CB.out.mono ?_; rintro e w1 ⟨rfl, hb⟩; have B1 := Lib.hid hb; clear hb)
  clear he
  obtain ⟨N, hN⟩ : ∃ N : Nat, 95 + (q : Int) = (N : Int) := ⟨95 + q, by omega⟩
  rw [hN]
  have hN1 : 95 ≤ N := by omega
  have hN2 : N < 105 := by omega
  clear hN hq q10
  go_loopw [0] (fun s wr => ∃ y : ByteArray, s = .string y ∧ wr = w1) (fun s _ => match s with | .string y => 105 - y.size | _ => 0)
  case atStart => exact ⟨s, rfl, rfl⟩
  case round =>
    obtain ⟨y, rfl, hw⟩ := hrel
    have hw1 := hw.symm
    subst hw1
    clear hw
    by_cases hlt : y.size < N
    · have k1 : (y.size : Int) < (N : Int) := by omega
      have y0 : y.size < 105 := by omega
      have HLT := Lib.hid y0
      clear hlt hN1 hN2
      go_wp2
      go_roundw
      case measure =>
        have := HLT.out
        simp only [ByteArray.size_append]
        have e : (⟨#[10]⟩ : ByteArray).size = 1 := rfl
        omega
      case rel => exact ⟨_, rfl, by first | trivial | rfl⟩
    · have k1 : ¬ ((y.size : Int) < (N : Int)) := by omega
      have k2 : (N : Int) ≤ (y.size : Int) := by omega
      have k3 : (0 : Int) ≤ (N : Int) := by omega
      have NY := Lib.hid hlt
      have N1 := Lib.hid hN1
      have N2 := Lib.hid hN2
      clear hlt hN1 hN2 k3
      go_upto_region 8 with fail
      generalize hx : ByteArray.extract y _ _ = x
      have xz : x.size = N := by
        rw [← hx]
        have := NY.out
        simp only [ByteArray.size_extract]
        omega
      clear hx k1 k2 NY
      have lN : x.data.toList.length = N := by rw [← ba_size, xz]
      obtain ⟨l, hl⟩ : ∃ l, l = x.data.toList := ⟨_, rfl⟩
      rw [← hl] at lN
      have hxl : (⟨l.toArray⟩ : ByteArray) = x := by rw [hl]
      have cA : ∀ w, Gl w → Calls Tryz.prog 13 #[.agg (comL (comN l) none 0 0).toArray] w fun e w' => e = .returned (putCV (comN l)) ∧ Below w.heap.size w w' := fun w hw => commitPut_any w (comN l) none 0 0 (comN_at w l (by have := N2.out; simp only [maxLen]; omega)) (by omega) hw
      unfold putCV at cA
      rw [comN_may, lN] at cA
      have bA := built_comN x
      rw [← hl] at bA
      have iA := infoC (comN l) none 0 0
      have oA := comL_one (comN l) none 0 0
      have zA := comL_len (comN l) none 0 0
      obtain ⟨ca, hca⟩ : ∃ ca, ca = comL (comN l) none 0 0 := ⟨_, rfl⟩
      rw [← hca] at cA bA iA oA zA
      have BA := Lib.hid bA
      have IA := Lib.hid iA
      have OA := Lib.hid oA
      have ZA := Lib.hid zA
      have HXL := Lib.hid hxl
      clear bA iA oA zA hca hl hxl xz
      by_cases h100 : N ≤ 100
      · rw [decide_eq_true h100, cond_true] at cA
        have hmay : mayC (comN l) = true := by rw [comN_may, lN, decide_eq_true h100]
        have tz := commitB_len (comN l) (show (4617315517961601024 : Nat) < 18446744073709551616 from by decide) hmay
        have cG := fun w hw hv => commitGet_any w ⟨(commitB (comN l)).toArray⟩ (commitB (comN l)) rfl (by rw [ba_size]; show (commitB (comN l)).length < _; omega) hw hv
        unfold GetCPost at cG
        rw [getC_put (comN l) (show (4617315517961601024 : Nat) < 18446744073709551616 from by decide) hmay] at cG
        have e0 : (comN l).ps.length = 0 := rfl
        simp only [e0] at cG
        obtain ⟨tb, htb⟩ : ∃ tb : ByteArray, tb = ⟨(commitB (comN l)).toArray⟩ := ⟨_, rfl⟩
        rw [← htb] at cA cG
        have i1 : (N : Int) ≤ 100 := by omega
        have CA := Lib.hid cA
        have CG := Lib.hid cG
        clear cA cG hmay tz e0 htb h100 lN
        go_upto_region 9 with (first | (refine wpl_buildP rfl 33 [(2, .const (.float .f64 4617315517961601024)), (3, .tmp 28)] rfl ca BA.out ?_) | (refine wpl_storeS rfl 33 (.tmp 6) _ rfl w1.heap.size ca rfl rfl 33 zeroC (Blk.new w1 _ _) IA.out (by rw [ZA.out]; rfl) OA.out ?_))
        generalize hw : World.setRow _ _ _ = w2
        have S1 : Hid (Below w1.heap.size w1 w2) := Lib.hid (by rw [← hw]; exact (laidS w1 33 zeroC _).1)
        have BC : Hid (Blk w2 w1.heap.size 33 ca) := Lib.hid (by rw [← hw]; exact (laidS w1 33 zeroC _).2)
        clear hw
        have L2 := Lib.hid (B1.out.trans (S1.out.mono B1.out.size))
        clear S1 B1
        generalize w1.heap.size = g6 at BC ⊢
        go_upto_region 10 with (first | (refine wpl_loadS rfl 33 (.tmp 6) rfl ⟨g6, 0, none⟩ rfl ca Tryz.isAgg33 IA.out (fun j u hu => by rw [addr_row _ rfl, Nat.zero_add]; exact BC.out.cell j u hu) ?_) | (go_at_call 13; refine (CA.out _ (HG.out.below L2.out)).mono ?_; rintro e w3 ⟨rfl, hb⟩; have L3 := Lib.hid (L2.out.trans (hb.mono L2.out.size)); clear hb))
        go_upto_region 11 with (first | (go_at_call 19; refine (CG.out _ (HG.out.below L3.out) (HE.out.below L3.out)).mono ?_; rintro e w4 ⟨A4, d4, rfl, _, hb⟩; have L4 := Lib.hid (L3.out.trans (hb.mono L3.out.size)); clear hb) | (refine wpl_storeS rfl 33 (.tmp 9) _ rfl w4.heap.size (comL (comN l) A4 0 d4) rfl rfl 33 zeroC (Blk.new w4 _ _) (infoC _ _ _ _) (by rw [comL_len]; rfl) (comL_one _ _ _ _) ?_))
        generalize hw : World.setRow _ _ _ = w5
        have L5 : Hid (Below W.heap.size W w5) := Lib.hid (L4.out.trans (Below.mono (by rw [← hw]; exact (laidS w4 33 zeroC _).1) L4.out.size))
        have hc : w5.cell? ⟨w4.heap.size, 34, none⟩ = some (.string x) := by
          have bd : Blk w5 w4.heap.size 33 (comL (comN l) A4 0 d4) := by rw [← hw]; exact (laidS w4 33 zeroC _).2
          rw [bd.cell 34 _ (comL_at (comN l) A4 0 d4).2.2]
          exact congrArg (fun z => some (Value.string z)) HXL.out
        clear hw
        generalize w4.heap.size = g9 at hc ⊢
        go_wp2
        go_ret
        exact ⟨rfl, L5.out⟩
      · rw [decide_eq_false h100, cond_false] at cA
        have cG := fun w hw hv => commitGet_any w ⟨([] : List UInt8).toArray⟩ [] rfl (by decide) hw hv
        unfold GetCPost at cG
        rw [getC_nil] at cG
        obtain ⟨tb, htb⟩ : ∃ tb : ByteArray, tb = ⟨([] : List UInt8).toArray⟩ := ⟨_, rfl⟩
        rw [← htb] at cA cG
        have i1 : decide ((N : Int) ≤ 100) = false := decide_eq_false (by omega)
        have CA := Lib.hid cA
        have CG := Lib.hid cG
        clear cA cG htb h100 lN
        go_upto_region 9 with (first | (refine wpl_buildP rfl 33 [(2, .const (.float .f64 4617315517961601024)), (3, .tmp 28)] rfl ca BA.out ?_) | (refine wpl_storeS rfl 33 (.tmp 6) _ rfl w1.heap.size ca rfl rfl 33 zeroC (Blk.new w1 _ _) IA.out (by rw [ZA.out]; rfl) OA.out ?_))
        generalize hw : World.setRow _ _ _ = w2
        have S1 : Hid (Below w1.heap.size w1 w2) := Lib.hid (by rw [← hw]; exact (laidS w1 33 zeroC _).1)
        have BC : Hid (Blk w2 w1.heap.size 33 ca) := Lib.hid (by rw [← hw]; exact (laidS w1 33 zeroC _).2)
        clear hw
        have L2 := Lib.hid (B1.out.trans (S1.out.mono B1.out.size))
        clear S1 B1
        generalize w1.heap.size = g6 at BC ⊢
        go_upto_region 10 with (first | (refine wpl_loadS rfl 33 (.tmp 6) rfl ⟨g6, 0, none⟩ rfl ca Tryz.isAgg33 IA.out (fun j u hu => by rw [addr_row _ rfl, Nat.zero_add]; exact BC.out.cell j u hu) ?_) | (go_at_call 13; refine (CA.out _ (HG.out.below L2.out)).mono ?_; rintro e w3 ⟨rfl, hb⟩; have L3 := Lib.hid (L2.out.trans (hb.mono L2.out.size)); clear hb))
        go_upto_region 11 with (first | (go_at_call 19; refine (CG.out _ (HG.out.below L3.out) (HE.out.below L3.out)).mono ?_; rintro e w4 ⟨rfl, hb⟩; have L4 := Lib.hid (L3.out.trans (hb.mono L3.out.size)); clear hb) | (refine wpl_storeS rfl 33 (.tmp 9) _ rfl w4.heap.size zeroC rfl rfl 33 zeroC (Blk.new w4 _ _) infoZC rfl (comL_one _ _ _ _) ?_))
        generalize hw : World.setRow _ _ _ = w5
        have L5 : Hid (Below W.heap.size W w5) := Lib.hid (L4.out.trans (Below.mono (by rw [← hw]; exact (laidS w4 33 zeroC _).1) L4.out.size))
        clear hw
        go_wp2
        go_ret
        exact ⟨rfl, L5.out⟩
end Go.Proofs.YtcomibocajjhoaaGreatDoor
