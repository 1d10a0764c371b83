/- WhenBits: the walk of the law's body. -/
import Derived.Test.YtmnndehoopmmaaaGreatDoorWg
import Derived.Test.YtmnndehoopmmaaaGreatDoorFc
import Derived.Test.YtmnndehoopmmaaaGreatDoorBe
namespace Go.Proofs.YtmnndehoopmmaaaGreatDoor
open Go.RowKit
set_option maxRecDepth 20000 in
set_option maxHeartbeats 4000000 in
theorem whenBits_any (W : World) (u : Nat) (hu : u < 18446744073709551616) (hG : Gl W) (hE : Ge W) : Calls Tryz.prog 4 #[.int .u64 u] W fun e W' => e = .returned (.bool true) ∧ Below W.heap.size W W' := by
  have hbe := begun_any W hG
  have HB := Lib.hid hbe
  have HG := Lib.hid hG
  have HE := Lib.hid hE
  have h1 := run_frombits
  have cOf := fun w => of64_any w u
  have cBits := fun w => bits_any w u
  have cMay := fun w => may_any w u
  have cPut := fun w hG => wput_any w u hu hG
  unfold ofW at cOf
  unfold fbits at cBits
  rcases Nat.lt_or_ge finfR (frung u) with hn | hn
  · have f1 : (FloatKind.f64.format.order u u != some Ordering.eq) = true := fnan_true u hn
    have f2 : fmay u = false := fmay_nan' u hn
    have f3 : fnan u = true := fnan_true u hn
    rw [f2] at cOf
    simp only [f3, cond_true] at cBits
    rw [show (⟨(wput u).toArray⟩ : ByteArray) = ⟨#[]⟩ by rw [wput_not f2]] at cPut
    have CO := Lib.hid cOf
    have CB := Lib.hid cBits
    have CP := Lib.hid cPut
    clear hbe hG hE cOf cBits cMay cPut f2 f3 hn hu
    go_enter Tryz.func4, Tryz.ntmps4
    go_wp2_with (first
      | (go_at_call 10; refine HB.out.mono ?_; rintro e w1 ⟨rfl, hb⟩; have L1 := Lib.hid hb; have G1 := Lib.hid (HG.out.below hb); clear hb)
      | (go_at_call 14; refine (CO.out _).mono ?_; rintro e w' ⟨rfl, hw⟩; replace hw := hw.symm; subst hw)
      | (go_at_call 15; refine (CB.out _).mono ?_; rintro e w' ⟨rfl, hw⟩; replace hw := hw.symm; subst hw)
      | (go_at_call 16; refine (CP.out _ G1.out).mono ?_; rintro e w2 ⟨rfl, hb⟩; have L2 := Lib.hid (L1.out.trans (hb.mono L1.out.size)); clear hb))
    go_ret
    exact ⟨rfl, L2.out⟩
  · have f1 : (FloatKind.f64.format.order u u != some Ordering.eq) = false := fnan_false u hn
    have f3 : fnan u = false := fnan_false u hn
    have f4 : (FloatKind.f64.format.order u u == some Ordering.eq) = true := by rw [f64_double, order_self u hn]; rfl
    simp only [f3, cond_false] at cBits
    obtain ⟨p, hp⟩ : ∃ p : ByteArray, p = ⟨(wput u).toArray⟩ := ⟨_, rfl⟩
    have hpz : p.size ≤ 140737488355328 := by
      rw [hp, ba_size]
      cases hm : fmay u
      · rw [wput_not hm]; simp
      · have := wput_len hu hm
        simp only [this]; omega
    have cGet := fun w hG hE => wget_any w p hpz hG hE
    rw [show p.data.toList = wput u by rw [hp]] at cGet
    unfold wgetT at cGet
    rw [← hp] at cPut
    have CP := Lib.hid cPut
    cases hm : fmay u
    · rw [hm] at cOf cMay
      rw [wput_not hm] at cGet
      have CO := Lib.hid cOf
      have CB := Lib.hid cBits
      have CM := Lib.hid cMay
      have CT : Hid (∀ w, Gl w → Ge w → Calls Tryz.prog 17 #[.string p] w fun e W' => e = .returned (.tuple #[.float .f64 0, .bool false]) ∧ Below w.heap.size w W') := Lib.hid cGet
      clear hbe hG hE cOf cBits cMay cPut cGet f3 hn hu hp hpz hm
      go_enter Tryz.func4, Tryz.ntmps4
      go_wp2_with (first
        | (go_at_call 10; refine HB.out.mono ?_; rintro e w1 ⟨rfl, hb⟩; have L1 := Lib.hid hb; have G1 := Lib.hid (HG.out.below hb); clear hb)
        | (go_at_call 14; refine (CO.out _).mono ?_; rintro e w' ⟨rfl, hw⟩; replace hw := hw.symm; subst hw)
        | (go_at_call 18; refine (CM.out _).mono ?_; rintro e w' ⟨rfl, hw⟩; replace hw := hw.symm; subst hw)
        | (go_at_call 15; refine (CB.out _).mono ?_; rintro e w' ⟨rfl, hw⟩; replace hw := hw.symm; subst hw)
        | (go_at_call 17; refine (CT.out _ G2.out E2.out).mono ?_; rintro e w3 ⟨rfl, hb⟩; have L3 := Lib.hid (L2.out.trans (hb.mono L2.out.size)); clear hb)
        | (go_at_call 16; refine (CP.out _ G1.out).mono ?_; rintro e w2 ⟨rfl, hb⟩; have L2 := Lib.hid (L1.out.trans (hb.mono L1.out.size)); have G2 := Lib.hid (HG.out.below L2.out); have E2 := Lib.hid (HE.out.below L2.out); clear hb))
      go_ret
      exact ⟨rfl, L3.out⟩
    · rw [hm] at cOf cMay
      rw [wgetV_put hu hm] at cGet
      have CO := Lib.hid cOf
      have CB := Lib.hid cBits
      have CM := Lib.hid cMay
      have CT : Hid (∀ w, Gl w → Ge w → Calls Tryz.prog 17 #[.string p] w fun e W' => e = .returned (.tuple #[.float .f64 u, .bool true]) ∧ Below w.heap.size w W') := Lib.hid cGet
      clear hbe hG hE cOf cBits cMay cPut cGet f3 hn hu hp hpz hm
      go_enter Tryz.func4, Tryz.ntmps4
      go_wp2_with (first
        | (go_at_call 10; refine HB.out.mono ?_; rintro e w1 ⟨rfl, hb⟩; have L1 := Lib.hid hb; have G1 := Lib.hid (HG.out.below hb); clear hb)
        | (go_at_call 14; refine (CO.out _).mono ?_; rintro e w' ⟨rfl, hw⟩; replace hw := hw.symm; subst hw)
        | (go_at_call 18; refine (CM.out _).mono ?_; rintro e w' ⟨rfl, hw⟩; replace hw := hw.symm; subst hw)
        | (go_at_call 15; refine (CB.out _).mono ?_; rintro e w' ⟨rfl, hw⟩; replace hw := hw.symm; subst hw)
        | (go_at_call 17; refine (CT.out _ G2.out E2.out).mono ?_; rintro e w3 ⟨rfl, hb⟩; have L3 := Lib.hid (L2.out.trans (hb.mono L2.out.size)); clear hb)
        | (go_at_call 16; refine (CP.out _ G1.out).mono ?_; rintro e w2 ⟨rfl, hb⟩; have L2 := Lib.hid (L1.out.trans (hb.mono L1.out.size)); have G2 := Lib.hid (HG.out.below L2.out); have E2 := Lib.hid (HE.out.below L2.out); clear hb))
      go_ret
      exact ⟨rfl, L3.out⟩
theorem whenBits_int (W : World) (a : Int) (h : 0 ≤ a ∧ a < 18446744073709551616) (hG : Gl W) (hE : Ge W) : Calls Tryz.prog 4 #[.int .u64 a] W fun e W' => e = .returned (.bool true) ∧ Below W.heap.size W W' := by
  obtain ⟨u, rfl⟩ : ∃ u : Nat, a = u := ⟨a.toNat, by omega⟩
  exact whenBits_any W u (by omega) hG hE
end Go.Proofs.YtmnndehoopmmaaaGreatDoor
